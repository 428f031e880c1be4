-- Made by gen.py (a program of this session) out of the translation; Lean checks it.
import Derived.Test.YtmfhaplhgaehhaaGreatPFnExactRowWithx0
import Derived.Test.YtmfhaplhgaehhaaGreatPFnExactRowWithx1
import Derived.Test.YtmfhaplhgaehhaaGreatPFnExactRowWithx2
import Derived.Test.YtmfhaplhgaehhaaGreatPFnExactRowWithx3
import Derived.Test.YtmfhaplhgaehhaaGreatPFnExactRowWithx4
import Derived.Test.YtmfhaplhgaehhaaGreatPFnExactRowWithx5
import Derived.Test.YtmfhaplhgaehhaaGreatPFnExactRowWithx6
import Derived.Test.YtmfhaplhgaehhaaGreatPFnExactRowWithx7
import Derived.Test.YtmfhaplhgaehhaaGreatPFnExactRowWithx8
import Derived.Test.YtmfhaplhgaehhaaGreatPFnExactRowWithx9
import Derived.Test.YtmfhaplhgaehhaaGreatPFnExactRowWithx10
namespace Go.Proofs.YtmfhaplhgaehhaaGreat.PFnExactRowWith
open Go.RowKit Go.Proofs.YtmfhaplhgaehhaaGreatB Go.Proofs.YtmfhaplhgaehhaaGreatW.PrintWords Go.Proofs.YtmfhaplhgaehhaaGreatW.PrintLast Go.Proofs.YtmfhaplhgaehhaaGreatW.PrintMore
attribute [local go_sem] max2_int min2_int max_two min_two max_three min_three max_four min_four   -- for this text's walks alone
set_option linter.unusedVariables false
set_option linter.unusedSimpArgs false

end Go.Proofs.YtmfhaplhgaehhaaGreat.PFnExactRowWith
