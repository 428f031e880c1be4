-- Made by gen.py (a program of this session) out of the translation; Lean checks it.
import Derived.Test.YtmfhaplhgaehhaaPFnExactAllRankingsx0
import Derived.Test.YtmfhaplhgaehhaaPFnExactAllRankingsx1
import Derived.Test.YtmfhaplhgaehhaaPFnExactAllRankingsx2
namespace Go.Proofs.Ytmfhaplhgaehhaa.PFnExactAllRankings
open Go.RowKit Go.Proofs.YtmfhaplhgaehhaaB Go.Proofs.YtmfhaplhgaehhaaW.PrintWords Go.Proofs.YtmfhaplhgaehhaaW.PrintLast Go.Proofs.YtmfhaplhgaehhaaW.PrintMore
attribute [local go_sem] max2_int min2_int max_two min_two max_three min_three max_four min_four   -- for this text's walks alone
set_option linter.unusedVariables false
set_option linter.unusedSimpArgs false

end Go.Proofs.Ytmfhaplhgaehhaa.PFnExactAllRankings
