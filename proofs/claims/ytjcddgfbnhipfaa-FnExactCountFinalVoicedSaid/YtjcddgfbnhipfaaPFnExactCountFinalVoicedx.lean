-- Made by gen.py (a program of this session) out of the translation; Lean checks it.
import Derived.Test.YtjcddgfbnhipfaaPFnExactCountFinalVoicedx0
import Derived.Test.YtjcddgfbnhipfaaPFnExactCountFinalVoicedx1
import Derived.Test.YtjcddgfbnhipfaaPFnExactCountFinalVoicedx2
namespace Go.Proofs.Ytjcddgfbnhipfaa.PFnExactCountFinalVoiced
open Go.RowKit Go.Proofs.YtjcddgfbnhipfaaB Go.Proofs.YtjcddgfbnhipfaaW.PrintWords Go.Proofs.YtjcddgfbnhipfaaW.PrintLast Go.Proofs.YtjcddgfbnhipfaaW.PrintMore
attribute [local go_sem] max2_int min2_int max_two min_two max_three min_three max_four min_four   -- for this text's walks alone
set_option linter.unusedVariables false
set_option linter.unusedSimpArgs false

end Go.Proofs.Ytjcddgfbnhipfaa.PFnExactCountFinalVoiced
