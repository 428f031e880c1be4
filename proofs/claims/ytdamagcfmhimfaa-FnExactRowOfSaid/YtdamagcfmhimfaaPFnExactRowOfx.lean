-- Made by gen.py (a program of this session) out of the translation; Lean checks it.
import Derived.Test.YtdamagcfmhimfaaPFnExactRowOfx0
import Derived.Test.YtdamagcfmhimfaaPFnExactRowOfx1
import Derived.Test.YtdamagcfmhimfaaPFnExactRowOfx2
import Derived.Test.YtdamagcfmhimfaaPFnExactRowOfx3
namespace Go.Proofs.Ytdamagcfmhimfaa.PFnExactRowOf
open Go.RowKit Go.Proofs.YtdamagcfmhimfaaB Go.Proofs.YtdamagcfmhimfaaW.PrintWords Go.Proofs.YtdamagcfmhimfaaW.PrintLast Go.Proofs.YtdamagcfmhimfaaW.PrintMore
attribute [local go_sem] max2_int min2_int max_two min_two max_three min_three max_four min_four   -- for this text's walks alone
set_option linter.unusedVariables false
set_option linter.unusedSimpArgs false

end Go.Proofs.Ytdamagcfmhimfaa.PFnExactRowOf
