-- Made by gen.py (a program of this session) out of the translation; Lean checks it.
import Derived.Test.YtdamagcfmhimfacPFnExactIsRankingx0
import Derived.Test.YtdamagcfmhimfacPFnExactIsRankingx1
import Derived.Test.YtdamagcfmhimfacPFnExactIsRankingx2
import Derived.Test.YtdamagcfmhimfacPFnExactIsRankingx3
namespace Go.Proofs.Ytdamagcfmhimfac.PFnExactIsRanking
open Go.RowKit Go.Proofs.YtdamagcfmhimfacB Go.Proofs.YtdamagcfmhimfacW.PrintWords Go.Proofs.YtdamagcfmhimfacW.PrintLast Go.Proofs.YtdamagcfmhimfacW.PrintMore
attribute [local go_sem] max2_int min2_int max_two min_two max_three min_three max_four min_four   -- for this text's walks alone
set_option linter.unusedVariables false
set_option linter.unusedSimpArgs false

end Go.Proofs.Ytdamagcfmhimfac.PFnExactIsRanking
