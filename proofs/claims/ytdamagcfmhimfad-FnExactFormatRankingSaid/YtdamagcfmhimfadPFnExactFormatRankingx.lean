-- Made by gen.py (a program of this session) out of the translation; Lean checks it.
import Derived.Test.YtdamagcfmhimfadPFnExactFormatRankingx0
import Derived.Test.YtdamagcfmhimfadPFnExactFormatRankingx1
import Derived.Test.YtdamagcfmhimfadPFnExactFormatRankingx2
import Derived.Test.YtdamagcfmhimfadPFnExactFormatRankingx3
import Derived.Test.YtdamagcfmhimfadPFnExactFormatRankingx4
import Derived.Test.YtdamagcfmhimfadPFnExactFormatRankingx5
namespace Go.Proofs.Ytdamagcfmhimfad.PFnExactFormatRanking
open Go.RowKit Go.Proofs.YtdamagcfmhimfadB Go.Proofs.YtdamagcfmhimfadW.PrintWords Go.Proofs.YtdamagcfmhimfadW.PrintLast Go.Proofs.YtdamagcfmhimfadW.PrintMore
attribute [local go_sem] max2_int min2_int max_two min_two max_three min_three max_four min_four   -- for this text's walks alone
set_option linter.unusedVariables false
set_option linter.unusedSimpArgs false

end Go.Proofs.Ytdamagcfmhimfad.PFnExactFormatRanking
