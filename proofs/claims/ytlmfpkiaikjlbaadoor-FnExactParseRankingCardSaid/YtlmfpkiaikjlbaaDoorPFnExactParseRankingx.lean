-- Made by gen.py (a program of this session) out of the translation; Lean checks it.
import Derived.Test.YtlmfpkiaikjlbaaDoorPFnExactParseRankingx0
import Derived.Test.YtlmfpkiaikjlbaaDoorPFnExactParseRankingx1
import Derived.Test.YtlmfpkiaikjlbaaDoorPFnExactParseRankingx2
import Derived.Test.YtlmfpkiaikjlbaaDoorPFnExactParseRankingx3
import Derived.Test.YtlmfpkiaikjlbaaDoorPFnExactParseRankingx4
namespace Go.Proofs.YtlmfpkiaikjlbaaDoor.PFnExactParseRanking
open Go.RowKit Go.Proofs.YtlmfpkiaikjlbaaDoorB Go.Proofs.YtlmfpkiaikjlbaaDoorW.PrintWords Go.Proofs.YtlmfpkiaikjlbaaDoorW.PrintLast Go.Proofs.YtlmfpkiaikjlbaaDoorW.PrintMore
attribute [local go_sem] max2_int min2_int max_two min_two max_three min_three max_four min_four   -- for this text's walks alone
set_option linter.unusedVariables false
set_option linter.unusedSimpArgs false

end Go.Proofs.YtlmfpkiaikjlbaaDoor.PFnExactParseRanking
