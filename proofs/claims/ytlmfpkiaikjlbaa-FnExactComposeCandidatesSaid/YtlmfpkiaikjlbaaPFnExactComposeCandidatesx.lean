-- Made by gen.py (a program of this session) out of the translation; Lean checks it.
import Derived.Test.YtlmfpkiaikjlbaaPFnExactComposeCandidatesx0
import Derived.Test.YtlmfpkiaikjlbaaPFnExactComposeCandidatesx1
import Derived.Test.YtlmfpkiaikjlbaaPFnExactComposeCandidatesx2
import Derived.Test.YtlmfpkiaikjlbaaPFnExactComposeCandidatesx3
import Derived.Test.YtlmfpkiaikjlbaaPFnExactComposeCandidatesx4
import Derived.Test.YtlmfpkiaikjlbaaPFnExactComposeCandidatesx5
namespace Go.Proofs.Ytlmfpkiaikjlbaa.PFnExactComposeCandidates
open Go.RowKit Go.Proofs.YtlmfpkiaikjlbaaB Go.Proofs.YtlmfpkiaikjlbaaW.PrintWords Go.Proofs.YtlmfpkiaikjlbaaW.PrintLast Go.Proofs.YtlmfpkiaikjlbaaW.PrintMore
attribute [local go_sem] max2_int min2_int max_two min_two max_three min_three max_four min_four   -- for this text's walks alone
set_option linter.unusedVariables false
set_option linter.unusedSimpArgs false
end Go.Proofs.Ytlmfpkiaikjlbaa.PFnExactComposeCandidates
