-- Made by gen.py (a program of this session) out of the translation; Lean checks it.
import Derived.Test.YtdamagcfmhimfadPFnExactProfileOfx0
import Derived.Test.YtdamagcfmhimfadPFnExactProfileOfx1
import Derived.Test.YtdamagcfmhimfadPFnExactProfileOfx2
import Derived.Test.YtdamagcfmhimfadPFnExactProfileOfx3
import Derived.Test.YtdamagcfmhimfadPFnExactProfileOfx4
import Derived.Test.YtdamagcfmhimfadPFnExactProfileOfx5
import Derived.Test.YtdamagcfmhimfadPFnExactProfileOfx6
import Derived.Test.YtdamagcfmhimfadPFnExactProfileOfx7
import Derived.Test.YtdamagcfmhimfadPFnExactProfileOfx8
import Derived.Test.YtdamagcfmhimfadPFnExactProfileOfx9
import Derived.Test.YtdamagcfmhimfadPFnExactProfileOfx10
import Derived.Test.YtdamagcfmhimfadPFnExactProfileOfx11
import Derived.Test.YtdamagcfmhimfadPFnExactProfileOfx12
namespace Go.Proofs.Ytdamagcfmhimfad.PFnExactProfileOf
open Go.RowKit Go.Proofs.YtdamagcfmhimfadB Go.Proofs.YtdamagcfmhimfadW.PrintWords Go.Proofs.YtdamagcfmhimfadW.PrintLast Go.Proofs.YtdamagcfmhimfadW.PrintMore
attribute [local go_sem] max2_int min2_int max_two min_two max_three min_three max_four min_four   -- for this text's walks alone
set_option linter.unusedVariables false
set_option linter.unusedSimpArgs false

end Go.Proofs.Ytdamagcfmhimfad.PFnExactProfileOf
