-- Made by gen.py (a program of this session) out of the translation; Lean checks it.
import Derived.Test.YtdamagcfmhimfabPFnExactFormatNamesx0
import Derived.Test.YtdamagcfmhimfabPFnExactFormatNamesx1
import Derived.Test.YtdamagcfmhimfabPFnExactFormatNamesx2
namespace Go.Proofs.Ytdamagcfmhimfab.PFnExactFormatNames
open Go.RowKit Go.Proofs.YtdamagcfmhimfabB Go.Proofs.YtdamagcfmhimfabW.PrintWords Go.Proofs.YtdamagcfmhimfabW.PrintLast Go.Proofs.YtdamagcfmhimfabW.PrintMore
attribute [local go_sem] max2_int min2_int max_two min_two max_three min_three max_four min_four   -- for this text's walks alone
set_option linter.unusedVariables false
set_option linter.unusedSimpArgs false

end Go.Proofs.Ytdamagcfmhimfab.PFnExactFormatNames
