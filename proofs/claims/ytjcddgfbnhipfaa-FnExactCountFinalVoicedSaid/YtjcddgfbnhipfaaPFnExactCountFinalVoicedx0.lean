-- Made by gen.py (a program of this session) out of the translation; Lean checks it.
import Derived.Test.YtjcddgfbnhipfaaProg
import Derived.Below
import Derived.Deep.Draws
import Derived.Deep.AppendLies
import Derived.Maps.AppendAt
import Derived.OwnWalk
import Derived.Laws.BytesArg
import Derived.Laws.MakeOwn
import Derived.Laws.OwnMore
import Derived.Deep.OwnRows
import Derived.Tactics
import Derived.Lib.ConvBytes
import Derived.Laws.Slices
import Derived.WalkKit
import Derived.KernelRfl
import Derived.RowKit3
import Derived.Deep.LoopGhost
import Derived.Deep.QuietTactic
import Derived.BigQuiet
import Derived.WideLaws
import Derived.Deep.DeepCutAuto
import Derived.Deep.CutBlock
import Derived.Deep.RegionHeld3
import Derived.Laws.Rows
import Derived.Lib.AppendStr
import Derived.ArgAppend
import Derived.Laws.IdiomCopy
import Derived.OrdersHeld
import Derived.Laws.BitsLemmas
import Derived.RowKit
import Derived.Test.YtjcddgfbnhipfaaOpen
import Derived.Lib.Bytealg
import Derived.Lib.Strings
import Derived.Lib.Slices
import Derived.Lib.Walk
import Derived.Test.YtjcddgfbnhipfaaWWords
import Derived.Test.YtjcddgfbnhipfaaWLast
import Derived.Test.YtjcddgfbnhipfaaWTab
import Derived.Test.YtjcddgfbnhipfaaWFour
import Derived.Test.YtjcddgfbnhipfaaWQPut
import Derived.Test.YtjcddgfbnhipfaaWApart
import Derived.Test.YtjcddgfbnhipfaaWArr
import Derived.Test.YtjcddgfbnhipfaaWZeros
import Derived.Test.YtjcddgfbnhipfaaWFoot
import Derived.Test.YtjcddgfbnhipfaaWKept
import Derived.Test.YtjcddgfbnhipfaaWShare
import Derived.Test.YtjcddgfbnhipfaaWN
import Derived.Test.YtjcddgfbnhipfaaWFootNe
import Derived.Test.YtjcddgfbnhipfaaWAt
import Derived.Test.YtjcddgfbnhipfaaWEqStruct
import Derived.Test.YtjcddgfbnhipfaaWRepsOne
import Derived.Test.YtjcddgfbnhipfaaWInv
import Derived.Test.YtjcddgfbnhipfaaWInvWords
import Derived.Test.YtjcddgfbnhipfaaWGuard
import Derived.Test.YtjcddgfbnhipfaaWNEv
import Derived.Test.YtjcddgfbnhipfaaWMore
namespace Go.Proofs.Ytjcddgfbnhipfaa.PFnExactCountFinalVoiced
open Go.RowKit Go.Proofs.YtjcddgfbnhipfaaB Go.Proofs.YtjcddgfbnhipfaaW.PrintWords Go.Proofs.YtjcddgfbnhipfaaW.PrintLast Go.Proofs.YtjcddgfbnhipfaaW.PrintMore
attribute [local go_sem] max2_int min2_int max_two min_two max_three min_three max_four min_four   -- for this text's walks alone
set_option linter.unusedVariables false
set_option linter.unusedSimpArgs false



def errW : Option Int → Value
  | none => .nilIface
  | some c => .iface 0 (.int .i64 c)
theorem errW_none : errW none = .nilIface := rfl
theorem errW_some (c : Int) : errW (some c) = .iface 0 (.int .i64 c) := rfl

theorem info9 : (Try.prog.info? 9).map (fun i => (i.zero, i.size, i.bytes)) = some (some (.string ⟨#[]⟩), 1, 16) := by kernel_rfl
-- the values' own types

end Go.Proofs.Ytjcddgfbnhipfaa.PFnExactCountFinalVoiced
