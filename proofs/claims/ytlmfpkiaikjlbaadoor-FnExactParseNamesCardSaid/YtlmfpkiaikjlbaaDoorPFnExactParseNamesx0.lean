-- Made by gen.py (a program of this session) out of the translation; Lean checks it.
import Derived.Test.YtlmfpkiaikjlbaaDoorShelf
import Derived.Test.YtlmfpkiaikjlbaaDoorLv
import Derived.Test.YtlmfpkiaikjlbaaDoorProg
import Derived.Below
import Derived.Deep.Draws
import Derived.Deep.AppendLies
import Derived.Maps.AppendAt
import Derived.OwnWalk
import Derived.Laws.BytesArg
import Derived.Laws.MakeOwn
import Derived.Laws.OwnMore
import Derived.Deep.OwnRows
import Derived.Tactics
import Derived.Lib.ConvBytes
import Derived.Laws.Slices
import Derived.WalkKit
import Derived.KernelRfl
import Derived.RowKit3
import Derived.Deep.LoopGhost
import Derived.Deep.QuietTactic
import Derived.BigQuiet
import Derived.WideLaws
import Derived.Deep.DeepCutAuto
import Derived.Deep.CutBlock
import Derived.Deep.RegionHeld3
import Derived.Laws.Rows
import Derived.Lib.AppendStr
import Derived.ArgAppend
import Derived.Laws.IdiomCopy
import Derived.OrdersHeld
import Derived.Laws.BitsLemmas
import Derived.RowKit
import Derived.Test.YtlmfpkiaikjlbaaDoorOpen
import Derived.Test.YtlmfpkiaikjlbaaDoorSq
import Derived.Lib.Bytealg
import Derived.Lib.Strings
import Derived.Lib.Slices
import Derived.Lib.Walk
import Derived.Test.YtlmfpkiaikjlbaaDoorWWords
import Derived.Test.YtlmfpkiaikjlbaaDoorWLast
import Derived.Test.YtlmfpkiaikjlbaaDoorWTab
import Derived.Test.YtlmfpkiaikjlbaaDoorWFour
import Derived.Test.YtlmfpkiaikjlbaaDoorWQPut
import Derived.Test.YtlmfpkiaikjlbaaDoorWApart
import Derived.Test.YtlmfpkiaikjlbaaDoorWArr
import Derived.Test.YtlmfpkiaikjlbaaDoorWZeros
import Derived.Test.YtlmfpkiaikjlbaaDoorWFoot
import Derived.Test.YtlmfpkiaikjlbaaDoorWKept
import Derived.Test.YtlmfpkiaikjlbaaDoorWShare
import Derived.Test.YtlmfpkiaikjlbaaDoorWN
import Derived.Test.YtlmfpkiaikjlbaaDoorWFootNe
import Derived.Test.YtlmfpkiaikjlbaaDoorWAt
import Derived.Test.YtlmfpkiaikjlbaaDoorWEqStruct
import Derived.Test.YtlmfpkiaikjlbaaDoorWRepsOne
import Derived.Test.YtlmfpkiaikjlbaaDoorWInv
import Derived.Test.YtlmfpkiaikjlbaaDoorWInvWords
import Derived.Test.YtlmfpkiaikjlbaaDoorWGuard
import Derived.Test.YtlmfpkiaikjlbaaDoorWNEv
import Derived.Test.YtlmfpkiaikjlbaaDoorWMore
namespace Go.Proofs.YtlmfpkiaikjlbaaDoor.PFnExactParseNames
open Go.RowKit Go.Proofs.YtlmfpkiaikjlbaaDoorB Go.Proofs.YtlmfpkiaikjlbaaDoorW.PrintWords Go.Proofs.YtlmfpkiaikjlbaaDoorW.PrintLast Go.Proofs.YtlmfpkiaikjlbaaDoorW.PrintMore
attribute [local go_sem] max2_int min2_int max_two min_two max_three min_three max_four min_four   -- for this text's walks alone
set_option linter.unusedVariables false
set_option linter.unusedSimpArgs false



def errW : Option Int → Value
  | none => .nilIface
  | some c => .iface 0 (.int .i64 c)
theorem errW_none : errW none = .nilIface := rfl
theorem errW_some (c : Int) : errW (some c) = .iface 0 (.int .i64 c) := rfl

theorem info5 : (Tryd.prog.info? 5).map (fun i => (i.zero, i.size, i.bytes)) = some (some (.int .u8 0), 1, 1) := by kernel_rfl
theorem info9 : (Tryd.prog.info? 9).map (fun i => (i.zero, i.size, i.bytes)) = some (some (.string ⟨#[]⟩), 1, 16) := by kernel_rfl
-- the values' own types

end Go.Proofs.YtlmfpkiaikjlbaaDoor.PFnExactParseNames
