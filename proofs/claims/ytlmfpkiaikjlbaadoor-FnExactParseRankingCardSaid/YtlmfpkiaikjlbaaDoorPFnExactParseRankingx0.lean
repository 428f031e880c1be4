-- Made by gen.py (a program of this session) out of the translation; Lean checks it.
import Derived.Test.YtlmfpkiaikjlbaaDoorShelf
import Derived.Lib.Join
import Derived.RangeFuncBox
import Derived.RangeFuncLeaves
import Derived.RangeFuncWrites
import Derived.OwnWalkIn
import Derived.TacticsInMore
import Derived.LoopNIn
import Derived.LoopIn
import Derived.Maps.RangeWalk
import Derived.Shelf.Abstract
import Derived.Test.YtlmfpkiaikjlbaaDoorLv
import Derived.Test.YtlmfpkiaikjlbaaDoorProg
import Derived.Below
import Derived.Deep.Draws
import Derived.Deep.AppendLies
import Derived.Maps.AppendAt
import Derived.OwnWalk
import Derived.Laws.BytesArg
import Derived.Laws.MakeOwn
import Derived.Laws.OwnMore
import Derived.Deep.OwnRows
import Derived.Tactics
import Derived.Lib.ConvBytes
import Derived.Laws.Slices
import Derived.WalkKit
import Derived.KernelRfl
import Derived.RowKit3
import Derived.Deep.LoopGhost
import Derived.Deep.QuietTactic
import Derived.BigQuiet
import Derived.WideLaws
import Derived.Deep.DeepCutAuto
import Derived.Deep.CutBlock
import Derived.Deep.RegionHeld3
import Derived.Laws.Rows
import Derived.Lib.AppendStr
import Derived.ArgAppend
import Derived.Laws.IdiomCopy
import Derived.OrdersHeld
import Derived.Laws.BitsLemmas
import Derived.RowKit
import Derived.Test.YtlmfpkiaikjlbaaDoorOpen
import Derived.Test.YtlmfpkiaikjlbaaDoorSq
import Derived.Lib.Bytealg
import Derived.Lib.Strings
import Derived.Lib.Slices
import Derived.Lib.Walk
import Derived.Test.YtlmfpkiaikjlbaaDoorWWords
import Derived.Test.YtlmfpkiaikjlbaaDoorWLast
import Derived.Test.YtlmfpkiaikjlbaaDoorWTab
import Derived.Test.YtlmfpkiaikjlbaaDoorWFour
import Derived.Test.YtlmfpkiaikjlbaaDoorWQPut
import Derived.Test.YtlmfpkiaikjlbaaDoorWApart
import Derived.Test.YtlmfpkiaikjlbaaDoorWArr
import Derived.Test.YtlmfpkiaikjlbaaDoorWZeros
import Derived.Test.YtlmfpkiaikjlbaaDoorWFoot
import Derived.Test.YtlmfpkiaikjlbaaDoorWKept
import Derived.Test.YtlmfpkiaikjlbaaDoorWShare
import Derived.Test.YtlmfpkiaikjlbaaDoorWN
import Derived.Test.YtlmfpkiaikjlbaaDoorWFootNe
import Derived.Test.YtlmfpkiaikjlbaaDoorWAt
import Derived.Test.YtlmfpkiaikjlbaaDoorWEqStruct
import Derived.Test.YtlmfpkiaikjlbaaDoorWRepsOne
import Derived.Test.YtlmfpkiaikjlbaaDoorWInv
import Derived.Test.YtlmfpkiaikjlbaaDoorWInvWords
import Derived.Test.YtlmfpkiaikjlbaaDoorWGuard
import Derived.Test.YtlmfpkiaikjlbaaDoorWNEv
import Derived.Test.YtlmfpkiaikjlbaaDoorWMore
namespace Go.Proofs.YtlmfpkiaikjlbaaDoor.PFnExactParseRanking
open Go.RowKit Go.Proofs.YtlmfpkiaikjlbaaDoorB Go.Proofs.YtlmfpkiaikjlbaaDoorW.PrintWords Go.Proofs.YtlmfpkiaikjlbaaDoorW.PrintLast Go.Proofs.YtlmfpkiaikjlbaaDoorW.PrintMore
attribute [local go_sem] max2_int min2_int max_two min_two max_three min_three max_four min_four   -- for this text's walks alone
set_option linter.unusedVariables false
set_option linter.unusedSimpArgs false



def errW : Option Int → Value
  | none => .nilIface
  | some c => .iface 0 (.int .i64 c)
theorem errW_none : errW none = .nilIface := rfl
theorem errW_some (c : Int) : errW (some c) = .iface 0 (.int .i64 c) := rfl

theorem info3 : (Tryd.prog.info? 3).map (fun i => (i.zero, i.size, i.bytes)) = some (some (.int .i64 0), 1, 8) := by kernel_rfl
theorem info5 : (Tryd.prog.info? 5).map (fun i => (i.zero, i.size, i.bytes)) = some (some (.int .u8 0), 1, 1) := by kernel_rfl
theorem info9 : (Tryd.prog.info? 9).map (fun i => (i.zero, i.size, i.bytes)) = some (some (.string ⟨#[]⟩), 1, 16) := by kernel_rfl
-- the values' own types
def rd_L4 (xs : List (List ByteArray)) (i : Int) : (List ByteArray) := xs.getD i.toNat ([] : List ByteArray)
theorem at_L4 {w : World} {A : Option Addr} {n : Nat} {xs : List (List ByteArray)} (h : Kd.C (Kd.slice 9 Kd.string) w A n xs) (i : Int) (h0 : 0 ≤ i) (h1 : i < n) : ∃ ad A0 c0, A = some ad ∧ w.cell? (ad.add i.toNat) = some (.slice A0 (rd_L4 xs i).length c0) ∧ (rd_L4 xs i).length ≤ c0 ∧ Kd.string.C w A0 (rd_L4 xs i).length (rd_L4 xs i) := by
  obtain ⟨ad, c, e, _, hK, hc0⟩ := Kd.C_get h ([] : List ByteArray) i h0 h1
  have hc : ∀ j u, c[j]? = some u → w.cell? (ad.add (i.toNat * 1 + j)) = some u := hc0
  obtain ⟨A0, c0, rfl, l0, g0⟩ := hK
  exact ⟨ad, A0, c0, e, by have hq := hc 0 _ rfl; rwa [Nat.mul_one, Nat.add_zero] at hq, l0, g0⟩

end Go.Proofs.YtlmfpkiaikjlbaaDoor.PFnExactParseRanking
