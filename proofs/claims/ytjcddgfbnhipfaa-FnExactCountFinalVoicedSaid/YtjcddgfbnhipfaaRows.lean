/-
  No cell of these rows narrows 'for every input' (looked for: loops, veiled, ifaces, maps, wideKeys, modest, calm, conditions, laid).
  DERIVED. THE GIVEN ROWS OF THIS SEAT. 6 by the template 'for every input the law returns true; each argument reads behind the call as it read before'; 0 by the template 'total and deterministic' (their statements: YtjcddgfbnhipfaaTotals.lean).
  GIVEN WITH THE SEED: the statements are not yours to turn. If you find one false, say at which input.
  Laid BY PROGRAM, IN A SANDBOX (cutbox-rows.mjs): the forced cells as the released guide's own fill.sh prints them over the translation 4076e331e2a0e15a… (all of the seat's roots in one cut). By AI agents, Wed Nov 11 2026. No macro, syntax, notation, axiom, sorry.
-/
import Derived.Test.YtjcddgfbnhipfaaChecked
import GoSem.Claim
import GoSem.ClaimJoined
import GoSem.ClaimMapViews
import Derived.JoinedTies
import Derived.KernelRfl
namespace Go.Proofs.Ytjcddgfbnhipfaa
/- THE CELL 'sum', in the pinned program and in every row, IS THE sha256 OF THE DUMP (.gsa) THAT YtjcddgfbnhipfaaProg.lean LOADS. Nothing in Lean hashes anything: it is a label: what it is worth is what the hold of that sum in a sandbox is worth. -/
noncomputable def Try.pinned : Pinned := { name := "ytjcddgfbnhipfaa", sum := "4076e331e2a0e15a2e6b94345be660e6d1c3522fd1eb9d9f91bb4efc80f6dd21", checked := Try.checked }
namespace Rows
def none {H : Type} : Left H := { results := [], args := [] }

/-- 'laws.FnExactIsMarkedness': WHATEVER THE INPUT: true; the input reads as it did. -/
def fnExactIsMarkednessSpec : ChangeSpec := { name := "fnExactIsMarkedness", fn := fun _ => fun
  | [d] => { results := [.lit (.bool true)], args := [d] }
  | _ => none }
def fnExactIsMarkednessRow : OpenClaim := { program := "ytjcddgfbnhipfaa", sum := "4076e331e2a0e15a2e6b94345be660e6d1c3522fd1eb9d9f91bb4efc80f6dd21", func := "loop.example/g02080/laws.FnExactIsMarkedness", spec := "fnExactIsMarkedness", apart := false }
def FnExactIsMarkednessSaid : Prop := fnExactIsMarkednessRow.holds Try.pinned (OpenSpec.ofChange fnExactIsMarkednessSpec)

/-- ITS FALSE NEIGHBOUR: 'it returns false'. Refute it at one input. -/
def fnExactIsMarkednessWrong : ChangeSpec := { name := "fnExactIsMarkedness", fn := fun _ => fun
  | [d] => { results := [.lit (.bool false)], args := [d] }
  | _ => none }
def FnExactIsMarkednessWrongFalsely : Prop := fnExactIsMarkednessRow.holds Try.pinned (OpenSpec.ofChange fnExactIsMarkednessWrong)

/-- 'laws.FnExactConstraintNames': WHATEVER THE INPUT: true; the input reads as it did. -/
def fnExactConstraintNamesSpec : ChangeSpec := { name := "fnExactConstraintNames", fn := fun _ => fun
  | [] => { results := [.lit (.bool true)], args := [] }
  | _ => none }
def fnExactConstraintNamesRow : OpenClaim := { program := "ytjcddgfbnhipfaa", sum := "4076e331e2a0e15a2e6b94345be660e6d1c3522fd1eb9d9f91bb4efc80f6dd21", func := "loop.example/g02080/laws.FnExactConstraintNames", spec := "fnExactConstraintNames", apart := false }
def FnExactConstraintNamesSaid : Prop := fnExactConstraintNamesRow.holds Try.pinned (OpenSpec.ofChange fnExactConstraintNamesSpec)

/-- ITS FALSE NEIGHBOUR: 'it returns false'. Refute it at one input. -/
def fnExactConstraintNamesWrong : ChangeSpec := { name := "fnExactConstraintNames", fn := fun _ => fun
  | [] => { results := [.lit (.bool false)], args := [] }
  | _ => none }
def FnExactConstraintNamesWrongFalsely : Prop := fnExactConstraintNamesRow.holds Try.pinned (OpenSpec.ofChange fnExactConstraintNamesWrong)

/-- 'laws.FnExactIsRow': WHATEVER THE INPUT: true; the input reads as it did. -/
def fnExactIsRowSpec : ChangeSpec := { name := "fnExactIsRow", fn := fun _ => fun
  | [d1, d2] => { results := [.lit (.bool true)], args := [d1, d2] }
  | _ => none }
def fnExactIsRowRow : OpenClaim := { program := "ytjcddgfbnhipfaa", sum := "4076e331e2a0e15a2e6b94345be660e6d1c3522fd1eb9d9f91bb4efc80f6dd21", func := "loop.example/g02080/laws.FnExactIsRow", spec := "fnExactIsRow", apart := false }
def FnExactIsRowSaid : Prop := fnExactIsRowRow.holds Try.pinned (OpenSpec.ofChange fnExactIsRowSpec)

/-- ITS FALSE NEIGHBOUR: 'it returns false'. Refute it at one input. -/
def fnExactIsRowWrong : ChangeSpec := { name := "fnExactIsRow", fn := fun _ => fun
  | [d1, d2] => { results := [.lit (.bool false)], args := [d1, d2] }
  | _ => none }
def FnExactIsRowWrongFalsely : Prop := fnExactIsRowRow.holds Try.pinned (OpenSpec.ofChange fnExactIsRowWrong)

/-- 'laws.FnExactAreConstraints': WHATEVER THE INPUT: true; the input reads as it did. -/
def fnExactAreConstraintsSpec : ChangeSpec := { name := "fnExactAreConstraints", fn := fun _ => fun
  | [d] => { results := [.lit (.bool true)], args := [d] }
  | _ => none }
def fnExactAreConstraintsRow : OpenClaim := { program := "ytjcddgfbnhipfaa", sum := "4076e331e2a0e15a2e6b94345be660e6d1c3522fd1eb9d9f91bb4efc80f6dd21", func := "loop.example/g02080/laws.FnExactAreConstraints", spec := "fnExactAreConstraints", apart := false }
def FnExactAreConstraintsSaid : Prop := fnExactAreConstraintsRow.holds Try.pinned (OpenSpec.ofChange fnExactAreConstraintsSpec)

/-- ITS FALSE NEIGHBOUR: 'it returns false'. Refute it at one input. -/
def fnExactAreConstraintsWrong : ChangeSpec := { name := "fnExactAreConstraints", fn := fun _ => fun
  | [d] => { results := [.lit (.bool false)], args := [d] }
  | _ => none }
def FnExactAreConstraintsWrongFalsely : Prop := fnExactAreConstraintsRow.holds Try.pinned (OpenSpec.ofChange fnExactAreConstraintsWrong)

/-- 'laws.FnExactIsTrivial': WHATEVER THE INPUT: true; the input reads as it did. -/
def fnExactIsTrivialSpec : ChangeSpec := { name := "fnExactIsTrivial", fn := fun _ => fun
  | [d] => { results := [.lit (.bool true)], args := [d] }
  | _ => none }
def fnExactIsTrivialRow : OpenClaim := { program := "ytjcddgfbnhipfaa", sum := "4076e331e2a0e15a2e6b94345be660e6d1c3522fd1eb9d9f91bb4efc80f6dd21", func := "loop.example/g02080/laws.FnExactIsTrivial", spec := "fnExactIsTrivial", apart := false }
def FnExactIsTrivialSaid : Prop := fnExactIsTrivialRow.holds Try.pinned (OpenSpec.ofChange fnExactIsTrivialSpec)

/-- ITS FALSE NEIGHBOUR: 'it returns false'. Refute it at one input. -/
def fnExactIsTrivialWrong : ChangeSpec := { name := "fnExactIsTrivial", fn := fun _ => fun
  | [d] => { results := [.lit (.bool false)], args := [d] }
  | _ => none }
def FnExactIsTrivialWrongFalsely : Prop := fnExactIsTrivialRow.holds Try.pinned (OpenSpec.ofChange fnExactIsTrivialWrong)

/-- 'laws.FnExactCountFinalVoiced': WHATEVER THE INPUT: true; the input reads as it did. -/
def fnExactCountFinalVoicedSpec : ChangeSpec := { name := "fnExactCountFinalVoiced", fn := fun _ => fun
  | [d] => { results := [.lit (.bool true)], args := [d] }
  | _ => none }
def fnExactCountFinalVoicedRow : OpenClaim := { program := "ytjcddgfbnhipfaa", sum := "4076e331e2a0e15a2e6b94345be660e6d1c3522fd1eb9d9f91bb4efc80f6dd21", func := "loop.example/g02080/laws.FnExactCountFinalVoiced", spec := "fnExactCountFinalVoiced", inPlace := ["internal/bytealg.IndexByteString"], unfollowed := true, recurses := true, apart := false }
def FnExactCountFinalVoicedSaid : Prop := fnExactCountFinalVoicedRow.holds Try.pinned (OpenSpec.ofChange fnExactCountFinalVoicedSpec)

/-- ITS FALSE NEIGHBOUR: 'it returns false'. Refute it at one input. -/
def fnExactCountFinalVoicedWrong : ChangeSpec := { name := "fnExactCountFinalVoiced", fn := fun _ => fun
  | [d] => { results := [.lit (.bool false)], args := [d] }
  | _ => none }
def FnExactCountFinalVoicedWrongFalsely : Prop := fnExactCountFinalVoicedRow.holds Try.pinned (OpenSpec.ofChange fnExactCountFinalVoicedWrong)

/- THE SECOND FORM. 'bulk': how many values and letters a reading holds, each counted each time it is reached (what is shared counts as often as it is met; a slice's spare places count too). A statement '..UptoSaid' is the law's where the arguments, and the package variables that the reading takes, are together of bulk at most 1048576: NARROWER than '..Said'. Prove '..Said' where nothing that the law and all that it calls make is longer than what came in: it says more and counts as full. Else prove '..UptoSaid'. A law counts once. -/
mutual
def uptoBulk {H : Type} : DataW H → Nat
  | .lit (.string bytes) => bytes.length + 1
  | .lit _ => 1
  | .nil => 1
  | .ptr d => uptoBulk d + 1
  | .slice elems spare => uptoBulkAll elems + uptoBulkAll spare + 1
  | .agg parts => uptoBulkAll parts + 1
  | .iface _ d => uptoBulk d + 1
  | .map entries => uptoBulkEntries entries + 1
  | .held _ => 1
def uptoBulkAll {H : Type} : List (DataW H) → Nat
  | [] => 0
  | d :: r => uptoBulk d + uptoBulkAll r
def uptoBulkEntries {H : Type} : List (Lit × DataW H) → Nat
  | [] => 0
  | x :: r => uptoBulkEntry x + uptoBulkEntries r
def uptoBulkEntry {H : Type} : Lit × DataW H → Nat
  | (.string bytes, d) => bytes.length + uptoBulk d + 1
  | (_, d) => uptoBulk d + 1
 end
def uptoSmall : (H : Type) → List (DataW H) → Bool := fun _ ds => decide (uptoBulkAll ds ≤ 1048576)
def OpenSpec.upto (s : _root_.Go.ChangeSpec) : _root_.Go.OpenSpec := { _root_.Go.OpenSpec.ofChange s with cond := some uptoSmall }

/-- 'laws.FnExactIsMarkedness', WHERE WHAT IT READS IS OF BULK AT MOST 1048576: true; the input reads as it did. -/
def fnExactIsMarkednessUptoRow : OpenClaim := { program := "ytjcddgfbnhipfaa", sum := "4076e331e2a0e15a2e6b94345be660e6d1c3522fd1eb9d9f91bb4efc80f6dd21", func := "loop.example/g02080/laws.FnExactIsMarkedness", spec := "fnExactIsMarkedness", apart := false, narrowed := true }
def FnExactIsMarkednessUptoSaid : Prop := fnExactIsMarkednessUptoRow.holds Try.pinned (OpenSpec.upto fnExactIsMarkednessSpec)

/-- 'laws.FnExactConstraintNames', WHERE WHAT IT READS IS OF BULK AT MOST 1048576: true; the input reads as it did. -/
def fnExactConstraintNamesUptoRow : OpenClaim := { program := "ytjcddgfbnhipfaa", sum := "4076e331e2a0e15a2e6b94345be660e6d1c3522fd1eb9d9f91bb4efc80f6dd21", func := "loop.example/g02080/laws.FnExactConstraintNames", spec := "fnExactConstraintNames", apart := false, narrowed := true }
def FnExactConstraintNamesUptoSaid : Prop := fnExactConstraintNamesUptoRow.holds Try.pinned (OpenSpec.upto fnExactConstraintNamesSpec)

/-- 'laws.FnExactIsRow', WHERE WHAT IT READS IS OF BULK AT MOST 1048576: true; the input reads as it did. -/
def fnExactIsRowUptoRow : OpenClaim := { program := "ytjcddgfbnhipfaa", sum := "4076e331e2a0e15a2e6b94345be660e6d1c3522fd1eb9d9f91bb4efc80f6dd21", func := "loop.example/g02080/laws.FnExactIsRow", spec := "fnExactIsRow", apart := false, narrowed := true }
def FnExactIsRowUptoSaid : Prop := fnExactIsRowUptoRow.holds Try.pinned (OpenSpec.upto fnExactIsRowSpec)

/-- 'laws.FnExactAreConstraints', WHERE WHAT IT READS IS OF BULK AT MOST 1048576: true; the input reads as it did. -/
def fnExactAreConstraintsUptoRow : OpenClaim := { program := "ytjcddgfbnhipfaa", sum := "4076e331e2a0e15a2e6b94345be660e6d1c3522fd1eb9d9f91bb4efc80f6dd21", func := "loop.example/g02080/laws.FnExactAreConstraints", spec := "fnExactAreConstraints", apart := false, narrowed := true }
def FnExactAreConstraintsUptoSaid : Prop := fnExactAreConstraintsUptoRow.holds Try.pinned (OpenSpec.upto fnExactAreConstraintsSpec)

/-- 'laws.FnExactIsTrivial', WHERE WHAT IT READS IS OF BULK AT MOST 1048576: true; the input reads as it did. -/
def fnExactIsTrivialUptoRow : OpenClaim := { program := "ytjcddgfbnhipfaa", sum := "4076e331e2a0e15a2e6b94345be660e6d1c3522fd1eb9d9f91bb4efc80f6dd21", func := "loop.example/g02080/laws.FnExactIsTrivial", spec := "fnExactIsTrivial", apart := false, narrowed := true }
def FnExactIsTrivialUptoSaid : Prop := fnExactIsTrivialUptoRow.holds Try.pinned (OpenSpec.upto fnExactIsTrivialSpec)

/-- 'laws.FnExactCountFinalVoiced', WHERE WHAT IT READS IS OF BULK AT MOST 1048576: true; the input reads as it did. -/
def fnExactCountFinalVoicedUptoRow : OpenClaim := { program := "ytjcddgfbnhipfaa", sum := "4076e331e2a0e15a2e6b94345be660e6d1c3522fd1eb9d9f91bb4efc80f6dd21", func := "loop.example/g02080/laws.FnExactCountFinalVoiced", spec := "fnExactCountFinalVoiced", inPlace := ["internal/bytealg.IndexByteString"], unfollowed := true, recurses := true, apart := false, narrowed := true }
def FnExactCountFinalVoicedUptoSaid : Prop := fnExactCountFinalVoicedUptoRow.holds Try.pinned (OpenSpec.upto fnExactCountFinalVoicedSpec)

end Rows
end Go.Proofs.Ytjcddgfbnhipfaa
