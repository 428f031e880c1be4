/-
  No cell of these rows narrows 'for every input' (looked for: loops, veiled, ifaces, maps, wideKeys, modest, calm, conditions, laid).
  DERIVED. THE GIVEN ROWS OF THIS SEAT. 5 by the template 'for every input the law returns true; each argument reads behind the call as it read before'; 0 by the template 'total and deterministic' (their statements: YtlmfpkiaikjlbaaGreatTotals.lean).
  GIVEN WITH THE SEED: the statements are not yours to turn. If you find one false, say at which input.
  Laid BY PROGRAM, IN A SANDBOX (cutbox-rows.mjs): the forced cells as the released guide's own fill.sh prints them over the translation 79d675cbf549ae15… (all of the seat's roots in one cut). By AI agents, Wed Nov 11 2026. No macro, syntax, notation, axiom, sorry.
-/
import Derived.Test.YtlmfpkiaikjlbaaGreatChecked
import GoSem.Claim
import GoSem.ClaimJoined
import GoSem.ClaimMapViews
import Derived.JoinedTies
import Derived.KernelRfl
namespace Go.Proofs.YtlmfpkiaikjlbaaGreat
/- THE CELL 'sum', in the pinned program and in every row, IS THE sha256 OF THE DUMP (.gsa) THAT YtlmfpkiaikjlbaaGreatProg.lean LOADS. Nothing in Lean hashes anything: it is a label: what it is worth is what the hold of that sum in a sandbox is worth. -/
noncomputable def Tryz.pinned : Pinned := { name := "ytlmfpkiaikjlbaagreat", sum := "79d675cbf549ae159f1af56c38cd107a233bb0c265960e6c3759c031178f502f", checked := Tryz.checked }
namespace Rows
def none {H : Type} : Left H := { results := [], args := [] }

/-- 'laws.FnExactTableauOf': WHATEVER THE INPUT: true; the input reads as it did. -/
def fnExactTableauOfSpec : ChangeSpec := { name := "fnExactTableauOf", fn := fun _ => fun
  | [d1, d2] => { results := [.lit (.bool true)], args := [d1, d2] }
  | _ => none }
def fnExactTableauOfRow : OpenClaim := { program := "ytlmfpkiaikjlbaagreat", sum := "79d675cbf549ae159f1af56c38cd107a233bb0c265960e6c3759c031178f502f", func := "loop.example/g02080/laws.FnExactTableauOf", spec := "fnExactTableauOf", inPlace := ["internal/bytealg.IndexByteString"], unfollowed := true, recurses := true, apart := false }
def FnExactTableauOfSaid : Prop := fnExactTableauOfRow.holds Tryz.pinned (OpenSpec.ofChange fnExactTableauOfSpec)

/-- ITS FALSE NEIGHBOUR: 'it returns false'. Refute it at one input. -/
def fnExactTableauOfWrong : ChangeSpec := { name := "fnExactTableauOf", fn := fun _ => fun
  | [d1, d2] => { results := [.lit (.bool false)], args := [d1, d2] }
  | _ => none }
def FnExactTableauOfWrongFalsely : Prop := fnExactTableauOfRow.holds Tryz.pinned (OpenSpec.ofChange fnExactTableauOfWrong)

/-- 'laws.FnExactDistinctProfiles': WHATEVER THE INPUT: true; the input reads as it did. -/
def fnExactDistinctProfilesSpec : ChangeSpec := { name := "fnExactDistinctProfiles", fn := fun _ => fun
  | [d] => { results := [.lit (.bool true)], args := [d] }
  | _ => none }
def fnExactDistinctProfilesRow : OpenClaim := { program := "ytlmfpkiaikjlbaagreat", sum := "79d675cbf549ae159f1af56c38cd107a233bb0c265960e6c3759c031178f502f", func := "loop.example/g02080/laws.FnExactDistinctProfiles", spec := "fnExactDistinctProfiles", inPlace := ["internal/bytealg.IndexByteString"], unfollowed := true, recurses := true, apart := false }
def FnExactDistinctProfilesSaid : Prop := fnExactDistinctProfilesRow.holds Tryz.pinned (OpenSpec.ofChange fnExactDistinctProfilesSpec)

/-- ITS FALSE NEIGHBOUR: 'it returns false'. Refute it at one input. -/
def fnExactDistinctProfilesWrong : ChangeSpec := { name := "fnExactDistinctProfiles", fn := fun _ => fun
  | [d] => { results := [.lit (.bool false)], args := [d] }
  | _ => none }
def FnExactDistinctProfilesWrongFalsely : Prop := fnExactDistinctProfilesRow.holds Tryz.pinned (OpenSpec.ofChange fnExactDistinctProfilesWrong)

/-- 'laws.FnExactRowsFor': WHATEVER THE INPUT: true; the input reads as it did. -/
def fnExactRowsForSpec : ChangeSpec := { name := "fnExactRowsFor", fn := fun _ => fun
  | [d1, d2] => { results := [.lit (.bool true)], args := [d1, d2] }
  | _ => none }
def fnExactRowsForRow : OpenClaim := { program := "ytlmfpkiaikjlbaagreat", sum := "79d675cbf549ae159f1af56c38cd107a233bb0c265960e6c3759c031178f502f", func := "loop.example/g02080/laws.FnExactRowsFor", spec := "fnExactRowsFor", inPlace := ["internal/bytealg.IndexByteString"], unfollowed := true, recurses := true, apart := false }
def FnExactRowsForSaid : Prop := fnExactRowsForRow.holds Tryz.pinned (OpenSpec.ofChange fnExactRowsForSpec)

/-- ITS FALSE NEIGHBOUR: 'it returns false'. Refute it at one input. -/
def fnExactRowsForWrong : ChangeSpec := { name := "fnExactRowsFor", fn := fun _ => fun
  | [d1, d2] => { results := [.lit (.bool false)], args := [d1, d2] }
  | _ => none }
def FnExactRowsForWrongFalsely : Prop := fnExactRowsForRow.holds Tryz.pinned (OpenSpec.ofChange fnExactRowsForWrong)

/-- 'laws.FnExactWinnersOf': WHATEVER THE INPUT: true; the input reads as it did. -/
def fnExactWinnersOfSpec : ChangeSpec := { name := "fnExactWinnersOf", fn := fun _ => fun
  | [d1, d2] => { results := [.lit (.bool true)], args := [d1, d2] }
  | _ => none }
def fnExactWinnersOfRow : OpenClaim := { program := "ytlmfpkiaikjlbaagreat", sum := "79d675cbf549ae159f1af56c38cd107a233bb0c265960e6c3759c031178f502f", func := "loop.example/g02080/laws.FnExactWinnersOf", spec := "fnExactWinnersOf", inPlace := ["internal/bytealg.IndexByteString"], unfollowed := true, recurses := true, apart := false }
def FnExactWinnersOfSaid : Prop := fnExactWinnersOfRow.holds Tryz.pinned (OpenSpec.ofChange fnExactWinnersOfSpec)

/-- ITS FALSE NEIGHBOUR: 'it returns false'. Refute it at one input. -/
def fnExactWinnersOfWrong : ChangeSpec := { name := "fnExactWinnersOf", fn := fun _ => fun
  | [d1, d2] => { results := [.lit (.bool false)], args := [d1, d2] }
  | _ => none }
def FnExactWinnersOfWrongFalsely : Prop := fnExactWinnersOfRow.holds Tryz.pinned (OpenSpec.ofChange fnExactWinnersOfWrong)

/-- 'laws.FnExactOptimalOutputs': WHATEVER THE INPUT: true; the input reads as it did. -/
def fnExactOptimalOutputsSpec : ChangeSpec := { name := "fnExactOptimalOutputs", fn := fun _ => fun
  | [d1, d2] => { results := [.lit (.bool true)], args := [d1, d2] }
  | _ => none }
def fnExactOptimalOutputsRow : OpenClaim := { program := "ytlmfpkiaikjlbaagreat", sum := "79d675cbf549ae159f1af56c38cd107a233bb0c265960e6c3759c031178f502f", func := "loop.example/g02080/laws.FnExactOptimalOutputs", spec := "fnExactOptimalOutputs", inPlace := ["internal/bytealg.IndexByteString"], unfollowed := true, recurses := true, apart := false }
def FnExactOptimalOutputsSaid : Prop := fnExactOptimalOutputsRow.holds Tryz.pinned (OpenSpec.ofChange fnExactOptimalOutputsSpec)

/-- ITS FALSE NEIGHBOUR: 'it returns false'. Refute it at one input. -/
def fnExactOptimalOutputsWrong : ChangeSpec := { name := "fnExactOptimalOutputs", fn := fun _ => fun
  | [d1, d2] => { results := [.lit (.bool false)], args := [d1, d2] }
  | _ => none }
def FnExactOptimalOutputsWrongFalsely : Prop := fnExactOptimalOutputsRow.holds Tryz.pinned (OpenSpec.ofChange fnExactOptimalOutputsWrong)

/- THE SECOND FORM. 'bulk': how many values and letters a reading holds, each counted each time it is reached (what is shared counts as often as it is met; a slice's spare places count too). A statement '..UptoSaid' is the law's where the arguments, and the package variables that the reading takes, are together of bulk at most 1048576: NARROWER than '..Said'. Prove '..Said' where nothing that the law and all that it calls make is longer than what came in: it says more and counts as full. Else prove '..UptoSaid'. A law counts once. -/
mutual
def uptoBulk {H : Type} : DataW H → Nat
  | .lit (.string bytes) => bytes.length + 1
  | .lit _ => 1
  | .nil => 1
  | .ptr d => uptoBulk d + 1
  | .slice elems spare => uptoBulkAll elems + uptoBulkAll spare + 1
  | .agg parts => uptoBulkAll parts + 1
  | .iface _ d => uptoBulk d + 1
  | .map entries => uptoBulkEntries entries + 1
  | .held _ => 1
def uptoBulkAll {H : Type} : List (DataW H) → Nat
  | [] => 0
  | d :: r => uptoBulk d + uptoBulkAll r
def uptoBulkEntries {H : Type} : List (Lit × DataW H) → Nat
  | [] => 0
  | x :: r => uptoBulkEntry x + uptoBulkEntries r
def uptoBulkEntry {H : Type} : Lit × DataW H → Nat
  | (.string bytes, d) => bytes.length + uptoBulk d + 1
  | (_, d) => uptoBulk d + 1
 end
def uptoSmall : (H : Type) → List (DataW H) → Bool := fun _ ds => decide (uptoBulkAll ds ≤ 1048576)
def OpenSpec.upto (s : _root_.Go.ChangeSpec) : _root_.Go.OpenSpec := { _root_.Go.OpenSpec.ofChange s with cond := some uptoSmall }

/-- 'laws.FnExactTableauOf', WHERE WHAT IT READS IS OF BULK AT MOST 1048576: true; the input reads as it did. -/
def fnExactTableauOfUptoRow : OpenClaim := { program := "ytlmfpkiaikjlbaagreat", sum := "79d675cbf549ae159f1af56c38cd107a233bb0c265960e6c3759c031178f502f", func := "loop.example/g02080/laws.FnExactTableauOf", spec := "fnExactTableauOf", inPlace := ["internal/bytealg.IndexByteString"], unfollowed := true, recurses := true, apart := false, narrowed := true }
def FnExactTableauOfUptoSaid : Prop := fnExactTableauOfUptoRow.holds Tryz.pinned (OpenSpec.upto fnExactTableauOfSpec)

/-- 'laws.FnExactDistinctProfiles', WHERE WHAT IT READS IS OF BULK AT MOST 1048576: true; the input reads as it did. -/
def fnExactDistinctProfilesUptoRow : OpenClaim := { program := "ytlmfpkiaikjlbaagreat", sum := "79d675cbf549ae159f1af56c38cd107a233bb0c265960e6c3759c031178f502f", func := "loop.example/g02080/laws.FnExactDistinctProfiles", spec := "fnExactDistinctProfiles", inPlace := ["internal/bytealg.IndexByteString"], unfollowed := true, recurses := true, apart := false, narrowed := true }
def FnExactDistinctProfilesUptoSaid : Prop := fnExactDistinctProfilesUptoRow.holds Tryz.pinned (OpenSpec.upto fnExactDistinctProfilesSpec)

/-- 'laws.FnExactRowsFor', WHERE WHAT IT READS IS OF BULK AT MOST 1048576: true; the input reads as it did. -/
def fnExactRowsForUptoRow : OpenClaim := { program := "ytlmfpkiaikjlbaagreat", sum := "79d675cbf549ae159f1af56c38cd107a233bb0c265960e6c3759c031178f502f", func := "loop.example/g02080/laws.FnExactRowsFor", spec := "fnExactRowsFor", inPlace := ["internal/bytealg.IndexByteString"], unfollowed := true, recurses := true, apart := false, narrowed := true }
def FnExactRowsForUptoSaid : Prop := fnExactRowsForUptoRow.holds Tryz.pinned (OpenSpec.upto fnExactRowsForSpec)

/-- 'laws.FnExactWinnersOf', WHERE WHAT IT READS IS OF BULK AT MOST 1048576: true; the input reads as it did. -/
def fnExactWinnersOfUptoRow : OpenClaim := { program := "ytlmfpkiaikjlbaagreat", sum := "79d675cbf549ae159f1af56c38cd107a233bb0c265960e6c3759c031178f502f", func := "loop.example/g02080/laws.FnExactWinnersOf", spec := "fnExactWinnersOf", inPlace := ["internal/bytealg.IndexByteString"], unfollowed := true, recurses := true, apart := false, narrowed := true }
def FnExactWinnersOfUptoSaid : Prop := fnExactWinnersOfUptoRow.holds Tryz.pinned (OpenSpec.upto fnExactWinnersOfSpec)

/-- 'laws.FnExactOptimalOutputs', WHERE WHAT IT READS IS OF BULK AT MOST 1048576: true; the input reads as it did. -/
def fnExactOptimalOutputsUptoRow : OpenClaim := { program := "ytlmfpkiaikjlbaagreat", sum := "79d675cbf549ae159f1af56c38cd107a233bb0c265960e6c3759c031178f502f", func := "loop.example/g02080/laws.FnExactOptimalOutputs", spec := "fnExactOptimalOutputs", inPlace := ["internal/bytealg.IndexByteString"], unfollowed := true, recurses := true, apart := false, narrowed := true }
def FnExactOptimalOutputsUptoSaid : Prop := fnExactOptimalOutputsUptoRow.holds Tryz.pinned (OpenSpec.upto fnExactOptimalOutputsSpec)

end Rows
end Go.Proofs.YtlmfpkiaikjlbaaGreat
