/-
  No cell of these rows narrows 'for every input' (looked for: loops, veiled, ifaces, maps, wideKeys, modest, calm, conditions, laid).
  DERIVED. THE GIVEN ROWS OF THIS SEAT. 8 by the template 'for every input the law returns true; each argument reads behind the call as it read before'; 0 by the template 'total and deterministic' (their statements: YtmfhaplhgaehhaaTotals.lean).
  GIVEN WITH THE SEED: the statements are not yours to turn. If you find one false, say at which input.
  Laid BY PROGRAM, IN A SANDBOX (cutbox-rows.mjs): the forced cells as the released guide's own fill.sh prints them over the translation d154b4000e9aa03d… (all of the seat's roots in one cut). By AI agents, Wed Nov 11 2026. No macro, syntax, notation, axiom, sorry.
-/
import Derived.Test.YtmfhaplhgaehhaaChecked
import GoSem.Claim
import GoSem.ClaimJoined
import GoSem.ClaimMapViews
import Derived.JoinedTies
import Derived.KernelRfl
namespace Go.Proofs.Ytmfhaplhgaehhaa
/- THE CELL 'sum', in the pinned program and in every row, IS THE sha256 OF THE DUMP (.gsa) THAT YtmfhaplhgaehhaaProg.lean LOADS. Nothing in Lean hashes anything: it is a label: what it is worth is what the hold of that sum in a sandbox is worth. -/
noncomputable def Try.pinned : Pinned := { name := "ytmfhaplhgaehhaa", sum := "d154b4000e9aa03de60457cb5d23e9995dd9b8402a753b7b65f58785bc824dd6", checked := Try.checked }
namespace Rows
def none {H : Type} : Left H := { results := [], args := [] }

/-- 'laws.FnCandidates': WHATEVER THE INPUT: true; the input reads as it did. -/
def fnCandidatesSpec : ChangeSpec := { name := "fnCandidates", fn := fun _ => fun
  | [d] => { results := [.lit (.bool true)], args := [d] }
  | _ => none }
def fnCandidatesRow : OpenClaim := { program := "ytmfhaplhgaehhaa", sum := "d154b4000e9aa03de60457cb5d23e9995dd9b8402a753b7b65f58785bc824dd6", func := "loop.example/g02080/laws.FnCandidates", spec := "fnCandidates", inPlace := ["internal/bytealg.IndexByteString"], unfollowed := true, recurses := true, apart := false }
def FnCandidatesSaid : Prop := fnCandidatesRow.holds Try.pinned (OpenSpec.ofChange fnCandidatesSpec)

/-- ITS FALSE NEIGHBOUR: 'it returns false'. Refute it at one input. -/
def fnCandidatesWrong : ChangeSpec := { name := "fnCandidates", fn := fun _ => fun
  | [d] => { results := [.lit (.bool false)], args := [d] }
  | _ => none }
def FnCandidatesWrongFalsely : Prop := fnCandidatesRow.holds Try.pinned (OpenSpec.ofChange fnCandidatesWrong)

/-- 'laws.FnExactAllRankings': WHATEVER THE INPUT: true; the input reads as it did. -/
def fnExactAllRankingsSpec : ChangeSpec := { name := "fnExactAllRankings", fn := fun _ => fun
  | [d] => { results := [.lit (.bool true)], args := [d] }
  | _ => none }
def fnExactAllRankingsRow : OpenClaim := { program := "ytmfhaplhgaehhaa", sum := "d154b4000e9aa03de60457cb5d23e9995dd9b8402a753b7b65f58785bc824dd6", func := "loop.example/g02080/laws.FnExactAllRankings", spec := "fnExactAllRankings", unfollowed := true, recurses := true, apart := false }
def FnExactAllRankingsSaid : Prop := fnExactAllRankingsRow.holds Try.pinned (OpenSpec.ofChange fnExactAllRankingsSpec)

/-- ITS FALSE NEIGHBOUR: 'it returns false'. Refute it at one input. -/
def fnExactAllRankingsWrong : ChangeSpec := { name := "fnExactAllRankings", fn := fun _ => fun
  | [d] => { results := [.lit (.bool false)], args := [d] }
  | _ => none }
def FnExactAllRankingsWrongFalsely : Prop := fnExactAllRankingsRow.holds Try.pinned (OpenSpec.ofChange fnExactAllRankingsWrong)

/-- 'laws.FnExactFuseAll': WHATEVER THE INPUT: true; the input reads as it did. -/
def fnExactFuseAllSpec : ChangeSpec := { name := "fnExactFuseAll", fn := fun _ => fun
  | [d] => { results := [.lit (.bool true)], args := [d] }
  | _ => none }
def fnExactFuseAllRow : OpenClaim := { program := "ytmfhaplhgaehhaa", sum := "d154b4000e9aa03de60457cb5d23e9995dd9b8402a753b7b65f58785bc824dd6", func := "loop.example/g02080/laws.FnExactFuseAll", spec := "fnExactFuseAll", apart := false }
def FnExactFuseAllSaid : Prop := fnExactFuseAllRow.holds Try.pinned (OpenSpec.ofChange fnExactFuseAllSpec)

/-- ITS FALSE NEIGHBOUR: 'it returns false'. Refute it at one input. -/
def fnExactFuseAllWrong : ChangeSpec := { name := "fnExactFuseAll", fn := fun _ => fun
  | [d] => { results := [.lit (.bool false)], args := [d] }
  | _ => none }
def FnExactFuseAllWrongFalsely : Prop := fnExactFuseAllRow.holds Try.pinned (OpenSpec.ofChange fnExactFuseAllWrong)

/-- 'laws.FnExactOneEdit': WHATEVER THE INPUT: true; the input reads as it did. -/
def fnExactOneEditSpec : ChangeSpec := { name := "fnExactOneEdit", fn := fun _ => fun
  | [d] => { results := [.lit (.bool true)], args := [d] }
  | _ => none }
def fnExactOneEditRow : OpenClaim := { program := "ytmfhaplhgaehhaa", sum := "d154b4000e9aa03de60457cb5d23e9995dd9b8402a753b7b65f58785bc824dd6", func := "loop.example/g02080/laws.FnExactOneEdit", spec := "fnExactOneEdit", inPlace := ["internal/bytealg.IndexByteString"], unfollowed := true, recurses := true, apart := false }
def FnExactOneEditSaid : Prop := fnExactOneEditRow.holds Try.pinned (OpenSpec.ofChange fnExactOneEditSpec)

/-- ITS FALSE NEIGHBOUR: 'it returns false'. Refute it at one input. -/
def fnExactOneEditWrong : ChangeSpec := { name := "fnExactOneEdit", fn := fun _ => fun
  | [d] => { results := [.lit (.bool false)], args := [d] }
  | _ => none }
def FnExactOneEditWrongFalsely : Prop := fnExactOneEditRow.holds Try.pinned (OpenSpec.ofChange fnExactOneEditWrong)

/-- 'laws.FnExactFewestEdits': WHATEVER THE INPUT: true; the input reads as it did. -/
def fnExactFewestEditsSpec : ChangeSpec := { name := "fnExactFewestEdits", fn := fun _ => fun
  | [d1, d2] => { results := [.lit (.bool true)], args := [d1, d2] }
  | _ => none }
def fnExactFewestEditsRow : OpenClaim := { program := "ytmfhaplhgaehhaa", sum := "d154b4000e9aa03de60457cb5d23e9995dd9b8402a753b7b65f58785bc824dd6", func := "loop.example/g02080/laws.FnExactFewestEdits", spec := "fnExactFewestEdits", inPlace := ["internal/bytealg.IndexByteString"], unfollowed := true, recurses := true, apart := false }
def FnExactFewestEditsSaid : Prop := fnExactFewestEditsRow.holds Try.pinned (OpenSpec.ofChange fnExactFewestEditsSpec)

/-- ITS FALSE NEIGHBOUR: 'it returns false'. Refute it at one input. -/
def fnExactFewestEditsWrong : ChangeSpec := { name := "fnExactFewestEdits", fn := fun _ => fun
  | [d1, d2] => { results := [.lit (.bool false)], args := [d1, d2] }
  | _ => none }
def FnExactFewestEditsWrongFalsely : Prop := fnExactFewestEditsRow.holds Try.pinned (OpenSpec.ofChange fnExactFewestEditsWrong)

/-- 'laws.FnExactIsGenerated': WHATEVER THE INPUT: true; the input reads as it did. -/
def fnExactIsGeneratedSpec : ChangeSpec := { name := "fnExactIsGenerated", fn := fun _ => fun
  | [d1, d2] => { results := [.lit (.bool true)], args := [d1, d2] }
  | _ => none }
def fnExactIsGeneratedRow : OpenClaim := { program := "ytmfhaplhgaehhaa", sum := "d154b4000e9aa03de60457cb5d23e9995dd9b8402a753b7b65f58785bc824dd6", func := "loop.example/g02080/laws.FnExactIsGenerated", spec := "fnExactIsGenerated", inPlace := ["internal/bytealg.IndexByteString"], unfollowed := true, recurses := true, apart := false }
def FnExactIsGeneratedSaid : Prop := fnExactIsGeneratedRow.holds Try.pinned (OpenSpec.ofChange fnExactIsGeneratedSpec)

/-- ITS FALSE NEIGHBOUR: 'it returns false'. Refute it at one input. -/
def fnExactIsGeneratedWrong : ChangeSpec := { name := "fnExactIsGenerated", fn := fun _ => fun
  | [d1, d2] => { results := [.lit (.bool false)], args := [d1, d2] }
  | _ => none }
def FnExactIsGeneratedWrongFalsely : Prop := fnExactIsGeneratedRow.holds Try.pinned (OpenSpec.ofChange fnExactIsGeneratedWrong)

/-- 'laws.FnExactOutputsOf': WHATEVER THE INPUT: true; the input reads as it did. -/
def fnExactOutputsOfSpec : ChangeSpec := { name := "fnExactOutputsOf", fn := fun _ => fun
  | [d] => { results := [.lit (.bool true)], args := [d] }
  | _ => none }
def fnExactOutputsOfRow : OpenClaim := { program := "ytmfhaplhgaehhaa", sum := "d154b4000e9aa03de60457cb5d23e9995dd9b8402a753b7b65f58785bc824dd6", func := "loop.example/g02080/laws.FnExactOutputsOf", spec := "fnExactOutputsOf", inPlace := ["internal/bytealg.IndexByteString"], unfollowed := true, recurses := true, apart := false }
def FnExactOutputsOfSaid : Prop := fnExactOutputsOfRow.holds Try.pinned (OpenSpec.ofChange fnExactOutputsOfSpec)

/-- ITS FALSE NEIGHBOUR: 'it returns false'. Refute it at one input. -/
def fnExactOutputsOfWrong : ChangeSpec := { name := "fnExactOutputsOf", fn := fun _ => fun
  | [d] => { results := [.lit (.bool false)], args := [d] }
  | _ => none }
def FnExactOutputsOfWrongFalsely : Prop := fnExactOutputsOfRow.holds Try.pinned (OpenSpec.ofChange fnExactOutputsOfWrong)

/-- 'laws.FnExactComposeCandidates': WHATEVER THE INPUT: true; the input reads as it did. -/
def fnExactComposeCandidatesSpec : ChangeSpec := { name := "fnExactComposeCandidates", fn := fun _ => fun
  | [d1, d2] => { results := [.lit (.bool true)], args := [d1, d2] }
  | _ => none }
def fnExactComposeCandidatesRow : OpenClaim := { program := "ytmfhaplhgaehhaa", sum := "d154b4000e9aa03de60457cb5d23e9995dd9b8402a753b7b65f58785bc824dd6", func := "loop.example/g02080/laws.FnExactComposeCandidates", spec := "fnExactComposeCandidates", inPlace := ["internal/bytealg.IndexByteString"], unfollowed := true, recurses := true, apart := false }
def FnExactComposeCandidatesSaid : Prop := fnExactComposeCandidatesRow.holds Try.pinned (OpenSpec.ofChange fnExactComposeCandidatesSpec)

/-- ITS FALSE NEIGHBOUR: 'it returns false'. Refute it at one input. -/
def fnExactComposeCandidatesWrong : ChangeSpec := { name := "fnExactComposeCandidates", fn := fun _ => fun
  | [d1, d2] => { results := [.lit (.bool false)], args := [d1, d2] }
  | _ => none }
def FnExactComposeCandidatesWrongFalsely : Prop := fnExactComposeCandidatesRow.holds Try.pinned (OpenSpec.ofChange fnExactComposeCandidatesWrong)

/- THE SECOND FORM. 'bulk': how many values and letters a reading holds, each counted each time it is reached (what is shared counts as often as it is met; a slice's spare places count too). A statement '..UptoSaid' is the law's where the arguments, and the package variables that the reading takes, are together of bulk at most 1048576: NARROWER than '..Said'. Prove '..Said' where nothing that the law and all that it calls make is longer than what came in: it says more and counts as full. Else prove '..UptoSaid'. A law counts once. -/
mutual
def uptoBulk {H : Type} : DataW H → Nat
  | .lit (.string bytes) => bytes.length + 1
  | .lit _ => 1
  | .nil => 1
  | .ptr d => uptoBulk d + 1
  | .slice elems spare => uptoBulkAll elems + uptoBulkAll spare + 1
  | .agg parts => uptoBulkAll parts + 1
  | .iface _ d => uptoBulk d + 1
  | .map entries => uptoBulkEntries entries + 1
  | .held _ => 1
def uptoBulkAll {H : Type} : List (DataW H) → Nat
  | [] => 0
  | d :: r => uptoBulk d + uptoBulkAll r
def uptoBulkEntries {H : Type} : List (Lit × DataW H) → Nat
  | [] => 0
  | x :: r => uptoBulkEntry x + uptoBulkEntries r
def uptoBulkEntry {H : Type} : Lit × DataW H → Nat
  | (.string bytes, d) => bytes.length + uptoBulk d + 1
  | (_, d) => uptoBulk d + 1
 end
def uptoSmall : (H : Type) → List (DataW H) → Bool := fun _ ds => decide (uptoBulkAll ds ≤ 1048576)
def OpenSpec.upto (s : _root_.Go.ChangeSpec) : _root_.Go.OpenSpec := { _root_.Go.OpenSpec.ofChange s with cond := some uptoSmall }

/-- 'laws.FnCandidates', WHERE WHAT IT READS IS OF BULK AT MOST 1048576: true; the input reads as it did. -/
def fnCandidatesUptoRow : OpenClaim := { program := "ytmfhaplhgaehhaa", sum := "d154b4000e9aa03de60457cb5d23e9995dd9b8402a753b7b65f58785bc824dd6", func := "loop.example/g02080/laws.FnCandidates", spec := "fnCandidates", inPlace := ["internal/bytealg.IndexByteString"], unfollowed := true, recurses := true, apart := false, narrowed := true }
def FnCandidatesUptoSaid : Prop := fnCandidatesUptoRow.holds Try.pinned (OpenSpec.upto fnCandidatesSpec)

/-- 'laws.FnExactAllRankings', WHERE WHAT IT READS IS OF BULK AT MOST 1048576: true; the input reads as it did. -/
def fnExactAllRankingsUptoRow : OpenClaim := { program := "ytmfhaplhgaehhaa", sum := "d154b4000e9aa03de60457cb5d23e9995dd9b8402a753b7b65f58785bc824dd6", func := "loop.example/g02080/laws.FnExactAllRankings", spec := "fnExactAllRankings", unfollowed := true, recurses := true, apart := false, narrowed := true }
def FnExactAllRankingsUptoSaid : Prop := fnExactAllRankingsUptoRow.holds Try.pinned (OpenSpec.upto fnExactAllRankingsSpec)

/-- 'laws.FnExactFuseAll', WHERE WHAT IT READS IS OF BULK AT MOST 1048576: true; the input reads as it did. -/
def fnExactFuseAllUptoRow : OpenClaim := { program := "ytmfhaplhgaehhaa", sum := "d154b4000e9aa03de60457cb5d23e9995dd9b8402a753b7b65f58785bc824dd6", func := "loop.example/g02080/laws.FnExactFuseAll", spec := "fnExactFuseAll", apart := false, narrowed := true }
def FnExactFuseAllUptoSaid : Prop := fnExactFuseAllUptoRow.holds Try.pinned (OpenSpec.upto fnExactFuseAllSpec)

/-- 'laws.FnExactOneEdit', WHERE WHAT IT READS IS OF BULK AT MOST 1048576: true; the input reads as it did. -/
def fnExactOneEditUptoRow : OpenClaim := { program := "ytmfhaplhgaehhaa", sum := "d154b4000e9aa03de60457cb5d23e9995dd9b8402a753b7b65f58785bc824dd6", func := "loop.example/g02080/laws.FnExactOneEdit", spec := "fnExactOneEdit", inPlace := ["internal/bytealg.IndexByteString"], unfollowed := true, recurses := true, apart := false, narrowed := true }
def FnExactOneEditUptoSaid : Prop := fnExactOneEditUptoRow.holds Try.pinned (OpenSpec.upto fnExactOneEditSpec)

/-- 'laws.FnExactFewestEdits', WHERE WHAT IT READS IS OF BULK AT MOST 1048576: true; the input reads as it did. -/
def fnExactFewestEditsUptoRow : OpenClaim := { program := "ytmfhaplhgaehhaa", sum := "d154b4000e9aa03de60457cb5d23e9995dd9b8402a753b7b65f58785bc824dd6", func := "loop.example/g02080/laws.FnExactFewestEdits", spec := "fnExactFewestEdits", inPlace := ["internal/bytealg.IndexByteString"], unfollowed := true, recurses := true, apart := false, narrowed := true }
def FnExactFewestEditsUptoSaid : Prop := fnExactFewestEditsUptoRow.holds Try.pinned (OpenSpec.upto fnExactFewestEditsSpec)

/-- 'laws.FnExactIsGenerated', WHERE WHAT IT READS IS OF BULK AT MOST 1048576: true; the input reads as it did. -/
def fnExactIsGeneratedUptoRow : OpenClaim := { program := "ytmfhaplhgaehhaa", sum := "d154b4000e9aa03de60457cb5d23e9995dd9b8402a753b7b65f58785bc824dd6", func := "loop.example/g02080/laws.FnExactIsGenerated", spec := "fnExactIsGenerated", inPlace := ["internal/bytealg.IndexByteString"], unfollowed := true, recurses := true, apart := false, narrowed := true }
def FnExactIsGeneratedUptoSaid : Prop := fnExactIsGeneratedUptoRow.holds Try.pinned (OpenSpec.upto fnExactIsGeneratedSpec)

/-- 'laws.FnExactOutputsOf', WHERE WHAT IT READS IS OF BULK AT MOST 1048576: true; the input reads as it did. -/
def fnExactOutputsOfUptoRow : OpenClaim := { program := "ytmfhaplhgaehhaa", sum := "d154b4000e9aa03de60457cb5d23e9995dd9b8402a753b7b65f58785bc824dd6", func := "loop.example/g02080/laws.FnExactOutputsOf", spec := "fnExactOutputsOf", inPlace := ["internal/bytealg.IndexByteString"], unfollowed := true, recurses := true, apart := false, narrowed := true }
def FnExactOutputsOfUptoSaid : Prop := fnExactOutputsOfUptoRow.holds Try.pinned (OpenSpec.upto fnExactOutputsOfSpec)

/-- 'laws.FnExactComposeCandidates', WHERE WHAT IT READS IS OF BULK AT MOST 1048576: true; the input reads as it did. -/
def fnExactComposeCandidatesUptoRow : OpenClaim := { program := "ytmfhaplhgaehhaa", sum := "d154b4000e9aa03de60457cb5d23e9995dd9b8402a753b7b65f58785bc824dd6", func := "loop.example/g02080/laws.FnExactComposeCandidates", spec := "fnExactComposeCandidates", inPlace := ["internal/bytealg.IndexByteString"], unfollowed := true, recurses := true, apart := false, narrowed := true }
def FnExactComposeCandidatesUptoSaid : Prop := fnExactComposeCandidatesUptoRow.holds Try.pinned (OpenSpec.upto fnExactComposeCandidatesSpec)

end Rows
end Go.Proofs.Ytmfhaplhgaehhaa
