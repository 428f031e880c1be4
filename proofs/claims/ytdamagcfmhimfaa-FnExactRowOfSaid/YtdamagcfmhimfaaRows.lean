/-
  No cell of these rows narrows 'for every input' (looked for: loops, veiled, ifaces, maps, wideKeys, modest, calm, conditions, laid).
  DERIVED. THE GIVEN ROWS OF THIS SEAT. 12 by the template 'for every input the law returns true; each argument reads behind the call as it read before'; 0 by the template 'total and deterministic' (their statements: YtdamagcfmhimfaaTotals.lean).
  GIVEN WITH THE SEED: the statements are not yours to turn. If you find one false, say at which input.
  Laid BY PROGRAM, IN A SANDBOX (cutbox-rows.mjs): the forced cells as the released guide's own fill.sh prints them over the translation 92c0badc8f4b9bb8… (all of the seat's roots in one cut). By AI agents, Wed Nov 11 2026. No macro, syntax, notation, axiom, sorry.
-/
import Derived.Test.YtdamagcfmhimfaaChecked
import GoSem.Claim
import GoSem.ClaimJoined
import GoSem.ClaimMapViews
import Derived.JoinedTies
import Derived.KernelRfl
namespace Go.Proofs.Ytdamagcfmhimfaa
/- THE CELL 'sum', in the pinned program and in every row, IS THE sha256 OF THE DUMP (.gsa) THAT YtdamagcfmhimfaaProg.lean LOADS. Nothing in Lean hashes anything: it is a label: what it is worth is what the hold of that sum in a sandbox is worth. -/
noncomputable def Try.pinned : Pinned := { name := "ytdamagcfmhimfaa", sum := "92c0badc8f4b9bb87df22441a0da334eb567e39f526906dd58289de918983c95", checked := Try.checked }
namespace Rows
def none {H : Type} : Left H := { results := [], args := [] }

/-- 'laws.FnExactIsMarkedness': WHATEVER THE INPUT: true; the input reads as it did. -/
def fnExactIsMarkednessSpec : ChangeSpec := { name := "fnExactIsMarkedness", fn := fun _ => fun
  | [d] => { results := [.lit (.bool true)], args := [d] }
  | _ => none }
def fnExactIsMarkednessRow : OpenClaim := { program := "ytdamagcfmhimfaa", sum := "92c0badc8f4b9bb87df22441a0da334eb567e39f526906dd58289de918983c95", func := "loop.example/g02080/laws.FnExactIsMarkedness", spec := "fnExactIsMarkedness", apart := false }
def FnExactIsMarkednessSaid : Prop := fnExactIsMarkednessRow.holds Try.pinned (OpenSpec.ofChange fnExactIsMarkednessSpec)

/-- ITS FALSE NEIGHBOUR: 'it returns false'. Refute it at one input. -/
def fnExactIsMarkednessWrong : ChangeSpec := { name := "fnExactIsMarkedness", fn := fun _ => fun
  | [d] => { results := [.lit (.bool false)], args := [d] }
  | _ => none }
def FnExactIsMarkednessWrongFalsely : Prop := fnExactIsMarkednessRow.holds Try.pinned (OpenSpec.ofChange fnExactIsMarkednessWrong)

/-- 'laws.FnExactConstraintNames': WHATEVER THE INPUT: true; the input reads as it did. -/
def fnExactConstraintNamesSpec : ChangeSpec := { name := "fnExactConstraintNames", fn := fun _ => fun
  | [] => { results := [.lit (.bool true)], args := [] }
  | _ => none }
def fnExactConstraintNamesRow : OpenClaim := { program := "ytdamagcfmhimfaa", sum := "92c0badc8f4b9bb87df22441a0da334eb567e39f526906dd58289de918983c95", func := "loop.example/g02080/laws.FnExactConstraintNames", spec := "fnExactConstraintNames", apart := false }
def FnExactConstraintNamesSaid : Prop := fnExactConstraintNamesRow.holds Try.pinned (OpenSpec.ofChange fnExactConstraintNamesSpec)

/-- ITS FALSE NEIGHBOUR: 'it returns false'. Refute it at one input. -/
def fnExactConstraintNamesWrong : ChangeSpec := { name := "fnExactConstraintNames", fn := fun _ => fun
  | [] => { results := [.lit (.bool false)], args := [] }
  | _ => none }
def FnExactConstraintNamesWrongFalsely : Prop := fnExactConstraintNamesRow.holds Try.pinned (OpenSpec.ofChange fnExactConstraintNamesWrong)

/-- 'laws.FnExactIsRow': WHATEVER THE INPUT: true; the input reads as it did. -/
def fnExactIsRowSpec : ChangeSpec := { name := "fnExactIsRow", fn := fun _ => fun
  | [d1, d2] => { results := [.lit (.bool true)], args := [d1, d2] }
  | _ => none }
def fnExactIsRowRow : OpenClaim := { program := "ytdamagcfmhimfaa", sum := "92c0badc8f4b9bb87df22441a0da334eb567e39f526906dd58289de918983c95", func := "loop.example/g02080/laws.FnExactIsRow", spec := "fnExactIsRow", apart := false }
def FnExactIsRowSaid : Prop := fnExactIsRowRow.holds Try.pinned (OpenSpec.ofChange fnExactIsRowSpec)

/-- ITS FALSE NEIGHBOUR: 'it returns false'. Refute it at one input. -/
def fnExactIsRowWrong : ChangeSpec := { name := "fnExactIsRow", fn := fun _ => fun
  | [d1, d2] => { results := [.lit (.bool false)], args := [d1, d2] }
  | _ => none }
def FnExactIsRowWrongFalsely : Prop := fnExactIsRowRow.holds Try.pinned (OpenSpec.ofChange fnExactIsRowWrong)

/-- 'laws.FnExactAreConstraints': WHATEVER THE INPUT: true; the input reads as it did. -/
def fnExactAreConstraintsSpec : ChangeSpec := { name := "fnExactAreConstraints", fn := fun _ => fun
  | [d] => { results := [.lit (.bool true)], args := [d] }
  | _ => none }
def fnExactAreConstraintsRow : OpenClaim := { program := "ytdamagcfmhimfaa", sum := "92c0badc8f4b9bb87df22441a0da334eb567e39f526906dd58289de918983c95", func := "loop.example/g02080/laws.FnExactAreConstraints", spec := "fnExactAreConstraints", apart := false }
def FnExactAreConstraintsSaid : Prop := fnExactAreConstraintsRow.holds Try.pinned (OpenSpec.ofChange fnExactAreConstraintsSpec)

/-- ITS FALSE NEIGHBOUR: 'it returns false'. Refute it at one input. -/
def fnExactAreConstraintsWrong : ChangeSpec := { name := "fnExactAreConstraints", fn := fun _ => fun
  | [d] => { results := [.lit (.bool false)], args := [d] }
  | _ => none }
def FnExactAreConstraintsWrongFalsely : Prop := fnExactAreConstraintsRow.holds Try.pinned (OpenSpec.ofChange fnExactAreConstraintsWrong)

/-- 'laws.FnExactIsTrivial': WHATEVER THE INPUT: true; the input reads as it did. -/
def fnExactIsTrivialSpec : ChangeSpec := { name := "fnExactIsTrivial", fn := fun _ => fun
  | [d] => { results := [.lit (.bool true)], args := [d] }
  | _ => none }
def fnExactIsTrivialRow : OpenClaim := { program := "ytdamagcfmhimfaa", sum := "92c0badc8f4b9bb87df22441a0da334eb567e39f526906dd58289de918983c95", func := "loop.example/g02080/laws.FnExactIsTrivial", spec := "fnExactIsTrivial", apart := false }
def FnExactIsTrivialSaid : Prop := fnExactIsTrivialRow.holds Try.pinned (OpenSpec.ofChange fnExactIsTrivialSpec)

/-- ITS FALSE NEIGHBOUR: 'it returns false'. Refute it at one input. -/
def fnExactIsTrivialWrong : ChangeSpec := { name := "fnExactIsTrivial", fn := fun _ => fun
  | [d] => { results := [.lit (.bool false)], args := [d] }
  | _ => none }
def FnExactIsTrivialWrongFalsely : Prop := fnExactIsTrivialRow.holds Try.pinned (OpenSpec.ofChange fnExactIsTrivialWrong)

/-- 'laws.FnExactCountFinalVoiced': WHATEVER THE INPUT: true; the input reads as it did. -/
def fnExactCountFinalVoicedSpec : ChangeSpec := { name := "fnExactCountFinalVoiced", fn := fun _ => fun
  | [d] => { results := [.lit (.bool true)], args := [d] }
  | _ => none }
def fnExactCountFinalVoicedRow : OpenClaim := { program := "ytdamagcfmhimfaa", sum := "92c0badc8f4b9bb87df22441a0da334eb567e39f526906dd58289de918983c95", func := "loop.example/g02080/laws.FnExactCountFinalVoiced", spec := "fnExactCountFinalVoiced", inPlace := ["internal/bytealg.IndexByteString"], unfollowed := true, recurses := true, apart := false }
def FnExactCountFinalVoicedSaid : Prop := fnExactCountFinalVoicedRow.holds Try.pinned (OpenSpec.ofChange fnExactCountFinalVoicedSpec)

/-- ITS FALSE NEIGHBOUR: 'it returns false'. Refute it at one input. -/
def fnExactCountFinalVoicedWrong : ChangeSpec := { name := "fnExactCountFinalVoiced", fn := fun _ => fun
  | [d] => { results := [.lit (.bool false)], args := [d] }
  | _ => none }
def FnExactCountFinalVoicedWrongFalsely : Prop := fnExactCountFinalVoicedRow.holds Try.pinned (OpenSpec.ofChange fnExactCountFinalVoicedWrong)

/-- 'laws.FnCandidates': WHATEVER THE INPUT: true; the input reads as it did. -/
def fnCandidatesSpec : ChangeSpec := { name := "fnCandidates", fn := fun _ => fun
  | [d] => { results := [.lit (.bool true)], args := [d] }
  | _ => none }
def fnCandidatesRow : OpenClaim := { program := "ytdamagcfmhimfaa", sum := "92c0badc8f4b9bb87df22441a0da334eb567e39f526906dd58289de918983c95", func := "loop.example/g02080/laws.FnCandidates", spec := "fnCandidates", inPlace := ["internal/bytealg.IndexByteString"], unfollowed := true, recurses := true, apart := false }
def FnCandidatesSaid : Prop := fnCandidatesRow.holds Try.pinned (OpenSpec.ofChange fnCandidatesSpec)

/-- ITS FALSE NEIGHBOUR: 'it returns false'. Refute it at one input. -/
def fnCandidatesWrong : ChangeSpec := { name := "fnCandidates", fn := fun _ => fun
  | [d] => { results := [.lit (.bool false)], args := [d] }
  | _ => none }
def FnCandidatesWrongFalsely : Prop := fnCandidatesRow.holds Try.pinned (OpenSpec.ofChange fnCandidatesWrong)

/-- 'laws.FnExactRowOf': WHATEVER THE INPUT: true; the input reads as it did. -/
def fnExactRowOfSpec : ChangeSpec := { name := "fnExactRowOf", fn := fun _ => fun
  | [d1, d2] => { results := [.lit (.bool true)], args := [d1, d2] }
  | _ => none }
def fnExactRowOfRow : OpenClaim := { program := "ytdamagcfmhimfaa", sum := "92c0badc8f4b9bb87df22441a0da334eb567e39f526906dd58289de918983c95", func := "loop.example/g02080/laws.FnExactRowOf", spec := "fnExactRowOf", apart := false }
def FnExactRowOfSaid : Prop := fnExactRowOfRow.holds Try.pinned (OpenSpec.ofChange fnExactRowOfSpec)

/-- ITS FALSE NEIGHBOUR: 'it returns false'. Refute it at one input. -/
def fnExactRowOfWrong : ChangeSpec := { name := "fnExactRowOf", fn := fun _ => fun
  | [d1, d2] => { results := [.lit (.bool false)], args := [d1, d2] }
  | _ => none }
def FnExactRowOfWrongFalsely : Prop := fnExactRowOfRow.holds Try.pinned (OpenSpec.ofChange fnExactRowOfWrong)

/-- 'laws.FnExactFormatWL': WHATEVER THE INPUT: true; the input reads as it did. -/
def fnExactFormatWLSpec : ChangeSpec := { name := "fnExactFormatWL", fn := fun _ => fun
  | [d] => { results := [.lit (.bool true)], args := [d] }
  | _ => none }
def fnExactFormatWLRow : OpenClaim := { program := "ytdamagcfmhimfaa", sum := "92c0badc8f4b9bb87df22441a0da334eb567e39f526906dd58289de918983c95", func := "loop.example/g02080/laws.FnExactFormatWL", spec := "fnExactFormatWL", apart := false }
def FnExactFormatWLSaid : Prop := fnExactFormatWLRow.holds Try.pinned (OpenSpec.ofChange fnExactFormatWLSpec)

/-- ITS FALSE NEIGHBOUR: 'it returns false'. Refute it at one input. -/
def fnExactFormatWLWrong : ChangeSpec := { name := "fnExactFormatWL", fn := fun _ => fun
  | [d] => { results := [.lit (.bool false)], args := [d] }
  | _ => none }
def FnExactFormatWLWrongFalsely : Prop := fnExactFormatWLRow.holds Try.pinned (OpenSpec.ofChange fnExactFormatWLWrong)

/-- 'laws.FnExactCountNasalVoiceless': WHATEVER THE INPUT: true; the input reads as it did. -/
def fnExactCountNasalVoicelessSpec : ChangeSpec := { name := "fnExactCountNasalVoiceless", fn := fun _ => fun
  | [d] => { results := [.lit (.bool true)], args := [d] }
  | _ => none }
def fnExactCountNasalVoicelessRow : OpenClaim := { program := "ytdamagcfmhimfaa", sum := "92c0badc8f4b9bb87df22441a0da334eb567e39f526906dd58289de918983c95", func := "loop.example/g02080/laws.FnExactCountNasalVoiceless", spec := "fnExactCountNasalVoiceless", inPlace := ["internal/bytealg.IndexByteString"], unfollowed := true, recurses := true, apart := false }
def FnExactCountNasalVoicelessSaid : Prop := fnExactCountNasalVoicelessRow.holds Try.pinned (OpenSpec.ofChange fnExactCountNasalVoicelessSpec)

/-- ITS FALSE NEIGHBOUR: 'it returns false'. Refute it at one input. -/
def fnExactCountNasalVoicelessWrong : ChangeSpec := { name := "fnExactCountNasalVoiceless", fn := fun _ => fun
  | [d] => { results := [.lit (.bool false)], args := [d] }
  | _ => none }
def FnExactCountNasalVoicelessWrongFalsely : Prop := fnExactCountNasalVoicelessRow.holds Try.pinned (OpenSpec.ofChange fnExactCountNasalVoicelessWrong)

/-- 'laws.FnExactCountVoiced': WHATEVER THE INPUT: true; the input reads as it did. -/
def fnExactCountVoicedSpec : ChangeSpec := { name := "fnExactCountVoiced", fn := fun _ => fun
  | [d] => { results := [.lit (.bool true)], args := [d] }
  | _ => none }
def fnExactCountVoicedRow : OpenClaim := { program := "ytdamagcfmhimfaa", sum := "92c0badc8f4b9bb87df22441a0da334eb567e39f526906dd58289de918983c95", func := "loop.example/g02080/laws.FnExactCountVoiced", spec := "fnExactCountVoiced", inPlace := ["internal/bytealg.IndexByteString"], unfollowed := true, recurses := true, apart := false }
def FnExactCountVoicedSaid : Prop := fnExactCountVoicedRow.holds Try.pinned (OpenSpec.ofChange fnExactCountVoicedSpec)

/-- ITS FALSE NEIGHBOUR: 'it returns false'. Refute it at one input. -/
def fnExactCountVoicedWrong : ChangeSpec := { name := "fnExactCountVoiced", fn := fun _ => fun
  | [d] => { results := [.lit (.bool false)], args := [d] }
  | _ => none }
def FnExactCountVoicedWrongFalsely : Prop := fnExactCountVoicedRow.holds Try.pinned (OpenSpec.ofChange fnExactCountVoicedWrong)

/-- 'laws.FnExactIsImpossible': WHATEVER THE INPUT: true; the input reads as it did. -/
def fnExactIsImpossibleSpec : ChangeSpec := { name := "fnExactIsImpossible", fn := fun _ => fun
  | [d] => { results := [.lit (.bool true)], args := [d] }
  | _ => none }
def fnExactIsImpossibleRow : OpenClaim := { program := "ytdamagcfmhimfaa", sum := "92c0badc8f4b9bb87df22441a0da334eb567e39f526906dd58289de918983c95", func := "loop.example/g02080/laws.FnExactIsImpossible", spec := "fnExactIsImpossible", apart := false }
def FnExactIsImpossibleSaid : Prop := fnExactIsImpossibleRow.holds Try.pinned (OpenSpec.ofChange fnExactIsImpossibleSpec)

/-- ITS FALSE NEIGHBOUR: 'it returns false'. Refute it at one input. -/
def fnExactIsImpossibleWrong : ChangeSpec := { name := "fnExactIsImpossible", fn := fun _ => fun
  | [d] => { results := [.lit (.bool false)], args := [d] }
  | _ => none }
def FnExactIsImpossibleWrongFalsely : Prop := fnExactIsImpossibleRow.holds Try.pinned (OpenSpec.ofChange fnExactIsImpossibleWrong)

/- THE SECOND FORM. 'bulk': how many values and letters a reading holds, each counted each time it is reached (what is shared counts as often as it is met; a slice's spare places count too). A statement '..UptoSaid' is the law's where the arguments, and the package variables that the reading takes, are together of bulk at most 1048576: NARROWER than '..Said'. Prove '..Said' where nothing that the law and all that it calls make is longer than what came in: it says more and counts as full. Else prove '..UptoSaid'. A law counts once. -/
mutual
def uptoBulk {H : Type} : DataW H → Nat
  | .lit (.string bytes) => bytes.length + 1
  | .lit _ => 1
  | .nil => 1
  | .ptr d => uptoBulk d + 1
  | .slice elems spare => uptoBulkAll elems + uptoBulkAll spare + 1
  | .agg parts => uptoBulkAll parts + 1
  | .iface _ d => uptoBulk d + 1
  | .map entries => uptoBulkEntries entries + 1
  | .held _ => 1
def uptoBulkAll {H : Type} : List (DataW H) → Nat
  | [] => 0
  | d :: r => uptoBulk d + uptoBulkAll r
def uptoBulkEntries {H : Type} : List (Lit × DataW H) → Nat
  | [] => 0
  | x :: r => uptoBulkEntry x + uptoBulkEntries r
def uptoBulkEntry {H : Type} : Lit × DataW H → Nat
  | (.string bytes, d) => bytes.length + uptoBulk d + 1
  | (_, d) => uptoBulk d + 1
 end
def uptoSmall : (H : Type) → List (DataW H) → Bool := fun _ ds => decide (uptoBulkAll ds ≤ 1048576)
def OpenSpec.upto (s : _root_.Go.ChangeSpec) : _root_.Go.OpenSpec := { _root_.Go.OpenSpec.ofChange s with cond := some uptoSmall }

/-- 'laws.FnExactIsMarkedness', WHERE WHAT IT READS IS OF BULK AT MOST 1048576: true; the input reads as it did. -/
def fnExactIsMarkednessUptoRow : OpenClaim := { program := "ytdamagcfmhimfaa", sum := "92c0badc8f4b9bb87df22441a0da334eb567e39f526906dd58289de918983c95", func := "loop.example/g02080/laws.FnExactIsMarkedness", spec := "fnExactIsMarkedness", apart := false, narrowed := true }
def FnExactIsMarkednessUptoSaid : Prop := fnExactIsMarkednessUptoRow.holds Try.pinned (OpenSpec.upto fnExactIsMarkednessSpec)

/-- 'laws.FnExactConstraintNames', WHERE WHAT IT READS IS OF BULK AT MOST 1048576: true; the input reads as it did. -/
def fnExactConstraintNamesUptoRow : OpenClaim := { program := "ytdamagcfmhimfaa", sum := "92c0badc8f4b9bb87df22441a0da334eb567e39f526906dd58289de918983c95", func := "loop.example/g02080/laws.FnExactConstraintNames", spec := "fnExactConstraintNames", apart := false, narrowed := true }
def FnExactConstraintNamesUptoSaid : Prop := fnExactConstraintNamesUptoRow.holds Try.pinned (OpenSpec.upto fnExactConstraintNamesSpec)

/-- 'laws.FnExactIsRow', WHERE WHAT IT READS IS OF BULK AT MOST 1048576: true; the input reads as it did. -/
def fnExactIsRowUptoRow : OpenClaim := { program := "ytdamagcfmhimfaa", sum := "92c0badc8f4b9bb87df22441a0da334eb567e39f526906dd58289de918983c95", func := "loop.example/g02080/laws.FnExactIsRow", spec := "fnExactIsRow", apart := false, narrowed := true }
def FnExactIsRowUptoSaid : Prop := fnExactIsRowUptoRow.holds Try.pinned (OpenSpec.upto fnExactIsRowSpec)

/-- 'laws.FnExactAreConstraints', WHERE WHAT IT READS IS OF BULK AT MOST 1048576: true; the input reads as it did. -/
def fnExactAreConstraintsUptoRow : OpenClaim := { program := "ytdamagcfmhimfaa", sum := "92c0badc8f4b9bb87df22441a0da334eb567e39f526906dd58289de918983c95", func := "loop.example/g02080/laws.FnExactAreConstraints", spec := "fnExactAreConstraints", apart := false, narrowed := true }
def FnExactAreConstraintsUptoSaid : Prop := fnExactAreConstraintsUptoRow.holds Try.pinned (OpenSpec.upto fnExactAreConstraintsSpec)

/-- 'laws.FnExactIsTrivial', WHERE WHAT IT READS IS OF BULK AT MOST 1048576: true; the input reads as it did. -/
def fnExactIsTrivialUptoRow : OpenClaim := { program := "ytdamagcfmhimfaa", sum := "92c0badc8f4b9bb87df22441a0da334eb567e39f526906dd58289de918983c95", func := "loop.example/g02080/laws.FnExactIsTrivial", spec := "fnExactIsTrivial", apart := false, narrowed := true }
def FnExactIsTrivialUptoSaid : Prop := fnExactIsTrivialUptoRow.holds Try.pinned (OpenSpec.upto fnExactIsTrivialSpec)

/-- 'laws.FnExactCountFinalVoiced', WHERE WHAT IT READS IS OF BULK AT MOST 1048576: true; the input reads as it did. -/
def fnExactCountFinalVoicedUptoRow : OpenClaim := { program := "ytdamagcfmhimfaa", sum := "92c0badc8f4b9bb87df22441a0da334eb567e39f526906dd58289de918983c95", func := "loop.example/g02080/laws.FnExactCountFinalVoiced", spec := "fnExactCountFinalVoiced", inPlace := ["internal/bytealg.IndexByteString"], unfollowed := true, recurses := true, apart := false, narrowed := true }
def FnExactCountFinalVoicedUptoSaid : Prop := fnExactCountFinalVoicedUptoRow.holds Try.pinned (OpenSpec.upto fnExactCountFinalVoicedSpec)

/-- 'laws.FnCandidates', WHERE WHAT IT READS IS OF BULK AT MOST 1048576: true; the input reads as it did. -/
def fnCandidatesUptoRow : OpenClaim := { program := "ytdamagcfmhimfaa", sum := "92c0badc8f4b9bb87df22441a0da334eb567e39f526906dd58289de918983c95", func := "loop.example/g02080/laws.FnCandidates", spec := "fnCandidates", inPlace := ["internal/bytealg.IndexByteString"], unfollowed := true, recurses := true, apart := false, narrowed := true }
def FnCandidatesUptoSaid : Prop := fnCandidatesUptoRow.holds Try.pinned (OpenSpec.upto fnCandidatesSpec)

/-- 'laws.FnExactRowOf', WHERE WHAT IT READS IS OF BULK AT MOST 1048576: true; the input reads as it did. -/
def fnExactRowOfUptoRow : OpenClaim := { program := "ytdamagcfmhimfaa", sum := "92c0badc8f4b9bb87df22441a0da334eb567e39f526906dd58289de918983c95", func := "loop.example/g02080/laws.FnExactRowOf", spec := "fnExactRowOf", apart := false, narrowed := true }
def FnExactRowOfUptoSaid : Prop := fnExactRowOfUptoRow.holds Try.pinned (OpenSpec.upto fnExactRowOfSpec)

/-- 'laws.FnExactFormatWL', WHERE WHAT IT READS IS OF BULK AT MOST 1048576: true; the input reads as it did. -/
def fnExactFormatWLUptoRow : OpenClaim := { program := "ytdamagcfmhimfaa", sum := "92c0badc8f4b9bb87df22441a0da334eb567e39f526906dd58289de918983c95", func := "loop.example/g02080/laws.FnExactFormatWL", spec := "fnExactFormatWL", apart := false, narrowed := true }
def FnExactFormatWLUptoSaid : Prop := fnExactFormatWLUptoRow.holds Try.pinned (OpenSpec.upto fnExactFormatWLSpec)

/-- 'laws.FnExactCountNasalVoiceless', WHERE WHAT IT READS IS OF BULK AT MOST 1048576: true; the input reads as it did. -/
def fnExactCountNasalVoicelessUptoRow : OpenClaim := { program := "ytdamagcfmhimfaa", sum := "92c0badc8f4b9bb87df22441a0da334eb567e39f526906dd58289de918983c95", func := "loop.example/g02080/laws.FnExactCountNasalVoiceless", spec := "fnExactCountNasalVoiceless", inPlace := ["internal/bytealg.IndexByteString"], unfollowed := true, recurses := true, apart := false, narrowed := true }
def FnExactCountNasalVoicelessUptoSaid : Prop := fnExactCountNasalVoicelessUptoRow.holds Try.pinned (OpenSpec.upto fnExactCountNasalVoicelessSpec)

/-- 'laws.FnExactCountVoiced', WHERE WHAT IT READS IS OF BULK AT MOST 1048576: true; the input reads as it did. -/
def fnExactCountVoicedUptoRow : OpenClaim := { program := "ytdamagcfmhimfaa", sum := "92c0badc8f4b9bb87df22441a0da334eb567e39f526906dd58289de918983c95", func := "loop.example/g02080/laws.FnExactCountVoiced", spec := "fnExactCountVoiced", inPlace := ["internal/bytealg.IndexByteString"], unfollowed := true, recurses := true, apart := false, narrowed := true }
def FnExactCountVoicedUptoSaid : Prop := fnExactCountVoicedUptoRow.holds Try.pinned (OpenSpec.upto fnExactCountVoicedSpec)

/-- 'laws.FnExactIsImpossible', WHERE WHAT IT READS IS OF BULK AT MOST 1048576: true; the input reads as it did. -/
def fnExactIsImpossibleUptoRow : OpenClaim := { program := "ytdamagcfmhimfaa", sum := "92c0badc8f4b9bb87df22441a0da334eb567e39f526906dd58289de918983c95", func := "loop.example/g02080/laws.FnExactIsImpossible", spec := "fnExactIsImpossible", apart := false, narrowed := true }
def FnExactIsImpossibleUptoSaid : Prop := fnExactIsImpossibleUptoRow.holds Try.pinned (OpenSpec.upto fnExactIsImpossibleSpec)

end Rows
end Go.Proofs.Ytdamagcfmhimfaa
