/-
  No cell of these rows narrows 'for every input' (looked for: loops, veiled, ifaces, maps, wideKeys, modest, calm, conditions, laid).
  DERIVED. THE GIVEN ROWS OF THIS SEAT. 6 by the template 'for every input the law returns true; each argument reads behind the call as it read before'; 0 by the template 'total and deterministic' (their statements: YtdamagcfmhimfadTotals.lean).
  GIVEN WITH THE SEED: the statements are not yours to turn. If you find one false, say at which input.
  Laid BY PROGRAM, IN A SANDBOX (cutbox-rows.mjs): the forced cells as the released guide's own fill.sh prints them over the translation aecafa87892afb94… (all of the seat's roots in one cut). By AI agents, Wed Nov 11 2026. No macro, syntax, notation, axiom, sorry.
-/
import Derived.Test.YtdamagcfmhimfadChecked
import GoSem.Claim
import GoSem.ClaimJoined
import GoSem.ClaimMapViews
import Derived.JoinedTies
import Derived.KernelRfl
namespace Go.Proofs.Ytdamagcfmhimfad
/- THE CELL 'sum', in the pinned program and in every row, IS THE sha256 OF THE DUMP (.gsa) THAT YtdamagcfmhimfadProg.lean LOADS. Nothing in Lean hashes anything: it is a label: what it is worth is what the hold of that sum in a sandbox is worth. -/
noncomputable def Try.pinned : Pinned := { name := "ytdamagcfmhimfad", sum := "aecafa87892afb948ad9888b56d7159b84136cbcb43748570051b390666b381a", checked := Try.checked }
namespace Rows
def none {H : Type} : Left H := { results := [], args := [] }

/-- 'laws.FnExactCompareMarks': WHATEVER THE INPUT: true; the input reads as it did. -/
def fnExactCompareMarksSpec : ChangeSpec := { name := "fnExactCompareMarks", fn := fun _ => fun
  | [d1, d2, d3] => { results := [.lit (.bool true)], args := [d1, d2, d3] }
  | _ => none }
def fnExactCompareMarksRow : OpenClaim := { program := "ytdamagcfmhimfad", sum := "aecafa87892afb948ad9888b56d7159b84136cbcb43748570051b390666b381a", func := "loop.example/g02080/laws.FnExactCompareMarks", spec := "fnExactCompareMarks", unfollowed := true, recurses := true, apart := false }
def FnExactCompareMarksSaid : Prop := fnExactCompareMarksRow.holds Try.pinned (OpenSpec.ofChange fnExactCompareMarksSpec)

/-- ITS FALSE NEIGHBOUR: 'it returns false'. Refute it at one input. -/
def fnExactCompareMarksWrong : ChangeSpec := { name := "fnExactCompareMarks", fn := fun _ => fun
  | [d1, d2, d3] => { results := [.lit (.bool false)], args := [d1, d2, d3] }
  | _ => none }
def FnExactCompareMarksWrongFalsely : Prop := fnExactCompareMarksRow.holds Try.pinned (OpenSpec.ofChange fnExactCompareMarksWrong)

/-- 'laws.FnExactViolationsOf': WHATEVER THE INPUT: true; the input reads as it did. -/
def fnExactViolationsOfSpec : ChangeSpec := { name := "fnExactViolationsOf", fn := fun _ => fun
  | [d1, d2] => { results := [.lit (.bool true)], args := [d1, d2] }
  | _ => none }
def fnExactViolationsOfRow : OpenClaim := { program := "ytdamagcfmhimfad", sum := "aecafa87892afb948ad9888b56d7159b84136cbcb43748570051b390666b381a", func := "loop.example/g02080/laws.FnExactViolationsOf", spec := "fnExactViolationsOf", inPlace := ["internal/bytealg.IndexByteString"], unfollowed := true, recurses := true, apart := false }
def FnExactViolationsOfSaid : Prop := fnExactViolationsOfRow.holds Try.pinned (OpenSpec.ofChange fnExactViolationsOfSpec)

/-- ITS FALSE NEIGHBOUR: 'it returns false'. Refute it at one input. -/
def fnExactViolationsOfWrong : ChangeSpec := { name := "fnExactViolationsOf", fn := fun _ => fun
  | [d1, d2] => { results := [.lit (.bool false)], args := [d1, d2] }
  | _ => none }
def FnExactViolationsOfWrongFalsely : Prop := fnExactViolationsOfRow.holds Try.pinned (OpenSpec.ofChange fnExactViolationsOfWrong)

/-- 'laws.FnExactSatisfies': WHATEVER THE INPUT: true; the input reads as it did. -/
def fnExactSatisfiesSpec : ChangeSpec := { name := "fnExactSatisfies", fn := fun _ => fun
  | [d1, d2] => { results := [.lit (.bool true)], args := [d1, d2] }
  | _ => none }
def fnExactSatisfiesRow : OpenClaim := { program := "ytdamagcfmhimfad", sum := "aecafa87892afb948ad9888b56d7159b84136cbcb43748570051b390666b381a", func := "loop.example/g02080/laws.FnExactSatisfies", spec := "fnExactSatisfies", unfollowed := true, recurses := true, apart := false }
def FnExactSatisfiesSaid : Prop := fnExactSatisfiesRow.holds Try.pinned (OpenSpec.ofChange fnExactSatisfiesSpec)

/-- ITS FALSE NEIGHBOUR: 'it returns false'. Refute it at one input. -/
def fnExactSatisfiesWrong : ChangeSpec := { name := "fnExactSatisfies", fn := fun _ => fun
  | [d1, d2] => { results := [.lit (.bool false)], args := [d1, d2] }
  | _ => none }
def FnExactSatisfiesWrongFalsely : Prop := fnExactSatisfiesRow.holds Try.pinned (OpenSpec.ofChange fnExactSatisfiesWrong)

/-- 'laws.FnExactSatisfiesAll': WHATEVER THE INPUT: true; the input reads as it did. -/
def fnExactSatisfiesAllSpec : ChangeSpec := { name := "fnExactSatisfiesAll", fn := fun _ => fun
  | [d1, d2] => { results := [.lit (.bool true)], args := [d1, d2] }
  | _ => none }
def fnExactSatisfiesAllRow : OpenClaim := { program := "ytdamagcfmhimfad", sum := "aecafa87892afb948ad9888b56d7159b84136cbcb43748570051b390666b381a", func := "loop.example/g02080/laws.FnExactSatisfiesAll", spec := "fnExactSatisfiesAll", unfollowed := true, recurses := true, apart := false }
def FnExactSatisfiesAllSaid : Prop := fnExactSatisfiesAllRow.holds Try.pinned (OpenSpec.ofChange fnExactSatisfiesAllSpec)

/-- ITS FALSE NEIGHBOUR: 'it returns false'. Refute it at one input. -/
def fnExactSatisfiesAllWrong : ChangeSpec := { name := "fnExactSatisfiesAll", fn := fun _ => fun
  | [d1, d2] => { results := [.lit (.bool false)], args := [d1, d2] }
  | _ => none }
def FnExactSatisfiesAllWrongFalsely : Prop := fnExactSatisfiesAllRow.holds Try.pinned (OpenSpec.ofChange fnExactSatisfiesAllWrong)

/-- 'laws.FnExactFormatRanking': WHATEVER THE INPUT: true; the input reads as it did. -/
def fnExactFormatRankingSpec : ChangeSpec := { name := "fnExactFormatRanking", fn := fun _ => fun
  | [d1, d2] => { results := [.lit (.bool true)], args := [d1, d2] }
  | _ => none }
def fnExactFormatRankingRow : OpenClaim := { program := "ytdamagcfmhimfad", sum := "aecafa87892afb948ad9888b56d7159b84136cbcb43748570051b390666b381a", func := "loop.example/g02080/laws.FnExactFormatRanking", spec := "fnExactFormatRanking", inPlace := ["internal/abi.NoEscape", "internal/bytealg.MakeNoZero"], unfollowed := true, recurses := true, apart := false }
def FnExactFormatRankingSaid : Prop := fnExactFormatRankingRow.holds Try.pinned (OpenSpec.ofChange fnExactFormatRankingSpec)

/-- ITS FALSE NEIGHBOUR: 'it returns false'. Refute it at one input. -/
def fnExactFormatRankingWrong : ChangeSpec := { name := "fnExactFormatRanking", fn := fun _ => fun
  | [d1, d2] => { results := [.lit (.bool false)], args := [d1, d2] }
  | _ => none }
def FnExactFormatRankingWrongFalsely : Prop := fnExactFormatRankingRow.holds Try.pinned (OpenSpec.ofChange fnExactFormatRankingWrong)

/-- 'laws.FnExactProfileOf': WHATEVER THE INPUT: true; the input reads as it did. -/
def fnExactProfileOfSpec : ChangeSpec := { name := "fnExactProfileOf", fn := fun _ => fun
  | [d1, d2] => { results := [.lit (.bool true)], args := [d1, d2] }
  | _ => none }
def fnExactProfileOfRow : OpenClaim := { program := "ytdamagcfmhimfad", sum := "aecafa87892afb948ad9888b56d7159b84136cbcb43748570051b390666b381a", func := "loop.example/g02080/laws.FnExactProfileOf", spec := "fnExactProfileOf", inPlace := ["internal/bytealg.IndexByteString"], unfollowed := true, recurses := true, apart := false }
def FnExactProfileOfSaid : Prop := fnExactProfileOfRow.holds Try.pinned (OpenSpec.ofChange fnExactProfileOfSpec)

/-- ITS FALSE NEIGHBOUR: 'it returns false'. Refute it at one input. -/
def fnExactProfileOfWrong : ChangeSpec := { name := "fnExactProfileOf", fn := fun _ => fun
  | [d1, d2] => { results := [.lit (.bool false)], args := [d1, d2] }
  | _ => none }
def FnExactProfileOfWrongFalsely : Prop := fnExactProfileOfRow.holds Try.pinned (OpenSpec.ofChange fnExactProfileOfWrong)

/- THE SECOND FORM. 'bulk': how many values and letters a reading holds, each counted each time it is reached (what is shared counts as often as it is met; a slice's spare places count too). A statement '..UptoSaid' is the law's where the arguments, and the package variables that the reading takes, are together of bulk at most 1048576: NARROWER than '..Said'. Prove '..Said' where nothing that the law and all that it calls make is longer than what came in: it says more and counts as full. Else prove '..UptoSaid'. A law counts once. -/
mutual
def uptoBulk {H : Type} : DataW H → Nat
  | .lit (.string bytes) => bytes.length + 1
  | .lit _ => 1
  | .nil => 1
  | .ptr d => uptoBulk d + 1
  | .slice elems spare => uptoBulkAll elems + uptoBulkAll spare + 1
  | .agg parts => uptoBulkAll parts + 1
  | .iface _ d => uptoBulk d + 1
  | .map entries => uptoBulkEntries entries + 1
  | .held _ => 1
def uptoBulkAll {H : Type} : List (DataW H) → Nat
  | [] => 0
  | d :: r => uptoBulk d + uptoBulkAll r
def uptoBulkEntries {H : Type} : List (Lit × DataW H) → Nat
  | [] => 0
  | x :: r => uptoBulkEntry x + uptoBulkEntries r
def uptoBulkEntry {H : Type} : Lit × DataW H → Nat
  | (.string bytes, d) => bytes.length + uptoBulk d + 1
  | (_, d) => uptoBulk d + 1
 end
def uptoSmall : (H : Type) → List (DataW H) → Bool := fun _ ds => decide (uptoBulkAll ds ≤ 1048576)
def OpenSpec.upto (s : _root_.Go.ChangeSpec) : _root_.Go.OpenSpec := { _root_.Go.OpenSpec.ofChange s with cond := some uptoSmall }

/-- 'laws.FnExactCompareMarks', WHERE WHAT IT READS IS OF BULK AT MOST 1048576: true; the input reads as it did. -/
def fnExactCompareMarksUptoRow : OpenClaim := { program := "ytdamagcfmhimfad", sum := "aecafa87892afb948ad9888b56d7159b84136cbcb43748570051b390666b381a", func := "loop.example/g02080/laws.FnExactCompareMarks", spec := "fnExactCompareMarks", unfollowed := true, recurses := true, apart := false, narrowed := true }
def FnExactCompareMarksUptoSaid : Prop := fnExactCompareMarksUptoRow.holds Try.pinned (OpenSpec.upto fnExactCompareMarksSpec)

/-- 'laws.FnExactViolationsOf', WHERE WHAT IT READS IS OF BULK AT MOST 1048576: true; the input reads as it did. -/
def fnExactViolationsOfUptoRow : OpenClaim := { program := "ytdamagcfmhimfad", sum := "aecafa87892afb948ad9888b56d7159b84136cbcb43748570051b390666b381a", func := "loop.example/g02080/laws.FnExactViolationsOf", spec := "fnExactViolationsOf", inPlace := ["internal/bytealg.IndexByteString"], unfollowed := true, recurses := true, apart := false, narrowed := true }
def FnExactViolationsOfUptoSaid : Prop := fnExactViolationsOfUptoRow.holds Try.pinned (OpenSpec.upto fnExactViolationsOfSpec)

/-- 'laws.FnExactSatisfies', WHERE WHAT IT READS IS OF BULK AT MOST 1048576: true; the input reads as it did. -/
def fnExactSatisfiesUptoRow : OpenClaim := { program := "ytdamagcfmhimfad", sum := "aecafa87892afb948ad9888b56d7159b84136cbcb43748570051b390666b381a", func := "loop.example/g02080/laws.FnExactSatisfies", spec := "fnExactSatisfies", unfollowed := true, recurses := true, apart := false, narrowed := true }
def FnExactSatisfiesUptoSaid : Prop := fnExactSatisfiesUptoRow.holds Try.pinned (OpenSpec.upto fnExactSatisfiesSpec)

/-- 'laws.FnExactSatisfiesAll', WHERE WHAT IT READS IS OF BULK AT MOST 1048576: true; the input reads as it did. -/
def fnExactSatisfiesAllUptoRow : OpenClaim := { program := "ytdamagcfmhimfad", sum := "aecafa87892afb948ad9888b56d7159b84136cbcb43748570051b390666b381a", func := "loop.example/g02080/laws.FnExactSatisfiesAll", spec := "fnExactSatisfiesAll", unfollowed := true, recurses := true, apart := false, narrowed := true }
def FnExactSatisfiesAllUptoSaid : Prop := fnExactSatisfiesAllUptoRow.holds Try.pinned (OpenSpec.upto fnExactSatisfiesAllSpec)

/-- 'laws.FnExactFormatRanking', WHERE WHAT IT READS IS OF BULK AT MOST 1048576: true; the input reads as it did. -/
def fnExactFormatRankingUptoRow : OpenClaim := { program := "ytdamagcfmhimfad", sum := "aecafa87892afb948ad9888b56d7159b84136cbcb43748570051b390666b381a", func := "loop.example/g02080/laws.FnExactFormatRanking", spec := "fnExactFormatRanking", inPlace := ["internal/abi.NoEscape", "internal/bytealg.MakeNoZero"], unfollowed := true, recurses := true, apart := false, narrowed := true }
def FnExactFormatRankingUptoSaid : Prop := fnExactFormatRankingUptoRow.holds Try.pinned (OpenSpec.upto fnExactFormatRankingSpec)

/-- 'laws.FnExactProfileOf', WHERE WHAT IT READS IS OF BULK AT MOST 1048576: true; the input reads as it did. -/
def fnExactProfileOfUptoRow : OpenClaim := { program := "ytdamagcfmhimfad", sum := "aecafa87892afb948ad9888b56d7159b84136cbcb43748570051b390666b381a", func := "loop.example/g02080/laws.FnExactProfileOf", spec := "fnExactProfileOf", inPlace := ["internal/bytealg.IndexByteString"], unfollowed := true, recurses := true, apart := false, narrowed := true }
def FnExactProfileOfUptoSaid : Prop := fnExactProfileOfUptoRow.holds Try.pinned (OpenSpec.upto fnExactProfileOfSpec)

end Rows
end Go.Proofs.Ytdamagcfmhimfad
