/-
  No cell of these rows narrows 'for every input' (looked for: loops, veiled, ifaces, maps, wideKeys, modest, calm, conditions, laid).
  DERIVED. THE GIVEN ROWS OF THIS SEAT. 11 by the template 'for every input the law returns true; each argument reads behind the call as it read before'; 0 by the template 'total and deterministic' (their statements: YtdamagcfmhimfacTotals.lean).
  GIVEN WITH THE SEED: the statements are not yours to turn. If you find one false, say at which input.
  Laid BY PROGRAM, IN A SANDBOX (cutbox-rows.mjs): the forced cells as the released guide's own fill.sh prints them over the translation d04cc62447aeb7d1… (all of the seat's roots in one cut). By AI agents, Wed Nov 11 2026. No macro, syntax, notation, axiom, sorry.
-/
import Derived.Test.YtdamagcfmhimfacChecked
import GoSem.Claim
import GoSem.ClaimJoined
import GoSem.ClaimMapViews
import Derived.JoinedTies
import Derived.KernelRfl
namespace Go.Proofs.Ytdamagcfmhimfac
/- THE CELL 'sum', in the pinned program and in every row, IS THE sha256 OF THE DUMP (.gsa) THAT YtdamagcfmhimfacProg.lean LOADS. Nothing in Lean hashes anything: it is a label: what it is worth is what the hold of that sum in a sandbox is worth. -/
noncomputable def Try.pinned : Pinned := { name := "ytdamagcfmhimfac", sum := "d04cc62447aeb7d1e320b3dfb59df209cefa4f0c558acbd15018f07cc62f5052", checked := Try.checked }
namespace Rows
def none {H : Type} : Left H := { results := [], args := [] }

/-- 'laws.FnExactCountDeleted': WHATEVER THE INPUT: true; the input reads as it did. -/
def fnExactCountDeletedSpec : ChangeSpec := { name := "fnExactCountDeleted", fn := fun _ => fun
  | [d] => { results := [.lit (.bool true)], args := [d] }
  | _ => none }
def fnExactCountDeletedRow : OpenClaim := { program := "ytdamagcfmhimfac", sum := "d04cc62447aeb7d1e320b3dfb59df209cefa4f0c558acbd15018f07cc62f5052", func := "loop.example/g02080/laws.FnExactCountDeleted", spec := "fnExactCountDeleted", inPlace := ["internal/bytealg.IndexByteString"], unfollowed := true, recurses := true, apart := false }
def FnExactCountDeletedSaid : Prop := fnExactCountDeletedRow.holds Try.pinned (OpenSpec.ofChange fnExactCountDeletedSpec)

/-- ITS FALSE NEIGHBOUR: 'it returns false'. Refute it at one input. -/
def fnExactCountDeletedWrong : ChangeSpec := { name := "fnExactCountDeleted", fn := fun _ => fun
  | [d] => { results := [.lit (.bool false)], args := [d] }
  | _ => none }
def FnExactCountDeletedWrongFalsely : Prop := fnExactCountDeletedRow.holds Try.pinned (OpenSpec.ofChange fnExactCountDeletedWrong)

/-- 'laws.FnExactCountInserted': WHATEVER THE INPUT: true; the input reads as it did. -/
def fnExactCountInsertedSpec : ChangeSpec := { name := "fnExactCountInserted", fn := fun _ => fun
  | [d] => { results := [.lit (.bool true)], args := [d] }
  | _ => none }
def fnExactCountInsertedRow : OpenClaim := { program := "ytdamagcfmhimfac", sum := "d04cc62447aeb7d1e320b3dfb59df209cefa4f0c558acbd15018f07cc62f5052", func := "loop.example/g02080/laws.FnExactCountInserted", spec := "fnExactCountInserted", inPlace := ["internal/bytealg.IndexByteString"], unfollowed := true, recurses := true, apart := false }
def FnExactCountInsertedSaid : Prop := fnExactCountInsertedRow.holds Try.pinned (OpenSpec.ofChange fnExactCountInsertedSpec)

/-- ITS FALSE NEIGHBOUR: 'it returns false'. Refute it at one input. -/
def fnExactCountInsertedWrong : ChangeSpec := { name := "fnExactCountInserted", fn := fun _ => fun
  | [d] => { results := [.lit (.bool false)], args := [d] }
  | _ => none }
def FnExactCountInsertedWrongFalsely : Prop := fnExactCountInsertedRow.holds Try.pinned (OpenSpec.ofChange fnExactCountInsertedWrong)

/-- 'laws.FnExactIsFaithful': WHATEVER THE INPUT: true; the input reads as it did. -/
def fnExactIsFaithfulSpec : ChangeSpec := { name := "fnExactIsFaithful", fn := fun _ => fun
  | [d] => { results := [.lit (.bool true)], args := [d] }
  | _ => none }
def fnExactIsFaithfulRow : OpenClaim := { program := "ytdamagcfmhimfac", sum := "d04cc62447aeb7d1e320b3dfb59df209cefa4f0c558acbd15018f07cc62f5052", func := "loop.example/g02080/laws.FnExactIsFaithful", spec := "fnExactIsFaithful", inPlace := ["internal/bytealg.IndexByteString"], apart := false }
def FnExactIsFaithfulSaid : Prop := fnExactIsFaithfulRow.holds Try.pinned (OpenSpec.ofChange fnExactIsFaithfulSpec)

/-- ITS FALSE NEIGHBOUR: 'it returns false'. Refute it at one input. -/
def fnExactIsFaithfulWrong : ChangeSpec := { name := "fnExactIsFaithful", fn := fun _ => fun
  | [d] => { results := [.lit (.bool false)], args := [d] }
  | _ => none }
def FnExactIsFaithfulWrongFalsely : Prop := fnExactIsFaithfulRow.holds Try.pinned (OpenSpec.ofChange fnExactIsFaithfulWrong)

/-- 'laws.FnExactCountVoiceChanged': WHATEVER THE INPUT: true; the input reads as it did. -/
def fnExactCountVoiceChangedSpec : ChangeSpec := { name := "fnExactCountVoiceChanged", fn := fun _ => fun
  | [d] => { results := [.lit (.bool true)], args := [d] }
  | _ => none }
def fnExactCountVoiceChangedRow : OpenClaim := { program := "ytdamagcfmhimfac", sum := "d04cc62447aeb7d1e320b3dfb59df209cefa4f0c558acbd15018f07cc62f5052", func := "loop.example/g02080/laws.FnExactCountVoiceChanged", spec := "fnExactCountVoiceChanged", inPlace := ["internal/bytealg.IndexByteString"], unfollowed := true, recurses := true, apart := false }
def FnExactCountVoiceChangedSaid : Prop := fnExactCountVoiceChangedRow.holds Try.pinned (OpenSpec.ofChange fnExactCountVoiceChangedSpec)

/-- ITS FALSE NEIGHBOUR: 'it returns false'. Refute it at one input. -/
def fnExactCountVoiceChangedWrong : ChangeSpec := { name := "fnExactCountVoiceChanged", fn := fun _ => fun
  | [d] => { results := [.lit (.bool false)], args := [d] }
  | _ => none }
def FnExactCountVoiceChangedWrongFalsely : Prop := fnExactCountVoiceChangedRow.holds Try.pinned (OpenSpec.ofChange fnExactCountVoiceChangedWrong)

/-- 'laws.FnExactOneEdit': WHATEVER THE INPUT: true; the input reads as it did. -/
def fnExactOneEditSpec : ChangeSpec := { name := "fnExactOneEdit", fn := fun _ => fun
  | [d] => { results := [.lit (.bool true)], args := [d] }
  | _ => none }
def fnExactOneEditRow : OpenClaim := { program := "ytdamagcfmhimfac", sum := "d04cc62447aeb7d1e320b3dfb59df209cefa4f0c558acbd15018f07cc62f5052", func := "loop.example/g02080/laws.FnExactOneEdit", spec := "fnExactOneEdit", inPlace := ["internal/bytealg.IndexByteString"], unfollowed := true, recurses := true, apart := false }
def FnExactOneEditSaid : Prop := fnExactOneEditRow.holds Try.pinned (OpenSpec.ofChange fnExactOneEditSpec)

/-- ITS FALSE NEIGHBOUR: 'it returns false'. Refute it at one input. -/
def fnExactOneEditWrong : ChangeSpec := { name := "fnExactOneEdit", fn := fun _ => fun
  | [d] => { results := [.lit (.bool false)], args := [d] }
  | _ => none }
def FnExactOneEditWrongFalsely : Prop := fnExactOneEditRow.holds Try.pinned (OpenSpec.ofChange fnExactOneEditWrong)

/-- 'laws.FnExactCountBreaks': WHATEVER THE INPUT: true; the input reads as it did. -/
def fnExactCountBreaksSpec : ChangeSpec := { name := "fnExactCountBreaks", fn := fun _ => fun
  | [d] => { results := [.lit (.bool true)], args := [d] }
  | _ => none }
def fnExactCountBreaksRow : OpenClaim := { program := "ytdamagcfmhimfac", sum := "d04cc62447aeb7d1e320b3dfb59df209cefa4f0c558acbd15018f07cc62f5052", func := "loop.example/g02080/laws.FnExactCountBreaks", spec := "fnExactCountBreaks", inPlace := ["internal/bytealg.IndexByteString"], apart := false }
def FnExactCountBreaksSaid : Prop := fnExactCountBreaksRow.holds Try.pinned (OpenSpec.ofChange fnExactCountBreaksSpec)

/-- ITS FALSE NEIGHBOUR: 'it returns false'. Refute it at one input. -/
def fnExactCountBreaksWrong : ChangeSpec := { name := "fnExactCountBreaks", fn := fun _ => fun
  | [d] => { results := [.lit (.bool false)], args := [d] }
  | _ => none }
def FnExactCountBreaksWrongFalsely : Prop := fnExactCountBreaksRow.holds Try.pinned (OpenSpec.ofChange fnExactCountBreaksWrong)

/-- 'laws.FnExactFewestEdits': WHATEVER THE INPUT: true; the input reads as it did. -/
def fnExactFewestEditsSpec : ChangeSpec := { name := "fnExactFewestEdits", fn := fun _ => fun
  | [d1, d2] => { results := [.lit (.bool true)], args := [d1, d2] }
  | _ => none }
def fnExactFewestEditsRow : OpenClaim := { program := "ytdamagcfmhimfac", sum := "d04cc62447aeb7d1e320b3dfb59df209cefa4f0c558acbd15018f07cc62f5052", func := "loop.example/g02080/laws.FnExactFewestEdits", spec := "fnExactFewestEdits", inPlace := ["internal/bytealg.IndexByteString"], unfollowed := true, recurses := true, apart := false }
def FnExactFewestEditsSaid : Prop := fnExactFewestEditsRow.holds Try.pinned (OpenSpec.ofChange fnExactFewestEditsSpec)

/-- ITS FALSE NEIGHBOUR: 'it returns false'. Refute it at one input. -/
def fnExactFewestEditsWrong : ChangeSpec := { name := "fnExactFewestEdits", fn := fun _ => fun
  | [d1, d2] => { results := [.lit (.bool false)], args := [d1, d2] }
  | _ => none }
def FnExactFewestEditsWrongFalsely : Prop := fnExactFewestEditsRow.holds Try.pinned (OpenSpec.ofChange fnExactFewestEditsWrong)

/-- 'laws.FnExactIsGenerated': WHATEVER THE INPUT: true; the input reads as it did. -/
def fnExactIsGeneratedSpec : ChangeSpec := { name := "fnExactIsGenerated", fn := fun _ => fun
  | [d1, d2] => { results := [.lit (.bool true)], args := [d1, d2] }
  | _ => none }
def fnExactIsGeneratedRow : OpenClaim := { program := "ytdamagcfmhimfac", sum := "d04cc62447aeb7d1e320b3dfb59df209cefa4f0c558acbd15018f07cc62f5052", func := "loop.example/g02080/laws.FnExactIsGenerated", spec := "fnExactIsGenerated", inPlace := ["internal/bytealg.IndexByteString"], unfollowed := true, recurses := true, apart := false }
def FnExactIsGeneratedSaid : Prop := fnExactIsGeneratedRow.holds Try.pinned (OpenSpec.ofChange fnExactIsGeneratedSpec)

/-- ITS FALSE NEIGHBOUR: 'it returns false'. Refute it at one input. -/
def fnExactIsGeneratedWrong : ChangeSpec := { name := "fnExactIsGenerated", fn := fun _ => fun
  | [d1, d2] => { results := [.lit (.bool false)], args := [d1, d2] }
  | _ => none }
def FnExactIsGeneratedWrongFalsely : Prop := fnExactIsGeneratedRow.holds Try.pinned (OpenSpec.ofChange fnExactIsGeneratedWrong)

/-- 'laws.FnExactOutputsOf': WHATEVER THE INPUT: true; the input reads as it did. -/
def fnExactOutputsOfSpec : ChangeSpec := { name := "fnExactOutputsOf", fn := fun _ => fun
  | [d] => { results := [.lit (.bool true)], args := [d] }
  | _ => none }
def fnExactOutputsOfRow : OpenClaim := { program := "ytdamagcfmhimfac", sum := "d04cc62447aeb7d1e320b3dfb59df209cefa4f0c558acbd15018f07cc62f5052", func := "loop.example/g02080/laws.FnExactOutputsOf", spec := "fnExactOutputsOf", inPlace := ["internal/bytealg.IndexByteString"], unfollowed := true, recurses := true, apart := false }
def FnExactOutputsOfSaid : Prop := fnExactOutputsOfRow.holds Try.pinned (OpenSpec.ofChange fnExactOutputsOfSpec)

/-- ITS FALSE NEIGHBOUR: 'it returns false'. Refute it at one input. -/
def fnExactOutputsOfWrong : ChangeSpec := { name := "fnExactOutputsOf", fn := fun _ => fun
  | [d] => { results := [.lit (.bool false)], args := [d] }
  | _ => none }
def FnExactOutputsOfWrongFalsely : Prop := fnExactOutputsOfRow.holds Try.pinned (OpenSpec.ofChange fnExactOutputsOfWrong)

/-- 'laws.FnExactComposeCandidates': WHATEVER THE INPUT: true; the input reads as it did. -/
def fnExactComposeCandidatesSpec : ChangeSpec := { name := "fnExactComposeCandidates", fn := fun _ => fun
  | [d1, d2] => { results := [.lit (.bool true)], args := [d1, d2] }
  | _ => none }
def fnExactComposeCandidatesRow : OpenClaim := { program := "ytdamagcfmhimfac", sum := "d04cc62447aeb7d1e320b3dfb59df209cefa4f0c558acbd15018f07cc62f5052", func := "loop.example/g02080/laws.FnExactComposeCandidates", spec := "fnExactComposeCandidates", inPlace := ["internal/bytealg.IndexByteString"], unfollowed := true, recurses := true, apart := false }
def FnExactComposeCandidatesSaid : Prop := fnExactComposeCandidatesRow.holds Try.pinned (OpenSpec.ofChange fnExactComposeCandidatesSpec)

/-- ITS FALSE NEIGHBOUR: 'it returns false'. Refute it at one input. -/
def fnExactComposeCandidatesWrong : ChangeSpec := { name := "fnExactComposeCandidates", fn := fun _ => fun
  | [d1, d2] => { results := [.lit (.bool false)], args := [d1, d2] }
  | _ => none }
def FnExactComposeCandidatesWrongFalsely : Prop := fnExactComposeCandidatesRow.holds Try.pinned (OpenSpec.ofChange fnExactComposeCandidatesWrong)

/-- 'laws.FnExactIsRanking': WHATEVER THE INPUT: true; the input reads as it did. -/
def fnExactIsRankingSpec : ChangeSpec := { name := "fnExactIsRanking", fn := fun _ => fun
  | [d1, d2] => { results := [.lit (.bool true)], args := [d1, d2] }
  | _ => none }
def fnExactIsRankingRow : OpenClaim := { program := "ytdamagcfmhimfac", sum := "d04cc62447aeb7d1e320b3dfb59df209cefa4f0c558acbd15018f07cc62f5052", func := "loop.example/g02080/laws.FnExactIsRanking", spec := "fnExactIsRanking", unfollowed := true, recurses := true, apart := false }
def FnExactIsRankingSaid : Prop := fnExactIsRankingRow.holds Try.pinned (OpenSpec.ofChange fnExactIsRankingSpec)

/-- ITS FALSE NEIGHBOUR: 'it returns false'. Refute it at one input. -/
def fnExactIsRankingWrong : ChangeSpec := { name := "fnExactIsRanking", fn := fun _ => fun
  | [d1, d2] => { results := [.lit (.bool false)], args := [d1, d2] }
  | _ => none }
def FnExactIsRankingWrongFalsely : Prop := fnExactIsRankingRow.holds Try.pinned (OpenSpec.ofChange fnExactIsRankingWrong)

/- THE SECOND FORM. 'bulk': how many values and letters a reading holds, each counted each time it is reached (what is shared counts as often as it is met; a slice's spare places count too). A statement '..UptoSaid' is the law's where the arguments, and the package variables that the reading takes, are together of bulk at most 1048576: NARROWER than '..Said'. Prove '..Said' where nothing that the law and all that it calls make is longer than what came in: it says more and counts as full. Else prove '..UptoSaid'. A law counts once. -/
mutual
def uptoBulk {H : Type} : DataW H → Nat
  | .lit (.string bytes) => bytes.length + 1
  | .lit _ => 1
  | .nil => 1
  | .ptr d => uptoBulk d + 1
  | .slice elems spare => uptoBulkAll elems + uptoBulkAll spare + 1
  | .agg parts => uptoBulkAll parts + 1
  | .iface _ d => uptoBulk d + 1
  | .map entries => uptoBulkEntries entries + 1
  | .held _ => 1
def uptoBulkAll {H : Type} : List (DataW H) → Nat
  | [] => 0
  | d :: r => uptoBulk d + uptoBulkAll r
def uptoBulkEntries {H : Type} : List (Lit × DataW H) → Nat
  | [] => 0
  | x :: r => uptoBulkEntry x + uptoBulkEntries r
def uptoBulkEntry {H : Type} : Lit × DataW H → Nat
  | (.string bytes, d) => bytes.length + uptoBulk d + 1
  | (_, d) => uptoBulk d + 1
 end
def uptoSmall : (H : Type) → List (DataW H) → Bool := fun _ ds => decide (uptoBulkAll ds ≤ 1048576)
def OpenSpec.upto (s : _root_.Go.ChangeSpec) : _root_.Go.OpenSpec := { _root_.Go.OpenSpec.ofChange s with cond := some uptoSmall }

/-- 'laws.FnExactCountDeleted', WHERE WHAT IT READS IS OF BULK AT MOST 1048576: true; the input reads as it did. -/
def fnExactCountDeletedUptoRow : OpenClaim := { program := "ytdamagcfmhimfac", sum := "d04cc62447aeb7d1e320b3dfb59df209cefa4f0c558acbd15018f07cc62f5052", func := "loop.example/g02080/laws.FnExactCountDeleted", spec := "fnExactCountDeleted", inPlace := ["internal/bytealg.IndexByteString"], unfollowed := true, recurses := true, apart := false, narrowed := true }
def FnExactCountDeletedUptoSaid : Prop := fnExactCountDeletedUptoRow.holds Try.pinned (OpenSpec.upto fnExactCountDeletedSpec)

/-- 'laws.FnExactCountInserted', WHERE WHAT IT READS IS OF BULK AT MOST 1048576: true; the input reads as it did. -/
def fnExactCountInsertedUptoRow : OpenClaim := { program := "ytdamagcfmhimfac", sum := "d04cc62447aeb7d1e320b3dfb59df209cefa4f0c558acbd15018f07cc62f5052", func := "loop.example/g02080/laws.FnExactCountInserted", spec := "fnExactCountInserted", inPlace := ["internal/bytealg.IndexByteString"], unfollowed := true, recurses := true, apart := false, narrowed := true }
def FnExactCountInsertedUptoSaid : Prop := fnExactCountInsertedUptoRow.holds Try.pinned (OpenSpec.upto fnExactCountInsertedSpec)

/-- 'laws.FnExactIsFaithful', WHERE WHAT IT READS IS OF BULK AT MOST 1048576: true; the input reads as it did. -/
def fnExactIsFaithfulUptoRow : OpenClaim := { program := "ytdamagcfmhimfac", sum := "d04cc62447aeb7d1e320b3dfb59df209cefa4f0c558acbd15018f07cc62f5052", func := "loop.example/g02080/laws.FnExactIsFaithful", spec := "fnExactIsFaithful", inPlace := ["internal/bytealg.IndexByteString"], apart := false, narrowed := true }
def FnExactIsFaithfulUptoSaid : Prop := fnExactIsFaithfulUptoRow.holds Try.pinned (OpenSpec.upto fnExactIsFaithfulSpec)

/-- 'laws.FnExactCountVoiceChanged', WHERE WHAT IT READS IS OF BULK AT MOST 1048576: true; the input reads as it did. -/
def fnExactCountVoiceChangedUptoRow : OpenClaim := { program := "ytdamagcfmhimfac", sum := "d04cc62447aeb7d1e320b3dfb59df209cefa4f0c558acbd15018f07cc62f5052", func := "loop.example/g02080/laws.FnExactCountVoiceChanged", spec := "fnExactCountVoiceChanged", inPlace := ["internal/bytealg.IndexByteString"], unfollowed := true, recurses := true, apart := false, narrowed := true }
def FnExactCountVoiceChangedUptoSaid : Prop := fnExactCountVoiceChangedUptoRow.holds Try.pinned (OpenSpec.upto fnExactCountVoiceChangedSpec)

/-- 'laws.FnExactOneEdit', WHERE WHAT IT READS IS OF BULK AT MOST 1048576: true; the input reads as it did. -/
def fnExactOneEditUptoRow : OpenClaim := { program := "ytdamagcfmhimfac", sum := "d04cc62447aeb7d1e320b3dfb59df209cefa4f0c558acbd15018f07cc62f5052", func := "loop.example/g02080/laws.FnExactOneEdit", spec := "fnExactOneEdit", inPlace := ["internal/bytealg.IndexByteString"], unfollowed := true, recurses := true, apart := false, narrowed := true }
def FnExactOneEditUptoSaid : Prop := fnExactOneEditUptoRow.holds Try.pinned (OpenSpec.upto fnExactOneEditSpec)

/-- 'laws.FnExactCountBreaks', WHERE WHAT IT READS IS OF BULK AT MOST 1048576: true; the input reads as it did. -/
def fnExactCountBreaksUptoRow : OpenClaim := { program := "ytdamagcfmhimfac", sum := "d04cc62447aeb7d1e320b3dfb59df209cefa4f0c558acbd15018f07cc62f5052", func := "loop.example/g02080/laws.FnExactCountBreaks", spec := "fnExactCountBreaks", inPlace := ["internal/bytealg.IndexByteString"], apart := false, narrowed := true }
def FnExactCountBreaksUptoSaid : Prop := fnExactCountBreaksUptoRow.holds Try.pinned (OpenSpec.upto fnExactCountBreaksSpec)

/-- 'laws.FnExactFewestEdits', WHERE WHAT IT READS IS OF BULK AT MOST 1048576: true; the input reads as it did. -/
def fnExactFewestEditsUptoRow : OpenClaim := { program := "ytdamagcfmhimfac", sum := "d04cc62447aeb7d1e320b3dfb59df209cefa4f0c558acbd15018f07cc62f5052", func := "loop.example/g02080/laws.FnExactFewestEdits", spec := "fnExactFewestEdits", inPlace := ["internal/bytealg.IndexByteString"], unfollowed := true, recurses := true, apart := false, narrowed := true }
def FnExactFewestEditsUptoSaid : Prop := fnExactFewestEditsUptoRow.holds Try.pinned (OpenSpec.upto fnExactFewestEditsSpec)

/-- 'laws.FnExactIsGenerated', WHERE WHAT IT READS IS OF BULK AT MOST 1048576: true; the input reads as it did. -/
def fnExactIsGeneratedUptoRow : OpenClaim := { program := "ytdamagcfmhimfac", sum := "d04cc62447aeb7d1e320b3dfb59df209cefa4f0c558acbd15018f07cc62f5052", func := "loop.example/g02080/laws.FnExactIsGenerated", spec := "fnExactIsGenerated", inPlace := ["internal/bytealg.IndexByteString"], unfollowed := true, recurses := true, apart := false, narrowed := true }
def FnExactIsGeneratedUptoSaid : Prop := fnExactIsGeneratedUptoRow.holds Try.pinned (OpenSpec.upto fnExactIsGeneratedSpec)

/-- 'laws.FnExactOutputsOf', WHERE WHAT IT READS IS OF BULK AT MOST 1048576: true; the input reads as it did. -/
def fnExactOutputsOfUptoRow : OpenClaim := { program := "ytdamagcfmhimfac", sum := "d04cc62447aeb7d1e320b3dfb59df209cefa4f0c558acbd15018f07cc62f5052", func := "loop.example/g02080/laws.FnExactOutputsOf", spec := "fnExactOutputsOf", inPlace := ["internal/bytealg.IndexByteString"], unfollowed := true, recurses := true, apart := false, narrowed := true }
def FnExactOutputsOfUptoSaid : Prop := fnExactOutputsOfUptoRow.holds Try.pinned (OpenSpec.upto fnExactOutputsOfSpec)

/-- 'laws.FnExactComposeCandidates', WHERE WHAT IT READS IS OF BULK AT MOST 1048576: true; the input reads as it did. -/
def fnExactComposeCandidatesUptoRow : OpenClaim := { program := "ytdamagcfmhimfac", sum := "d04cc62447aeb7d1e320b3dfb59df209cefa4f0c558acbd15018f07cc62f5052", func := "loop.example/g02080/laws.FnExactComposeCandidates", spec := "fnExactComposeCandidates", inPlace := ["internal/bytealg.IndexByteString"], unfollowed := true, recurses := true, apart := false, narrowed := true }
def FnExactComposeCandidatesUptoSaid : Prop := fnExactComposeCandidatesUptoRow.holds Try.pinned (OpenSpec.upto fnExactComposeCandidatesSpec)

/-- 'laws.FnExactIsRanking', WHERE WHAT IT READS IS OF BULK AT MOST 1048576: true; the input reads as it did. -/
def fnExactIsRankingUptoRow : OpenClaim := { program := "ytdamagcfmhimfac", sum := "d04cc62447aeb7d1e320b3dfb59df209cefa4f0c558acbd15018f07cc62f5052", func := "loop.example/g02080/laws.FnExactIsRanking", spec := "fnExactIsRanking", unfollowed := true, recurses := true, apart := false, narrowed := true }
def FnExactIsRankingUptoSaid : Prop := fnExactIsRankingUptoRow.holds Try.pinned (OpenSpec.upto fnExactIsRankingSpec)

end Rows
end Go.Proofs.Ytdamagcfmhimfac
