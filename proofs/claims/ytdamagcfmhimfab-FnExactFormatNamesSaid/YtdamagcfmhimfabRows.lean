/-
  No cell of these rows narrows 'for every input' (looked for: loops, veiled, ifaces, maps, wideKeys, modest, calm, conditions, laid).
  DERIVED. THE GIVEN ROWS OF THIS SEAT. 12 by the template 'for every input the law returns true; each argument reads behind the call as it read before'; 0 by the template 'total and deterministic' (their statements: YtdamagcfmhimfabTotals.lean).
  GIVEN WITH THE SEED: the statements are not yours to turn. If you find one false, say at which input.
  Laid BY PROGRAM, IN A SANDBOX (cutbox-rows.mjs): the forced cells as the released guide's own fill.sh prints them over the translation 850e25711fd8b33d… (all of the seat's roots in one cut). By AI agents, Wed Nov 11 2026. No macro, syntax, notation, axiom, sorry.
-/
import Derived.Test.YtdamagcfmhimfabChecked
import GoSem.Claim
import GoSem.ClaimJoined
import GoSem.ClaimMapViews
import Derived.JoinedTies
import Derived.KernelRfl
namespace Go.Proofs.Ytdamagcfmhimfab
/- THE CELL 'sum', in the pinned program and in every row, IS THE sha256 OF THE DUMP (.gsa) THAT YtdamagcfmhimfabProg.lean LOADS. Nothing in Lean hashes anything: it is a label: what it is worth is what the hold of that sum in a sandbox is worth. -/
noncomputable def Try.pinned : Pinned := { name := "ytdamagcfmhimfab", sum := "850e25711fd8b33d04a85c09c65b88ea3e1250261173bee8a512d76ed7e78e00", checked := Try.checked }
namespace Rows
def none {H : Type} : Left H := { results := [], args := [] }

/-- 'laws.FnExactCountClusters': WHATEVER THE INPUT: true; the input reads as it did. -/
def fnExactCountClustersSpec : ChangeSpec := { name := "fnExactCountClusters", fn := fun _ => fun
  | [d] => { results := [.lit (.bool true)], args := [d] }
  | _ => none }
def fnExactCountClustersRow : OpenClaim := { program := "ytdamagcfmhimfab", sum := "850e25711fd8b33d04a85c09c65b88ea3e1250261173bee8a512d76ed7e78e00", func := "loop.example/g02080/laws.FnExactCountClusters", spec := "fnExactCountClusters", inPlace := ["internal/bytealg.IndexByteString"], unfollowed := true, recurses := true, apart := false }
def FnExactCountClustersSaid : Prop := fnExactCountClustersRow.holds Try.pinned (OpenSpec.ofChange fnExactCountClustersSpec)

/-- ITS FALSE NEIGHBOUR: 'it returns false'. Refute it at one input. -/
def fnExactCountClustersWrong : ChangeSpec := { name := "fnExactCountClusters", fn := fun _ => fun
  | [d] => { results := [.lit (.bool false)], args := [d] }
  | _ => none }
def FnExactCountClustersWrongFalsely : Prop := fnExactCountClustersRow.holds Try.pinned (OpenSpec.ofChange fnExactCountClustersWrong)

/-- 'laws.FnExactCountCodas': WHATEVER THE INPUT: true; the input reads as it did. -/
def fnExactCountCodasSpec : ChangeSpec := { name := "fnExactCountCodas", fn := fun _ => fun
  | [d] => { results := [.lit (.bool true)], args := [d] }
  | _ => none }
def fnExactCountCodasRow : OpenClaim := { program := "ytdamagcfmhimfab", sum := "850e25711fd8b33d04a85c09c65b88ea3e1250261173bee8a512d76ed7e78e00", func := "loop.example/g02080/laws.FnExactCountCodas", spec := "fnExactCountCodas", inPlace := ["internal/bytealg.IndexByteString"], unfollowed := true, recurses := true, apart := false }
def FnExactCountCodasSaid : Prop := fnExactCountCodasRow.holds Try.pinned (OpenSpec.ofChange fnExactCountCodasSpec)

/-- ITS FALSE NEIGHBOUR: 'it returns false'. Refute it at one input. -/
def fnExactCountCodasWrong : ChangeSpec := { name := "fnExactCountCodas", fn := fun _ => fun
  | [d] => { results := [.lit (.bool false)], args := [d] }
  | _ => none }
def FnExactCountCodasWrongFalsely : Prop := fnExactCountCodasRow.holds Try.pinned (OpenSpec.ofChange fnExactCountCodasWrong)

/-- 'laws.FnExactCountOnsetless': WHATEVER THE INPUT: true; the input reads as it did. -/
def fnExactCountOnsetlessSpec : ChangeSpec := { name := "fnExactCountOnsetless", fn := fun _ => fun
  | [d] => { results := [.lit (.bool true)], args := [d] }
  | _ => none }
def fnExactCountOnsetlessRow : OpenClaim := { program := "ytdamagcfmhimfab", sum := "850e25711fd8b33d04a85c09c65b88ea3e1250261173bee8a512d76ed7e78e00", func := "loop.example/g02080/laws.FnExactCountOnsetless", spec := "fnExactCountOnsetless", inPlace := ["internal/bytealg.IndexByteString"], unfollowed := true, recurses := true, apart := false }
def FnExactCountOnsetlessSaid : Prop := fnExactCountOnsetlessRow.holds Try.pinned (OpenSpec.ofChange fnExactCountOnsetlessSpec)

/-- ITS FALSE NEIGHBOUR: 'it returns false'. Refute it at one input. -/
def fnExactCountOnsetlessWrong : ChangeSpec := { name := "fnExactCountOnsetless", fn := fun _ => fun
  | [d] => { results := [.lit (.bool false)], args := [d] }
  | _ => none }
def FnExactCountOnsetlessWrongFalsely : Prop := fnExactCountOnsetlessRow.holds Try.pinned (OpenSpec.ofChange fnExactCountOnsetlessWrong)

/-- 'laws.FnExactParseWL': WHATEVER THE INPUT: true; the input reads as it did. -/
def fnExactParseWLSpec : ChangeSpec := { name := "fnExactParseWL", fn := fun _ => fun
  | [d] => { results := [.lit (.bool true)], args := [d] }
  | _ => none }
def fnExactParseWLRow : OpenClaim := { program := "ytdamagcfmhimfab", sum := "850e25711fd8b33d04a85c09c65b88ea3e1250261173bee8a512d76ed7e78e00", func := "loop.example/g02080/laws.FnExactParseWL", spec := "fnExactParseWL", apart := false }
def FnExactParseWLSaid : Prop := fnExactParseWLRow.holds Try.pinned (OpenSpec.ofChange fnExactParseWLSpec)

/-- ITS FALSE NEIGHBOUR: 'it returns false'. Refute it at one input. -/
def fnExactParseWLWrong : ChangeSpec := { name := "fnExactParseWL", fn := fun _ => fun
  | [d] => { results := [.lit (.bool false)], args := [d] }
  | _ => none }
def FnExactParseWLWrongFalsely : Prop := fnExactParseWLRow.holds Try.pinned (OpenSpec.ofChange fnExactParseWLWrong)

/-- 'laws.FnExactAreRows': WHATEVER THE INPUT: true; the input reads as it did. -/
def fnExactAreRowsSpec : ChangeSpec := { name := "fnExactAreRows", fn := fun _ => fun
  | [d1, d2] => { results := [.lit (.bool true)], args := [d1, d2] }
  | _ => none }
def fnExactAreRowsRow : OpenClaim := { program := "ytdamagcfmhimfab", sum := "850e25711fd8b33d04a85c09c65b88ea3e1250261173bee8a512d76ed7e78e00", func := "loop.example/g02080/laws.FnExactAreRows", spec := "fnExactAreRows", apart := false }
def FnExactAreRowsSaid : Prop := fnExactAreRowsRow.holds Try.pinned (OpenSpec.ofChange fnExactAreRowsSpec)

/-- ITS FALSE NEIGHBOUR: 'it returns false'. Refute it at one input. -/
def fnExactAreRowsWrong : ChangeSpec := { name := "fnExactAreRows", fn := fun _ => fun
  | [d1, d2] => { results := [.lit (.bool false)], args := [d1, d2] }
  | _ => none }
def FnExactAreRowsWrongFalsely : Prop := fnExactAreRowsRow.holds Try.pinned (OpenSpec.ofChange fnExactAreRowsWrong)

/-- 'laws.FnExactFuseRows': WHATEVER THE INPUT: true; the input reads as it did. -/
def fnExactFuseRowsSpec : ChangeSpec := { name := "fnExactFuseRows", fn := fun _ => fun
  | [d1, d2] => { results := [.lit (.bool true)], args := [d1, d2] }
  | _ => none }
def fnExactFuseRowsRow : OpenClaim := { program := "ytdamagcfmhimfab", sum := "850e25711fd8b33d04a85c09c65b88ea3e1250261173bee8a512d76ed7e78e00", func := "loop.example/g02080/laws.FnExactFuseRows", spec := "fnExactFuseRows", apart := false }
def FnExactFuseRowsSaid : Prop := fnExactFuseRowsRow.holds Try.pinned (OpenSpec.ofChange fnExactFuseRowsSpec)

/-- ITS FALSE NEIGHBOUR: 'it returns false'. Refute it at one input. -/
def fnExactFuseRowsWrong : ChangeSpec := { name := "fnExactFuseRows", fn := fun _ => fun
  | [d1, d2] => { results := [.lit (.bool false)], args := [d1, d2] }
  | _ => none }
def FnExactFuseRowsWrongFalsely : Prop := fnExactFuseRowsRow.holds Try.pinned (OpenSpec.ofChange fnExactFuseRowsWrong)

/-- 'laws.FnExactEntailsRow': WHATEVER THE INPUT: true; the input reads as it did. -/
def fnExactEntailsRowSpec : ChangeSpec := { name := "fnExactEntailsRow", fn := fun _ => fun
  | [d1, d2] => { results := [.lit (.bool true)], args := [d1, d2] }
  | _ => none }
def fnExactEntailsRowRow : OpenClaim := { program := "ytdamagcfmhimfab", sum := "850e25711fd8b33d04a85c09c65b88ea3e1250261173bee8a512d76ed7e78e00", func := "loop.example/g02080/laws.FnExactEntailsRow", spec := "fnExactEntailsRow", apart := false }
def FnExactEntailsRowSaid : Prop := fnExactEntailsRowRow.holds Try.pinned (OpenSpec.ofChange fnExactEntailsRowSpec)

/-- ITS FALSE NEIGHBOUR: 'it returns false'. Refute it at one input. -/
def fnExactEntailsRowWrong : ChangeSpec := { name := "fnExactEntailsRow", fn := fun _ => fun
  | [d1, d2] => { results := [.lit (.bool false)], args := [d1, d2] }
  | _ => none }
def FnExactEntailsRowWrongFalsely : Prop := fnExactEntailsRowRow.holds Try.pinned (OpenSpec.ofChange fnExactEntailsRowWrong)

/-- 'laws.FnExactEqualRows': WHATEVER THE INPUT: true; the input reads as it did. -/
def fnExactEqualRowsSpec : ChangeSpec := { name := "fnExactEqualRows", fn := fun _ => fun
  | [d1, d2] => { results := [.lit (.bool true)], args := [d1, d2] }
  | _ => none }
def fnExactEqualRowsRow : OpenClaim := { program := "ytdamagcfmhimfab", sum := "850e25711fd8b33d04a85c09c65b88ea3e1250261173bee8a512d76ed7e78e00", func := "loop.example/g02080/laws.FnExactEqualRows", spec := "fnExactEqualRows", unfollowed := true, recurses := true, apart := false }
def FnExactEqualRowsSaid : Prop := fnExactEqualRowsRow.holds Try.pinned (OpenSpec.ofChange fnExactEqualRowsSpec)

/-- ITS FALSE NEIGHBOUR: 'it returns false'. Refute it at one input. -/
def fnExactEqualRowsWrong : ChangeSpec := { name := "fnExactEqualRows", fn := fun _ => fun
  | [d1, d2] => { results := [.lit (.bool false)], args := [d1, d2] }
  | _ => none }
def FnExactEqualRowsWrongFalsely : Prop := fnExactEqualRowsRow.holds Try.pinned (OpenSpec.ofChange fnExactEqualRowsWrong)

/-- 'laws.FnExactAllRankings': WHATEVER THE INPUT: true; the input reads as it did. -/
def fnExactAllRankingsSpec : ChangeSpec := { name := "fnExactAllRankings", fn := fun _ => fun
  | [d] => { results := [.lit (.bool true)], args := [d] }
  | _ => none }
def fnExactAllRankingsRow : OpenClaim := { program := "ytdamagcfmhimfab", sum := "850e25711fd8b33d04a85c09c65b88ea3e1250261173bee8a512d76ed7e78e00", func := "loop.example/g02080/laws.FnExactAllRankings", spec := "fnExactAllRankings", unfollowed := true, recurses := true, apart := false }
def FnExactAllRankingsSaid : Prop := fnExactAllRankingsRow.holds Try.pinned (OpenSpec.ofChange fnExactAllRankingsSpec)

/-- ITS FALSE NEIGHBOUR: 'it returns false'. Refute it at one input. -/
def fnExactAllRankingsWrong : ChangeSpec := { name := "fnExactAllRankings", fn := fun _ => fun
  | [d] => { results := [.lit (.bool false)], args := [d] }
  | _ => none }
def FnExactAllRankingsWrongFalsely : Prop := fnExactAllRankingsRow.holds Try.pinned (OpenSpec.ofChange fnExactAllRankingsWrong)

/-- 'laws.FnExactIsPerfect': WHATEVER THE INPUT: true; the input reads as it did. -/
def fnExactIsPerfectSpec : ChangeSpec := { name := "fnExactIsPerfect", fn := fun _ => fun
  | [d] => { results := [.lit (.bool true)], args := [d] }
  | _ => none }
def fnExactIsPerfectRow : OpenClaim := { program := "ytdamagcfmhimfab", sum := "850e25711fd8b33d04a85c09c65b88ea3e1250261173bee8a512d76ed7e78e00", func := "loop.example/g02080/laws.FnExactIsPerfect", spec := "fnExactIsPerfect", inPlace := ["internal/bytealg.IndexByteString"], unfollowed := true, recurses := true, apart := false }
def FnExactIsPerfectSaid : Prop := fnExactIsPerfectRow.holds Try.pinned (OpenSpec.ofChange fnExactIsPerfectSpec)

/-- ITS FALSE NEIGHBOUR: 'it returns false'. Refute it at one input. -/
def fnExactIsPerfectWrong : ChangeSpec := { name := "fnExactIsPerfect", fn := fun _ => fun
  | [d] => { results := [.lit (.bool false)], args := [d] }
  | _ => none }
def FnExactIsPerfectWrongFalsely : Prop := fnExactIsPerfectRow.holds Try.pinned (OpenSpec.ofChange fnExactIsPerfectWrong)

/-- 'laws.FnExactFormatNames': WHATEVER THE INPUT: true; the input reads as it did. -/
def fnExactFormatNamesSpec : ChangeSpec := { name := "fnExactFormatNames", fn := fun _ => fun
  | [d] => { results := [.lit (.bool true)], args := [d] }
  | _ => none }
def fnExactFormatNamesRow : OpenClaim := { program := "ytdamagcfmhimfab", sum := "850e25711fd8b33d04a85c09c65b88ea3e1250261173bee8a512d76ed7e78e00", func := "loop.example/g02080/laws.FnExactFormatNames", spec := "fnExactFormatNames", inPlace := ["internal/abi.NoEscape", "internal/bytealg.MakeNoZero"], apart := false }
def FnExactFormatNamesSaid : Prop := fnExactFormatNamesRow.holds Try.pinned (OpenSpec.ofChange fnExactFormatNamesSpec)

/-- ITS FALSE NEIGHBOUR: 'it returns false'. Refute it at one input. -/
def fnExactFormatNamesWrong : ChangeSpec := { name := "fnExactFormatNames", fn := fun _ => fun
  | [d] => { results := [.lit (.bool false)], args := [d] }
  | _ => none }
def FnExactFormatNamesWrongFalsely : Prop := fnExactFormatNamesRow.holds Try.pinned (OpenSpec.ofChange fnExactFormatNamesWrong)

/-- 'laws.FnExactFuseAll': WHATEVER THE INPUT: true; the input reads as it did. -/
def fnExactFuseAllSpec : ChangeSpec := { name := "fnExactFuseAll", fn := fun _ => fun
  | [d] => { results := [.lit (.bool true)], args := [d] }
  | _ => none }
def fnExactFuseAllRow : OpenClaim := { program := "ytdamagcfmhimfab", sum := "850e25711fd8b33d04a85c09c65b88ea3e1250261173bee8a512d76ed7e78e00", func := "loop.example/g02080/laws.FnExactFuseAll", spec := "fnExactFuseAll", apart := false }
def FnExactFuseAllSaid : Prop := fnExactFuseAllRow.holds Try.pinned (OpenSpec.ofChange fnExactFuseAllSpec)

/-- ITS FALSE NEIGHBOUR: 'it returns false'. Refute it at one input. -/
def fnExactFuseAllWrong : ChangeSpec := { name := "fnExactFuseAll", fn := fun _ => fun
  | [d] => { results := [.lit (.bool false)], args := [d] }
  | _ => none }
def FnExactFuseAllWrongFalsely : Prop := fnExactFuseAllRow.holds Try.pinned (OpenSpec.ofChange fnExactFuseAllWrong)

/- THE SECOND FORM. 'bulk': how many values and letters a reading holds, each counted each time it is reached (what is shared counts as often as it is met; a slice's spare places count too). A statement '..UptoSaid' is the law's where the arguments, and the package variables that the reading takes, are together of bulk at most 1048576: NARROWER than '..Said'. Prove '..Said' where nothing that the law and all that it calls make is longer than what came in: it says more and counts as full. Else prove '..UptoSaid'. A law counts once. -/
mutual
def uptoBulk {H : Type} : DataW H → Nat
  | .lit (.string bytes) => bytes.length + 1
  | .lit _ => 1
  | .nil => 1
  | .ptr d => uptoBulk d + 1
  | .slice elems spare => uptoBulkAll elems + uptoBulkAll spare + 1
  | .agg parts => uptoBulkAll parts + 1
  | .iface _ d => uptoBulk d + 1
  | .map entries => uptoBulkEntries entries + 1
  | .held _ => 1
def uptoBulkAll {H : Type} : List (DataW H) → Nat
  | [] => 0
  | d :: r => uptoBulk d + uptoBulkAll r
def uptoBulkEntries {H : Type} : List (Lit × DataW H) → Nat
  | [] => 0
  | x :: r => uptoBulkEntry x + uptoBulkEntries r
def uptoBulkEntry {H : Type} : Lit × DataW H → Nat
  | (.string bytes, d) => bytes.length + uptoBulk d + 1
  | (_, d) => uptoBulk d + 1
 end
def uptoSmall : (H : Type) → List (DataW H) → Bool := fun _ ds => decide (uptoBulkAll ds ≤ 1048576)
def OpenSpec.upto (s : _root_.Go.ChangeSpec) : _root_.Go.OpenSpec := { _root_.Go.OpenSpec.ofChange s with cond := some uptoSmall }

/-- 'laws.FnExactCountClusters', WHERE WHAT IT READS IS OF BULK AT MOST 1048576: true; the input reads as it did. -/
def fnExactCountClustersUptoRow : OpenClaim := { program := "ytdamagcfmhimfab", sum := "850e25711fd8b33d04a85c09c65b88ea3e1250261173bee8a512d76ed7e78e00", func := "loop.example/g02080/laws.FnExactCountClusters", spec := "fnExactCountClusters", inPlace := ["internal/bytealg.IndexByteString"], unfollowed := true, recurses := true, apart := false, narrowed := true }
def FnExactCountClustersUptoSaid : Prop := fnExactCountClustersUptoRow.holds Try.pinned (OpenSpec.upto fnExactCountClustersSpec)

/-- 'laws.FnExactCountCodas', WHERE WHAT IT READS IS OF BULK AT MOST 1048576: true; the input reads as it did. -/
def fnExactCountCodasUptoRow : OpenClaim := { program := "ytdamagcfmhimfab", sum := "850e25711fd8b33d04a85c09c65b88ea3e1250261173bee8a512d76ed7e78e00", func := "loop.example/g02080/laws.FnExactCountCodas", spec := "fnExactCountCodas", inPlace := ["internal/bytealg.IndexByteString"], unfollowed := true, recurses := true, apart := false, narrowed := true }
def FnExactCountCodasUptoSaid : Prop := fnExactCountCodasUptoRow.holds Try.pinned (OpenSpec.upto fnExactCountCodasSpec)

/-- 'laws.FnExactCountOnsetless', WHERE WHAT IT READS IS OF BULK AT MOST 1048576: true; the input reads as it did. -/
def fnExactCountOnsetlessUptoRow : OpenClaim := { program := "ytdamagcfmhimfab", sum := "850e25711fd8b33d04a85c09c65b88ea3e1250261173bee8a512d76ed7e78e00", func := "loop.example/g02080/laws.FnExactCountOnsetless", spec := "fnExactCountOnsetless", inPlace := ["internal/bytealg.IndexByteString"], unfollowed := true, recurses := true, apart := false, narrowed := true }
def FnExactCountOnsetlessUptoSaid : Prop := fnExactCountOnsetlessUptoRow.holds Try.pinned (OpenSpec.upto fnExactCountOnsetlessSpec)

/-- 'laws.FnExactParseWL', WHERE WHAT IT READS IS OF BULK AT MOST 1048576: true; the input reads as it did. -/
def fnExactParseWLUptoRow : OpenClaim := { program := "ytdamagcfmhimfab", sum := "850e25711fd8b33d04a85c09c65b88ea3e1250261173bee8a512d76ed7e78e00", func := "loop.example/g02080/laws.FnExactParseWL", spec := "fnExactParseWL", apart := false, narrowed := true }
def FnExactParseWLUptoSaid : Prop := fnExactParseWLUptoRow.holds Try.pinned (OpenSpec.upto fnExactParseWLSpec)

/-- 'laws.FnExactAreRows', WHERE WHAT IT READS IS OF BULK AT MOST 1048576: true; the input reads as it did. -/
def fnExactAreRowsUptoRow : OpenClaim := { program := "ytdamagcfmhimfab", sum := "850e25711fd8b33d04a85c09c65b88ea3e1250261173bee8a512d76ed7e78e00", func := "loop.example/g02080/laws.FnExactAreRows", spec := "fnExactAreRows", apart := false, narrowed := true }
def FnExactAreRowsUptoSaid : Prop := fnExactAreRowsUptoRow.holds Try.pinned (OpenSpec.upto fnExactAreRowsSpec)

/-- 'laws.FnExactFuseRows', WHERE WHAT IT READS IS OF BULK AT MOST 1048576: true; the input reads as it did. -/
def fnExactFuseRowsUptoRow : OpenClaim := { program := "ytdamagcfmhimfab", sum := "850e25711fd8b33d04a85c09c65b88ea3e1250261173bee8a512d76ed7e78e00", func := "loop.example/g02080/laws.FnExactFuseRows", spec := "fnExactFuseRows", apart := false, narrowed := true }
def FnExactFuseRowsUptoSaid : Prop := fnExactFuseRowsUptoRow.holds Try.pinned (OpenSpec.upto fnExactFuseRowsSpec)

/-- 'laws.FnExactEntailsRow', WHERE WHAT IT READS IS OF BULK AT MOST 1048576: true; the input reads as it did. -/
def fnExactEntailsRowUptoRow : OpenClaim := { program := "ytdamagcfmhimfab", sum := "850e25711fd8b33d04a85c09c65b88ea3e1250261173bee8a512d76ed7e78e00", func := "loop.example/g02080/laws.FnExactEntailsRow", spec := "fnExactEntailsRow", apart := false, narrowed := true }
def FnExactEntailsRowUptoSaid : Prop := fnExactEntailsRowUptoRow.holds Try.pinned (OpenSpec.upto fnExactEntailsRowSpec)

/-- 'laws.FnExactEqualRows', WHERE WHAT IT READS IS OF BULK AT MOST 1048576: true; the input reads as it did. -/
def fnExactEqualRowsUptoRow : OpenClaim := { program := "ytdamagcfmhimfab", sum := "850e25711fd8b33d04a85c09c65b88ea3e1250261173bee8a512d76ed7e78e00", func := "loop.example/g02080/laws.FnExactEqualRows", spec := "fnExactEqualRows", unfollowed := true, recurses := true, apart := false, narrowed := true }
def FnExactEqualRowsUptoSaid : Prop := fnExactEqualRowsUptoRow.holds Try.pinned (OpenSpec.upto fnExactEqualRowsSpec)

/-- 'laws.FnExactAllRankings', WHERE WHAT IT READS IS OF BULK AT MOST 1048576: true; the input reads as it did. -/
def fnExactAllRankingsUptoRow : OpenClaim := { program := "ytdamagcfmhimfab", sum := "850e25711fd8b33d04a85c09c65b88ea3e1250261173bee8a512d76ed7e78e00", func := "loop.example/g02080/laws.FnExactAllRankings", spec := "fnExactAllRankings", unfollowed := true, recurses := true, apart := false, narrowed := true }
def FnExactAllRankingsUptoSaid : Prop := fnExactAllRankingsUptoRow.holds Try.pinned (OpenSpec.upto fnExactAllRankingsSpec)

/-- 'laws.FnExactIsPerfect', WHERE WHAT IT READS IS OF BULK AT MOST 1048576: true; the input reads as it did. -/
def fnExactIsPerfectUptoRow : OpenClaim := { program := "ytdamagcfmhimfab", sum := "850e25711fd8b33d04a85c09c65b88ea3e1250261173bee8a512d76ed7e78e00", func := "loop.example/g02080/laws.FnExactIsPerfect", spec := "fnExactIsPerfect", inPlace := ["internal/bytealg.IndexByteString"], unfollowed := true, recurses := true, apart := false, narrowed := true }
def FnExactIsPerfectUptoSaid : Prop := fnExactIsPerfectUptoRow.holds Try.pinned (OpenSpec.upto fnExactIsPerfectSpec)

/-- 'laws.FnExactFormatNames', WHERE WHAT IT READS IS OF BULK AT MOST 1048576: true; the input reads as it did. -/
def fnExactFormatNamesUptoRow : OpenClaim := { program := "ytdamagcfmhimfab", sum := "850e25711fd8b33d04a85c09c65b88ea3e1250261173bee8a512d76ed7e78e00", func := "loop.example/g02080/laws.FnExactFormatNames", spec := "fnExactFormatNames", inPlace := ["internal/abi.NoEscape", "internal/bytealg.MakeNoZero"], apart := false, narrowed := true }
def FnExactFormatNamesUptoSaid : Prop := fnExactFormatNamesUptoRow.holds Try.pinned (OpenSpec.upto fnExactFormatNamesSpec)

/-- 'laws.FnExactFuseAll', WHERE WHAT IT READS IS OF BULK AT MOST 1048576: true; the input reads as it did. -/
def fnExactFuseAllUptoRow : OpenClaim := { program := "ytdamagcfmhimfab", sum := "850e25711fd8b33d04a85c09c65b88ea3e1250261173bee8a512d76ed7e78e00", func := "loop.example/g02080/laws.FnExactFuseAll", spec := "fnExactFuseAll", apart := false, narrowed := true }
def FnExactFuseAllUptoSaid : Prop := fnExactFuseAllUptoRow.holds Try.pinned (OpenSpec.upto fnExactFuseAllSpec)

end Rows
end Go.Proofs.Ytdamagcfmhimfab
