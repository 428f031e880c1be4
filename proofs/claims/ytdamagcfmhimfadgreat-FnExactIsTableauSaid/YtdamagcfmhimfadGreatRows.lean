/-
  No cell of these rows narrows 'for every input' (looked for: loops, veiled, ifaces, maps, wideKeys, modest, calm, conditions, laid).
  DERIVED. THE GIVEN ROWS OF THIS SEAT. 5 by the template 'for every input the law returns true; each argument reads behind the call as it read before'; 0 by the template 'total and deterministic' (their statements: YtdamagcfmhimfadGreatTotals.lean).
  GIVEN WITH THE SEED: the statements are not yours to turn. If you find one false, say at which input.
  Laid BY PROGRAM, IN A SANDBOX (cutbox-rows.mjs): the forced cells as the released guide's own fill.sh prints them over the translation 44e6454f6019d2fa… (all of the seat's roots in one cut). By AI agents, Wed Nov 11 2026. No macro, syntax, notation, axiom, sorry.
-/
import Derived.Test.YtdamagcfmhimfadGreatChecked
import GoSem.Claim
import GoSem.ClaimJoined
import GoSem.ClaimMapViews
import Derived.JoinedTies
import Derived.KernelRfl
namespace Go.Proofs.YtdamagcfmhimfadGreat
/- THE CELL 'sum', in the pinned program and in every row, IS THE sha256 OF THE DUMP (.gsa) THAT YtdamagcfmhimfadGreatProg.lean LOADS. Nothing in Lean hashes anything: it is a label: what it is worth is what the hold of that sum in a sandbox is worth. -/
noncomputable def Tryz.pinned : Pinned := { name := "ytdamagcfmhimfadgreat", sum := "44e6454f6019d2faf23b823ff89c9dba5b6aa4b2fe0a4b36604491d709271209", checked := Tryz.checked }
namespace Rows
def none {H : Type} : Left H := { results := [], args := [] }

/-- 'laws.FnExactIsTableau': WHATEVER THE INPUT: true; the input reads as it did. -/
def fnExactIsTableauSpec : ChangeSpec := { name := "fnExactIsTableau", fn := fun _ => fun
  | [d] => { results := [.lit (.bool true)], args := [d] }
  | _ => none }
def fnExactIsTableauRow : OpenClaim := { program := "ytdamagcfmhimfadgreat", sum := "44e6454f6019d2faf23b823ff89c9dba5b6aa4b2fe0a4b36604491d709271209", func := "loop.example/g02080/laws.FnExactIsTableau", spec := "fnExactIsTableau", inPlace := ["internal/bytealg.IndexByteString"], unfollowed := true, recurses := true, apart := false }
def FnExactIsTableauSaid : Prop := fnExactIsTableauRow.holds Tryz.pinned (OpenSpec.ofChange fnExactIsTableauSpec)

/-- ITS FALSE NEIGHBOUR: 'it returns false'. Refute it at one input. -/
def fnExactIsTableauWrong : ChangeSpec := { name := "fnExactIsTableau", fn := fun _ => fun
  | [d] => { results := [.lit (.bool false)], args := [d] }
  | _ => none }
def FnExactIsTableauWrongFalsely : Prop := fnExactIsTableauRow.holds Tryz.pinned (OpenSpec.ofChange fnExactIsTableauWrong)

/-- 'laws.FnExactRowWith': WHATEVER THE INPUT: true; the input reads as it did. -/
def fnExactRowWithSpec : ChangeSpec := { name := "fnExactRowWith", fn := fun _ => fun
  | [d1, d2] => { results := [.lit (.bool true)], args := [d1, d2] }
  | _ => none }
def fnExactRowWithRow : OpenClaim := { program := "ytdamagcfmhimfadgreat", sum := "44e6454f6019d2faf23b823ff89c9dba5b6aa4b2fe0a4b36604491d709271209", func := "loop.example/g02080/laws.FnExactRowWith", spec := "fnExactRowWith", inPlace := ["internal/bytealg.IndexByteString"], unfollowed := true, recurses := true, apart := false }
def FnExactRowWithSaid : Prop := fnExactRowWithRow.holds Tryz.pinned (OpenSpec.ofChange fnExactRowWithSpec)

/-- ITS FALSE NEIGHBOUR: 'it returns false'. Refute it at one input. -/
def fnExactRowWithWrong : ChangeSpec := { name := "fnExactRowWith", fn := fun _ => fun
  | [d1, d2] => { results := [.lit (.bool false)], args := [d1, d2] }
  | _ => none }
def FnExactRowWithWrongFalsely : Prop := fnExactRowWithRow.holds Tryz.pinned (OpenSpec.ofChange fnExactRowWithWrong)

/-- 'laws.FnExactTableauOf': WHATEVER THE INPUT: true; the input reads as it did. -/
def fnExactTableauOfSpec : ChangeSpec := { name := "fnExactTableauOf", fn := fun _ => fun
  | [d1, d2] => { results := [.lit (.bool true)], args := [d1, d2] }
  | _ => none }
def fnExactTableauOfRow : OpenClaim := { program := "ytdamagcfmhimfadgreat", sum := "44e6454f6019d2faf23b823ff89c9dba5b6aa4b2fe0a4b36604491d709271209", func := "loop.example/g02080/laws.FnExactTableauOf", spec := "fnExactTableauOf", inPlace := ["internal/bytealg.IndexByteString"], unfollowed := true, recurses := true, apart := false }
def FnExactTableauOfSaid : Prop := fnExactTableauOfRow.holds Tryz.pinned (OpenSpec.ofChange fnExactTableauOfSpec)

/-- ITS FALSE NEIGHBOUR: 'it returns false'. Refute it at one input. -/
def fnExactTableauOfWrong : ChangeSpec := { name := "fnExactTableauOf", fn := fun _ => fun
  | [d1, d2] => { results := [.lit (.bool false)], args := [d1, d2] }
  | _ => none }
def FnExactTableauOfWrongFalsely : Prop := fnExactTableauOfRow.holds Tryz.pinned (OpenSpec.ofChange fnExactTableauOfWrong)

/-- 'laws.FnExactDistinctProfiles': WHATEVER THE INPUT: true; the input reads as it did. -/
def fnExactDistinctProfilesSpec : ChangeSpec := { name := "fnExactDistinctProfiles", fn := fun _ => fun
  | [d] => { results := [.lit (.bool true)], args := [d] }
  | _ => none }
def fnExactDistinctProfilesRow : OpenClaim := { program := "ytdamagcfmhimfadgreat", sum := "44e6454f6019d2faf23b823ff89c9dba5b6aa4b2fe0a4b36604491d709271209", func := "loop.example/g02080/laws.FnExactDistinctProfiles", spec := "fnExactDistinctProfiles", inPlace := ["internal/bytealg.IndexByteString"], unfollowed := true, recurses := true, apart := false }
def FnExactDistinctProfilesSaid : Prop := fnExactDistinctProfilesRow.holds Tryz.pinned (OpenSpec.ofChange fnExactDistinctProfilesSpec)

/-- ITS FALSE NEIGHBOUR: 'it returns false'. Refute it at one input. -/
def fnExactDistinctProfilesWrong : ChangeSpec := { name := "fnExactDistinctProfiles", fn := fun _ => fun
  | [d] => { results := [.lit (.bool false)], args := [d] }
  | _ => none }
def FnExactDistinctProfilesWrongFalsely : Prop := fnExactDistinctProfilesRow.holds Tryz.pinned (OpenSpec.ofChange fnExactDistinctProfilesWrong)

/-- 'laws.FnExactRowsFor': WHATEVER THE INPUT: true; the input reads as it did. -/
def fnExactRowsForSpec : ChangeSpec := { name := "fnExactRowsFor", fn := fun _ => fun
  | [d1, d2] => { results := [.lit (.bool true)], args := [d1, d2] }
  | _ => none }
def fnExactRowsForRow : OpenClaim := { program := "ytdamagcfmhimfadgreat", sum := "44e6454f6019d2faf23b823ff89c9dba5b6aa4b2fe0a4b36604491d709271209", func := "loop.example/g02080/laws.FnExactRowsFor", spec := "fnExactRowsFor", inPlace := ["internal/bytealg.IndexByteString"], unfollowed := true, recurses := true, apart := false }
def FnExactRowsForSaid : Prop := fnExactRowsForRow.holds Tryz.pinned (OpenSpec.ofChange fnExactRowsForSpec)

/-- ITS FALSE NEIGHBOUR: 'it returns false'. Refute it at one input. -/
def fnExactRowsForWrong : ChangeSpec := { name := "fnExactRowsFor", fn := fun _ => fun
  | [d1, d2] => { results := [.lit (.bool false)], args := [d1, d2] }
  | _ => none }
def FnExactRowsForWrongFalsely : Prop := fnExactRowsForRow.holds Tryz.pinned (OpenSpec.ofChange fnExactRowsForWrong)

/- THE SECOND FORM. 'bulk': how many values and letters a reading holds, each counted each time it is reached (what is shared counts as often as it is met; a slice's spare places count too). A statement '..UptoSaid' is the law's where the arguments, and the package variables that the reading takes, are together of bulk at most 1048576: NARROWER than '..Said'. Prove '..Said' where nothing that the law and all that it calls make is longer than what came in: it says more and counts as full. Else prove '..UptoSaid'. A law counts once. -/
mutual
def uptoBulk {H : Type} : DataW H → Nat
  | .lit (.string bytes) => bytes.length + 1
  | .lit _ => 1
  | .nil => 1
  | .ptr d => uptoBulk d + 1
  | .slice elems spare => uptoBulkAll elems + uptoBulkAll spare + 1
  | .agg parts => uptoBulkAll parts + 1
  | .iface _ d => uptoBulk d + 1
  | .map entries => uptoBulkEntries entries + 1
  | .held _ => 1
def uptoBulkAll {H : Type} : List (DataW H) → Nat
  | [] => 0
  | d :: r => uptoBulk d + uptoBulkAll r
def uptoBulkEntries {H : Type} : List (Lit × DataW H) → Nat
  | [] => 0
  | x :: r => uptoBulkEntry x + uptoBulkEntries r
def uptoBulkEntry {H : Type} : Lit × DataW H → Nat
  | (.string bytes, d) => bytes.length + uptoBulk d + 1
  | (_, d) => uptoBulk d + 1
 end
def uptoSmall : (H : Type) → List (DataW H) → Bool := fun _ ds => decide (uptoBulkAll ds ≤ 1048576)
def OpenSpec.upto (s : _root_.Go.ChangeSpec) : _root_.Go.OpenSpec := { _root_.Go.OpenSpec.ofChange s with cond := some uptoSmall }

/-- 'laws.FnExactIsTableau', WHERE WHAT IT READS IS OF BULK AT MOST 1048576: true; the input reads as it did. -/
def fnExactIsTableauUptoRow : OpenClaim := { program := "ytdamagcfmhimfadgreat", sum := "44e6454f6019d2faf23b823ff89c9dba5b6aa4b2fe0a4b36604491d709271209", func := "loop.example/g02080/laws.FnExactIsTableau", spec := "fnExactIsTableau", inPlace := ["internal/bytealg.IndexByteString"], unfollowed := true, recurses := true, apart := false, narrowed := true }
def FnExactIsTableauUptoSaid : Prop := fnExactIsTableauUptoRow.holds Tryz.pinned (OpenSpec.upto fnExactIsTableauSpec)

/-- 'laws.FnExactRowWith', WHERE WHAT IT READS IS OF BULK AT MOST 1048576: true; the input reads as it did. -/
def fnExactRowWithUptoRow : OpenClaim := { program := "ytdamagcfmhimfadgreat", sum := "44e6454f6019d2faf23b823ff89c9dba5b6aa4b2fe0a4b36604491d709271209", func := "loop.example/g02080/laws.FnExactRowWith", spec := "fnExactRowWith", inPlace := ["internal/bytealg.IndexByteString"], unfollowed := true, recurses := true, apart := false, narrowed := true }
def FnExactRowWithUptoSaid : Prop := fnExactRowWithUptoRow.holds Tryz.pinned (OpenSpec.upto fnExactRowWithSpec)

/-- 'laws.FnExactTableauOf', WHERE WHAT IT READS IS OF BULK AT MOST 1048576: true; the input reads as it did. -/
def fnExactTableauOfUptoRow : OpenClaim := { program := "ytdamagcfmhimfadgreat", sum := "44e6454f6019d2faf23b823ff89c9dba5b6aa4b2fe0a4b36604491d709271209", func := "loop.example/g02080/laws.FnExactTableauOf", spec := "fnExactTableauOf", inPlace := ["internal/bytealg.IndexByteString"], unfollowed := true, recurses := true, apart := false, narrowed := true }
def FnExactTableauOfUptoSaid : Prop := fnExactTableauOfUptoRow.holds Tryz.pinned (OpenSpec.upto fnExactTableauOfSpec)

/-- 'laws.FnExactDistinctProfiles', WHERE WHAT IT READS IS OF BULK AT MOST 1048576: true; the input reads as it did. -/
def fnExactDistinctProfilesUptoRow : OpenClaim := { program := "ytdamagcfmhimfadgreat", sum := "44e6454f6019d2faf23b823ff89c9dba5b6aa4b2fe0a4b36604491d709271209", func := "loop.example/g02080/laws.FnExactDistinctProfiles", spec := "fnExactDistinctProfiles", inPlace := ["internal/bytealg.IndexByteString"], unfollowed := true, recurses := true, apart := false, narrowed := true }
def FnExactDistinctProfilesUptoSaid : Prop := fnExactDistinctProfilesUptoRow.holds Tryz.pinned (OpenSpec.upto fnExactDistinctProfilesSpec)

/-- 'laws.FnExactRowsFor', WHERE WHAT IT READS IS OF BULK AT MOST 1048576: true; the input reads as it did. -/
def fnExactRowsForUptoRow : OpenClaim := { program := "ytdamagcfmhimfadgreat", sum := "44e6454f6019d2faf23b823ff89c9dba5b6aa4b2fe0a4b36604491d709271209", func := "loop.example/g02080/laws.FnExactRowsFor", spec := "fnExactRowsFor", inPlace := ["internal/bytealg.IndexByteString"], unfollowed := true, recurses := true, apart := false, narrowed := true }
def FnExactRowsForUptoSaid : Prop := fnExactRowsForUptoRow.holds Tryz.pinned (OpenSpec.upto fnExactRowsForSpec)

end Rows
end Go.Proofs.YtdamagcfmhimfadGreat
