/-
  No cell of these rows narrows 'for every input' (looked for: loops, veiled, ifaces, maps, wideKeys, modest, calm, conditions, laid).
  DERIVED. THE GIVEN ROWS OF THIS SEAT. 2 by the template 'for every input the law returns true; each argument reads behind the call as it read before'; 0 by the template 'total and deterministic' (their statements: YtmfhaplhgaehhaaGreatTotals.lean).
  GIVEN WITH THE SEED: the statements are not yours to turn. If you find one false, say at which input.
  Laid BY PROGRAM, IN A SANDBOX (cutbox-rows.mjs): the forced cells as the released guide's own fill.sh prints them over the translation 6ebd3b8badea6f73… (all of the seat's roots in one cut). By AI agents, Wed Nov 11 2026. No macro, syntax, notation, axiom, sorry.
-/
import Derived.Test.YtmfhaplhgaehhaaGreatChecked
import GoSem.Claim
import GoSem.ClaimJoined
import GoSem.ClaimMapViews
import Derived.JoinedTies
import Derived.KernelRfl
namespace Go.Proofs.YtmfhaplhgaehhaaGreat
/- THE CELL 'sum', in the pinned program and in every row, IS THE sha256 OF THE DUMP (.gsa) THAT YtmfhaplhgaehhaaGreatProg.lean LOADS. Nothing in Lean hashes anything: it is a label: what it is worth is what the hold of that sum in a sandbox is worth. -/
noncomputable def Tryz.pinned : Pinned := { name := "ytmfhaplhgaehhaagreat", sum := "6ebd3b8badea6f73a8a34d652db2ad5a54b94e57145bb55dee20ea2ffa79b8a1", checked := Tryz.checked }
namespace Rows
def none {H : Type} : Left H := { results := [], args := [] }

/-- 'laws.FnExactRowWith': WHATEVER THE INPUT: true; the input reads as it did. -/
def fnExactRowWithSpec : ChangeSpec := { name := "fnExactRowWith", fn := fun _ => fun
  | [d1, d2] => { results := [.lit (.bool true)], args := [d1, d2] }
  | _ => none }
def fnExactRowWithRow : OpenClaim := { program := "ytmfhaplhgaehhaagreat", sum := "6ebd3b8badea6f73a8a34d652db2ad5a54b94e57145bb55dee20ea2ffa79b8a1", func := "loop.example/g02080/laws.FnExactRowWith", spec := "fnExactRowWith", inPlace := ["internal/bytealg.IndexByteString"], unfollowed := true, recurses := true, apart := false }
def FnExactRowWithSaid : Prop := fnExactRowWithRow.holds Tryz.pinned (OpenSpec.ofChange fnExactRowWithSpec)

/-- ITS FALSE NEIGHBOUR: 'it returns false'. Refute it at one input. -/
def fnExactRowWithWrong : ChangeSpec := { name := "fnExactRowWith", fn := fun _ => fun
  | [d1, d2] => { results := [.lit (.bool false)], args := [d1, d2] }
  | _ => none }
def FnExactRowWithWrongFalsely : Prop := fnExactRowWithRow.holds Tryz.pinned (OpenSpec.ofChange fnExactRowWithWrong)

/-- 'laws.FnExactTableauOf': WHATEVER THE INPUT: true; the input reads as it did. -/
def fnExactTableauOfSpec : ChangeSpec := { name := "fnExactTableauOf", fn := fun _ => fun
  | [d1, d2] => { results := [.lit (.bool true)], args := [d1, d2] }
  | _ => none }
def fnExactTableauOfRow : OpenClaim := { program := "ytmfhaplhgaehhaagreat", sum := "6ebd3b8badea6f73a8a34d652db2ad5a54b94e57145bb55dee20ea2ffa79b8a1", func := "loop.example/g02080/laws.FnExactTableauOf", spec := "fnExactTableauOf", inPlace := ["internal/bytealg.IndexByteString"], unfollowed := true, recurses := true, apart := false }
def FnExactTableauOfSaid : Prop := fnExactTableauOfRow.holds Tryz.pinned (OpenSpec.ofChange fnExactTableauOfSpec)

/-- ITS FALSE NEIGHBOUR: 'it returns false'. Refute it at one input. -/
def fnExactTableauOfWrong : ChangeSpec := { name := "fnExactTableauOf", fn := fun _ => fun
  | [d1, d2] => { results := [.lit (.bool false)], args := [d1, d2] }
  | _ => none }
def FnExactTableauOfWrongFalsely : Prop := fnExactTableauOfRow.holds Tryz.pinned (OpenSpec.ofChange fnExactTableauOfWrong)

/- THE SECOND FORM. 'bulk': how many values and letters a reading holds, each counted each time it is reached (what is shared counts as often as it is met; a slice's spare places count too). A statement '..UptoSaid' is the law's where the arguments, and the package variables that the reading takes, are together of bulk at most 1048576: NARROWER than '..Said'. Prove '..Said' where nothing that the law and all that it calls make is longer than what came in: it says more and counts as full. Else prove '..UptoSaid'. A law counts once. -/
mutual
def uptoBulk {H : Type} : DataW H → Nat
  | .lit (.string bytes) => bytes.length + 1
  | .lit _ => 1
  | .nil => 1
  | .ptr d => uptoBulk d + 1
  | .slice elems spare => uptoBulkAll elems + uptoBulkAll spare + 1
  | .agg parts => uptoBulkAll parts + 1
  | .iface _ d => uptoBulk d + 1
  | .map entries => uptoBulkEntries entries + 1
  | .held _ => 1
def uptoBulkAll {H : Type} : List (DataW H) → Nat
  | [] => 0
  | d :: r => uptoBulk d + uptoBulkAll r
def uptoBulkEntries {H : Type} : List (Lit × DataW H) → Nat
  | [] => 0
  | x :: r => uptoBulkEntry x + uptoBulkEntries r
def uptoBulkEntry {H : Type} : Lit × DataW H → Nat
  | (.string bytes, d) => bytes.length + uptoBulk d + 1
  | (_, d) => uptoBulk d + 1
 end
def uptoSmall : (H : Type) → List (DataW H) → Bool := fun _ ds => decide (uptoBulkAll ds ≤ 1048576)
def OpenSpec.upto (s : _root_.Go.ChangeSpec) : _root_.Go.OpenSpec := { _root_.Go.OpenSpec.ofChange s with cond := some uptoSmall }

/-- 'laws.FnExactRowWith', WHERE WHAT IT READS IS OF BULK AT MOST 1048576: true; the input reads as it did. -/
def fnExactRowWithUptoRow : OpenClaim := { program := "ytmfhaplhgaehhaagreat", sum := "6ebd3b8badea6f73a8a34d652db2ad5a54b94e57145bb55dee20ea2ffa79b8a1", func := "loop.example/g02080/laws.FnExactRowWith", spec := "fnExactRowWith", inPlace := ["internal/bytealg.IndexByteString"], unfollowed := true, recurses := true, apart := false, narrowed := true }
def FnExactRowWithUptoSaid : Prop := fnExactRowWithUptoRow.holds Tryz.pinned (OpenSpec.upto fnExactRowWithSpec)

/-- 'laws.FnExactTableauOf', WHERE WHAT IT READS IS OF BULK AT MOST 1048576: true; the input reads as it did. -/
def fnExactTableauOfUptoRow : OpenClaim := { program := "ytmfhaplhgaehhaagreat", sum := "6ebd3b8badea6f73a8a34d652db2ad5a54b94e57145bb55dee20ea2ffa79b8a1", func := "loop.example/g02080/laws.FnExactTableauOf", spec := "fnExactTableauOf", inPlace := ["internal/bytealg.IndexByteString"], unfollowed := true, recurses := true, apart := false, narrowed := true }
def FnExactTableauOfUptoSaid : Prop := fnExactTableauOfUptoRow.holds Tryz.pinned (OpenSpec.upto fnExactTableauOfSpec)

end Rows
end Go.Proofs.YtmfhaplhgaehhaaGreat
