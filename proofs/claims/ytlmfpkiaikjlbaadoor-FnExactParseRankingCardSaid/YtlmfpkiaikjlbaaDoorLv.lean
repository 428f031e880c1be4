/- What holds of memory while only other blocks change: a law's objects, each in blocks of its own. -/
import Derived.Test.YtlmfpkiaikjlbaaDoorWWords
import Derived.Test.YtlmfpkiaikjlbaaDoorWApart
import Derived.Test.YtlmfpkiaikjlbaaDoorWKept
import Derived.Test.YtlmfpkiaikjlbaaDoorWN
import Derived.Test.YtlmfpkiaikjlbaaDoorWMore
namespace Go.Proofs.YtlmfpkiaikjlbaaDoorB
open Go.RowKit Go.Proofs.YtlmfpkiaikjlbaaDoorW.PrintWords Go.Proofs.YtlmfpkiaikjlbaaDoorW.PrintLast Go.Proofs.YtlmfpkiaikjlbaaDoorW.PrintMore
set_option linter.unusedVariables false
/-- Q holds, and goes on holding while the blocks from lo to hi stay. -/
def Live (Q : World → Prop) (lo hi : Nat) (W : World) : Prop := hi ≤ W.heap.size ∧ ∀ W' : World, (∀ k, lo ≤ k → k < hi → W'.heap[k]? = W.heap[k]?) → Q W'
/-- The blocks from lo to hi. -/
def Rng (lo hi : Nat) : Nat → Prop := fun k => lo ≤ k ∧ k < hi
section
variable {α : Type} {d : Kd α} {Q : World → Prop} {lo hi e base : Nat} {w W W' : World} {v : Value} {xs : List α} {P ok : Nat → Prop}
theorem Live.now (h : Live Q lo hi W) : Q W := h.2 W (fun _ _ _ => rfl)
theorem Live.step (h : Live Q lo hi W) (hs : W.heap.size ≤ W'.heap.size) (hm : ∀ k, lo ≤ k → k < hi → W'.heap[k]? = W.heap[k]?) : Live Q lo hi W' :=
  ⟨Nat.le_trans h.1 hs, fun W2 h2 => h.2 W2 (fun k h3 h4 => (h2 k h3 h4).trans (hm k h3 h4))⟩
theorem Live.below (h : Live Q lo hi W) (hb : Below W.heap.size W W') : Live Q lo hi W' := h.step hb.size (fun k _ h2 => hb.block k (Nat.lt_of_lt_of_le h2 h.1))
theorem Live.drawn (h : Live Q lo hi W) (hb : Drawn0 W W') : Live Q lo hi W' := h.below hb.below
theorem Live.kept (h : Live Q lo hi W) (hk : Kept W W' P) (hP : ∀ k, lo ≤ k → k < hi → ¬ P k) : Live Q lo hi W' := h.step hk.1 (fun k h1 h2 => hk.2 k (Nat.lt_of_lt_of_le h2 h.1) (hP k h1 h2))
theorem Live.far (h : Live Q lo hi W) {a b : Nat} (hk : Kept W W' (Rng a b)) (hd : hi ≤ a ∨ b ≤ lo) : Live Q lo hi W' := h.kept hk (fun k h1 h2 h3 => by have := h3.1; have := h3.2; omega)
theorem live_S (h : Kd.S d e W base (Rng lo hi) v xs) (hi' : hi ≤ W.heap.size) : Live (fun W => Kd.S d e W base (Rng lo hi) v xs) lo hi W := ⟨hi', fun W2 h2 => Kd.S_step h (fun k hk _ => h2 k hk.1 hk.2)⟩
theorem live_R (h : d.R e W base (Rng lo hi) v xs) (hi' : hi ≤ W.heap.size) : Live (fun W => d.R e W base (Rng lo hi) v xs) lo hi W := ⟨hi', fun W2 h2 => Kd.R_step h (fun k hk _ => h2 k hk.1 hk.2)⟩
theorem live_N (h : Kd.N d e W base (Rng lo hi) v xs) (hi' : hi ≤ W.heap.size) : Live (fun W => Kd.N d e W base (Rng lo hi) v xs) lo hi W := ⟨hi', fun W2 h2 => Kd.N_step h (fun k hk _ => h2 k hk.1 hk.2)⟩
/-- Made by a call: in the blocks that the call added. -/
theorem made_S {b : Nat} (h : Kd.S d e W' W.heap.size ok v xs) (hb : b ≤ W.heap.size) : Live (fun U => Kd.S d e U b (Rng W.heap.size W'.heap.size) v xs) W.heap.size W'.heap.size W' :=
  live_S (Kd.S_lower (Kd.S_mono (Kd.S_bound h) (fun k hk => ⟨hk.2.1, hk.2.2.1⟩)) hb) (Nat.le_refl _)
theorem made_R {b : Nat} (h : d.R e W' W.heap.size ok v xs) (hb : b ≤ W.heap.size) : Live (fun U => d.R e U b (Rng W.heap.size W'.heap.size) v xs) W.heap.size W'.heap.size W' :=
  live_R (Kd.R_lower (Kd.R_mono (Kd.R_bound h) (fun k hk => ⟨hk.2.1, hk.2.2.1⟩)) hb) (Nat.le_refl _)
theorem made_N {b : Nat} (h : Kd.N d e W' W.heap.size (fun k => W.heap.size ≤ k) v xs) (hb : b ≤ W.heap.size) : Live (fun U => Kd.N d e U b (Rng W.heap.size W'.heap.size) v xs) W.heap.size W'.heap.size W' :=
  live_N (Kd.N_lower (Kd.N_mono (Kd.N_bound h) (fun k hk => ⟨hk.1, hk.2⟩)) hb) (Nat.le_refl _)
/-- What a writer left. -/
theorem left_S (h : Kd.S d e W' base (Rng lo hi) v xs) (hs : hi ≤ W'.heap.size) : Live (fun U => Kd.S d e U base (Rng lo hi) v xs) lo hi W' := live_S h hs
theorem left_R {m : Nat} {v' : Value} {ys : List α} (hE : d.E = []) (h : d.R e W' base (fun k => Rng lo hi k ∨ m ≤ k) v xs) (h0 : d.R e W base (Rng lo hi) v' ys) (hv : v = v') (hs : hi ≤ W'.heap.size) : Live (fun U => d.R e U base (Rng lo hi) v xs) lo hi W' :=
  live_R (Kd.R_mono (Kd.R_tight hE h) (fun k hk => h0.1 k (hv ▸ hk.symm))) hs
theorem size_set (W : World) (p : Addr) (u : Value) : (W.setCell p u).heap.size = W.heap.size := by simp [World.setCell]
theorem Live.set (h : Live Q lo hi W) {g j : Nat} (hd : hi ≤ g ∨ g < lo) (u : Value) : Live Q lo hi (W.setCell ⟨g, j, none⟩ u) :=
  h.step (Nat.le_of_eq (size_set _ _ _).symm) (fun k h1 h2 => Below.heap_setCell W ⟨g, j, none⟩ u k (fun (e : k = g) => by omega))
theorem kept_below {w0 : World} (hb : Below w0.heap.size w0 W') : Below w0.heap.size w0 W' := hb
end
end Go.Proofs.YtlmfpkiaikjlbaaDoorB
