/- Lemmas that carry often repeated closing steps of the printed walks as default arguments. -/
import Derived.Test.YtlmfpkiaikjlbaaDoorWWords
import Derived.Test.YtlmfpkiaikjlbaaDoorWMore
import Derived.Test.YtlmfpkiaikjlbaaDoorWTab
namespace Go.Proofs.YtlmfpkiaikjlbaaDoorB
open Go.RowKit Go.Proofs.YtlmfpkiaikjlbaaDoorW.PrintWords Go.Proofs.YtlmfpkiaikjlbaaDoorW.PrintLast Go.Proofs.YtlmfpkiaikjlbaaDoorW.PrintMore
theorem bkT {w w' : World} {g g' : Nat} {o o' : Obj} (h : w.heap[g]? = some o) (hs : w.heap[g]? = some o → w'.heap[g']? = some o' := by intro h_; (with_reducible repeat (first | refine blk_drewN ?_ _ | refine blk_drew ?_ | refine blk_alloc ?_ _)); exact h_) : w'.heap[g']? = some o' := hs h
theorem roT {α : Type} {d : Kd α} {e e' : Nat} {w w' : World} {base base' : Nat} {ok ok' : Nat → Prop} {v v' : Value} {xs xs' : List α} (h : d.R e w base ok v xs) (hs : d.R e w base ok v xs → d.R e' w' base' ok' v' xs' := by intro h_; (with_reducible repeat (first | apply Kd.R_alloc | apply Kd.R_drewN | apply Kd.R_drew)); exact h_) : d.R e' w' base' ok' v' xs' := hs h
theorem hbT {n n' : Nat} {w w' W W' : World} (h : Below n w W) (hs : Below n w W → Below n' w' W' := by intro h_; repeat (first | (with_reducible first | exact h_ | apply below_alloc | apply pw_below_drewN | apply below_drew1 | refine below_set ?_ (Aside0.out (by assumption))) | exact h_)) : Below n' w' W' := hs h
theorem crT {α : Type} {d : Kd α} {A A' : Option Addr} {n n' : Nat} {xs xs' : List α} {w W W' : World} (h : d.C w A n xs) (hb : Below w.heap.size w W) (hs : d.C W A n xs → d.C W' A' n' xs' := by intro h_; repeat (first | exact h_ | (with_reducible refine Kd.C_alloc ?_ _) | (with_reducible refine Kd.C_drewN ?_ _) | (with_reducible refine Kd.C_drew ?_))) : d.C W' A' n' xs' := hs (Kd.C_below h hb)
theorem rlT {p : Prop} (h : p := by first | rfl | (simp [errW_none, errW_some] <;> rfl) | (simp [*, errW_none, errW_some] <;> rfl)) : p := h
theorem rdT {p : Prop} (h : p := by first | rfl | (simp; done) | (simp [*]; done)) : p := h
theorem drT {w w' : World} (h : Drawn0 w w' := by repeat (first | exact Drawn0.refl _ | apply Drawn0.step)) : Drawn0 w w' := h
theorem asmT {p : Prop} (h : p := by first | (with_reducible assumption) | assumption) : p := h
theorem geT {w W W' : World} {g : Nat} (hg : g = W'.heap.size) (h : Below w.heap.size w W) (hs : Below w.heap.size w W → Below w.heap.size w W' := by intro h_; repeat (first | (with_reducible first | exact h_ | apply below_alloc | apply pw_below_drewN | apply below_drew1 | refine below_set ?_ (Aside0.out (by assumption))) | exact h_)) : w.heap.size ≤ g := hg ▸ (hs h).size
section
variable {P : Program} {ops : Array Oper} {rest : List Oper} {o : Oper} {a : Act} {Q : Exit → Act → World → Prop}
theorem boxT {W : World} {N : Tmp} {cs : Array Value} {t : TypeId}
    (h : ∀ g, g = W.heap.size → ∀ w1, w1.heap[g]? = some (.cells cs t (0, 0)) → Below W.heap.size W w1 → wpList P ops Q rest (a.put o.dst (.pointer (some ⟨g, 0, none⟩))) w1)
    (hgd : o.guard = none := by rfl) (hd : o.dst = some N := by rfl) (hrun : (execOp a.eval o).run P W = .ok (.value (.pointer (some ⟨W.heap.size, 0, none⟩))) (W.alloc (.cells cs t (0, 0))) := by first | (go_simp; done) | (go_simp; rfl)) : wpList P ops Q (o :: rest) a W := box_event hgd hd hrun h
end
theorem sA {α : Type _} (l : List α) (i : Nat) (a : α) : l.toArray.setIfInBounds i a = (l.set i a).toArray := List.setIfInBounds_toArray l i a
theorem sZ {α : Type _} {x : α} {xs : List α} {a : α} : (x :: xs).set 0 a = a :: xs := List.set_cons_zero
theorem sS {α : Type _} {x : α} {xs : List α} {i : Nat} {a : α} : (x :: xs).set (i + 1) a = x :: xs.set i a := List.set_cons_succ
/-- the first n bits of m -/
@[reducible] def bA (n m : Nat) : Array Bool := ((List.range n).map fun i => Nat.testBit m i).toArray
theorem sameT {w : World} {a : Addr} {A B : Option Addr} {n c d : Nat} (h : w.cell? a = some (.slice A n c)) (h' : w.cell? a = some (.slice B n d)) : A = B ∧ c = d := by
  rw [h] at h'
  simpa using h'
theorem okT {p q : Prop} (h : p) (hs : p → q := by intro h_; first | exact h_ | exact h_.1 | (simp [h_]; done) | (simp_all; done)) : q := hs h
theorem okF {p q : Prop} (h : p) (s : q) (hs : p → ¬ q := by intro h_; first | exact h_ | exact h_.1 | exact h_.2 | (simp [h_]; done) | (simp_all; done)) : False := hs h s
theorem eqT {α : Sort _} {a b : α} (h : a = b := by (try simp only [List.map_toArray, List.map_cons, List.map_nil]); first | done | rfl | (simp only [List.length_drop, List.length_take]; rfl)) : a = b := h
theorem asT {p : Prop} (h : p) : Aside0 p := ⟨h⟩
section
variable {P : Program} {ops : Array Oper} {Q : Exit → Act → World → Prop} {md : Region.Mode} {S : World → Prop} {ds : List Nat} {T : Bool × List (List Nat × List Nat)} {B : List Nat} {fuel : Nat} {l : Array Bool} {a a' : Act} {w : World} {oi : Oper} {v : Value}
theorem pA (i : Nat) (n : Tmp) (m b : Nat) (hT : rtab md ops = T) (h : wpAnyLast P md ops Q S ds fuel (bA m b) a' w) (hi : ops[i]? = some oi) (hN : oi.dst = some n)
    (hy : Yields P ops oi v a := by refine Or.inl ⟨by rfl, ?_⟩; intro w'; go_simp; with_reducible rfl)
    (ha : a.put (some n) v = a' := by simp only [Act.put, sA, sZ, sS, i64_w, i32_w]; rfl)
    (hQ : ∀ c a w, Q (.panic c) (a.put oi.dst v) w → Q (.panic c) a w := by exact fun _ _ _ h => h)
    (hc : anyT T l.toList (bA m b).toList i = true := by kernel_rfl) : wpAnyLast P md ops Q S ds (fuel + 1) l a w :=
  pure_ (bA m b) hi hN (any_of hT hc) hQ hy ha h
theorem uA (i : Nat) (n : Tmp) (m b : Nat) (hT : rtab md ops = T) (h : wpAnyLast P md ops Q S ds fuel (bA m b) a' w) (hi : ops[i]? = some oi) (hN : oi.dst = some n)
    (hy : Yields P ops oi undef a := by exact Or.inr ⟨by rfl, rfl⟩)
    (ha : a.put (some n) undef = a' := by simp only [Act.put, sA, sZ, sS, i64_w, i32_w]; rfl)
    (hQ : ∀ c a w, Q (.panic c) (a.put oi.dst undef) w → Q (.panic c) a w := by exact fun _ _ _ h => h)
    (hc : anyT T l.toList (bA m b).toList i = true := by kernel_rfl) : wpAnyLast P md ops Q S ds (fuel + 1) l a w :=
  pure_ (bA m b) hi hN (any_of hT hc) hQ hy ha h
theorem tA (i : Nat) (n : Tmp) (m b : Nat) (hT : rtab md ops = T) (hB : waitsOk T.2 B = true) (hS : S w) (h : wpAnyLast P md ops Q S ds fuel (bA m b) a' w) (hi : ops[i]? = some oi) (hN : oi.dst = some n)
    (hy : YieldsIf P ops S oi v a := by refine Or.inl ⟨by rfl, ?_⟩; intro w' hs_; (repeat (have := And.left hs_; replace hs_ := And.right hs_)); go_simp; with_reducible rfl)
    (ha : a.put (some n) v = a' := by simp only [Act.put, sA, sZ, sS, i64_w, i32_w]; rfl)
    (hQ : ∀ c a w, Q (.panic c) (a.put oi.dst v) w → Q (.panic c) a w := by exact fun _ _ _ h => h)
    (hc : takeW T B ds l.toList (bA m b).toList i = true := by kernel_rfl) : wpAnyLast P md ops Q S ds (fuel + 1) l a w :=
  take_ (bA m b) hi hN (take_ofW hT hB hc) hQ hy hS ha h
theorem nA (h : wpAnyLast P md ops Q S ds fuel l a' w) (ha : a = a' := by (show Act.put _ _ _ = _); simp only [Act.put, sA, sZ, sS, i64_w, i32_w]; rfl) : wpAnyLast P md ops Q S ds fuel l a w := norm_ ha h
theorem nB (n : Tmp) {x : Act} (h : wpAnyLast P md ops Q S ds fuel l a' w) (hx : a = x.put (some n) v) (ha : x.put (some n) v = a' := by simp only [Act.put, sA, sZ, sS, i64_w, i32_w]; rfl) : wpAnyLast P md ops Q S ds fuel l a w := norm_ (hx.trans ha) h
theorem oA (i : Nat) (n : Tmp) (m b : Nat) (hT : rtab md ops = T) (h : ∀ K : Act → World → Prop, Shut (∀ a' w', S w' → (S w' → wpAnyLast P md ops Q S ds fuel (bA m b) a' w') → K a' w') → if Region.wanted oi (yielded ops a.tmps) = true then Oper.wp P oi a w K Q else K (a.put (some n) undef) w)
    (hi : ops[i]? = some oi) (hN : oi.dst = some n) (hd : i ∉ ds := by decide)
    (hc : (readyT T.2 l.toList == [i] && l.toList.set i true == (bA m b).toList) = true := by kernel_rfl) : wpAnyLast P md ops Q S ds (fuel + 1) l a w :=
  one_ (bA m b) hi hN (one_of hT hc) hd h
end
section
variable {w w' W W' : World} {g : Nat} {t : TypeId} {a b c d e v : Value} {r : List Value} {o : Obj} {ad : Addr}
theorem bc0 (h : w.heap[g]? = some (.cells (a :: r).toArray t (0, 0))) : w.cell? ⟨g, 0, none⟩ = some a := (blk_cell h 0).trans rfl
theorem bc1 (h : w.heap[g]? = some (.cells (a :: b :: r).toArray t (0, 0))) : w.cell? ⟨g, 1, none⟩ = some b := (blk_cell h 1).trans rfl
theorem bc2 (h : w.heap[g]? = some (.cells (a :: b :: c :: r).toArray t (0, 0))) : w.cell? ⟨g, 2, none⟩ = some c := (blk_cell h 2).trans rfl
theorem bc3 (h : w.heap[g]? = some (.cells (a :: b :: c :: d :: r).toArray t (0, 0))) : w.cell? ⟨g, 3, none⟩ = some d := (blk_cell h 3).trans rfl
theorem bx1 (h : w.heap[g]? = some (.cells (a :: r).toArray t (0, 0))) : w.cell? ⟨g, 0, none⟩ = some a ∧ w.frozen? ⟨g, 0, none⟩ = false := ⟨bc0 h, blk_frozen h 0⟩
theorem bx2 (h : w.heap[g]? = some (.cells (a :: b :: r).toArray t (0, 0))) : w.cell? ⟨g, 0, none⟩ = some a ∧ w.cell? ⟨g, 1, none⟩ = some b ∧ w.frozen? ⟨g, 0, none⟩ = false ∧ w.frozen? ⟨g, 1, none⟩ = false := ⟨bc0 h, bc1 h, blk_frozen h 0, blk_frozen h 1⟩
theorem bx4 (h : w.heap[g]? = some (.cells (a :: b :: c :: d :: r).toArray t (0, 0))) : w.cell? ⟨g, 0, none⟩ = some a ∧ w.cell? ⟨g, 1, none⟩ = some b ∧ w.cell? ⟨g, 2, none⟩ = some c ∧ w.cell? ⟨g, 3, none⟩ = some d ∧ w.frozen? ⟨g, 0, none⟩ = false ∧ w.frozen? ⟨g, 1, none⟩ = false ∧ w.frozen? ⟨g, 2, none⟩ = false ∧ w.frozen? ⟨g, 3, none⟩ = false := ⟨bc0 h, bc1 h, bc2 h, bc3 h, blk_frozen h 0, blk_frozen h 1, blk_frozen h 2, blk_frozen h 3⟩
theorem hS (h : Aside0 (Below w.heap.size w W)) (hb : Below W'.heap.size W' w') (hs : Below w.heap.size w W → Below w.heap.size w W' := by intro h_; repeat (first | (with_reducible first | exact h_ | apply below_alloc | apply pw_below_drewN | apply below_drew1 | refine below_set ?_ (Aside0.out (by assumption))) | exact h_)) : Aside0 (Below w.heap.size w w') := asT (below_step (hs h.out) hb)
theorem bS (h : Aside0 (w.heap[g]? = some o)) (hb : Below W.heap.size W W') (hs : w.heap[g]? = some o → W.heap[g]? = some o := by intro h_; (with_reducible repeat (first | refine blk_drewN ?_ _ | refine blk_drew ?_ | refine blk_alloc ?_ _)); exact h_) : Aside0 (W'.heap[g]? = some o) := asT (blk_below (hs h.out) hb)
theorem hbc (h : Below w.heap.size w W) (hc : w.cell? ad = some v) : W.cell? ad = some v := (h.cell (World.block_lt_of_cell? w _ hc)).trans hc
theorem nF : ¬ (false = true) := by decide
end
theorem be {α β : Type} {o : Option α} {f : α → Option β} {r : β} (h : o.bind f = some r) : ∃ x, Aside0 (o = some x) ∧ f x = some r := let ⟨x, h1, h2⟩ := Option.bind_eq_some_iff.mp h; ⟨x, asT h1, h2⟩
end Go.Proofs.YtlmfpkiaikjlbaaDoorB
