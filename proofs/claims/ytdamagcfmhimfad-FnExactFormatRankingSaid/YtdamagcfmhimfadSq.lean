/- Lemmas that carry often repeated closing steps of the printed walks as default arguments. -/
import Derived.Test.YtdamagcfmhimfadWWords
import Derived.Test.YtdamagcfmhimfadWMore
namespace Go.Proofs.YtdamagcfmhimfadB
open Go.RowKit Go.Proofs.YtdamagcfmhimfadW.PrintWords Go.Proofs.YtdamagcfmhimfadW.PrintLast Go.Proofs.YtdamagcfmhimfadW.PrintMore
theorem bkT {w w' : World} {g g' : Nat} {o o' : Obj} (h : w.heap[g]? = some o) (hs : w.heap[g]? = some o → w'.heap[g']? = some o' := by intro h_; (with_reducible repeat (first | refine blk_drewN ?_ _ | refine blk_drew ?_ | refine blk_alloc ?_ _)); exact h_) : w'.heap[g']? = some o' := hs h
theorem roT {α : Type} {d : Kd α} {e e' : Nat} {w w' : World} {base base' : Nat} {ok ok' : Nat → Prop} {v v' : Value} {xs xs' : List α} (h : d.R e w base ok v xs) (hs : d.R e w base ok v xs → d.R e' w' base' ok' v' xs' := by intro h_; (with_reducible repeat (first | apply Kd.R_alloc | apply Kd.R_drewN | apply Kd.R_drew)); exact h_) : d.R e' w' base' ok' v' xs' := hs h
theorem hbT {n n' : Nat} {w w' W W' : World} (h : Below n w W) (hs : Below n w W → Below n' w' W' := by intro h_; repeat (first | (with_reducible first | exact h_ | apply below_alloc | apply pw_below_drewN | apply below_drew1 | refine below_set ?_ (Aside0.out (by assumption))) | exact h_)) : Below n' w' W' := hs h
theorem crT {α : Type} {d : Kd α} {A A' : Option Addr} {n n' : Nat} {xs xs' : List α} {w W W' : World} (h : d.C w A n xs) (hb : Below w.heap.size w W) (hs : d.C W A n xs → d.C W' A' n' xs' := by intro h_; repeat (first | exact h_ | (with_reducible refine Kd.C_alloc ?_ _) | (with_reducible refine Kd.C_drewN ?_ _) | (with_reducible refine Kd.C_drew ?_))) : d.C W' A' n' xs' := hs (Kd.C_below h hb)
theorem rlT {p : Prop} (h : p := by first | rfl | (simp [errW_none, errW_some] <;> rfl) | (simp [*, errW_none, errW_some] <;> rfl)) : p := h
theorem rdT {p : Prop} (h : p := by first | rfl | (simp; done) | (simp [*]; done)) : p := h
theorem drT {w w' : World} (h : Drawn0 w w' := by repeat (first | exact Drawn0.refl _ | apply Drawn0.step)) : Drawn0 w w' := h
theorem asmT {p : Prop} (h : p := by first | (with_reducible assumption) | assumption) : p := h
theorem geT {w W W' : World} {g : Nat} (hg : g = W'.heap.size) (h : Below w.heap.size w W) (hs : Below w.heap.size w W → Below w.heap.size w W' := by intro h_; repeat (first | (with_reducible first | exact h_ | apply below_alloc | apply pw_below_drewN | apply below_drew1 | refine below_set ?_ (Aside0.out (by assumption))) | exact h_)) : w.heap.size ≤ g := hg ▸ (hs h).size
section
variable {P : Program} {ops : Array Oper} {rest : List Oper} {o : Oper} {a : Act} {Q : Exit → Act → World → Prop}
theorem boxT {W : World} {N : Tmp} {cs : Array Value} {t : TypeId}
    (h : ∀ g, g = W.heap.size → ∀ w1, w1.heap[g]? = some (.cells cs t (0, 0)) → Below W.heap.size W w1 → wpList P ops Q rest (a.put o.dst (.pointer (some ⟨g, 0, none⟩))) w1)
    (hgd : o.guard = none := by rfl) (hd : o.dst = some N := by rfl) (hrun : (execOp a.eval o).run P W = .ok (.value (.pointer (some ⟨W.heap.size, 0, none⟩))) (W.alloc (.cells cs t (0, 0))) := by first | (go_simp; done) | (go_simp; rfl)) : wpList P ops Q (o :: rest) a W := box_event hgd hd hrun h
end
theorem sA {α : Type _} (l : List α) (i : Nat) (a : α) : l.toArray.setIfInBounds i a = (l.set i a).toArray := List.setIfInBounds_toArray l i a
theorem sZ {α : Type _} {x : α} {xs : List α} {a : α} : (x :: xs).set 0 a = a :: xs := List.set_cons_zero
theorem sS {α : Type _} {x : α} {xs : List α} {i : Nat} {a : α} : (x :: xs).set (i + 1) a = x :: xs.set i a := List.set_cons_succ
/-- the first n bits of m -/
@[reducible] def bA (n m : Nat) : Array Bool := ((List.range n).map fun i => Nat.testBit m i).toArray
theorem sameT {w : World} {a : Addr} {A B : Option Addr} {n c d : Nat} (h : w.cell? a = some (.slice A n c)) (h' : w.cell? a = some (.slice B n d)) : A = B ∧ c = d := by
  rw [h] at h'
  simpa using h'
theorem okT {p q : Prop} (h : p) (hs : p → q := by intro h_; first | exact h_ | exact h_.1 | (simp [h_]; done) | (simp_all; done)) : q := hs h
theorem okF {p q : Prop} (h : p) (s : q) (hs : p → ¬ q := by intro h_; first | exact h_ | exact h_.1 | exact h_.2 | (simp [h_]; done) | (simp_all; done)) : False := hs h s
theorem eqT {α : Sort _} {a b : α} (h : a = b := by (try simp only [List.map_toArray, List.map_cons, List.map_nil]); first | done | rfl | (simp only [List.length_drop, List.length_take]; rfl)) : a = b := h
theorem asT {p : Prop} (h : p) : Aside0 p := ⟨h⟩
end Go.Proofs.YtdamagcfmhimfadB
