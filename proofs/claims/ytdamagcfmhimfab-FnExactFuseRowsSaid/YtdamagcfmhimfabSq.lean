/- Lemmas that carry often repeated closing steps of the printed walks as default arguments. -/
import Derived.Test.YtdamagcfmhimfabWWords
import Derived.Test.YtdamagcfmhimfabWMore
namespace Go.Proofs.YtdamagcfmhimfabB
open Go.RowKit Go.Proofs.YtdamagcfmhimfabW.PrintWords Go.Proofs.YtdamagcfmhimfabW.PrintLast Go.Proofs.YtdamagcfmhimfabW.PrintMore
theorem bkT {w w' : World} {g g' : Nat} {o o' : Obj} (h : w.heap[g]? = some o) (hs : w.heap[g]? = some o → w'.heap[g']? = some o' := by intro h_; (with_reducible repeat (first | refine blk_drewN ?_ _ | refine blk_drew ?_ | refine blk_alloc ?_ _)); exact h_) : w'.heap[g']? = some o' := hs h
theorem roT {α : Type} {d : Kd α} {e e' : Nat} {w w' : World} {base base' : Nat} {ok ok' : Nat → Prop} {v v' : Value} {xs xs' : List α} (h : d.R e w base ok v xs) (hs : d.R e w base ok v xs → d.R e' w' base' ok' v' xs' := by intro h_; (with_reducible repeat (first | apply Kd.R_alloc | apply Kd.R_drewN | apply Kd.R_drew)); exact h_) : d.R e' w' base' ok' v' xs' := hs h
theorem hbT {n n' : Nat} {w w' W W' : World} (h : Below n w W) (hs : Below n w W → Below n' w' W' := by intro h_; repeat (first | (with_reducible first | exact h_ | apply below_alloc | apply pw_below_drewN | apply below_drew1 | refine below_set ?_ (Aside0.out (by assumption))) | exact h_)) : Below n' w' W' := hs h
theorem eqT {α : Sort _} {a b : α} (h : a = b := by (try simp only [List.map_toArray, List.map_cons, List.map_nil]); first | done | rfl | (simp only [List.length_drop, List.length_take]; rfl)) : a = b := h
theorem asT {p : Prop} (h : p) : Aside0 p := ⟨h⟩
end Go.Proofs.YtdamagcfmhimfabB
