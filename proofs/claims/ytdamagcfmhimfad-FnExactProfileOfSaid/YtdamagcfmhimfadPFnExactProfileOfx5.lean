-- Made by gen.py (a program of this session) out of the translation; Lean checks it.
import Derived.Test.YtdamagcfmhimfadPFnExactProfileOfx0
import Derived.Test.YtdamagcfmhimfadPFnExactProfileOfx3
namespace Go.Proofs.Ytdamagcfmhimfad.PFnExactProfileOf
open Go.RowKit Go.Proofs.YtdamagcfmhimfadB Go.Proofs.YtdamagcfmhimfadW.PrintWords Go.Proofs.YtdamagcfmhimfadW.PrintLast Go.Proofs.YtdamagcfmhimfadW.PrintMore
attribute [local go_sem] max2_int min2_int max_two min_two max_three min_three max_four min_four   -- for this text's walks alone
set_option linter.unusedVariables false
set_option linter.unusedSimpArgs false

/-! ### spec_CountDeleted: function 50 -/
mutual
def spec_CountDeleted.l0 : Nat → Int → Int → List (S83) → Option (Int)
 | 0, _, _, _ => none
 | k + 1, x3, x4, x193000 => if x4 < (x193000.length : Int) then ((spec_IsCandidate.f k x193000).bind fun t193 => (spec_CountDeleted.j1 k x3 x4 t193 x193000)) else (spec_CountDeleted.j1 k x3 x4 false x193000)
def spec_CountDeleted.j1 : Nat → Int → Int → Bool → List (S83) → Option (Int)
 | 0, _, _, _, _ => none
 | k + 1, x3, x4, x13, x193000 => if x13 = true then (if 0 ≤ x4 then (if x4 < (x193000.length : Int) then (if ((rd_T83 x193000 x4).f1) = 0 then (spec_CountDeleted.l0 k (wrap64 (x3 + 1)) (wrap64 (x4 + 1)) x193000) else (spec_CountDeleted.l0 k x3 (wrap64 (x4 + 1)) x193000)) else (none)) else (none)) else (some x3)
end
def spec_CountDeleted.f (k : Nat) (l0_0 : List (S83)) : Option (Int) := spec_CountDeleted.l0 k 0 0 l0_0
theorem spec_CountDeleted.mono_l : ∀ k, (∀ y0 y1 y2, LeO (spec_CountDeleted.l0 k y0 y1 y2) (spec_CountDeleted.l0 (k + 1) y0 y1 y2)) ∧ (∀ y0 y1 y2 y3, LeO (spec_CountDeleted.j1 k y0 y1 y2 y3) (spec_CountDeleted.j1 (k + 1) y0 y1 y2 y3))
 | 0 => ⟨fun _ _ _ r h => by simp [spec_CountDeleted.l0] at h, fun _ _ _ _ r h => by simp [spec_CountDeleted.j1] at h⟩
 | k + 1 => by
  obtain ⟨ih0, ih1⟩ := spec_CountDeleted.mono_l k; refine ⟨?_, ?_⟩
  ·intro y0 y1 y2
   unfold spec_CountDeleted.l0
   repeat' first
   | (with_reducible exact ih0 _ _ _)
   | (with_reducible exact ih1 _ _ _ _)
   | (with_reducible exact spec_IsCandidate.mono _ _)
   | (with_reducible exact LeO.refl _)
   | (with_reducible exact LeO.none _)
   | (with_reducible refine LeO.ite ?_ ?_)
   | (with_reducible refine LeO.bind ?_ (fun _ => ?_))
   | exact ih0 _ _ _
   | exact ih1 _ _ _ _
   | exact spec_IsCandidate.mono _ _
   | exact LeO.none _
   | refine LeO.ite ?_ ?_
   | refine LeO.bind ?_ (fun _ => ?_)
  ·intro y0 y1 y2 y3
   unfold spec_CountDeleted.j1
   repeat' first
   | (with_reducible exact ih0 _ _ _)
   | (with_reducible exact ih1 _ _ _ _)
   | (with_reducible exact spec_IsCandidate.mono _ _)
   | (with_reducible exact LeO.refl _)
   | (with_reducible exact LeO.none _)
   | (with_reducible refine LeO.ite ?_ ?_)
   | (with_reducible refine LeO.bind ?_ (fun _ => ?_))
   | exact ih0 _ _ _
   | exact ih1 _ _ _ _
   | exact spec_IsCandidate.mono _ _
   | exact LeO.none _
   | refine LeO.ite ?_ ?_
   | refine LeO.bind ?_ (fun _ => ?_)
theorem spec_CountDeleted.mono : ∀ a0 k, LeO (spec_CountDeleted.f k a0) (spec_CountDeleted.f (k + 1) a0) := by
 intro a0 k
 obtain ⟨ih0, ih1⟩ := spec_CountDeleted.mono_l k
 unfold spec_CountDeleted.f
 repeat' first
   | (with_reducible exact ih0 _ _ _)
   | (with_reducible exact ih1 _ _ _ _)
   | (with_reducible exact spec_IsCandidate.mono _ _)
   | (with_reducible exact LeO.refl _)
   | (with_reducible exact LeO.none _)
   | (with_reducible refine LeO.ite ?_ ?_)
   | (with_reducible refine LeO.bind ?_ (fun _ => ?_))
   | exact ih0 _ _ _
   | exact ih1 _ _ _ _
   | exact spec_IsCandidate.mono _ _
   | exact LeO.none _
   | refine LeO.ite ?_ ?_
   | refine LeO.bind ?_ (fun _ => ?_)
set_option maxHeartbeats 8000000 in
set_option maxRecDepth 100000 in
theorem spec_CountDeleted.calls (k : Nat) (A0_0 : Option Addr) (c0_0 : Nat) (l0_0 : List (S83)) (r : Int) (w : World) (hr0_0 : Kd.C k83 w A0_0 l0_0.length l0_0) (hc0_0 : l0_0.length ≤ c0_0) (h : spec_CountDeleted.f k l0_0 = some r) :
  Calls Try.prog 50 #[.agg #[.slice A0_0 l0_0.length c0_0]] w fun e w' => e = .returned (.int .i64 r) ∧ Below w.heap.size w w' := by
 have hu34 := Try.underlying34; have HR0_0 := Aside0.mk hr0_0; have HC0_0 := Aside0.mk hc0_0; clear hr0_0 hc0_0; have HB := asT (Below.refl w.heap.size w)
 have H : (spec_CountDeleted.l0 k 0 0 l0_0) = some r := h
 clear h; have H' := Aside0.mk H; clear H
 go_enter Try.func50, Try.ntmps50
 go_wp2_with (first | ((with_reducible refine gate_dst (N := 1) rfl ?_); refine boxT (N := 1) (cs := #[.slice A0_0 l0_0.length c0_0]) (t := 34) ?_; intro gb192 hg w2 hbox hb; have n0_ := asT (below_step (hbT HB.out) hb); have n1_ := asT (hbox); have n2_ := asT (geT hg HB.out); have n3_ := asT (geT hg HB.out); clear HB; have HB := n0_; have BK192 := n1_; have GW192 := n2_; have GE192 := n3_; clear n0_ n1_ n2_ n3_ hb hbox hg))
 go_loopg [3, 4] k (fun kq v3 v4 w' => ∃ (x3_1 : Int) (x4_1 : Int), v3 = .int .i64 x3_1 ∧ v4 = .int .i64 x4_1 ∧ Aside0 (spec_CountDeleted.l0 kq x3_1 x4_1 l0_0 = some r) ∧ Aside0 (kq ≤ k) ∧ Aside0 (w'.heap[gb192]? = some (.cells #[(.slice A0_0 l0_0.length c0_0)] 34 (0, 0))) ∧ Aside0 (Below w.heap.size w w'))
 case atStart => exact ⟨(0), (0), rdT, rdT, H', ⟨Nat.le_refl _⟩, ⟨by (with_reducible repeat (first | refine blk_drewN ?_ _ | refine blk_drew ?_ | refine blk_alloc ?_ _)); exact BK192.out⟩, ⟨hbT HB.out⟩⟩
 case round =>
  clear H'; (try clear p2); obtain ⟨x3_1, x4_1, rfl, rfl, HA, HK1, BK192, HB⟩ := hrel
  cases gk with
  | zero => exact absurd HA.out (by simp [spec_CountDeleted.l0])
  | succ k1 =>
   have H := HA.out; clear HA
   simp only [spec_CountDeleted.l0] at H
   have HC3 := Aside0.mk H; clear H
   go_upto_region 3 with (fail)
   go_cut [13] (fun v13 wc => ∃ (kq : Nat) (x13_2 : Bool), v13 = .bool x13_2 ∧ Aside0 (spec_CountDeleted.j1 kq x3_1 x4_1 x13_2 l0_0 = some r) ∧ Aside0 (kq ≤ k1) ∧ Aside0 (wc.heap[gb192]? = some (.cells #[(.slice A0_0 l0_0.length c0_0)] 34 (0, 0))) ∧ Aside0 (Below w.heap.size w wc))
   case first =>
    have H := HC3.out; clear HC3
    by_cases c4 : x4_1 < (l0_0.length : Int)
    ·rw [if_pos c4] at H
     have c4b0 : decide (x4_1 < (l0_0.length : Int)) = true := decide_eq_true c4
     clear c4
     (first | rw [c4b0] | (simp only [i64_w, i32_w]; rw [c4b0]) | skip)
     replace H := Option.bind_eq_some_iff.mp H; obtain ⟨t193, A50, H⟩ := H; replace H : (spec_CountDeleted.j1 k1 x3_1 x4_1 t193 l0_0) = some r := H; have A5 := Aside0.mk A50; clear A50; have H' := Aside0.mk H; clear H
     have hcz6_0 : wr.cell? ⟨gb192, 0, none⟩ = some (.slice A0_0 l0_0.length c0_0) := (blk_cell BK192.out 0).trans rfl
     have hfz6_0 := blk_frozen BK192.out 0
     go_wp2_with (first | (go_at_call 42; (with_reducible refine (spec_IsCandidate.calls k1 _ _ l0_0 t193 _ ?side1 ?side2 A5.out).mono ?_); (case side1 => exact crT HR0_0.out HB.out); (case side2 => exact HC0_0.out); rintro e w7 ⟨rfl, hb⟩; have n0_ := asT (blk_below (bkT BK192.out) hb); have n1_ := asT (below_step (hbT HB.out) hb); clear BK192 HB; have BK192 := n0_; have HB := n1_; clear n0_ n1_; (try clear hb); (try clear hb2); (try clear hk); (try clear hi)))
     go_meet
     case rel => exact ⟨_, (t193), rdT, H', ⟨by have := HK1.out; first | omega | exact Nat.le_refl _⟩, ⟨by (with_reducible repeat (first | refine blk_drewN ?_ _ | refine blk_drew ?_ | refine blk_alloc ?_ _)); exact BK192.out⟩, ⟨hbT HB.out⟩⟩
    ·rw [if_neg c4] at H
     have c4b0 : decide (x4_1 < (l0_0.length : Int)) = false := decide_eq_false c4
     clear c4
     (first | rw [c4b0] | (simp only [i64_w, i32_w]; rw [c4b0]) | skip)
     have H' := Aside0.mk H; clear H
     have hcz8_0 : wr.cell? ⟨gb192, 0, none⟩ = some (.slice A0_0 l0_0.length c0_0) := (blk_cell BK192.out 0).trans rfl
     have hfz8_0 := blk_frozen BK192.out 0
     go_wp2
     go_meet
     case rel => exact ⟨_, (false), rdT, H', ⟨by have := HK1.out; first | omega | exact Nat.le_refl _⟩, ⟨by (with_reducible repeat (first | refine blk_drewN ?_ _ | refine blk_drew ?_ | refine blk_alloc ?_ _)); exact BK192.out⟩, ⟨hbT HB.out⟩⟩
   case rest =>
    clear HC3; (try clear p2); (try clear c4); (try clear c4b0); (try clear c5); (try clear hcz6_0); (try clear hcz8_0); (try clear hfz6_0); (try clear hfz8_0); (try clear p2); obtain ⟨kq, x13_2, rfl, HA, HJ2, BK192, HB⟩ := hcut
    cases kq with
    | zero => exact absurd HA.out (by simp [spec_CountDeleted.j1])
    | succ kj2 =>
     have H := HA.out; clear HA
     simp only [spec_CountDeleted.j1] at H
     by_cases c9 : x13_2 = true
     ·subst c9
      have H1 : (if 0 ≤ x4_1 then (if x4_1 < (l0_0.length : Int) then (if ((rd_T83 l0_0 x4_1).f1) = 0 then (spec_CountDeleted.l0 kj2 (wrap64 (x3_1 + 1)) (wrap64 (x4_1 + 1)) l0_0) else (spec_CountDeleted.l0 kj2 x3_1 (wrap64 (x4_1 + 1)) l0_0)) else (none)) else (none)) = some r := by rw [if_pos rfl] at H; exact H
      clear H; have H := H1; clear H1
      by_cases c10 : 0 ≤ x4_1
      ·rw [if_pos c10] at H
       have c10b0 : decide (0 ≤ x4_1) = true := decide_eq_true c10
       clear c10
       by_cases c11 : x4_1 < (l0_0.length : Int)
       ·rw [if_pos c11] at H
        have c11b0 : decide (x4_1 < (l0_0.length : Int)) = true := decide_eq_true c11
        clear c11
        by_cases c12 : ((rd_T83 l0_0 x4_1).f1) = 0
        ·rw [if_pos c12] at H
         have c12b0 : (((rd_T83 l0_0 x4_1).f1) == 0) = true := beq_iff_eq.mpr c12
         have c12b1 : (((rd_T83 l0_0 x4_1).f1) != 0) = false := bne_eq_false_iff_eq.mpr c12
         clear c12; have H' := Aside0.mk H; clear H
         have hcz13_0 : wc.cell? ⟨gb192, 0, none⟩ = some (.slice A0_0 l0_0.length c0_0) := (blk_cell BK192.out 0).trans rfl
         have hfz13_0 := blk_frozen BK192.out 0
         have p194 : 0 ≤ (x4_1 : Int) := of_decide_eq_true asmT
         have q194 : x4_1 < (l0_0.length : Int) := of_decide_eq_true asmT
         obtain ⟨ad194, e194, hx194_0, hx194_1⟩ := at_T83 HR0_0.out x4_1 p194 q194
         cases e194
         replace hx194_0 := (HB.out.cell (World.block_lt_of_cell? w _ hx194_0)).trans hx194_0; replace hx194_1 := (HB.out.cell (World.block_lt_of_cell? w _ hx194_1)).trans hx194_1; replace p194 := eq_true p194; replace q194 := eq_true q194
         go_wp2
         go_roundg kj2
         case measure => have := HK1.out; have := HJ2.out; omega
         case rel => exact ⟨(wrap64 (x3_1 + 1)), (wrap64 (x4_1 + 1)), rdT, rdT, H', ⟨by have := HK1.out; have := HJ2.out; omega⟩, ⟨by (with_reducible repeat (first | refine blk_drewN ?_ _ | refine blk_drew ?_ | refine blk_alloc ?_ _)); exact BK192.out⟩, ⟨hbT HB.out⟩⟩
        ·rw [if_neg c12] at H
         have c12b0 : (((rd_T83 l0_0 x4_1).f1) == 0) = false := beq_eq_false_iff_ne.mpr c12
         have c12b1 : (((rd_T83 l0_0 x4_1).f1) != 0) = true := bne_iff_ne.mpr c12
         have H' := Aside0.mk H; clear H
         have hcz14_0 : wc.cell? ⟨gb192, 0, none⟩ = some (.slice A0_0 l0_0.length c0_0) := (blk_cell BK192.out 0).trans rfl
         have hfz14_0 := blk_frozen BK192.out 0
         have p194 : 0 ≤ (x4_1 : Int) := of_decide_eq_true asmT
         have q194 : x4_1 < (l0_0.length : Int) := of_decide_eq_true asmT
         obtain ⟨ad194, e194, hx194_0, hx194_1⟩ := at_T83 HR0_0.out x4_1 p194 q194
         cases e194
         replace hx194_0 := (HB.out.cell (World.block_lt_of_cell? w _ hx194_0)).trans hx194_0; replace hx194_1 := (HB.out.cell (World.block_lt_of_cell? w _ hx194_1)).trans hx194_1; replace p194 := eq_true p194; replace q194 := eq_true q194
         go_wp2
         go_roundg kj2
         case measure => have := HK1.out; have := HJ2.out; omega
         case rel => exact ⟨(x3_1), (wrap64 (x4_1 + 1)), rdT, rdT, H', ⟨by have := HK1.out; have := HJ2.out; omega⟩, ⟨by (with_reducible repeat (first | refine blk_drewN ?_ _ | refine blk_drew ?_ | refine blk_alloc ?_ _)); exact BK192.out⟩, ⟨hbT HB.out⟩⟩
       ·rw [if_neg c11] at H
        exact absurd H (by simp)
      ·rw [if_neg c10] at H
       exact absurd H (by simp)
     ·replace c9 := Bool.eq_false_iff.mpr c9
      subst c9
      have H1 : (some x3_1) = some r := by rw [if_neg (show ¬ (false = true) by decide)] at H; exact H
      clear H; have H := H1; clear H1
      obtain rfl := Option.some.inj H
      go_wp2
      go_ret
      exact ⟨rlT, hbT HB.out⟩

/-! ### spec_CountInserted: function 51 -/
mutual
def spec_CountInserted.l0 : Nat → Int → Int → List (S83) → Option (Int)
 | 0, _, _, _ => none
 | k + 1, x3, x4, x196000 => if x4 < (x196000.length : Int) then ((spec_IsCandidate.f k x196000).bind fun t196 => (spec_CountInserted.j1 k x3 x4 t196 x196000)) else (spec_CountInserted.j1 k x3 x4 false x196000)
def spec_CountInserted.j1 : Nat → Int → Int → Bool → List (S83) → Option (Int)
 | 0, _, _, _, _ => none
 | k + 1, x3, x4, x13, x196000 => if x13 = true then (if 0 ≤ x4 then (if x4 < (x196000.length : Int) then (if ((rd_T83 x196000 x4).f0) = 0 then (spec_CountInserted.l0 k (wrap64 (x3 + 1)) (wrap64 (x4 + 1)) x196000) else (spec_CountInserted.l0 k x3 (wrap64 (x4 + 1)) x196000)) else (none)) else (none)) else (some x3)
end
def spec_CountInserted.f (k : Nat) (l0_0 : List (S83)) : Option (Int) := spec_CountInserted.l0 k 0 0 l0_0
theorem spec_CountInserted.mono_l : ∀ k, (∀ y0 y1 y2, LeO (spec_CountInserted.l0 k y0 y1 y2) (spec_CountInserted.l0 (k + 1) y0 y1 y2)) ∧ (∀ y0 y1 y2 y3, LeO (spec_CountInserted.j1 k y0 y1 y2 y3) (spec_CountInserted.j1 (k + 1) y0 y1 y2 y3))
 | 0 => ⟨fun _ _ _ r h => by simp [spec_CountInserted.l0] at h, fun _ _ _ _ r h => by simp [spec_CountInserted.j1] at h⟩
 | k + 1 => by
  obtain ⟨ih0, ih1⟩ := spec_CountInserted.mono_l k; refine ⟨?_, ?_⟩
  ·intro y0 y1 y2
   unfold spec_CountInserted.l0
   repeat' first
   | (with_reducible exact ih0 _ _ _)
   | (with_reducible exact ih1 _ _ _ _)
   | (with_reducible exact spec_IsCandidate.mono _ _)
   | (with_reducible exact LeO.refl _)
   | (with_reducible exact LeO.none _)
   | (with_reducible refine LeO.ite ?_ ?_)
   | (with_reducible refine LeO.bind ?_ (fun _ => ?_))
   | exact ih0 _ _ _
   | exact ih1 _ _ _ _
   | exact spec_IsCandidate.mono _ _
   | exact LeO.none _
   | refine LeO.ite ?_ ?_
   | refine LeO.bind ?_ (fun _ => ?_)
  ·intro y0 y1 y2 y3
   unfold spec_CountInserted.j1
   repeat' first
   | (with_reducible exact ih0 _ _ _)
   | (with_reducible exact ih1 _ _ _ _)
   | (with_reducible exact spec_IsCandidate.mono _ _)
   | (with_reducible exact LeO.refl _)
   | (with_reducible exact LeO.none _)
   | (with_reducible refine LeO.ite ?_ ?_)
   | (with_reducible refine LeO.bind ?_ (fun _ => ?_))
   | exact ih0 _ _ _
   | exact ih1 _ _ _ _
   | exact spec_IsCandidate.mono _ _
   | exact LeO.none _
   | refine LeO.ite ?_ ?_
   | refine LeO.bind ?_ (fun _ => ?_)
theorem spec_CountInserted.mono : ∀ a0 k, LeO (spec_CountInserted.f k a0) (spec_CountInserted.f (k + 1) a0) := by
 intro a0 k
 obtain ⟨ih0, ih1⟩ := spec_CountInserted.mono_l k
 unfold spec_CountInserted.f
 repeat' first
   | (with_reducible exact ih0 _ _ _)
   | (with_reducible exact ih1 _ _ _ _)
   | (with_reducible exact spec_IsCandidate.mono _ _)
   | (with_reducible exact LeO.refl _)
   | (with_reducible exact LeO.none _)
   | (with_reducible refine LeO.ite ?_ ?_)
   | (with_reducible refine LeO.bind ?_ (fun _ => ?_))
   | exact ih0 _ _ _
   | exact ih1 _ _ _ _
   | exact spec_IsCandidate.mono _ _
   | exact LeO.none _
   | refine LeO.ite ?_ ?_
   | refine LeO.bind ?_ (fun _ => ?_)
set_option maxHeartbeats 8000000 in
set_option maxRecDepth 100000 in
theorem spec_CountInserted.calls (k : Nat) (A0_0 : Option Addr) (c0_0 : Nat) (l0_0 : List (S83)) (r : Int) (w : World) (hr0_0 : Kd.C k83 w A0_0 l0_0.length l0_0) (hc0_0 : l0_0.length ≤ c0_0) (h : spec_CountInserted.f k l0_0 = some r) :
  Calls Try.prog 51 #[.agg #[.slice A0_0 l0_0.length c0_0]] w fun e w' => e = .returned (.int .i64 r) ∧ Below w.heap.size w w' := by
 have hu34 := Try.underlying34; have HR0_0 := Aside0.mk hr0_0; have HC0_0 := Aside0.mk hc0_0; clear hr0_0 hc0_0; have HB := asT (Below.refl w.heap.size w)
 have H : (spec_CountInserted.l0 k 0 0 l0_0) = some r := h
 clear h; have H' := Aside0.mk H; clear H
 go_enter Try.func51, Try.ntmps51
 go_wp2_with (first | ((with_reducible refine gate_dst (N := 1) rfl ?_); refine boxT (N := 1) (cs := #[.slice A0_0 l0_0.length c0_0]) (t := 34) ?_; intro gb195 hg w2 hbox hb; have n0_ := asT (below_step (hbT HB.out) hb); have n1_ := asT (hbox); have n2_ := asT (geT hg HB.out); have n3_ := asT (geT hg HB.out); clear HB; have HB := n0_; have BK195 := n1_; have GW195 := n2_; have GE195 := n3_; clear n0_ n1_ n2_ n3_ hb hbox hg))
 go_loopg [3, 4] k (fun kq v3 v4 w' => ∃ (x3_1 : Int) (x4_1 : Int), v3 = .int .i64 x3_1 ∧ v4 = .int .i64 x4_1 ∧ Aside0 (spec_CountInserted.l0 kq x3_1 x4_1 l0_0 = some r) ∧ Aside0 (kq ≤ k) ∧ Aside0 (w'.heap[gb195]? = some (.cells #[(.slice A0_0 l0_0.length c0_0)] 34 (0, 0))) ∧ Aside0 (Below w.heap.size w w'))
 case atStart => exact ⟨(0), (0), rdT, rdT, H', ⟨Nat.le_refl _⟩, ⟨by (with_reducible repeat (first | refine blk_drewN ?_ _ | refine blk_drew ?_ | refine blk_alloc ?_ _)); exact BK195.out⟩, ⟨hbT HB.out⟩⟩
 case round =>
  clear H'; (try clear p2); obtain ⟨x3_1, x4_1, rfl, rfl, HA, HK1, BK195, HB⟩ := hrel
  cases gk with
  | zero => exact absurd HA.out (by simp [spec_CountInserted.l0])
  | succ k1 =>
   have H := HA.out; clear HA
   simp only [spec_CountInserted.l0] at H
   have HC3 := Aside0.mk H; clear H
   go_upto_region 3 with (fail)
   go_cut [13] (fun v13 wc => ∃ (kq : Nat) (x13_2 : Bool), v13 = .bool x13_2 ∧ Aside0 (spec_CountInserted.j1 kq x3_1 x4_1 x13_2 l0_0 = some r) ∧ Aside0 (kq ≤ k1) ∧ Aside0 (wc.heap[gb195]? = some (.cells #[(.slice A0_0 l0_0.length c0_0)] 34 (0, 0))) ∧ Aside0 (Below w.heap.size w wc))
   case first =>
    have H := HC3.out; clear HC3
    by_cases c4 : x4_1 < (l0_0.length : Int)
    ·rw [if_pos c4] at H
     have c4b0 : decide (x4_1 < (l0_0.length : Int)) = true := decide_eq_true c4
     clear c4
     (first | rw [c4b0] | (simp only [i64_w, i32_w]; rw [c4b0]) | skip)
     replace H := Option.bind_eq_some_iff.mp H; obtain ⟨t196, A50, H⟩ := H; replace H : (spec_CountInserted.j1 k1 x3_1 x4_1 t196 l0_0) = some r := H; have A5 := Aside0.mk A50; clear A50; have H' := Aside0.mk H; clear H
     have hcz6_0 : wr.cell? ⟨gb195, 0, none⟩ = some (.slice A0_0 l0_0.length c0_0) := (blk_cell BK195.out 0).trans rfl
     have hfz6_0 := blk_frozen BK195.out 0
     go_wp2_with (first | (go_at_call 42; (with_reducible refine (spec_IsCandidate.calls k1 _ _ l0_0 t196 _ ?side1 ?side2 A5.out).mono ?_); (case side1 => exact crT HR0_0.out HB.out); (case side2 => exact HC0_0.out); rintro e w7 ⟨rfl, hb⟩; have n0_ := asT (blk_below (bkT BK195.out) hb); have n1_ := asT (below_step (hbT HB.out) hb); clear BK195 HB; have BK195 := n0_; have HB := n1_; clear n0_ n1_; (try clear hb); (try clear hb2); (try clear hk); (try clear hi)))
     go_meet
     case rel => exact ⟨_, (t196), rdT, H', ⟨by have := HK1.out; first | omega | exact Nat.le_refl _⟩, ⟨by (with_reducible repeat (first | refine blk_drewN ?_ _ | refine blk_drew ?_ | refine blk_alloc ?_ _)); exact BK195.out⟩, ⟨hbT HB.out⟩⟩
    ·rw [if_neg c4] at H
     have c4b0 : decide (x4_1 < (l0_0.length : Int)) = false := decide_eq_false c4
     clear c4
     (first | rw [c4b0] | (simp only [i64_w, i32_w]; rw [c4b0]) | skip)
     have H' := Aside0.mk H; clear H
     have hcz8_0 : wr.cell? ⟨gb195, 0, none⟩ = some (.slice A0_0 l0_0.length c0_0) := (blk_cell BK195.out 0).trans rfl
     have hfz8_0 := blk_frozen BK195.out 0
     go_wp2
     go_meet
     case rel => exact ⟨_, (false), rdT, H', ⟨by have := HK1.out; first | omega | exact Nat.le_refl _⟩, ⟨by (with_reducible repeat (first | refine blk_drewN ?_ _ | refine blk_drew ?_ | refine blk_alloc ?_ _)); exact BK195.out⟩, ⟨hbT HB.out⟩⟩
   case rest =>
    clear HC3; (try clear p2); (try clear c4); (try clear c4b0); (try clear c5); (try clear hcz6_0); (try clear hcz8_0); (try clear hfz6_0); (try clear hfz8_0); (try clear p2); obtain ⟨kq, x13_2, rfl, HA, HJ2, BK195, HB⟩ := hcut
    cases kq with
    | zero => exact absurd HA.out (by simp [spec_CountInserted.j1])
    | succ kj2 =>
     have H := HA.out; clear HA
     simp only [spec_CountInserted.j1] at H
     by_cases c9 : x13_2 = true
     ·subst c9
      have H1 : (if 0 ≤ x4_1 then (if x4_1 < (l0_0.length : Int) then (if ((rd_T83 l0_0 x4_1).f0) = 0 then (spec_CountInserted.l0 kj2 (wrap64 (x3_1 + 1)) (wrap64 (x4_1 + 1)) l0_0) else (spec_CountInserted.l0 kj2 x3_1 (wrap64 (x4_1 + 1)) l0_0)) else (none)) else (none)) = some r := by rw [if_pos rfl] at H; exact H
      clear H; have H := H1; clear H1
      by_cases c10 : 0 ≤ x4_1
      ·rw [if_pos c10] at H
       have c10b0 : decide (0 ≤ x4_1) = true := decide_eq_true c10
       clear c10
       by_cases c11 : x4_1 < (l0_0.length : Int)
       ·rw [if_pos c11] at H
        have c11b0 : decide (x4_1 < (l0_0.length : Int)) = true := decide_eq_true c11
        clear c11
        by_cases c12 : ((rd_T83 l0_0 x4_1).f0) = 0
        ·rw [if_pos c12] at H
         have c12b0 : (((rd_T83 l0_0 x4_1).f0) == 0) = true := beq_iff_eq.mpr c12
         have c12b1 : (((rd_T83 l0_0 x4_1).f0) != 0) = false := bne_eq_false_iff_eq.mpr c12
         clear c12; have H' := Aside0.mk H; clear H
         have hcz13_0 : wc.cell? ⟨gb195, 0, none⟩ = some (.slice A0_0 l0_0.length c0_0) := (blk_cell BK195.out 0).trans rfl
         have hfz13_0 := blk_frozen BK195.out 0
         have p197 : 0 ≤ (x4_1 : Int) := of_decide_eq_true asmT
         have q197 : x4_1 < (l0_0.length : Int) := of_decide_eq_true asmT
         obtain ⟨ad197, e197, hx197_0, hx197_1⟩ := at_T83 HR0_0.out x4_1 p197 q197
         cases e197
         replace hx197_0 := (HB.out.cell (World.block_lt_of_cell? w _ hx197_0)).trans hx197_0; replace hx197_1 := (HB.out.cell (World.block_lt_of_cell? w _ hx197_1)).trans hx197_1; replace p197 := eq_true p197; replace q197 := eq_true q197
         go_wp2
         go_roundg kj2
         case measure => have := HK1.out; have := HJ2.out; omega
         case rel => exact ⟨(wrap64 (x3_1 + 1)), (wrap64 (x4_1 + 1)), rdT, rdT, H', ⟨by have := HK1.out; have := HJ2.out; omega⟩, ⟨by (with_reducible repeat (first | refine blk_drewN ?_ _ | refine blk_drew ?_ | refine blk_alloc ?_ _)); exact BK195.out⟩, ⟨hbT HB.out⟩⟩
        ·rw [if_neg c12] at H
         have c12b0 : (((rd_T83 l0_0 x4_1).f0) == 0) = false := beq_eq_false_iff_ne.mpr c12
         have c12b1 : (((rd_T83 l0_0 x4_1).f0) != 0) = true := bne_iff_ne.mpr c12
         have H' := Aside0.mk H; clear H
         have hcz14_0 : wc.cell? ⟨gb195, 0, none⟩ = some (.slice A0_0 l0_0.length c0_0) := (blk_cell BK195.out 0).trans rfl
         have hfz14_0 := blk_frozen BK195.out 0
         have p197 : 0 ≤ (x4_1 : Int) := of_decide_eq_true asmT
         have q197 : x4_1 < (l0_0.length : Int) := of_decide_eq_true asmT
         obtain ⟨ad197, e197, hx197_0, hx197_1⟩ := at_T83 HR0_0.out x4_1 p197 q197
         cases e197
         replace hx197_0 := (HB.out.cell (World.block_lt_of_cell? w _ hx197_0)).trans hx197_0; replace hx197_1 := (HB.out.cell (World.block_lt_of_cell? w _ hx197_1)).trans hx197_1; replace p197 := eq_true p197; replace q197 := eq_true q197
         go_wp2
         go_roundg kj2
         case measure => have := HK1.out; have := HJ2.out; omega
         case rel => exact ⟨(x3_1), (wrap64 (x4_1 + 1)), rdT, rdT, H', ⟨by have := HK1.out; have := HJ2.out; omega⟩, ⟨by (with_reducible repeat (first | refine blk_drewN ?_ _ | refine blk_drew ?_ | refine blk_alloc ?_ _)); exact BK195.out⟩, ⟨hbT HB.out⟩⟩
       ·rw [if_neg c11] at H
        exact absurd H (by simp)
      ·rw [if_neg c10] at H
       exact absurd H (by simp)
     ·replace c9 := Bool.eq_false_iff.mpr c9
      subst c9
      have H1 : (some x3_1) = some r := by rw [if_neg (show ¬ (false = true) by decide)] at H; exact H
      clear H; have H := H1; clear H1
      obtain rfl := Option.some.inj H
      go_wp2
      go_ret
      exact ⟨rlT, hbT HB.out⟩

/-! ### spec_CountVoiceChanged: function 52 -/
mutual
def spec_CountVoiceChanged.l0 : Nat → Int → Int → List (S83) → Option (Int)
 | 0, _, _, _ => none
 | k + 1, x3, x4, x199000 => if x4 < (x199000.length : Int) then ((spec_IsCandidate.f k x199000).bind fun t199 => (spec_CountVoiceChanged.j1 k x3 x4 t199 x199000)) else (spec_CountVoiceChanged.j1 k x3 x4 false x199000)
def spec_CountVoiceChanged.j1 : Nat → Int → Int → Bool → List (S83) → Option (Int)
 | 0, _, _, _, _ => none
 | k + 1, x3, x4, x14, x199000 => if x14 = true then (if 0 ≤ x4 then (if x4 < (x199000.length : Int) then (if ((rd_T83 x199000 x4).f0) = 0 then (spec_CountVoiceChanged.l0 k x3 (wrap64 (x4 + 1)) x199000) else (if ((rd_T83 x199000 x4).f1) = 0 then (spec_CountVoiceChanged.l0 k x3 (wrap64 (x4 + 1)) x199000) else (if ((rd_T83 x199000 x4).f0) = ((rd_T83 x199000 x4).f1) then (spec_CountVoiceChanged.l0 k x3 (wrap64 (x4 + 1)) x199000) else (spec_CountVoiceChanged.l0 k (wrap64 (x3 + 1)) (wrap64 (x4 + 1)) x199000)))) else (none)) else (none)) else (some x3)
end
def spec_CountVoiceChanged.f (k : Nat) (l0_0 : List (S83)) : Option (Int) := spec_CountVoiceChanged.l0 k 0 0 l0_0
theorem spec_CountVoiceChanged.mono_l : ∀ k, (∀ y0 y1 y2, LeO (spec_CountVoiceChanged.l0 k y0 y1 y2) (spec_CountVoiceChanged.l0 (k + 1) y0 y1 y2)) ∧ (∀ y0 y1 y2 y3, LeO (spec_CountVoiceChanged.j1 k y0 y1 y2 y3) (spec_CountVoiceChanged.j1 (k + 1) y0 y1 y2 y3))
 | 0 => ⟨fun _ _ _ r h => by simp [spec_CountVoiceChanged.l0] at h, fun _ _ _ _ r h => by simp [spec_CountVoiceChanged.j1] at h⟩
 | k + 1 => by
  obtain ⟨ih0, ih1⟩ := spec_CountVoiceChanged.mono_l k; refine ⟨?_, ?_⟩
  ·intro y0 y1 y2
   unfold spec_CountVoiceChanged.l0
   repeat' first
   | (with_reducible exact ih0 _ _ _)
   | (with_reducible exact ih1 _ _ _ _)
   | (with_reducible exact spec_IsCandidate.mono _ _)
   | (with_reducible exact LeO.refl _)
   | (with_reducible exact LeO.none _)
   | (with_reducible refine LeO.ite ?_ ?_)
   | (with_reducible refine LeO.bind ?_ (fun _ => ?_))
   | exact ih0 _ _ _
   | exact ih1 _ _ _ _
   | exact spec_IsCandidate.mono _ _
   | exact LeO.none _
   | refine LeO.ite ?_ ?_
   | refine LeO.bind ?_ (fun _ => ?_)
  ·intro y0 y1 y2 y3
   unfold spec_CountVoiceChanged.j1
   repeat' first
   | (with_reducible exact ih0 _ _ _)
   | (with_reducible exact ih1 _ _ _ _)
   | (with_reducible exact spec_IsCandidate.mono _ _)
   | (with_reducible exact LeO.refl _)
   | (with_reducible exact LeO.none _)
   | (with_reducible refine LeO.ite ?_ ?_)
   | (with_reducible refine LeO.bind ?_ (fun _ => ?_))
   | exact ih0 _ _ _
   | exact ih1 _ _ _ _
   | exact spec_IsCandidate.mono _ _
   | exact LeO.none _
   | refine LeO.ite ?_ ?_
   | refine LeO.bind ?_ (fun _ => ?_)
theorem spec_CountVoiceChanged.mono : ∀ a0 k, LeO (spec_CountVoiceChanged.f k a0) (spec_CountVoiceChanged.f (k + 1) a0) := by
 intro a0 k
 obtain ⟨ih0, ih1⟩ := spec_CountVoiceChanged.mono_l k
 unfold spec_CountVoiceChanged.f
 repeat' first
   | (with_reducible exact ih0 _ _ _)
   | (with_reducible exact ih1 _ _ _ _)
   | (with_reducible exact spec_IsCandidate.mono _ _)
   | (with_reducible exact LeO.refl _)
   | (with_reducible exact LeO.none _)
   | (with_reducible refine LeO.ite ?_ ?_)
   | (with_reducible refine LeO.bind ?_ (fun _ => ?_))
   | exact ih0 _ _ _
   | exact ih1 _ _ _ _
   | exact spec_IsCandidate.mono _ _
   | exact LeO.none _
   | refine LeO.ite ?_ ?_
   | refine LeO.bind ?_ (fun _ => ?_)
set_option maxHeartbeats 8000000 in
set_option maxRecDepth 100000 in
theorem spec_CountVoiceChanged.calls (k : Nat) (A0_0 : Option Addr) (c0_0 : Nat) (l0_0 : List (S83)) (r : Int) (w : World) (hr0_0 : Kd.C k83 w A0_0 l0_0.length l0_0) (hc0_0 : l0_0.length ≤ c0_0) (h : spec_CountVoiceChanged.f k l0_0 = some r) :
  Calls Try.prog 52 #[.agg #[.slice A0_0 l0_0.length c0_0]] w fun e w' => e = .returned (.int .i64 r) ∧ Below w.heap.size w w' := by
 have hu34 := Try.underlying34; have hu83 := Try.underlying83; have HR0_0 := Aside0.mk hr0_0; have HC0_0 := Aside0.mk hc0_0; clear hr0_0 hc0_0; have HB := asT (Below.refl w.heap.size w)
 have H : (spec_CountVoiceChanged.l0 k 0 0 l0_0) = some r := h
 clear h; have H' := Aside0.mk H; clear H
 go_enter Try.func52, Try.ntmps52
 go_wp2_with (first | ((with_reducible refine gate_dst (N := 1) rfl ?_); refine boxT (N := 1) (cs := #[.slice A0_0 l0_0.length c0_0]) (t := 34) ?_; intro gb198 hg w2 hbox hb; have n0_ := asT (below_step (hbT HB.out) hb); have n1_ := asT (hbox); have n2_ := asT (geT hg HB.out); have n3_ := asT (geT hg HB.out); clear HB; have HB := n0_; have BK198 := n1_; have GW198 := n2_; have GE198 := n3_; clear n0_ n1_ n2_ n3_ hb hbox hg))
 go_loopg [3, 4] k (fun kq v3 v4 w' => ∃ (x3_1 : Int) (x4_1 : Int), v3 = .int .i64 x3_1 ∧ v4 = .int .i64 x4_1 ∧ Aside0 (spec_CountVoiceChanged.l0 kq x3_1 x4_1 l0_0 = some r) ∧ Aside0 (kq ≤ k) ∧ Aside0 (w'.heap[gb198]? = some (.cells #[(.slice A0_0 l0_0.length c0_0)] 34 (0, 0))) ∧ Aside0 (Below w.heap.size w w'))
 case atStart => exact ⟨(0), (0), rdT, rdT, H', ⟨Nat.le_refl _⟩, ⟨by (with_reducible repeat (first | refine blk_drewN ?_ _ | refine blk_drew ?_ | refine blk_alloc ?_ _)); exact BK198.out⟩, ⟨hbT HB.out⟩⟩
 case round =>
  clear H'; (try clear p2); obtain ⟨x3_1, x4_1, rfl, rfl, HA, HK1, BK198, HB⟩ := hrel
  cases gk with
  | zero => exact absurd HA.out (by simp [spec_CountVoiceChanged.l0])
  | succ k1 =>
   have H := HA.out; clear HA
   simp only [spec_CountVoiceChanged.l0] at H
   have HC3 := Aside0.mk H; clear H
   go_upto_region 3 with (fail)
   go_cut [14] (fun v14 wc => ∃ (kq : Nat) (x14_2 : Bool), v14 = .bool x14_2 ∧ Aside0 (spec_CountVoiceChanged.j1 kq x3_1 x4_1 x14_2 l0_0 = some r) ∧ Aside0 (kq ≤ k1) ∧ Aside0 (wc.heap[gb198]? = some (.cells #[(.slice A0_0 l0_0.length c0_0)] 34 (0, 0))) ∧ Aside0 (Below w.heap.size w wc))
   case first =>
    have H := HC3.out; clear HC3
    by_cases c4 : x4_1 < (l0_0.length : Int)
    ·rw [if_pos c4] at H
     have c4b0 : decide (x4_1 < (l0_0.length : Int)) = true := decide_eq_true c4
     clear c4
     (first | rw [c4b0] | (simp only [i64_w, i32_w]; rw [c4b0]) | skip)
     replace H := Option.bind_eq_some_iff.mp H; obtain ⟨t199, A50, H⟩ := H; replace H : (spec_CountVoiceChanged.j1 k1 x3_1 x4_1 t199 l0_0) = some r := H; have A5 := Aside0.mk A50; clear A50; have H' := Aside0.mk H; clear H
     have hcz6_0 : wr.cell? ⟨gb198, 0, none⟩ = some (.slice A0_0 l0_0.length c0_0) := (blk_cell BK198.out 0).trans rfl
     have hfz6_0 := blk_frozen BK198.out 0
     go_wp2_with (first | (go_at_call 42; (with_reducible refine (spec_IsCandidate.calls k1 _ _ l0_0 t199 _ ?side1 ?side2 A5.out).mono ?_); (case side1 => exact crT HR0_0.out HB.out); (case side2 => exact HC0_0.out); rintro e w7 ⟨rfl, hb⟩; have n0_ := asT (blk_below (bkT BK198.out) hb); have n1_ := asT (below_step (hbT HB.out) hb); clear BK198 HB; have BK198 := n0_; have HB := n1_; clear n0_ n1_; (try clear hb); (try clear hb2); (try clear hk); (try clear hi)))
     go_meet
     case rel => exact ⟨_, (t199), rdT, H', ⟨by have := HK1.out; first | omega | exact Nat.le_refl _⟩, ⟨by (with_reducible repeat (first | refine blk_drewN ?_ _ | refine blk_drew ?_ | refine blk_alloc ?_ _)); exact BK198.out⟩, ⟨hbT HB.out⟩⟩
    ·rw [if_neg c4] at H
     have c4b0 : decide (x4_1 < (l0_0.length : Int)) = false := decide_eq_false c4
     clear c4
     (first | rw [c4b0] | (simp only [i64_w, i32_w]; rw [c4b0]) | skip)
     have H' := Aside0.mk H; clear H
     have hcz8_0 : wr.cell? ⟨gb198, 0, none⟩ = some (.slice A0_0 l0_0.length c0_0) := (blk_cell BK198.out 0).trans rfl
     have hfz8_0 := blk_frozen BK198.out 0
     go_wp2
     go_meet
     case rel => exact ⟨_, (false), rdT, H', ⟨by have := HK1.out; first | omega | exact Nat.le_refl _⟩, ⟨by (with_reducible repeat (first | refine blk_drewN ?_ _ | refine blk_drew ?_ | refine blk_alloc ?_ _)); exact BK198.out⟩, ⟨hbT HB.out⟩⟩
   case rest =>
    clear HC3; (try clear p2); (try clear c4); (try clear c4b0); (try clear c5); (try clear hcz6_0); (try clear hcz8_0); (try clear hfz6_0); (try clear hfz8_0); (try clear p2); obtain ⟨kq, x14_2, rfl, HA, HJ2, BK198, HB⟩ := hcut
    cases kq with
    | zero => exact absurd HA.out (by simp [spec_CountVoiceChanged.j1])
    | succ kj2 =>
     have H := HA.out; clear HA
     simp only [spec_CountVoiceChanged.j1] at H
     by_cases c9 : x14_2 = true
     ·subst c9
      have H1 : (if 0 ≤ x4_1 then (if x4_1 < (l0_0.length : Int) then (if ((rd_T83 l0_0 x4_1).f0) = 0 then (spec_CountVoiceChanged.l0 kj2 x3_1 (wrap64 (x4_1 + 1)) l0_0) else (if ((rd_T83 l0_0 x4_1).f1) = 0 then (spec_CountVoiceChanged.l0 kj2 x3_1 (wrap64 (x4_1 + 1)) l0_0) else (if ((rd_T83 l0_0 x4_1).f0) = ((rd_T83 l0_0 x4_1).f1) then (spec_CountVoiceChanged.l0 kj2 x3_1 (wrap64 (x4_1 + 1)) l0_0) else (spec_CountVoiceChanged.l0 kj2 (wrap64 (x3_1 + 1)) (wrap64 (x4_1 + 1)) l0_0)))) else (none)) else (none)) = some r := by rw [if_pos rfl] at H; exact H
      clear H; have H := H1; clear H1
      by_cases c10 : 0 ≤ x4_1
      ·rw [if_pos c10] at H
       have c10b0 : decide (0 ≤ x4_1) = true := decide_eq_true c10
       clear c10
       by_cases c11 : x4_1 < (l0_0.length : Int)
       ·rw [if_pos c11] at H
        have c11b0 : decide (x4_1 < (l0_0.length : Int)) = true := decide_eq_true c11
        clear c11
        by_cases c12 : ((rd_T83 l0_0 x4_1).f0) = 0
        ·rw [if_pos c12] at H
         have c12b0 : (((rd_T83 l0_0 x4_1).f0) == 0) = true := beq_iff_eq.mpr c12
         have c12b1 : (((rd_T83 l0_0 x4_1).f0) != 0) = false := bne_eq_false_iff_eq.mpr c12
         clear c12; have H' := Aside0.mk H; clear H
         have hcz13_0 : wc.cell? ⟨gb198, 0, none⟩ = some (.slice A0_0 l0_0.length c0_0) := (blk_cell BK198.out 0).trans rfl
         have hfz13_0 := blk_frozen BK198.out 0
         have p200 : 0 ≤ (x4_1 : Int) := of_decide_eq_true asmT
         have q200 : x4_1 < (l0_0.length : Int) := of_decide_eq_true asmT
         obtain ⟨ad200, e200, hx200_0, hx200_1⟩ := at_T83 HR0_0.out x4_1 p200 q200
         cases e200
         replace hx200_0 := (HB.out.cell (World.block_lt_of_cell? w _ hx200_0)).trans hx200_0; replace hx200_1 := (HB.out.cell (World.block_lt_of_cell? w _ hx200_1)).trans hx200_1; replace p200 := eq_true p200; replace q200 := eq_true q200
         go_wp2_with (first | ((with_reducible refine gate_dst (N := 5) rfl ?_); refine boxT (N := 5) (cs := #[.int .u8 0, .int .u8 0]) (t := 83) ?_; intro gb201 hg w14 hbox hb; have n0_ := asT (blk_below (g := gb198) (o := .cells #[.slice (some ad200) l0_0.length c0_0] 34 (0, 0)) (bkT BK198.out) hb); have n1_ := asT (below_step (hbT HB.out) hb); have n2_ := asT (hbox); have n3_ := asT (geT hg HB.out); have n4_ := asT (geT hg HB.out); have n5_ := asT ((by rw [hg]; exact Nat.ne_of_lt (blk_lt (g := gb198) (o := .cells #[.slice (some ad200) l0_0.length c0_0] 34 (0, 0)) (bkT BK198.out)) : gb198 ≠ gb201)); have n6_ := asT ((by rw [hg]; exact Nat.ne_of_gt (blk_lt (g := gb198) (o := .cells #[.slice (some ad200) l0_0.length c0_0] 34 (0, 0)) (bkT BK198.out)) : gb201 ≠ gb198)); clear BK198 HB; have BK198 := n0_; have HB := n1_; have BK201 := n2_; have GW201 := n3_; have GE201 := n4_; have NB198_201 := n5_; have NB201_198 := n6_; clear n0_ n1_ n2_ n3_ n4_ n5_ n6_ hb hbox hg; have hnb15 := NB201_198.out; have hnc15 := NB198_201.out; have hcz16_0 : w14.cell? ⟨gb201, 0, none⟩ = some (.int .u8 0) := (blk_cell BK201.out 0).trans rfl; have hcz16_1 : w14.cell? ⟨gb201, 1, none⟩ = some (.int .u8 0) := (blk_cell BK201.out 1).trans rfl; have hfz16_0 := blk_frozen BK201.out 0; have hfz16_1 := blk_frozen BK201.out 1))
         go_roundg kj2
         case measure => have := HK1.out; have := HJ2.out; omega
         case rel => exact ⟨(x3_1), (wrap64 (x4_1 + 1)), rdT, rdT, H', ⟨by have := HK1.out; have := HJ2.out; omega⟩, ⟨by (with_reducible repeat (first | refine blk_drewN ?_ _ | refine blk_drew ?_ | refine blk_alloc ?_ _)); refine blk_far ?_ NB198_201.out _; (with_reducible repeat (first | refine blk_drewN ?_ _ | refine blk_drew ?_ | refine blk_alloc ?_ _)); refine blk_far ?_ NB198_201.out _; (with_reducible repeat (first | refine blk_drewN ?_ _ | refine blk_drew ?_ | refine blk_alloc ?_ _)); exact BK198.out⟩, ⟨hbT HB.out⟩⟩
        ·rw [if_neg c12] at H
         have c12b0 : (((rd_T83 l0_0 x4_1).f0) == 0) = false := beq_eq_false_iff_ne.mpr c12
         have c12b1 : (((rd_T83 l0_0 x4_1).f0) != 0) = true := bne_iff_ne.mpr c12
         by_cases c17 : ((rd_T83 l0_0 x4_1).f1) = 0
         ·rw [if_pos c17] at H
          have c17b0 : (((rd_T83 l0_0 x4_1).f1) == 0) = true := beq_iff_eq.mpr c17
          have c17b1 : (((rd_T83 l0_0 x4_1).f1) != 0) = false := bne_eq_false_iff_eq.mpr c17
          clear c17; have H' := Aside0.mk H; clear H
          have hcz18_0 : wc.cell? ⟨gb198, 0, none⟩ = some (.slice A0_0 l0_0.length c0_0) := (blk_cell BK198.out 0).trans rfl
          have hfz18_0 := blk_frozen BK198.out 0
          have p200 : 0 ≤ (x4_1 : Int) := of_decide_eq_true asmT
          have q200 : x4_1 < (l0_0.length : Int) := of_decide_eq_true asmT
          obtain ⟨ad200, e200, hx200_0, hx200_1⟩ := at_T83 HR0_0.out x4_1 p200 q200
          cases e200
          replace hx200_0 := (HB.out.cell (World.block_lt_of_cell? w _ hx200_0)).trans hx200_0; replace hx200_1 := (HB.out.cell (World.block_lt_of_cell? w _ hx200_1)).trans hx200_1; replace p200 := eq_true p200; replace q200 := eq_true q200
          go_wp2_with (first | ((with_reducible refine gate_dst (N := 5) rfl ?_); refine boxT (N := 5) (cs := #[.int .u8 0, .int .u8 0]) (t := 83) ?_; intro gb201 hg w19 hbox hb; have n0_ := asT (blk_below (g := gb198) (o := .cells #[.slice (some ad200) l0_0.length c0_0] 34 (0, 0)) (bkT BK198.out) hb); have n1_ := asT (below_step (hbT HB.out) hb); have n2_ := asT (hbox); have n3_ := asT (geT hg HB.out); have n4_ := asT (geT hg HB.out); have n5_ := asT ((by rw [hg]; exact Nat.ne_of_lt (blk_lt (g := gb198) (o := .cells #[.slice (some ad200) l0_0.length c0_0] 34 (0, 0)) (bkT BK198.out)) : gb198 ≠ gb201)); have n6_ := asT ((by rw [hg]; exact Nat.ne_of_gt (blk_lt (g := gb198) (o := .cells #[.slice (some ad200) l0_0.length c0_0] 34 (0, 0)) (bkT BK198.out)) : gb201 ≠ gb198)); clear BK198 HB; have BK198 := n0_; have HB := n1_; have BK201 := n2_; have GW201 := n3_; have GE201 := n4_; have NB198_201 := n5_; have NB201_198 := n6_; clear n0_ n1_ n2_ n3_ n4_ n5_ n6_ hb hbox hg; have hnb20 := NB201_198.out; have hnc20 := NB198_201.out; have hcz21_0 : w19.cell? ⟨gb201, 0, none⟩ = some (.int .u8 0) := (blk_cell BK201.out 0).trans rfl; have hcz21_1 : w19.cell? ⟨gb201, 1, none⟩ = some (.int .u8 0) := (blk_cell BK201.out 1).trans rfl; have hfz21_0 := blk_frozen BK201.out 0; have hfz21_1 := blk_frozen BK201.out 1))
          go_roundg kj2
          case measure => have := HK1.out; have := HJ2.out; omega
          case rel => exact ⟨(x3_1), (wrap64 (x4_1 + 1)), rdT, rdT, H', ⟨by have := HK1.out; have := HJ2.out; omega⟩, ⟨by (with_reducible repeat (first | refine blk_drewN ?_ _ | refine blk_drew ?_ | refine blk_alloc ?_ _)); refine blk_far ?_ NB198_201.out _; (with_reducible repeat (first | refine blk_drewN ?_ _ | refine blk_drew ?_ | refine blk_alloc ?_ _)); refine blk_far ?_ NB198_201.out _; (with_reducible repeat (first | refine blk_drewN ?_ _ | refine blk_drew ?_ | refine blk_alloc ?_ _)); exact BK198.out⟩, ⟨hbT HB.out⟩⟩
         ·rw [if_neg c17] at H
          have c17b0 : (((rd_T83 l0_0 x4_1).f1) == 0) = false := beq_eq_false_iff_ne.mpr c17
          have c17b1 : (((rd_T83 l0_0 x4_1).f1) != 0) = true := bne_iff_ne.mpr c17
          by_cases c22 : ((rd_T83 l0_0 x4_1).f0) = ((rd_T83 l0_0 x4_1).f1)
          ·rw [if_pos c22] at H
           have c22b0 : (((rd_T83 l0_0 x4_1).f0) == ((rd_T83 l0_0 x4_1).f1)) = true := beq_iff_eq.mpr c22
           have c22b1 : (((rd_T83 l0_0 x4_1).f0) != ((rd_T83 l0_0 x4_1).f1)) = false := bne_eq_false_iff_eq.mpr c22
           clear c22; have H' := Aside0.mk H; clear H
           have hcz23_0 : wc.cell? ⟨gb198, 0, none⟩ = some (.slice A0_0 l0_0.length c0_0) := (blk_cell BK198.out 0).trans rfl
           have hfz23_0 := blk_frozen BK198.out 0
           have p200 : 0 ≤ (x4_1 : Int) := of_decide_eq_true asmT
           have q200 : x4_1 < (l0_0.length : Int) := of_decide_eq_true asmT
           obtain ⟨ad200, e200, hx200_0, hx200_1⟩ := at_T83 HR0_0.out x4_1 p200 q200
           cases e200
           replace hx200_0 := (HB.out.cell (World.block_lt_of_cell? w _ hx200_0)).trans hx200_0; replace hx200_1 := (HB.out.cell (World.block_lt_of_cell? w _ hx200_1)).trans hx200_1; replace p200 := eq_true p200; replace q200 := eq_true q200
           go_wp2_with (first | ((with_reducible refine gate_dst (N := 5) rfl ?_); refine boxT (N := 5) (cs := #[.int .u8 0, .int .u8 0]) (t := 83) ?_; intro gb201 hg w24 hbox hb; have n0_ := asT (blk_below (g := gb198) (o := .cells #[.slice (some ad200) l0_0.length c0_0] 34 (0, 0)) (bkT BK198.out) hb); have n1_ := asT (below_step (hbT HB.out) hb); have n2_ := asT (hbox); have n3_ := asT (geT hg HB.out); have n4_ := asT (geT hg HB.out); have n5_ := asT ((by rw [hg]; exact Nat.ne_of_lt (blk_lt (g := gb198) (o := .cells #[.slice (some ad200) l0_0.length c0_0] 34 (0, 0)) (bkT BK198.out)) : gb198 ≠ gb201)); have n6_ := asT ((by rw [hg]; exact Nat.ne_of_gt (blk_lt (g := gb198) (o := .cells #[.slice (some ad200) l0_0.length c0_0] 34 (0, 0)) (bkT BK198.out)) : gb201 ≠ gb198)); clear BK198 HB; have BK198 := n0_; have HB := n1_; have BK201 := n2_; have GW201 := n3_; have GE201 := n4_; have NB198_201 := n5_; have NB201_198 := n6_; clear n0_ n1_ n2_ n3_ n4_ n5_ n6_ hb hbox hg; have hnb25 := NB201_198.out; have hnc25 := NB198_201.out; have hcz26_0 : w24.cell? ⟨gb201, 0, none⟩ = some (.int .u8 0) := (blk_cell BK201.out 0).trans rfl; have hcz26_1 : w24.cell? ⟨gb201, 1, none⟩ = some (.int .u8 0) := (blk_cell BK201.out 1).trans rfl; have hfz26_0 := blk_frozen BK201.out 0; have hfz26_1 := blk_frozen BK201.out 1))
           go_roundg kj2
           case measure => have := HK1.out; have := HJ2.out; omega
           case rel => exact ⟨(x3_1), (wrap64 (x4_1 + 1)), rdT, rdT, H', ⟨by have := HK1.out; have := HJ2.out; omega⟩, ⟨by (with_reducible repeat (first | refine blk_drewN ?_ _ | refine blk_drew ?_ | refine blk_alloc ?_ _)); refine blk_far ?_ NB198_201.out _; (with_reducible repeat (first | refine blk_drewN ?_ _ | refine blk_drew ?_ | refine blk_alloc ?_ _)); refine blk_far ?_ NB198_201.out _; (with_reducible repeat (first | refine blk_drewN ?_ _ | refine blk_drew ?_ | refine blk_alloc ?_ _)); exact BK198.out⟩, ⟨hbT HB.out⟩⟩
          ·rw [if_neg c22] at H
           have c22b0 : (((rd_T83 l0_0 x4_1).f0) == ((rd_T83 l0_0 x4_1).f1)) = false := beq_eq_false_iff_ne.mpr c22
           have c22b1 : (((rd_T83 l0_0 x4_1).f0) != ((rd_T83 l0_0 x4_1).f1)) = true := bne_iff_ne.mpr c22
           have H' := Aside0.mk H; clear H
           have hcz27_0 : wc.cell? ⟨gb198, 0, none⟩ = some (.slice A0_0 l0_0.length c0_0) := (blk_cell BK198.out 0).trans rfl
           have hfz27_0 := blk_frozen BK198.out 0
           have p200 : 0 ≤ (x4_1 : Int) := of_decide_eq_true asmT
           have q200 : x4_1 < (l0_0.length : Int) := of_decide_eq_true asmT
           obtain ⟨ad200, e200, hx200_0, hx200_1⟩ := at_T83 HR0_0.out x4_1 p200 q200
           cases e200
           replace hx200_0 := (HB.out.cell (World.block_lt_of_cell? w _ hx200_0)).trans hx200_0; replace hx200_1 := (HB.out.cell (World.block_lt_of_cell? w _ hx200_1)).trans hx200_1; replace p200 := eq_true p200; replace q200 := eq_true q200
           go_wp2_with (first | ((with_reducible refine gate_dst (N := 5) rfl ?_); refine boxT (N := 5) (cs := #[.int .u8 0, .int .u8 0]) (t := 83) ?_; intro gb201 hg w28 hbox hb; have n0_ := asT (blk_below (g := gb198) (o := .cells #[.slice (some ad200) l0_0.length c0_0] 34 (0, 0)) (bkT BK198.out) hb); have n1_ := asT (below_step (hbT HB.out) hb); have n2_ := asT (hbox); have n3_ := asT (geT hg HB.out); have n4_ := asT (geT hg HB.out); have n5_ := asT ((by rw [hg]; exact Nat.ne_of_lt (blk_lt (g := gb198) (o := .cells #[.slice (some ad200) l0_0.length c0_0] 34 (0, 0)) (bkT BK198.out)) : gb198 ≠ gb201)); have n6_ := asT ((by rw [hg]; exact Nat.ne_of_gt (blk_lt (g := gb198) (o := .cells #[.slice (some ad200) l0_0.length c0_0] 34 (0, 0)) (bkT BK198.out)) : gb201 ≠ gb198)); clear BK198 HB; have BK198 := n0_; have HB := n1_; have BK201 := n2_; have GW201 := n3_; have GE201 := n4_; have NB198_201 := n5_; have NB201_198 := n6_; clear n0_ n1_ n2_ n3_ n4_ n5_ n6_ hb hbox hg; have hnb29 := NB201_198.out; have hnc29 := NB198_201.out; have hcz30_0 : w28.cell? ⟨gb201, 0, none⟩ = some (.int .u8 0) := (blk_cell BK201.out 0).trans rfl; have hcz30_1 : w28.cell? ⟨gb201, 1, none⟩ = some (.int .u8 0) := (blk_cell BK201.out 1).trans rfl; have hfz30_0 := blk_frozen BK201.out 0; have hfz30_1 := blk_frozen BK201.out 1))
           go_roundg kj2
           case measure => have := HK1.out; have := HJ2.out; omega
           case rel => exact ⟨(wrap64 (x3_1 + 1)), (wrap64 (x4_1 + 1)), rdT, rdT, H', ⟨by have := HK1.out; have := HJ2.out; omega⟩, ⟨by (with_reducible repeat (first | refine blk_drewN ?_ _ | refine blk_drew ?_ | refine blk_alloc ?_ _)); refine blk_far ?_ NB198_201.out _; (with_reducible repeat (first | refine blk_drewN ?_ _ | refine blk_drew ?_ | refine blk_alloc ?_ _)); refine blk_far ?_ NB198_201.out _; (with_reducible repeat (first | refine blk_drewN ?_ _ | refine blk_drew ?_ | refine blk_alloc ?_ _)); exact BK198.out⟩, ⟨hbT HB.out⟩⟩
       ·rw [if_neg c11] at H
        exact absurd H (by simp)
      ·rw [if_neg c10] at H
       exact absurd H (by simp)
     ·replace c9 := Bool.eq_false_iff.mpr c9
      subst c9
      have H1 : (some x3_1) = some r := by rw [if_neg (show ¬ (false = true) by decide)] at H; exact H
      clear H; have H := H1; clear H1
      obtain rfl := Option.some.inj H
      go_wp2
      go_ret
      exact ⟨rlT, hbT HB.out⟩

/-! ### spec_l9Kept: function 91 -/
def spec_l9Kept.f (a0_0 : Int) (a0_1 : Int) : Option (Bool) := if a0_0 = 0 then (some false) else (some (a0_1 != 0))
set_option maxHeartbeats 8000000 in
set_option maxRecDepth 100000 in
theorem spec_l9Kept.calls (a0_0 : Int) (a0_1 : Int) (r : Bool) (w : World) (h : spec_l9Kept.f a0_0 a0_1 = some r) :
  Calls Try.prog 91 #[.agg #[.int .u8 a0_0, .int .u8 a0_1]] w fun e w' => e = .returned (.bool r) ∧ Below w.heap.size w w' := by
 have hu83 := Try.underlying83; have HB := asT (Below.refl w.heap.size w)
 have H : (if a0_0 = 0 then (some false) else (some (a0_1 != 0))) = some r := h
 clear h
 by_cases c2 : a0_0 = 0
 ·rw [if_pos c2] at H
  have c2b0 : (a0_0 == 0) = true := beq_iff_eq.mpr c2
  have c2b1 : (a0_0 != 0) = false := bne_eq_false_iff_eq.mpr c2
  clear c2
  obtain rfl := Option.some.inj H
  go_enter Try.func91, Try.ntmps91
  go_wp2_with (first | ((with_reducible refine gate_dst (N := 1) rfl ?_); refine boxT (N := 1) (cs := #[.int .u8 a0_0, .int .u8 a0_1]) (t := 83) ?_; intro gb202 hg w3 hbox hb; have n0_ := asT (below_step (hbT HB.out) hb); have n1_ := asT (hbox); have n2_ := asT (geT hg HB.out); have n3_ := asT (geT hg HB.out); clear HB; have HB := n0_; have BK202 := n1_; have GW202 := n2_; have GE202 := n3_; clear n0_ n1_ n2_ n3_ hb hbox hg; have hcz4_0 : w3.cell? ⟨gb202, 0, none⟩ = some (.int .u8 a0_0) := (blk_cell BK202.out 0).trans rfl; have hcz4_1 : w3.cell? ⟨gb202, 1, none⟩ = some (.int .u8 a0_1) := (blk_cell BK202.out 1).trans rfl; have hfz4_0 := blk_frozen BK202.out 0; have hfz4_1 := blk_frozen BK202.out 1))
  go_ret
  exact ⟨rlT, hbT HB.out⟩
 ·rw [if_neg c2] at H
  have c2b0 : (a0_0 == 0) = false := beq_eq_false_iff_ne.mpr c2
  have c2b1 : (a0_0 != 0) = true := bne_iff_ne.mpr c2
  obtain rfl := Option.some.inj H
  go_enter Try.func91, Try.ntmps91
  go_wp2_with (first | ((with_reducible refine gate_dst (N := 1) rfl ?_); refine boxT (N := 1) (cs := #[.int .u8 a0_0, .int .u8 a0_1]) (t := 83) ?_; intro gb202 hg w5 hbox hb; have n0_ := asT (below_step (hbT HB.out) hb); have n1_ := asT (hbox); have n2_ := asT (geT hg HB.out); have n3_ := asT (geT hg HB.out); clear HB; have HB := n0_; have BK202 := n1_; have GW202 := n2_; have GE202 := n3_; clear n0_ n1_ n2_ n3_ hb hbox hg; have hcz6_0 : w5.cell? ⟨gb202, 0, none⟩ = some (.int .u8 a0_0) := (blk_cell BK202.out 0).trans rfl; have hcz6_1 : w5.cell? ⟨gb202, 1, none⟩ = some (.int .u8 a0_1) := (blk_cell BK202.out 1).trans rfl; have hfz6_0 := blk_frozen BK202.out 0; have hfz6_1 := blk_frozen BK202.out 1))
  go_ret
  exact ⟨rlT, hbT HB.out⟩

/-! ### spec_CountBreaks: function 53 -/
mutual
def spec_CountBreaks.l0 : Nat → Int → Int → Int → List (S83) → Option (Int)
 | 0, _, _, _, _ => none
 | k + 1, x3, x4, x5, x204000 => if x5 < (x204000.length : Int) then ((spec_IsCandidate.f k x204000).bind fun t204 => (spec_CountBreaks.j1 k x3 x4 x5 t204 x204000)) else (spec_CountBreaks.j1 k x3 x4 x5 false x204000)
def spec_CountBreaks.j1 : Nat → Int → Int → Int → Bool → List (S83) → Option (Int)
 | 0, _, _, _, _, _ => none
 | k + 1, x3, x4, x5, x16, x204000 => if x16 = true then (if 0 ≤ x5 then (if x5 < (x204000.length : Int) then ((spec_l9Kept.f ((rd_T83 x204000 x5).f0) ((rd_T83 x204000 x5).f1)).bind fun t206 => (if t206 = true then (if x3 < 0 then (spec_CountBreaks.l0 k x5 x5 (wrap64 (x5 + 1)) x204000) else (spec_CountBreaks.l0 k x3 x5 (wrap64 (x5 + 1)) x204000)) else (spec_CountBreaks.l0 k x3 x4 (wrap64 (x5 + 1)) x204000))) else (none)) else (none)) else (spec_CountBreaks.l1 k x4 0 (mx 0 x3) x204000)
def spec_CountBreaks.l1 : Nat → Int → Int → Int → List (S83) → Option (Int)
 | 0, _, _, _, _ => none
 | k + 1, x4, x6, x7, x204000 => if x7 < x4 then (if 0 ≤ x7 then (if x7 < (x204000.length : Int) then ((spec_l9Kept.f ((rd_T83 x204000 x7).f0) ((rd_T83 x204000 x7).f1)).bind fun t208 => (if t208 = true then (spec_CountBreaks.l1 k x4 x6 (wrap64 (x7 + 1)) x204000) else (spec_CountBreaks.l1 k x4 (wrap64 (x6 + 1)) (wrap64 (x7 + 1)) x204000))) else (none)) else (none)) else (some x6)
end
def spec_CountBreaks.f (k : Nat) (l0_0 : List (S83)) : Option (Int) := spec_CountBreaks.l0 k (-1) (-1) 0 l0_0
theorem spec_CountBreaks.mono_l : ∀ k, (∀ y0 y1 y2 y3, LeO (spec_CountBreaks.l0 k y0 y1 y2 y3) (spec_CountBreaks.l0 (k + 1) y0 y1 y2 y3)) ∧ (∀ y0 y1 y2 y3 y4, LeO (spec_CountBreaks.j1 k y0 y1 y2 y3 y4) (spec_CountBreaks.j1 (k + 1) y0 y1 y2 y3 y4)) ∧ (∀ y0 y1 y2 y3, LeO (spec_CountBreaks.l1 k y0 y1 y2 y3) (spec_CountBreaks.l1 (k + 1) y0 y1 y2 y3))
 | 0 => ⟨fun _ _ _ _ r h => by simp [spec_CountBreaks.l0] at h, fun _ _ _ _ _ r h => by simp [spec_CountBreaks.j1] at h, fun _ _ _ _ r h => by simp [spec_CountBreaks.l1] at h⟩
 | k + 1 => by
  obtain ⟨ih0, ih1, ih2⟩ := spec_CountBreaks.mono_l k; refine ⟨?_, ?_, ?_⟩
  ·intro y0 y1 y2 y3
   unfold spec_CountBreaks.l0
   repeat' first
   | (with_reducible exact ih0 _ _ _ _)
   | (with_reducible exact ih1 _ _ _ _ _)
   | (with_reducible exact ih2 _ _ _ _)
   | (with_reducible exact spec_IsCandidate.mono _ _)
   | (with_reducible exact LeO.refl _)
   | (with_reducible exact LeO.none _)
   | (with_reducible refine LeO.ite ?_ ?_)
   | (with_reducible refine LeO.bind ?_ (fun _ => ?_))
   | exact ih0 _ _ _ _
   | exact ih1 _ _ _ _ _
   | exact ih2 _ _ _ _
   | exact spec_IsCandidate.mono _ _
   | exact LeO.none _
   | refine LeO.ite ?_ ?_
   | refine LeO.bind ?_ (fun _ => ?_)
  ·intro y0 y1 y2 y3 y4
   unfold spec_CountBreaks.j1
   repeat' first
   | (with_reducible exact ih0 _ _ _ _)
   | (with_reducible exact ih1 _ _ _ _ _)
   | (with_reducible exact ih2 _ _ _ _)
   | (with_reducible exact spec_IsCandidate.mono _ _)
   | (with_reducible exact LeO.refl _)
   | (with_reducible exact LeO.none _)
   | (with_reducible refine LeO.ite ?_ ?_)
   | (with_reducible refine LeO.bind ?_ (fun _ => ?_))
   | exact ih0 _ _ _ _
   | exact ih1 _ _ _ _ _
   | exact ih2 _ _ _ _
   | exact spec_IsCandidate.mono _ _
   | exact LeO.none _
   | refine LeO.ite ?_ ?_
   | refine LeO.bind ?_ (fun _ => ?_)
  ·intro y0 y1 y2 y3
   unfold spec_CountBreaks.l1
   repeat' first
   | (with_reducible exact ih0 _ _ _ _)
   | (with_reducible exact ih1 _ _ _ _ _)
   | (with_reducible exact ih2 _ _ _ _)
   | (with_reducible exact spec_IsCandidate.mono _ _)
   | (with_reducible exact LeO.refl _)
   | (with_reducible exact LeO.none _)
   | (with_reducible refine LeO.ite ?_ ?_)
   | (with_reducible refine LeO.bind ?_ (fun _ => ?_))
   | exact ih0 _ _ _ _
   | exact ih1 _ _ _ _ _
   | exact ih2 _ _ _ _
   | exact spec_IsCandidate.mono _ _
   | exact LeO.none _
   | refine LeO.ite ?_ ?_
   | refine LeO.bind ?_ (fun _ => ?_)
theorem spec_CountBreaks.mono : ∀ a0 k, LeO (spec_CountBreaks.f k a0) (spec_CountBreaks.f (k + 1) a0) := by
 intro a0 k
 obtain ⟨ih0, ih1, ih2⟩ := spec_CountBreaks.mono_l k
 unfold spec_CountBreaks.f
 repeat' first
   | (with_reducible exact ih0 _ _ _ _)
   | (with_reducible exact ih1 _ _ _ _ _)
   | (with_reducible exact ih2 _ _ _ _)
   | (with_reducible exact spec_IsCandidate.mono _ _)
   | (with_reducible exact LeO.refl _)
   | (with_reducible exact LeO.none _)
   | (with_reducible refine LeO.ite ?_ ?_)
   | (with_reducible refine LeO.bind ?_ (fun _ => ?_))
   | exact ih0 _ _ _ _
   | exact ih1 _ _ _ _ _
   | exact ih2 _ _ _ _
   | exact spec_IsCandidate.mono _ _
   | exact LeO.none _
   | refine LeO.ite ?_ ?_
   | refine LeO.bind ?_ (fun _ => ?_)
set_option maxHeartbeats 8000000 in
set_option maxRecDepth 100000 in
theorem spec_CountBreaks.calls (k : Nat) (A0_0 : Option Addr) (c0_0 : Nat) (l0_0 : List (S83)) (r : Int) (w : World) (hr0_0 : Kd.C k83 w A0_0 l0_0.length l0_0) (hc0_0 : l0_0.length ≤ c0_0) (h : spec_CountBreaks.f k l0_0 = some r) :
  Calls Try.prog 53 #[.agg #[.slice A0_0 l0_0.length c0_0]] w fun e w' => e = .returned (.int .i64 r) ∧ Below w.heap.size w w' := by
 have hu34 := Try.underlying34; have hu83 := Try.underlying83; have HR0_0 := Aside0.mk hr0_0; have HC0_0 := Aside0.mk hc0_0; clear hr0_0 hc0_0; have HB := asT (Below.refl w.heap.size w)
 have H : (spec_CountBreaks.l0 k (-1) (-1) 0 l0_0) = some r := h
 clear h; have H' := Aside0.mk H; clear H
 go_enter Try.func53, Try.ntmps53
 go_wp2_with (first | ((with_reducible refine gate_dst (N := 1) rfl ?_); refine boxT (N := 1) (cs := #[.slice A0_0 l0_0.length c0_0]) (t := 34) ?_; intro gb203 hg w2 hbox hb; have n0_ := asT (below_step (hbT HB.out) hb); have n1_ := asT (hbox); have n2_ := asT (geT hg HB.out); have n3_ := asT (geT hg HB.out); clear HB; have HB := n0_; have BK203 := n1_; have GW203 := n2_; have GE203 := n3_; clear n0_ n1_ n2_ n3_ hb hbox hg))
 go_loopg [3, 4, 5] k (fun kq v3 v4 v5 w' => ∃ (x3_1 : Int) (x4_1 : Int) (x5_1 : Int), v3 = .int .i64 x3_1 ∧ v4 = .int .i64 x4_1 ∧ v5 = .int .i64 x5_1 ∧ Aside0 (spec_CountBreaks.l0 kq x3_1 x4_1 x5_1 l0_0 = some r) ∧ Aside0 (kq ≤ k) ∧ Aside0 (w'.heap[gb203]? = some (.cells #[(.slice A0_0 l0_0.length c0_0)] 34 (0, 0))) ∧ Aside0 (Below w.heap.size w w'))
 case atStart => exact ⟨((-1)), ((-1)), (0), rdT, rdT, rdT, H', ⟨Nat.le_refl _⟩, ⟨by (with_reducible repeat (first | refine blk_drewN ?_ _ | refine blk_drew ?_ | refine blk_alloc ?_ _)); exact BK203.out⟩, ⟨hbT HB.out⟩⟩
 case round =>
  clear H'; (try clear p2); obtain ⟨x3_1, x4_1, x5_1, rfl, rfl, rfl, HA, HK1, BK203, HB⟩ := hrel
  cases gk with
  | zero => exact absurd HA.out (by simp [spec_CountBreaks.l0])
  | succ k1 =>
   have H := HA.out; clear HA
   simp only [spec_CountBreaks.l0] at H
   have HC3 := Aside0.mk H; clear H
   go_upto_region 4 with (fail)
   go_cut [16] (fun v16 wc => ∃ (kq : Nat) (x16_2 : Bool), v16 = .bool x16_2 ∧ Aside0 (spec_CountBreaks.j1 kq x3_1 x4_1 x5_1 x16_2 l0_0 = some r) ∧ Aside0 (kq ≤ k1) ∧ Aside0 (wc.heap[gb203]? = some (.cells #[(.slice A0_0 l0_0.length c0_0)] 34 (0, 0))) ∧ Aside0 (Below w.heap.size w wc))
   case first =>
    have H := HC3.out; clear HC3
    by_cases c4 : x5_1 < (l0_0.length : Int)
    ·rw [if_pos c4] at H
     have c4b0 : decide (x5_1 < (l0_0.length : Int)) = true := decide_eq_true c4
     clear c4
     (first | rw [c4b0] | (simp only [i64_w, i32_w]; rw [c4b0]) | skip)
     replace H := Option.bind_eq_some_iff.mp H; obtain ⟨t204, A50, H⟩ := H; replace H : (spec_CountBreaks.j1 k1 x3_1 x4_1 x5_1 t204 l0_0) = some r := H; have A5 := Aside0.mk A50; clear A50; have H' := Aside0.mk H; clear H
     have hcz6_0 : wr.cell? ⟨gb203, 0, none⟩ = some (.slice A0_0 l0_0.length c0_0) := (blk_cell BK203.out 0).trans rfl
     have hfz6_0 := blk_frozen BK203.out 0
     go_wp2_with (first | (go_at_call 42; (with_reducible refine (spec_IsCandidate.calls k1 _ _ l0_0 t204 _ ?side1 ?side2 A5.out).mono ?_); (case side1 => exact crT HR0_0.out HB.out); (case side2 => exact HC0_0.out); rintro e w7 ⟨rfl, hb⟩; have n0_ := asT (blk_below (bkT BK203.out) hb); have n1_ := asT (below_step (hbT HB.out) hb); clear BK203 HB; have BK203 := n0_; have HB := n1_; clear n0_ n1_; (try clear hb); (try clear hb2); (try clear hk); (try clear hi)))
     go_meet
     case rel => exact ⟨_, (t204), rdT, H', ⟨by have := HK1.out; first | omega | exact Nat.le_refl _⟩, ⟨by (with_reducible repeat (first | refine blk_drewN ?_ _ | refine blk_drew ?_ | refine blk_alloc ?_ _)); exact BK203.out⟩, ⟨hbT HB.out⟩⟩
    ·rw [if_neg c4] at H
     have c4b0 : decide (x5_1 < (l0_0.length : Int)) = false := decide_eq_false c4
     clear c4
     (first | rw [c4b0] | (simp only [i64_w, i32_w]; rw [c4b0]) | skip)
     have H' := Aside0.mk H; clear H
     have hcz8_0 : wr.cell? ⟨gb203, 0, none⟩ = some (.slice A0_0 l0_0.length c0_0) := (blk_cell BK203.out 0).trans rfl
     have hfz8_0 := blk_frozen BK203.out 0
     go_wp2
     go_meet
     case rel => exact ⟨_, (false), rdT, H', ⟨by have := HK1.out; first | omega | exact Nat.le_refl _⟩, ⟨by (with_reducible repeat (first | refine blk_drewN ?_ _ | refine blk_drew ?_ | refine blk_alloc ?_ _)); exact BK203.out⟩, ⟨hbT HB.out⟩⟩
   case rest =>
    clear HC3; (try clear p2); (try clear c4); (try clear c4b0); (try clear c5); (try clear hcz6_0); (try clear hcz8_0); (try clear hfz6_0); (try clear hfz8_0); (try clear p2); obtain ⟨kq, x16_2, rfl, HA, HJ2, BK203, HB⟩ := hcut
    cases kq with
    | zero => exact absurd HA.out (by simp [spec_CountBreaks.j1])
    | succ kj2 =>
     have H := HA.out; clear HA
     simp only [spec_CountBreaks.j1] at H
     by_cases c9 : x16_2 = true
     ·subst c9
      have H1 : (if 0 ≤ x5_1 then (if x5_1 < (l0_0.length : Int) then ((spec_l9Kept.f ((rd_T83 l0_0 x5_1).f0) ((rd_T83 l0_0 x5_1).f1)).bind fun t206 => (if t206 = true then (if x3_1 < 0 then (spec_CountBreaks.l0 kj2 x5_1 x5_1 (wrap64 (x5_1 + 1)) l0_0) else (spec_CountBreaks.l0 kj2 x3_1 x5_1 (wrap64 (x5_1 + 1)) l0_0)) else (spec_CountBreaks.l0 kj2 x3_1 x4_1 (wrap64 (x5_1 + 1)) l0_0))) else (none)) else (none)) = some r := by rw [if_pos rfl] at H; exact H
      clear H; have H := H1; clear H1
      by_cases c10 : 0 ≤ x5_1
      ·rw [if_pos c10] at H
       have c10b0 : decide (0 ≤ x5_1) = true := decide_eq_true c10
       clear c10
       by_cases c11 : x5_1 < (l0_0.length : Int)
       ·rw [if_pos c11] at H
        have c11b0 : decide (x5_1 < (l0_0.length : Int)) = true := decide_eq_true c11
        clear c11; replace H := Option.bind_eq_some_iff.mp H; obtain ⟨t206, A120, H⟩ := H; replace H : (if t206 = true then (if x3_1 < 0 then (spec_CountBreaks.l0 kj2 x5_1 x5_1 (wrap64 (x5_1 + 1)) l0_0) else (spec_CountBreaks.l0 kj2 x3_1 x5_1 (wrap64 (x5_1 + 1)) l0_0)) else (spec_CountBreaks.l0 kj2 x3_1 x4_1 (wrap64 (x5_1 + 1)) l0_0)) = some r := H; have A12 := Aside0.mk A120; clear A120
        by_cases c13 : t206 = true
        ·subst c13
         have H1 : (if x3_1 < 0 then (spec_CountBreaks.l0 kj2 x5_1 x5_1 (wrap64 (x5_1 + 1)) l0_0) else (spec_CountBreaks.l0 kj2 x3_1 x5_1 (wrap64 (x5_1 + 1)) l0_0)) = some r := by rw [if_pos rfl] at H; exact H
         clear H; have H := H1; clear H1
         by_cases c14 : x3_1 < 0
         ·rw [if_pos c14] at H
          have c14b0 : decide (x3_1 < 0) = true := decide_eq_true c14
          clear c14; have H' := Aside0.mk H; clear H
          have hcz15_0 : wc.cell? ⟨gb203, 0, none⟩ = some (.slice A0_0 l0_0.length c0_0) := (blk_cell BK203.out 0).trans rfl
          have hfz15_0 := blk_frozen BK203.out 0
          have p205 : 0 ≤ (x5_1 : Int) := of_decide_eq_true asmT
          have q205 : x5_1 < (l0_0.length : Int) := of_decide_eq_true asmT
          obtain ⟨ad205, e205, hx205_0, hx205_1⟩ := at_T83 HR0_0.out x5_1 p205 q205
          cases e205
          replace hx205_0 := (HB.out.cell (World.block_lt_of_cell? w _ hx205_0)).trans hx205_0; replace hx205_1 := (HB.out.cell (World.block_lt_of_cell? w _ hx205_1)).trans hx205_1; replace p205 := eq_true p205; replace q205 := eq_true q205
          go_wp2_with (first | ((with_reducible refine gate_callee (f := 91) rfl ?_); refine goesL_ (some 24) rfl rfl Try.func91 (by kernel_rfl) rfl #[.agg #[.int .u8 ((rd_T83 l0_0 x5_1).f0), .int .u8 ((rd_T83 l0_0 x5_1).f1)]] rfl eqT ?_; (with_reducible refine (spec_l9Kept.calls ((rd_T83 l0_0 x5_1).f0) ((rd_T83 l0_0 x5_1).f1) true _ A12.out).mono ?_); rintro e w16 ⟨rfl, hb⟩; refine ⟨_, rfl, ?_⟩; have n0_ := asT (blk_below (g := gb203) (o := .cells #[.slice (some ad205) l0_0.length c0_0] 34 (0, 0)) (bkT BK203.out) hb); have n1_ := asT (below_step (hbT HB.out) hb); clear BK203 HB; have BK203 := n0_; have HB := n1_; clear n0_ n1_; (try clear hb); (try clear hb2); (try clear hk); (try clear hi)))
          go_roundg kj2
          case measure => have := HK1.out; have := HJ2.out; omega
          case rel => exact ⟨(x5_1), (x5_1), (wrap64 (x5_1 + 1)), rdT, rdT, rdT, H', ⟨by have := HK1.out; have := HJ2.out; omega⟩, ⟨by (with_reducible repeat (first | refine blk_drewN ?_ _ | refine blk_drew ?_ | refine blk_alloc ?_ _)); exact BK203.out⟩, ⟨hbT HB.out⟩⟩
         ·rw [if_neg c14] at H
          have c14b0 : decide (x3_1 < 0) = false := decide_eq_false c14
          clear c14; have H' := Aside0.mk H; clear H
          have hcz17_0 : wc.cell? ⟨gb203, 0, none⟩ = some (.slice A0_0 l0_0.length c0_0) := (blk_cell BK203.out 0).trans rfl
          have hfz17_0 := blk_frozen BK203.out 0
          have p205 : 0 ≤ (x5_1 : Int) := of_decide_eq_true asmT
          have q205 : x5_1 < (l0_0.length : Int) := of_decide_eq_true asmT
          obtain ⟨ad205, e205, hx205_0, hx205_1⟩ := at_T83 HR0_0.out x5_1 p205 q205
          cases e205
          replace hx205_0 := (HB.out.cell (World.block_lt_of_cell? w _ hx205_0)).trans hx205_0; replace hx205_1 := (HB.out.cell (World.block_lt_of_cell? w _ hx205_1)).trans hx205_1; replace p205 := eq_true p205; replace q205 := eq_true q205
          go_wp2_with (first | ((with_reducible refine gate_callee (f := 91) rfl ?_); refine goesL_ (some 24) rfl rfl Try.func91 (by kernel_rfl) rfl #[.agg #[.int .u8 ((rd_T83 l0_0 x5_1).f0), .int .u8 ((rd_T83 l0_0 x5_1).f1)]] rfl eqT ?_; (with_reducible refine (spec_l9Kept.calls ((rd_T83 l0_0 x5_1).f0) ((rd_T83 l0_0 x5_1).f1) true _ A12.out).mono ?_); rintro e w18 ⟨rfl, hb⟩; refine ⟨_, rfl, ?_⟩; have n0_ := asT (blk_below (g := gb203) (o := .cells #[.slice (some ad205) l0_0.length c0_0] 34 (0, 0)) (bkT BK203.out) hb); have n1_ := asT (below_step (hbT HB.out) hb); clear BK203 HB; have BK203 := n0_; have HB := n1_; clear n0_ n1_; (try clear hb); (try clear hb2); (try clear hk); (try clear hi)))
          go_roundg kj2
          case measure => have := HK1.out; have := HJ2.out; omega
          case rel => exact ⟨(x3_1), (x5_1), (wrap64 (x5_1 + 1)), rdT, rdT, rdT, H', ⟨by have := HK1.out; have := HJ2.out; omega⟩, ⟨by (with_reducible repeat (first | refine blk_drewN ?_ _ | refine blk_drew ?_ | refine blk_alloc ?_ _)); exact BK203.out⟩, ⟨hbT HB.out⟩⟩
        ·replace c13 := Bool.eq_false_iff.mpr c13
         subst c13
         have H1 : (spec_CountBreaks.l0 kj2 x3_1 x4_1 (wrap64 (x5_1 + 1)) l0_0) = some r := by rw [if_neg (show ¬ (false = true) by decide)] at H; exact H
         clear H; have H := H1; clear H1; have H' := Aside0.mk H; clear H
         have hcz19_0 : wc.cell? ⟨gb203, 0, none⟩ = some (.slice A0_0 l0_0.length c0_0) := (blk_cell BK203.out 0).trans rfl
         have hfz19_0 := blk_frozen BK203.out 0
         have p205 : 0 ≤ (x5_1 : Int) := of_decide_eq_true asmT
         have q205 : x5_1 < (l0_0.length : Int) := of_decide_eq_true asmT
         obtain ⟨ad205, e205, hx205_0, hx205_1⟩ := at_T83 HR0_0.out x5_1 p205 q205
         cases e205
         replace hx205_0 := (HB.out.cell (World.block_lt_of_cell? w _ hx205_0)).trans hx205_0; replace hx205_1 := (HB.out.cell (World.block_lt_of_cell? w _ hx205_1)).trans hx205_1; replace p205 := eq_true p205; replace q205 := eq_true q205
         go_wp2_with (first | ((with_reducible refine gate_callee (f := 91) rfl ?_); refine goesL_ (some 24) rfl rfl Try.func91 (by kernel_rfl) rfl #[.agg #[.int .u8 ((rd_T83 l0_0 x5_1).f0), .int .u8 ((rd_T83 l0_0 x5_1).f1)]] rfl eqT ?_; (with_reducible refine (spec_l9Kept.calls ((rd_T83 l0_0 x5_1).f0) ((rd_T83 l0_0 x5_1).f1) false _ A12.out).mono ?_); rintro e w20 ⟨rfl, hb⟩; refine ⟨_, rfl, ?_⟩; have n0_ := asT (blk_below (g := gb203) (o := .cells #[.slice (some ad205) l0_0.length c0_0] 34 (0, 0)) (bkT BK203.out) hb); have n1_ := asT (below_step (hbT HB.out) hb); clear BK203 HB; have BK203 := n0_; have HB := n1_; clear n0_ n1_; (try clear hb); (try clear hb2); (try clear hk); (try clear hi)))
         go_roundg kj2
         case measure => have := HK1.out; have := HJ2.out; omega
         case rel => exact ⟨(x3_1), (x4_1), (wrap64 (x5_1 + 1)), rdT, rdT, rdT, H', ⟨by have := HK1.out; have := HJ2.out; omega⟩, ⟨by (with_reducible repeat (first | refine blk_drewN ?_ _ | refine blk_drew ?_ | refine blk_alloc ?_ _)); exact BK203.out⟩, ⟨hbT HB.out⟩⟩
       ·rw [if_neg c11] at H
        exact absurd H (by simp)
      ·rw [if_neg c10] at H
       exact absurd H (by simp)
     ·replace c9 := Bool.eq_false_iff.mpr c9
      subst c9
      have H1 : (spec_CountBreaks.l1 kj2 x4_1 0 (mx 0 x3_1) l0_0) = some r := by rw [if_neg (show ¬ (false = true) by decide)] at H; exact H
      clear H; have H := H1; clear H1; obtain ⟨ji21, hji21⟩ : ∃ j_ : Int, (mx 0 x3_1) = j_ := ⟨_, rfl⟩
      replace H : (spec_CountBreaks.l1 kj2 x4_1 0 ji21 l0_0) = some r := by first | (rw [hji21] at H; exact H) | (simp only [hji21] at H ⊢; exact H)
      have hji21_ : (if 0 < x3_1 then x3_1 else 0) = ji21 := hji21
      have H' := Aside0.mk H; clear H
      go_wp2
      go_loopg [6, 7] kj2 (fun kq v6 v7 w' => ∃ (x6_3 : Int) (x7_3 : Int), v6 = .int .i64 x6_3 ∧ v7 = .int .i64 x7_3 ∧ Aside0 (spec_CountBreaks.l1 kq x4_1 x6_3 x7_3 l0_0 = some r) ∧ Aside0 (kq ≤ kj2) ∧ Aside0 (w'.heap[gb203]? = some (.cells #[(.slice A0_0 l0_0.length c0_0)] 34 (0, 0))) ∧ Aside0 (Below w.heap.size w w'))
      case atStart => exact ⟨(0), (ji21), rdT, (by first | rfl | (simp; done) | (simp only [← hji21] <;> (first | rfl | simp)) | (simp [*]; done)), H', ⟨Nat.le_refl _⟩, ⟨by (with_reducible repeat (first | refine blk_drewN ?_ _ | refine blk_drew ?_ | refine blk_alloc ?_ _)); exact BK203.out⟩, ⟨hbT HB.out⟩⟩
      case round =>
       clear H'; (try clear c1); (try clear p2); (try clear q2); (try clear hx2); (try clear c4); (try clear c4b0); (try clear c5); (try clear p6); (try clear c9); (try clear c10); (try clear c10b0); (try clear c11); (try clear c11b0); (try clear c13); (try clear c14); (try clear c14b0); (try clear p20); (try clear q20); (try clear hx20); (try clear hcz15_0); (try clear hcz17_0); (try clear hcz19_0); (try clear hcz6_0); (try clear hcz8_0); (try clear hfz15_0); (try clear hfz17_0); (try clear hfz19_0); (try clear hfz6_0); (try clear hfz8_0); (try clear hx205_0); (try clear hx205_1); (try clear p2); (try clear p205); (try clear q205); obtain ⟨x6_3, x7_3, rfl, rfl, HA, HK3, BK203, HB⟩ := hrel
       cases gk with
       | zero => exact absurd HA.out (by simp [spec_CountBreaks.l1])
       | succ k3 =>
        have H := HA.out; clear HA
        simp only [spec_CountBreaks.l1] at H
        by_cases c22 : x7_3 < x4_1
        ·rw [if_pos c22] at H
         have c22b0 : decide (x7_3 < x4_1) = true := decide_eq_true c22
         clear c22
         by_cases c23 : 0 ≤ x7_3
         ·rw [if_pos c23] at H
          have c23b0 : decide (0 ≤ x7_3) = true := decide_eq_true c23
          clear c23
          by_cases c24 : x7_3 < (l0_0.length : Int)
          ·rw [if_pos c24] at H
           have c24b0 : decide (x7_3 < (l0_0.length : Int)) = true := decide_eq_true c24
           clear c24; replace H := Option.bind_eq_some_iff.mp H; obtain ⟨t208, A250, H⟩ := H; replace H : (if t208 = true then (spec_CountBreaks.l1 k3 x4_1 x6_3 (wrap64 (x7_3 + 1)) l0_0) else (spec_CountBreaks.l1 k3 x4_1 (wrap64 (x6_3 + 1)) (wrap64 (x7_3 + 1)) l0_0)) = some r := H; have A25 := Aside0.mk A250; clear A250
           by_cases c26 : t208 = true
           ·subst c26
            have H1 : (spec_CountBreaks.l1 k3 x4_1 x6_3 (wrap64 (x7_3 + 1)) l0_0) = some r := by rw [if_pos rfl] at H; exact H
            clear H; have H := H1; clear H1; have H' := Aside0.mk H; clear H
            have hcz27_0 : wr.cell? ⟨gb203, 0, none⟩ = some (.slice A0_0 l0_0.length c0_0) := (blk_cell BK203.out 0).trans rfl
            have hfz27_0 := blk_frozen BK203.out 0
            have p207 : 0 ≤ (x7_3 : Int) := of_decide_eq_true asmT
            have q207 : x7_3 < (l0_0.length : Int) := of_decide_eq_true asmT
            obtain ⟨ad207, e207, hx207_0, hx207_1⟩ := at_T83 HR0_0.out x7_3 p207 q207
            cases e207
            replace hx207_0 := (HB.out.cell (World.block_lt_of_cell? w _ hx207_0)).trans hx207_0; replace hx207_1 := (HB.out.cell (World.block_lt_of_cell? w _ hx207_1)).trans hx207_1; replace p207 := eq_true p207; replace q207 := eq_true q207
            go_wp2_with (first | ((with_reducible refine gate_callee (f := 91) rfl ?_); refine goesL_ (some 41) rfl rfl Try.func91 (by kernel_rfl) rfl #[.agg #[.int .u8 ((rd_T83 l0_0 x7_3).f0), .int .u8 ((rd_T83 l0_0 x7_3).f1)]] rfl eqT ?_; (with_reducible refine (spec_l9Kept.calls ((rd_T83 l0_0 x7_3).f0) ((rd_T83 l0_0 x7_3).f1) true _ A25.out).mono ?_); rintro e w28 ⟨rfl, hb⟩; refine ⟨_, rfl, ?_⟩; have n0_ := asT (blk_below (g := gb203) (o := .cells #[.slice (some ad207) l0_0.length c0_0] 34 (0, 0)) (bkT BK203.out) hb); have n1_ := asT (below_step (hbT HB.out) hb); clear BK203 HB; have BK203 := n0_; have HB := n1_; clear n0_ n1_; (try clear hb); (try clear hb2); (try clear hk); (try clear hi)))
            go_roundg k3
            case measure => have := HK1.out; have := HJ2.out; have := HK3.out; omega
            case rel => exact ⟨(x6_3), (wrap64 (x7_3 + 1)), rdT, rdT, H', ⟨by have := HK1.out; have := HJ2.out; have := HK3.out; omega⟩, ⟨by (with_reducible repeat (first | refine blk_drewN ?_ _ | refine blk_drew ?_ | refine blk_alloc ?_ _)); exact BK203.out⟩, ⟨hbT HB.out⟩⟩
           ·replace c26 := Bool.eq_false_iff.mpr c26
            subst c26
            have H1 : (spec_CountBreaks.l1 k3 x4_1 (wrap64 (x6_3 + 1)) (wrap64 (x7_3 + 1)) l0_0) = some r := by rw [if_neg (show ¬ (false = true) by decide)] at H; exact H
            clear H; have H := H1; clear H1; have H' := Aside0.mk H; clear H
            have hcz29_0 : wr.cell? ⟨gb203, 0, none⟩ = some (.slice A0_0 l0_0.length c0_0) := (blk_cell BK203.out 0).trans rfl
            have hfz29_0 := blk_frozen BK203.out 0
            have p207 : 0 ≤ (x7_3 : Int) := of_decide_eq_true asmT
            have q207 : x7_3 < (l0_0.length : Int) := of_decide_eq_true asmT
            obtain ⟨ad207, e207, hx207_0, hx207_1⟩ := at_T83 HR0_0.out x7_3 p207 q207
            cases e207
            replace hx207_0 := (HB.out.cell (World.block_lt_of_cell? w _ hx207_0)).trans hx207_0; replace hx207_1 := (HB.out.cell (World.block_lt_of_cell? w _ hx207_1)).trans hx207_1; replace p207 := eq_true p207; replace q207 := eq_true q207
            go_wp2_with (first | ((with_reducible refine gate_callee (f := 91) rfl ?_); refine goesL_ (some 41) rfl rfl Try.func91 (by kernel_rfl) rfl #[.agg #[.int .u8 ((rd_T83 l0_0 x7_3).f0), .int .u8 ((rd_T83 l0_0 x7_3).f1)]] rfl eqT ?_; (with_reducible refine (spec_l9Kept.calls ((rd_T83 l0_0 x7_3).f0) ((rd_T83 l0_0 x7_3).f1) false _ A25.out).mono ?_); rintro e w30 ⟨rfl, hb⟩; refine ⟨_, rfl, ?_⟩; have n0_ := asT (blk_below (g := gb203) (o := .cells #[.slice (some ad207) l0_0.length c0_0] 34 (0, 0)) (bkT BK203.out) hb); have n1_ := asT (below_step (hbT HB.out) hb); clear BK203 HB; have BK203 := n0_; have HB := n1_; clear n0_ n1_; (try clear hb); (try clear hb2); (try clear hk); (try clear hi)))
            go_roundg k3
            case measure => have := HK1.out; have := HJ2.out; have := HK3.out; omega
            case rel => exact ⟨(wrap64 (x6_3 + 1)), (wrap64 (x7_3 + 1)), rdT, rdT, H', ⟨by have := HK1.out; have := HJ2.out; have := HK3.out; omega⟩, ⟨by (with_reducible repeat (first | refine blk_drewN ?_ _ | refine blk_drew ?_ | refine blk_alloc ?_ _)); exact BK203.out⟩, ⟨hbT HB.out⟩⟩
          ·rw [if_neg c24] at H
           exact absurd H (by simp)
         ·rw [if_neg c23] at H
          exact absurd H (by simp)
        ·rw [if_neg c22] at H
         have c22b0 : decide (x7_3 < x4_1) = false := decide_eq_false c22
         clear c22
         obtain rfl := Option.some.inj H
         go_wp2
         go_ret
         exact ⟨by first | rfl | (simp [errW_none, errW_some] <;> rfl) | (simp only [← hji21]; first | rfl | (simp [errW_none, errW_some] <;> rfl)) | (simp [*, errW_none, errW_some] <;> rfl), hbT HB.out⟩

end Go.Proofs.Ytdamagcfmhimfad.PFnExactProfileOf
