-- Made by gen.py (a program of this session) out of the translation; Lean checks it.
import Derived.Test.YtdamagcfmhimfadPFnExactViolationsOfx0
import Derived.Test.YtdamagcfmhimfadPFnExactViolationsOfx1
import Derived.Test.YtdamagcfmhimfadPFnExactViolationsOfx5
import Derived.Test.YtdamagcfmhimfadPFnExactViolationsOfx6
import Derived.Test.YtdamagcfmhimfadPFnExactViolationsOfx7
import Derived.Test.YtdamagcfmhimfadPFnExactViolationsOfx8
namespace Go.Proofs.Ytdamagcfmhimfad.PFnExactViolationsOf
open Go.RowKit Go.Proofs.YtdamagcfmhimfadB Go.Proofs.YtdamagcfmhimfadW.PrintWords Go.Proofs.YtdamagcfmhimfadW.PrintLast Go.Proofs.YtdamagcfmhimfadW.PrintMore
attribute [local go_sem] max2_int min2_int max_two min_two max_three min_three max_four min_four   -- for this text's walks alone
set_option linter.unusedVariables false
set_option linter.unusedSimpArgs false

/-! ### impl_CountBreaks: function 66 -/
mutual
def impl_CountBreaks.l0 : Nat → Int → Int → Bool → List (S83) → Int → Int → List (S83) → Option (Int)
 | 0, _, _, _, _, _, _, _ => none
 | k + 1, x3, x4, x5, x9, x10, x11, x304000 => if x11 < x10 then (if 0 ≤ x11 then (if x11 < (x9.length : Int) then ((impl_IsCandidate.f k x304000).bind fun t306 => (if t306 = true then (if ((rd_T83 x9 x11).f0) = 0 then (impl_CountBreaks.j1 k x3 x4 x5 x9 x10 x11 false x304000) else (impl_CountBreaks.j1 k x3 x4 x5 x9 x10 x11 (((rd_T83 x9 x11).f1) != 0) x304000)) else (impl_CountBreaks.l0 k x3 x4 x5 x9 x10 (wrap64 (x11 + 1)) x304000))) else (none)) else (none)) else (some x3)
def impl_CountBreaks.j1 : Nat → Int → Int → Bool → List (S83) → Int → Int → Bool → List (S83) → Option (Int)
 | 0, _, _, _, _, _, _, _, _ => none
 | k + 1, x3, x4, x5, x9, x10, x11, x19, x304000 => if x19 = true then (impl_CountBreaks.l0 k (wrap64 (x3 + x4)) 0 true x9 x10 (wrap64 (x11 + 1)) x304000) else (if x5 = true then (impl_CountBreaks.l0 k x3 (wrap64 (x4 + 1)) x5 x9 x10 (wrap64 (x11 + 1)) x304000) else (impl_CountBreaks.l0 k x3 x4 x5 x9 x10 (wrap64 (x11 + 1)) x304000))
end
def impl_CountBreaks.f (k : Nat) (l0_0 : List (S83)) : Option (Int) := impl_CountBreaks.l0 k 0 0 false l0_0 (l0_0.length : Int) 0 l0_0
theorem impl_CountBreaks.mono_l : ∀ k, (∀ y0 y1 y2 y3 y4 y5 y6, LeO (impl_CountBreaks.l0 k y0 y1 y2 y3 y4 y5 y6) (impl_CountBreaks.l0 (k + 1) y0 y1 y2 y3 y4 y5 y6)) ∧ (∀ y0 y1 y2 y3 y4 y5 y6 y7, LeO (impl_CountBreaks.j1 k y0 y1 y2 y3 y4 y5 y6 y7) (impl_CountBreaks.j1 (k + 1) y0 y1 y2 y3 y4 y5 y6 y7))
 | 0 => ⟨fun _ _ _ _ _ _ _ r h => by simp [impl_CountBreaks.l0] at h, fun _ _ _ _ _ _ _ _ r h => by simp [impl_CountBreaks.j1] at h⟩
 | k + 1 => by
  obtain ⟨ih0, ih1⟩ := impl_CountBreaks.mono_l k; refine ⟨?_, ?_⟩
  ·intro y0 y1 y2 y3 y4 y5 y6
   unfold impl_CountBreaks.l0
   repeat' first
   | (with_reducible exact ih0 _ _ _ _ _ _ _)
   | (with_reducible exact ih1 _ _ _ _ _ _ _ _)
   | (with_reducible exact impl_IsCandidate.mono _ _)
   | (with_reducible exact LeO.refl _)
   | (with_reducible exact LeO.none _)
   | (with_reducible refine LeO.ite ?_ ?_)
   | (with_reducible refine LeO.bind ?_ (fun _ => ?_))
   | exact ih0 _ _ _ _ _ _ _
   | exact ih1 _ _ _ _ _ _ _ _
   | exact impl_IsCandidate.mono _ _
   | exact LeO.none _
   | refine LeO.ite ?_ ?_
   | refine LeO.bind ?_ (fun _ => ?_)
  ·intro y0 y1 y2 y3 y4 y5 y6 y7
   unfold impl_CountBreaks.j1
   repeat' first
   | (with_reducible exact ih0 _ _ _ _ _ _ _)
   | (with_reducible exact ih1 _ _ _ _ _ _ _ _)
   | (with_reducible exact impl_IsCandidate.mono _ _)
   | (with_reducible exact LeO.refl _)
   | (with_reducible exact LeO.none _)
   | (with_reducible refine LeO.ite ?_ ?_)
   | (with_reducible refine LeO.bind ?_ (fun _ => ?_))
   | exact ih0 _ _ _ _ _ _ _
   | exact ih1 _ _ _ _ _ _ _ _
   | exact impl_IsCandidate.mono _ _
   | exact LeO.none _
   | refine LeO.ite ?_ ?_
   | refine LeO.bind ?_ (fun _ => ?_)
theorem impl_CountBreaks.mono : ∀ a0 k, LeO (impl_CountBreaks.f k a0) (impl_CountBreaks.f (k + 1) a0) := by
 intro a0 k
 obtain ⟨ih0, ih1⟩ := impl_CountBreaks.mono_l k
 unfold impl_CountBreaks.f
 repeat' first
   | (with_reducible exact ih0 _ _ _ _ _ _ _)
   | (with_reducible exact ih1 _ _ _ _ _ _ _ _)
   | (with_reducible exact impl_IsCandidate.mono _ _)
   | (with_reducible exact LeO.refl _)
   | (with_reducible exact LeO.none _)
   | (with_reducible refine LeO.ite ?_ ?_)
   | (with_reducible refine LeO.bind ?_ (fun _ => ?_))
   | exact ih0 _ _ _ _ _ _ _
   | exact ih1 _ _ _ _ _ _ _ _
   | exact impl_IsCandidate.mono _ _
   | exact LeO.none _
   | refine LeO.ite ?_ ?_
   | refine LeO.bind ?_ (fun _ => ?_)
set_option maxHeartbeats 8000000 in
set_option maxRecDepth 100000 in
theorem impl_CountBreaks.calls (k : Nat) (A0_0 : Option Addr) (c0_0 : Nat) (l0_0 : List (S83)) (r : Int) (w : World) (hr0_0 : Kd.C k83 w A0_0 l0_0.length l0_0) (hc0_0 : l0_0.length ≤ c0_0) (h : impl_CountBreaks.f k l0_0 = some r) :
  Calls Try.prog 66 #[.agg #[.slice A0_0 l0_0.length c0_0]] w fun e w' => e = .returned (.int .i64 r) ∧ Below w.heap.size w w' := by
 have hu34 := Try.underlying34; have hu83 := Try.underlying83; have HR0_0 := Aside0.mk hr0_0; have HC0_0 := Aside0.mk hc0_0; clear hr0_0 hc0_0; have HB := asT (Below.refl w.heap.size w)
 have H : (impl_CountBreaks.l0 k 0 0 false l0_0 (l0_0.length : Int) 0 l0_0) = some r := h
 clear h; have H' := Aside0.mk H; clear H
 go_enter Try.func66, Try.ntmps66
 go_wp2_with (first | ((with_reducible refine gate_dst (N := 1) rfl ?_); refine boxT (N := 1) (cs := #[.slice A0_0 l0_0.length c0_0]) (t := 34) ?_; intro gb303 hg w2 hbox hb; have n0_ := asT (below_step (hbT HB.out) hb); have n1_ := asT (hbox); have n2_ := asT (geT hg HB.out); have n3_ := asT (geT hg HB.out); clear HB; have HB := n0_; have BK303 := n1_; have GW303 := n2_; have GE303 := n3_; clear n0_ n1_ n2_ n3_ hb hbox hg; have hcz3_0 : w2.cell? ⟨gb303, 0, none⟩ = some (.slice A0_0 l0_0.length c0_0) := (blk_cell BK303.out 0).trans rfl; have hfz3_0 := blk_frozen BK303.out 0))
 go_loopg [3, 4, 5, 11] k (fun kq v3 v4 v5 v11 w' => ∃ (x3_1 : Int) (x4_1 : Int) (x5_1 : Bool) (x11_1 : Int), v3 = .int .i64 x3_1 ∧ v4 = .int .i64 x4_1 ∧ v5 = .bool x5_1 ∧ v11 = .int .i64 x11_1 ∧ Aside0 (impl_CountBreaks.l0 kq x3_1 x4_1 x5_1 l0_0 (l0_0.length : Int) x11_1 l0_0 = some r) ∧ Aside0 (kq ≤ k) ∧ Aside0 (w'.heap[gb303]? = some (.cells #[(.slice A0_0 l0_0.length c0_0)] 34 (0, 0))) ∧ Aside0 (Below w.heap.size w w'))
 case atStart => exact ⟨(0), (0), (false), (0), rdT, rdT, rdT, rdT, H', ⟨Nat.le_refl _⟩, ⟨by (with_reducible repeat (first | refine blk_drewN ?_ _ | refine blk_drew ?_ | refine blk_alloc ?_ _)); exact BK303.out⟩, ⟨hbT HB.out⟩⟩
 case round =>
  clear H'; (try clear p2); (try clear hcz3_0); (try clear hfz3_0); obtain ⟨x3_1, x4_1, x5_1, x11_1, rfl, rfl, rfl, rfl, HA, HK1, BK303, HB⟩ := hrel
  cases gk with
  | zero => exact absurd HA.out (by simp [impl_CountBreaks.l0])
  | succ k1 =>
   have H := HA.out; clear HA
   simp only [impl_CountBreaks.l0] at H
   by_cases c4 : x11_1 < (l0_0.length : Int)
   ·rw [if_pos c4] at H
    have c4b0 : decide (x11_1 < (l0_0.length : Int)) = true := decide_eq_true c4
    clear c4
    by_cases c5 : 0 ≤ x11_1
    ·rw [if_pos c5] at H
     have c5b0 : decide (0 ≤ x11_1) = true := decide_eq_true c5
     clear c5
     by_cases c6 : x11_1 < (l0_0.length : Int)
     ·rw [if_pos c6] at H
      have c6b0 : decide (x11_1 < (l0_0.length : Int)) = true := decide_eq_true c6
      clear c6; replace H := Option.bind_eq_some_iff.mp H; obtain ⟨t306, A70, H⟩ := H; replace H : (if t306 = true then (if ((rd_T83 l0_0 x11_1).f0) = 0 then (impl_CountBreaks.j1 k1 x3_1 x4_1 x5_1 l0_0 (l0_0.length : Int) x11_1 false l0_0) else (impl_CountBreaks.j1 k1 x3_1 x4_1 x5_1 l0_0 (l0_0.length : Int) x11_1 (((rd_T83 l0_0 x11_1).f1) != 0) l0_0)) else (impl_CountBreaks.l0 k1 x3_1 x4_1 x5_1 l0_0 (l0_0.length : Int) (wrap64 (x11_1 + 1)) l0_0)) = some r := H; have A7 := Aside0.mk A70; clear A70
      by_cases c8 : t306 = true
      ·subst c8
       have H1 : (if ((rd_T83 l0_0 x11_1).f0) = 0 then (impl_CountBreaks.j1 k1 x3_1 x4_1 x5_1 l0_0 (l0_0.length : Int) x11_1 false l0_0) else (impl_CountBreaks.j1 k1 x3_1 x4_1 x5_1 l0_0 (l0_0.length : Int) x11_1 (((rd_T83 l0_0 x11_1).f1) != 0) l0_0)) = some r := by rw [if_pos rfl] at H; exact H
       clear H; have H := H1; clear H1; have HC9 := Aside0.mk H; clear H
       have p304 : 0 ≤ (x11_1 : Int) := of_decide_eq_true asmT
       have q304 : x11_1 < (l0_0.length : Int) := of_decide_eq_true asmT
       obtain ⟨ad304, e304, hx304_0, hx304_1⟩ := at_T83 HR0_0.out x11_1 p304 q304
       cases e304
       replace hx304_0 := (HB.out.cell (World.block_lt_of_cell? w _ hx304_0)).trans hx304_0; replace hx304_1 := (HB.out.cell (World.block_lt_of_cell? w _ hx304_1)).trans hx304_1; replace p304 := eq_true p304; replace q304 := eq_true q304
       go_upto_region 6 with (first | ((with_reducible refine gate_dst (N := 7) rfl ?_); refine boxT (N := 7) (cs := #[.int .u8 0, .int .u8 0]) (t := 83) ?_; intro gb305 hg w10 hbox hb; have n0_ := asT (blk_below (g := gb303) (o := .cells #[.slice (some ad304) l0_0.length c0_0] 34 (0, 0)) (bkT BK303.out) hb); have n1_ := asT (below_step (hbT HB.out) hb); have n2_ := asT (hbox); have n3_ := asT (geT hg HB.out); have n4_ := asT (geT hg HB.out); have n5_ := asT ((by rw [hg]; exact Nat.ne_of_lt (blk_lt (g := gb303) (o := .cells #[.slice (some ad304) l0_0.length c0_0] 34 (0, 0)) (bkT BK303.out)) : gb303 ≠ gb305)); have n6_ := asT ((by rw [hg]; exact Nat.ne_of_gt (blk_lt (g := gb303) (o := .cells #[.slice (some ad304) l0_0.length c0_0] 34 (0, 0)) (bkT BK303.out)) : gb305 ≠ gb303)); clear BK303 HB; have BK303 := n0_; have HB := n1_; have BK305 := n2_; have GW305 := n3_; have GE305 := n4_; have NB303_305 := n5_; have NB305_303 := n6_; clear n0_ n1_ n2_ n3_ n4_ n5_ n6_ hb hbox hg; have hnb11 := NB305_303.out; have hnc11 := NB303_305.out; have hcz12_0 : w10.cell? ⟨gb305, 0, none⟩ = some (.int .u8 0) := (blk_cell BK305.out 0).trans rfl; have hcz12_1 : w10.cell? ⟨gb305, 1, none⟩ = some (.int .u8 0) := (blk_cell BK305.out 1).trans rfl; have hfz12_0 := blk_frozen BK305.out 0; have hfz12_1 := blk_frozen BK305.out 1; have hcz13_0 : w10.cell? ⟨gb303, 0, none⟩ = some (.slice (some ad304) l0_0.length c0_0) := (blk_cell BK303.out 0).trans rfl; have hfz13_0 := blk_frozen BK303.out 0) | ((with_reducible refine gate_callee (f := 55) rfl ?_); refine goesL_ (some 17) rfl rfl Try.func55 (by kernel_rfl) rfl #[.agg #[.slice (some ad304) l0_0.length c0_0]] rfl eqT ?_; (with_reducible refine (impl_IsCandidate.calls k1 _ _ l0_0 true _ ?side1 ?side2 A7.out).mono ?_); (case side1 => exact Kd.C_below HR0_0.out (hbT HB.out)); (case side2 => exact HC0_0.out); rintro e w14 ⟨rfl, hb⟩; refine ⟨_, rfl, ?_⟩; have n0_ := asT (blk_below (g := gb303) (o := .cells #[.slice (some ad304) l0_0.length c0_0] 34 (0, 0)) (by (with_reducible repeat (first | refine blk_drewN ?_ _ | refine blk_drew ?_ | refine blk_alloc ?_ _)); refine blk_far ?_ NB303_305.out _; (with_reducible repeat (first | refine blk_drewN ?_ _ | refine blk_drew ?_ | refine blk_alloc ?_ _)); refine blk_far ?_ NB303_305.out _; (with_reducible repeat (first | refine blk_drewN ?_ _ | refine blk_drew ?_ | refine blk_alloc ?_ _)); exact BK303.out) hb); have n1_ := asT (blk_below (g := gb305) (o := .cells #[.int .u8 ((rd_T83 l0_0 x11_1).f0), .int .u8 ((rd_T83 l0_0 x11_1).f1)] 83 (0, 0)) (by (with_reducible repeat (first | refine blk_drewN ?_ _ | refine blk_drew ?_ | refine blk_alloc ?_ _)); refine blk_put (cs := #[.int .u8 ((rd_T83 l0_0 x11_1).f0), .int .u8 0]) ?_ 1 _ rfl; (with_reducible repeat (first | refine blk_drewN ?_ _ | refine blk_drew ?_ | refine blk_alloc ?_ _)); refine blk_put (cs := #[.int .u8 0, .int .u8 0]) ?_ 0 _ rfl; (with_reducible repeat (first | refine blk_drewN ?_ _ | refine blk_drew ?_ | refine blk_alloc ?_ _)); exact BK305.out) hb); have n2_ := asT (below_step (hbT HB.out) hb); clear BK303 BK305 HB; have BK303 := n0_; have BK305 := n1_; have HB := n2_; clear n0_ n1_ n2_; (try clear hb); (try clear hb2); (try clear hk); (try clear hi)))
       (try simp only [Act.put, List.setIfInBounds_toArray, List.set_cons_zero, List.set_cons_succ])
       go_cut [19] (fun v19 wc => ∃ (kq : Nat) (x19_8 : Bool), v19 = .bool x19_8 ∧ Aside0 (impl_CountBreaks.j1 kq x3_1 x4_1 x5_1 l0_0 (l0_0.length : Int) x11_1 x19_8 l0_0 = some r) ∧ Aside0 (kq ≤ k1) ∧ Aside0 (wc.heap[gb303]? = some (.cells #[(.slice (some ad304) l0_0.length c0_0)] 34 (0, 0))) ∧ Aside0 (wc.heap[gb305]? = some (.cells #[.int .u8 ((rd_T83 l0_0 x11_1).f0), .int .u8 ((rd_T83 l0_0 x11_1).f1)] 83 (0, 0))) ∧ Aside0 (Below w.heap.size w wc))
       case first =>
        have H := HC9.out; clear HC9
        by_cases c15 : ((rd_T83 l0_0 x11_1).f0) = 0
        ·rw [if_pos c15] at H
         have c15b0 : (((rd_T83 l0_0 x11_1).f0) == 0) = true := beq_iff_eq.mpr c15
         have c15b1 : (((rd_T83 l0_0 x11_1).f0) != 0) = false := bne_eq_false_iff_eq.mpr c15
         clear c15
         (first | rw [c15b0] | (simp only [i64_w, i32_w]; rw [c15b0]) | skip)
         have H' := Aside0.mk H; clear H; have hnb16 := NB305_303.out; have hnc16 := NB303_305.out
         have hcz17_0 : w14.cell? ⟨gb305, 0, none⟩ = some (.int .u8 ((rd_T83 l0_0 x11_1).f0)) := (blk_cell BK305.out 0).trans rfl
         have hcz17_1 : w14.cell? ⟨gb305, 1, none⟩ = some (.int .u8 ((rd_T83 l0_0 x11_1).f1)) := (blk_cell BK305.out 1).trans rfl
         have hfz17_0 := blk_frozen BK305.out 0; have hfz17_1 := blk_frozen BK305.out 1
         go_wp2
         go_meet
         case rel => exact ⟨_, (false), rdT, H', ⟨by have := HK1.out; first | omega | exact Nat.le_refl _⟩, ⟨by (with_reducible repeat (first | refine blk_drewN ?_ _ | refine blk_drew ?_ | refine blk_alloc ?_ _)); exact BK303.out⟩, ⟨by (with_reducible repeat (first | refine blk_drewN ?_ _ | refine blk_drew ?_ | refine blk_alloc ?_ _)); exact BK305.out⟩, ⟨hbT HB.out⟩⟩
        ·rw [if_neg c15] at H
         have c15b0 : (((rd_T83 l0_0 x11_1).f0) == 0) = false := beq_eq_false_iff_ne.mpr c15
         have c15b1 : (((rd_T83 l0_0 x11_1).f0) != 0) = true := bne_iff_ne.mpr c15
         (first | rw [c15b0] | (simp only [i64_w, i32_w]; rw [c15b0]) | skip)
         have H' := Aside0.mk H; clear H; have hnb18 := NB305_303.out; have hnc18 := NB303_305.out
         have hcz19_0 : w14.cell? ⟨gb305, 0, none⟩ = some (.int .u8 ((rd_T83 l0_0 x11_1).f0)) := (blk_cell BK305.out 0).trans rfl
         have hcz19_1 : w14.cell? ⟨gb305, 1, none⟩ = some (.int .u8 ((rd_T83 l0_0 x11_1).f1)) := (blk_cell BK305.out 1).trans rfl
         have hfz19_0 := blk_frozen BK305.out 0; have hfz19_1 := blk_frozen BK305.out 1
         go_wp2
         go_meet
         case rel => exact ⟨_, ((((rd_T83 l0_0 x11_1).f1) != 0)), rdT, H', ⟨by have := HK1.out; first | omega | exact Nat.le_refl _⟩, ⟨by (with_reducible repeat (first | refine blk_drewN ?_ _ | refine blk_drew ?_ | refine blk_alloc ?_ _)); exact BK303.out⟩, ⟨by (with_reducible repeat (first | refine blk_drewN ?_ _ | refine blk_drew ?_ | refine blk_alloc ?_ _)); exact BK305.out⟩, ⟨hbT HB.out⟩⟩
       case rest =>
        clear HC9; (try clear c1); (try clear p2); (try clear p3); (try clear q3); (try clear hx3); (try clear c4); (try clear c4b0); (try clear c5); (try clear c5b0); (try clear c6); (try clear c6b0); (try clear p6); (try clear c8); (try clear c11); (try clear c15); (try clear c15b0); (try clear c15b1); (try clear c16); (try clear c18); (try clear hcz12_0); (try clear hcz12_1); (try clear hcz13_0); (try clear hcz17_0); (try clear hcz17_1); (try clear hcz19_0); (try clear hcz19_1); (try clear hcz3_0); (try clear hfz12_0); (try clear hfz12_1); (try clear hfz13_0); (try clear hfz17_0); (try clear hfz17_1); (try clear hfz19_0); (try clear hfz19_1); (try clear hfz3_0); (try clear hx304_0); (try clear hx304_1); (try clear p2); (try clear p304); (try clear q304); obtain ⟨kq, x19_8, rfl, HA, HJ8, BK303, BK305, HB⟩ := hcut
        cases kq with
        | zero => exact absurd HA.out (by simp [impl_CountBreaks.j1])
        | succ kj8 =>
         have H := HA.out; clear HA
         simp only [impl_CountBreaks.j1] at H
         by_cases c20 : x19_8 = true
         ·subst c20
          have H1 : (impl_CountBreaks.l0 kj8 (wrap64 (x3_1 + x4_1)) 0 true l0_0 (l0_0.length : Int) (wrap64 (x11_1 + 1)) l0_0) = some r := by rw [if_pos rfl] at H; exact H
          clear H; have H := H1; clear H1; have H' := Aside0.mk H; clear H
          go_wp2
          go_roundg kj8
          case measure => have := HK1.out; have := HJ8.out; omega
          case rel => exact ⟨(wrap64 (x3_1 + x4_1)), (0), (true), (wrap64 (x11_1 + 1)), rdT, rdT, rdT, rdT, H', ⟨by have := HK1.out; have := HJ8.out; omega⟩, ⟨by (with_reducible repeat (first | refine blk_drewN ?_ _ | refine blk_drew ?_ | refine blk_alloc ?_ _)); exact BK303.out⟩, ⟨hbT HB.out⟩⟩
         ·replace c20 := Bool.eq_false_iff.mpr c20
          subst c20
          have H1 : (if x5_1 = true then (impl_CountBreaks.l0 kj8 x3_1 (wrap64 (x4_1 + 1)) x5_1 l0_0 (l0_0.length : Int) (wrap64 (x11_1 + 1)) l0_0) else (impl_CountBreaks.l0 kj8 x3_1 x4_1 x5_1 l0_0 (l0_0.length : Int) (wrap64 (x11_1 + 1)) l0_0)) = some r := by rw [if_neg (show ¬ (false = true) by decide)] at H; exact H
          clear H; have H := H1; clear H1
          by_cases c21 : x5_1 = true
          ·subst c21
           have H1 : (impl_CountBreaks.l0 kj8 x3_1 (wrap64 (x4_1 + 1)) true l0_0 (l0_0.length : Int) (wrap64 (x11_1 + 1)) l0_0) = some r := by rw [if_pos rfl] at H; exact H
           clear H; have H := H1; clear H1; have H' := Aside0.mk H; clear H
           go_wp2
           go_roundg kj8
           case measure => have := HK1.out; have := HJ8.out; omega
           case rel => exact ⟨(x3_1), (wrap64 (x4_1 + 1)), (true), (wrap64 (x11_1 + 1)), rdT, rdT, rdT, rdT, H', ⟨by have := HK1.out; have := HJ8.out; omega⟩, ⟨by (with_reducible repeat (first | refine blk_drewN ?_ _ | refine blk_drew ?_ | refine blk_alloc ?_ _)); exact BK303.out⟩, ⟨hbT HB.out⟩⟩
          ·replace c21 := Bool.eq_false_iff.mpr c21
           subst c21
           have H1 : (impl_CountBreaks.l0 kj8 x3_1 x4_1 false l0_0 (l0_0.length : Int) (wrap64 (x11_1 + 1)) l0_0) = some r := by rw [if_neg (show ¬ (false = true) by decide)] at H; exact H
           clear H; have H := H1; clear H1; have H' := Aside0.mk H; clear H
           go_wp2
           go_roundg kj8
           case measure => have := HK1.out; have := HJ8.out; omega
           case rel => exact ⟨(x3_1), (x4_1), (false), (wrap64 (x11_1 + 1)), rdT, rdT, rdT, rdT, H', ⟨by have := HK1.out; have := HJ8.out; omega⟩, ⟨by (with_reducible repeat (first | refine blk_drewN ?_ _ | refine blk_drew ?_ | refine blk_alloc ?_ _)); exact BK303.out⟩, ⟨hbT HB.out⟩⟩
      ·replace c8 := Bool.eq_false_iff.mpr c8
       subst c8
       have H1 : (impl_CountBreaks.l0 k1 x3_1 x4_1 x5_1 l0_0 (l0_0.length : Int) (wrap64 (x11_1 + 1)) l0_0) = some r := by rw [if_neg (show ¬ (false = true) by decide)] at H; exact H
       clear H; have H := H1; clear H1; have H' := Aside0.mk H; clear H
       have p304 : 0 ≤ (x11_1 : Int) := of_decide_eq_true asmT
       have q304 : x11_1 < (l0_0.length : Int) := of_decide_eq_true asmT
       obtain ⟨ad304, e304, hx304_0, hx304_1⟩ := at_T83 HR0_0.out x11_1 p304 q304
       cases e304
       replace hx304_0 := (HB.out.cell (World.block_lt_of_cell? w _ hx304_0)).trans hx304_0; replace hx304_1 := (HB.out.cell (World.block_lt_of_cell? w _ hx304_1)).trans hx304_1; replace p304 := eq_true p304; replace q304 := eq_true q304
       go_wp2_with (first | ((with_reducible refine gate_dst (N := 7) rfl ?_); refine boxT (N := 7) (cs := #[.int .u8 0, .int .u8 0]) (t := 83) ?_; intro gb305 hg w22 hbox hb; have n0_ := asT (blk_below (g := gb303) (o := .cells #[.slice (some ad304) l0_0.length c0_0] 34 (0, 0)) (bkT BK303.out) hb); have n1_ := asT (below_step (hbT HB.out) hb); have n2_ := asT (hbox); have n3_ := asT (geT hg HB.out); have n4_ := asT (geT hg HB.out); have n5_ := asT ((by rw [hg]; exact Nat.ne_of_lt (blk_lt (g := gb303) (o := .cells #[.slice (some ad304) l0_0.length c0_0] 34 (0, 0)) (bkT BK303.out)) : gb303 ≠ gb305)); have n6_ := asT ((by rw [hg]; exact Nat.ne_of_gt (blk_lt (g := gb303) (o := .cells #[.slice (some ad304) l0_0.length c0_0] 34 (0, 0)) (bkT BK303.out)) : gb305 ≠ gb303)); clear BK303 HB; have BK303 := n0_; have HB := n1_; have BK305 := n2_; have GW305 := n3_; have GE305 := n4_; have NB303_305 := n5_; have NB305_303 := n6_; clear n0_ n1_ n2_ n3_ n4_ n5_ n6_ hb hbox hg; have hnb23 := NB305_303.out; have hnc23 := NB303_305.out; have hcz24_0 : w22.cell? ⟨gb305, 0, none⟩ = some (.int .u8 0) := (blk_cell BK305.out 0).trans rfl; have hcz24_1 : w22.cell? ⟨gb305, 1, none⟩ = some (.int .u8 0) := (blk_cell BK305.out 1).trans rfl; have hfz24_0 := blk_frozen BK305.out 0; have hfz24_1 := blk_frozen BK305.out 1; have hcz25_0 : w22.cell? ⟨gb303, 0, none⟩ = some (.slice (some ad304) l0_0.length c0_0) := (blk_cell BK303.out 0).trans rfl; have hfz25_0 := blk_frozen BK303.out 0) | ((with_reducible refine gate_callee (f := 55) rfl ?_); refine goesL_ (some 17) rfl rfl Try.func55 (by kernel_rfl) rfl #[.agg #[.slice (some ad304) l0_0.length c0_0]] rfl eqT ?_; (with_reducible refine (impl_IsCandidate.calls k1 _ _ l0_0 false _ ?side1 ?side2 A7.out).mono ?_); (case side1 => exact Kd.C_below HR0_0.out (hbT HB.out)); (case side2 => exact HC0_0.out); rintro e w26 ⟨rfl, hb⟩; refine ⟨_, rfl, ?_⟩; have n0_ := asT (blk_below (g := gb303) (o := .cells #[.slice (some ad304) l0_0.length c0_0] 34 (0, 0)) (by (with_reducible repeat (first | refine blk_drewN ?_ _ | refine blk_drew ?_ | refine blk_alloc ?_ _)); refine blk_far ?_ NB303_305.out _; (with_reducible repeat (first | refine blk_drewN ?_ _ | refine blk_drew ?_ | refine blk_alloc ?_ _)); refine blk_far ?_ NB303_305.out _; (with_reducible repeat (first | refine blk_drewN ?_ _ | refine blk_drew ?_ | refine blk_alloc ?_ _)); exact BK303.out) hb); have n1_ := asT (blk_below (g := gb305) (o := .cells #[.int .u8 ((rd_T83 l0_0 x11_1).f0), .int .u8 ((rd_T83 l0_0 x11_1).f1)] 83 (0, 0)) (by (with_reducible repeat (first | refine blk_drewN ?_ _ | refine blk_drew ?_ | refine blk_alloc ?_ _)); refine blk_put (cs := #[.int .u8 ((rd_T83 l0_0 x11_1).f0), .int .u8 0]) ?_ 1 _ rfl; (with_reducible repeat (first | refine blk_drewN ?_ _ | refine blk_drew ?_ | refine blk_alloc ?_ _)); refine blk_put (cs := #[.int .u8 0, .int .u8 0]) ?_ 0 _ rfl; (with_reducible repeat (first | refine blk_drewN ?_ _ | refine blk_drew ?_ | refine blk_alloc ?_ _)); exact BK305.out) hb); have n2_ := asT (below_step (hbT HB.out) hb); clear BK303 BK305 HB; have BK303 := n0_; have BK305 := n1_; have HB := n2_; clear n0_ n1_ n2_; (try clear hb); (try clear hb2); (try clear hk); (try clear hi)))
       go_roundg k1
       case measure => have := HK1.out; omega
       case rel => exact ⟨(x3_1), (x4_1), (x5_1), (wrap64 (x11_1 + 1)), rdT, rdT, rdT, rdT, H', ⟨by have := HK1.out; omega⟩, ⟨by (with_reducible repeat (first | refine blk_drewN ?_ _ | refine blk_drew ?_ | refine blk_alloc ?_ _)); exact BK303.out⟩, ⟨hbT HB.out⟩⟩
     ·rw [if_neg c6] at H
      exact absurd H (by simp)
    ·rw [if_neg c5] at H
     exact absurd H (by simp)
   ·rw [if_neg c4] at H
    have c4b0 : decide (x11_1 < (l0_0.length : Int)) = false := decide_eq_false c4
    clear c4
    obtain rfl := Option.some.inj H
    go_wp2
    go_ret
    exact ⟨rlT, hbT HB.out⟩

/-! ### impl_ViolationsOf: function 16 -/
def impl_ViolationsOf.f (k : Nat) (a0 : ByteArray) (l1_0 : List (S83)) : Option (Int) := (impl_IsCandidate.f k l1_0).bind fun t308 => (if t308 = true then ((impl_OutputOf.f k l1_0).bind fun t309 => (if a0.toList = ([111, 110, 115, 101, 116] : List UInt8) then ((impl_CountOnsetless.f k t309).bind fun t310 => (some t310)) else (if a0.toList = ([110, 111, 99, 111, 100, 97] : List UInt8) then ((impl_CountCodas.f k t309).bind fun t311 => (some t311)) else (if a0.toList = ([99, 108, 117, 115, 116, 101, 114] : List UInt8) then ((impl_CountClusters.f k t309).bind fun t312 => (some t312)) else (if a0.toList = ([118, 111, 105, 99, 101] : List UInt8) then ((impl_CountVoiced.f k t309).bind fun t313 => (some t313)) else (if a0.toList = ([102, 105, 110, 97, 108] : List UInt8) then ((impl_CountFinalVoiced.f k t309).bind fun t314 => (some t314)) else (if a0.toList = ([110, 97, 115, 97, 108] : List UInt8) then ((impl_CountNasalVoiceless.f k t309).bind fun t315 => (some t315)) else (if a0.toList = ([109, 97, 120] : List UInt8) then ((impl_CountDeleted.f k l1_0).bind fun t316 => (some t316)) else (if a0.toList = ([100, 101, 112] : List UInt8) then ((impl_CountInserted.f k l1_0).bind fun t317 => (some t317)) else (if a0.toList = ([105, 100, 101, 110, 116] : List UInt8) then ((impl_CountVoiceChanged.f k l1_0).bind fun t318 => (some t318)) else (if a0.toList = ([99, 111, 110, 116, 105, 103] : List UInt8) then ((impl_CountBreaks.f k l1_0).bind fun t319 => (some t319)) else (some (-1))))))))))))) else (some (-1)))
theorem impl_ViolationsOf.mono : ∀ a0 a1 k, LeO (impl_ViolationsOf.f k a0 a1) (impl_ViolationsOf.f (k + 1) a0 a1) := by
 intro a0 a1 k
 unfold impl_ViolationsOf.f
 repeat' first
   | (with_reducible exact impl_CountBreaks.mono _ _)
   | (with_reducible exact impl_CountClusters.mono _ _)
   | (with_reducible exact impl_CountCodas.mono _ _)
   | (with_reducible exact impl_CountDeleted.mono _ _)
   | (with_reducible exact impl_CountFinalVoiced.mono _ _)
   | (with_reducible exact impl_CountInserted.mono _ _)
   | (with_reducible exact impl_CountNasalVoiceless.mono _ _)
   | (with_reducible exact impl_CountOnsetless.mono _ _)
   | (with_reducible exact impl_CountVoiceChanged.mono _ _)
   | (with_reducible exact impl_CountVoiced.mono _ _)
   | (with_reducible exact impl_IsCandidate.mono _ _)
   | (with_reducible exact impl_OutputOf.mono _ _)
   | (with_reducible exact LeO.refl _)
   | (with_reducible exact LeO.none _)
   | (with_reducible refine LeO.ite ?_ ?_)
   | (with_reducible refine LeO.bind ?_ (fun _ => ?_))
   | exact impl_CountBreaks.mono _ _
   | exact impl_CountClusters.mono _ _
   | exact impl_CountCodas.mono _ _
   | exact impl_CountDeleted.mono _ _
   | exact impl_CountFinalVoiced.mono _ _
   | exact impl_CountInserted.mono _ _
   | exact impl_CountNasalVoiceless.mono _ _
   | exact impl_CountOnsetless.mono _ _
   | exact impl_CountVoiceChanged.mono _ _
   | exact impl_CountVoiced.mono _ _
   | exact impl_IsCandidate.mono _ _
   | exact impl_OutputOf.mono _ _
   | exact LeO.none _
   | refine LeO.ite ?_ ?_
   | refine LeO.bind ?_ (fun _ => ?_)
set_option maxHeartbeats 8000000 in
set_option maxRecDepth 100000 in
theorem impl_ViolationsOf.calls (k : Nat) (a0 : ByteArray) (A1_0 : Option Addr) (c1_0 : Nat) (l1_0 : List (S83)) (r : Int) (w : World) (hr1_0 : Kd.C k83 w A1_0 l1_0.length l1_0) (hc1_0 : l1_0.length ≤ c1_0) (h : impl_ViolationsOf.f k a0 l1_0 = some r) :
  Calls Try.prog 16 #[.string a0, .agg #[.slice A1_0 l1_0.length c1_0]] w fun e w' => e = .returned (.int .i64 r) ∧ Below w.heap.size w w' := by
 have hu34 := Try.underlying34; have HR1_0 := Aside0.mk hr1_0; have HC1_0 := Aside0.mk hc1_0; clear hr1_0 hc1_0; have HB := asT (Below.refl w.heap.size w)
 have H : ((impl_IsCandidate.f k l1_0).bind fun t308 => (if t308 = true then ((impl_OutputOf.f k l1_0).bind fun t309 => (if a0.toList = ([111, 110, 115, 101, 116] : List UInt8) then ((impl_CountOnsetless.f k t309).bind fun t310 => (some t310)) else (if a0.toList = ([110, 111, 99, 111, 100, 97] : List UInt8) then ((impl_CountCodas.f k t309).bind fun t311 => (some t311)) else (if a0.toList = ([99, 108, 117, 115, 116, 101, 114] : List UInt8) then ((impl_CountClusters.f k t309).bind fun t312 => (some t312)) else (if a0.toList = ([118, 111, 105, 99, 101] : List UInt8) then ((impl_CountVoiced.f k t309).bind fun t313 => (some t313)) else (if a0.toList = ([102, 105, 110, 97, 108] : List UInt8) then ((impl_CountFinalVoiced.f k t309).bind fun t314 => (some t314)) else (if a0.toList = ([110, 97, 115, 97, 108] : List UInt8) then ((impl_CountNasalVoiceless.f k t309).bind fun t315 => (some t315)) else (if a0.toList = ([109, 97, 120] : List UInt8) then ((impl_CountDeleted.f k l1_0).bind fun t316 => (some t316)) else (if a0.toList = ([100, 101, 112] : List UInt8) then ((impl_CountInserted.f k l1_0).bind fun t317 => (some t317)) else (if a0.toList = ([105, 100, 101, 110, 116] : List UInt8) then ((impl_CountVoiceChanged.f k l1_0).bind fun t318 => (some t318)) else (if a0.toList = ([99, 111, 110, 116, 105, 103] : List UInt8) then ((impl_CountBreaks.f k l1_0).bind fun t319 => (some t319)) else (some (-1))))))))))))) else (some (-1)))) = some r := h
 clear h; replace H := Option.bind_eq_some_iff.mp H; obtain ⟨t308, A30, H⟩ := H; replace H : (if t308 = true then ((impl_OutputOf.f k l1_0).bind fun t309 => (if a0.toList = ([111, 110, 115, 101, 116] : List UInt8) then ((impl_CountOnsetless.f k t309).bind fun t310 => (some t310)) else (if a0.toList = ([110, 111, 99, 111, 100, 97] : List UInt8) then ((impl_CountCodas.f k t309).bind fun t311 => (some t311)) else (if a0.toList = ([99, 108, 117, 115, 116, 101, 114] : List UInt8) then ((impl_CountClusters.f k t309).bind fun t312 => (some t312)) else (if a0.toList = ([118, 111, 105, 99, 101] : List UInt8) then ((impl_CountVoiced.f k t309).bind fun t313 => (some t313)) else (if a0.toList = ([102, 105, 110, 97, 108] : List UInt8) then ((impl_CountFinalVoiced.f k t309).bind fun t314 => (some t314)) else (if a0.toList = ([110, 97, 115, 97, 108] : List UInt8) then ((impl_CountNasalVoiceless.f k t309).bind fun t315 => (some t315)) else (if a0.toList = ([109, 97, 120] : List UInt8) then ((impl_CountDeleted.f k l1_0).bind fun t316 => (some t316)) else (if a0.toList = ([100, 101, 112] : List UInt8) then ((impl_CountInserted.f k l1_0).bind fun t317 => (some t317)) else (if a0.toList = ([105, 100, 101, 110, 116] : List UInt8) then ((impl_CountVoiceChanged.f k l1_0).bind fun t318 => (some t318)) else (if a0.toList = ([99, 111, 110, 116, 105, 103] : List UInt8) then ((impl_CountBreaks.f k l1_0).bind fun t319 => (some t319)) else (some (-1))))))))))))) else (some (-1))) = some r := H; have A3 := Aside0.mk A30; clear A30
 by_cases c4 : t308 = true
 ·subst c4
  have H1 : ((impl_OutputOf.f k l1_0).bind fun t309 => (if a0.toList = ([111, 110, 115, 101, 116] : List UInt8) then ((impl_CountOnsetless.f k t309).bind fun t310 => (some t310)) else (if a0.toList = ([110, 111, 99, 111, 100, 97] : List UInt8) then ((impl_CountCodas.f k t309).bind fun t311 => (some t311)) else (if a0.toList = ([99, 108, 117, 115, 116, 101, 114] : List UInt8) then ((impl_CountClusters.f k t309).bind fun t312 => (some t312)) else (if a0.toList = ([118, 111, 105, 99, 101] : List UInt8) then ((impl_CountVoiced.f k t309).bind fun t313 => (some t313)) else (if a0.toList = ([102, 105, 110, 97, 108] : List UInt8) then ((impl_CountFinalVoiced.f k t309).bind fun t314 => (some t314)) else (if a0.toList = ([110, 97, 115, 97, 108] : List UInt8) then ((impl_CountNasalVoiceless.f k t309).bind fun t315 => (some t315)) else (if a0.toList = ([109, 97, 120] : List UInt8) then ((impl_CountDeleted.f k l1_0).bind fun t316 => (some t316)) else (if a0.toList = ([100, 101, 112] : List UInt8) then ((impl_CountInserted.f k l1_0).bind fun t317 => (some t317)) else (if a0.toList = ([105, 100, 101, 110, 116] : List UInt8) then ((impl_CountVoiceChanged.f k l1_0).bind fun t318 => (some t318)) else (if a0.toList = ([99, 111, 110, 116, 105, 103] : List UInt8) then ((impl_CountBreaks.f k l1_0).bind fun t319 => (some t319)) else (some (-1))))))))))))) = some r := by rw [if_pos rfl] at H; exact H
  clear H; have H := H1; clear H1; replace H := Option.bind_eq_some_iff.mp H; obtain ⟨t309, A50, H⟩ := H; replace H : (if a0.toList = ([111, 110, 115, 101, 116] : List UInt8) then ((impl_CountOnsetless.f k t309).bind fun t310 => (some t310)) else (if a0.toList = ([110, 111, 99, 111, 100, 97] : List UInt8) then ((impl_CountCodas.f k t309).bind fun t311 => (some t311)) else (if a0.toList = ([99, 108, 117, 115, 116, 101, 114] : List UInt8) then ((impl_CountClusters.f k t309).bind fun t312 => (some t312)) else (if a0.toList = ([118, 111, 105, 99, 101] : List UInt8) then ((impl_CountVoiced.f k t309).bind fun t313 => (some t313)) else (if a0.toList = ([102, 105, 110, 97, 108] : List UInt8) then ((impl_CountFinalVoiced.f k t309).bind fun t314 => (some t314)) else (if a0.toList = ([110, 97, 115, 97, 108] : List UInt8) then ((impl_CountNasalVoiceless.f k t309).bind fun t315 => (some t315)) else (if a0.toList = ([109, 97, 120] : List UInt8) then ((impl_CountDeleted.f k l1_0).bind fun t316 => (some t316)) else (if a0.toList = ([100, 101, 112] : List UInt8) then ((impl_CountInserted.f k l1_0).bind fun t317 => (some t317)) else (if a0.toList = ([105, 100, 101, 110, 116] : List UInt8) then ((impl_CountVoiceChanged.f k l1_0).bind fun t318 => (some t318)) else (if a0.toList = ([99, 111, 110, 116, 105, 103] : List UInt8) then ((impl_CountBreaks.f k l1_0).bind fun t319 => (some t319)) else (some (-1)))))))))))) = some r := H; have A5 := Aside0.mk A50; clear A50
  by_cases c6 : a0.toList = ([111, 110, 115, 101, 116] : List UInt8)
  ·rw [if_pos c6] at H
   have c6b0 : (a0.toList == ([111, 110, 115, 101, 116] : List UInt8)) = true := beq_iff_eq.mpr c6
   have c6b1 : (a0.toList != ([111, 110, 115, 101, 116] : List UInt8)) = false := bne_eq_false_iff_eq.mpr c6
   clear c6; replace H := Option.bind_eq_some_iff.mp H; obtain ⟨t310, A70, H⟩ := H; replace H : (some t310) = some r := H; have A7 := Aside0.mk A70; clear A70
   obtain rfl := Option.some.inj H
   go_enter Try.func16, Try.ntmps16
   go_wp2_with (first | ((with_reducible refine gate_dst (N := 3) rfl ?_); refine boxT (N := 3) (cs := #[.slice A1_0 l1_0.length c1_0]) (t := 34) ?_; intro gb307 hg w8 hbox hb; have n0_ := asT (below_step (hbT HB.out) hb); have n1_ := asT (hbox); have n2_ := asT (geT hg HB.out); have n3_ := asT (geT hg HB.out); clear HB; have HB := n0_; have BK307 := n1_; have GW307 := n2_; have GE307 := n3_; clear n0_ n1_ n2_ n3_ hb hbox hg; have hcz9_0 : w8.cell? ⟨gb307, 0, none⟩ = some (.slice A1_0 l1_0.length c1_0) := (blk_cell BK307.out 0).trans rfl; have hfz9_0 := blk_frozen BK307.out 0) | ((with_reducible refine gate_callee (f := 55) rfl ?_); refine goesL_ (some 7) rfl rfl Try.func55 (by kernel_rfl) rfl #[.agg #[.slice A1_0 l1_0.length c1_0]] rfl eqT ?_; (with_reducible refine (impl_IsCandidate.calls k _ _ l1_0 true _ ?side1 ?side2 A3.out).mono ?_); (case side1 => exact crT HR1_0.out HB.out); (case side2 => exact HC1_0.out); rintro e w10 ⟨rfl, hb⟩; refine ⟨_, rfl, ?_⟩; have n0_ := asT (blk_below (bkT BK307.out) hb); have n1_ := asT (below_step (hbT HB.out) hb); clear BK307 HB; have BK307 := n0_; have HB := n1_; clear n0_ n1_; (try clear hb); (try clear hb2); (try clear hk); (try clear hi); have hcz11_0 : w10.cell? ⟨gb307, 0, none⟩ = some (.slice A1_0 l1_0.length c1_0) := (blk_cell BK307.out 0).trans rfl; have hfz11_0 := blk_frozen BK307.out 0) | ((with_reducible refine gate_callee (f := 56) rfl ?_); refine goesL_ (some 10) rfl rfl Try.func56 (by kernel_rfl) rfl #[.agg #[.slice A1_0 l1_0.length c1_0]] rfl eqT ?_; (with_reducible refine (impl_OutputOf.calls k _ _ l1_0 t309 _ ?side1 ?side2 A5.out).mono ?_); (case side1 => exact crT HR1_0.out HB.out); (case side2 => exact HC1_0.out); rintro e w12 ⟨rfl, hb⟩; refine ⟨_, rfl, ?_⟩; have n0_ := asT (blk_below (bkT BK307.out) hb); have n1_ := asT (below_step (hbT HB.out) hb); clear BK307 HB; have BK307 := n0_; have HB := n1_; clear n0_ n1_; (try clear hb); (try clear hb2); (try clear hk); (try clear hi)) | ((with_reducible refine gate_callee (f := 57) rfl ?_); refine goesL_ (some 15) rfl rfl Try.func57 (by kernel_rfl) rfl #[.string t309] rfl eqT ?_; (with_reducible refine (impl_CountOnsetless.calls k t309 t310 _ A7.out).mono ?_); rintro e w13 ⟨rfl, hb⟩; refine ⟨_, rfl, ?_⟩; have n0_ := asT (blk_below (bkT BK307.out) hb); have n1_ := asT (below_step (hbT HB.out) hb); clear BK307 HB; have BK307 := n0_; have HB := n1_; clear n0_ n1_; (try clear hb); (try clear hb2); (try clear hk); (try clear hi)))
   go_ret
   exact ⟨rlT, hbT HB.out⟩
  ·rw [if_neg c6] at H
   have c6b0 : (a0.toList == ([111, 110, 115, 101, 116] : List UInt8)) = false := beq_eq_false_iff_ne.mpr c6
   have c6b1 : (a0.toList != ([111, 110, 115, 101, 116] : List UInt8)) = true := bne_iff_ne.mpr c6
   by_cases c14 : a0.toList = ([110, 111, 99, 111, 100, 97] : List UInt8)
   ·rw [if_pos c14] at H
    have c14b0 : (a0.toList == ([110, 111, 99, 111, 100, 97] : List UInt8)) = true := beq_iff_eq.mpr c14
    have c14b1 : (a0.toList != ([110, 111, 99, 111, 100, 97] : List UInt8)) = false := bne_eq_false_iff_eq.mpr c14
    clear c14; replace H := Option.bind_eq_some_iff.mp H; obtain ⟨t311, A150, H⟩ := H; replace H : (some t311) = some r := H; have A15 := Aside0.mk A150; clear A150
    obtain rfl := Option.some.inj H
    go_enter Try.func16, Try.ntmps16
    go_wp2_with (first | ((with_reducible refine gate_dst (N := 3) rfl ?_); refine boxT (N := 3) (cs := #[.slice A1_0 l1_0.length c1_0]) (t := 34) ?_; intro gb307 hg w16 hbox hb; have n0_ := asT (below_step (hbT HB.out) hb); have n1_ := asT (hbox); have n2_ := asT (geT hg HB.out); have n3_ := asT (geT hg HB.out); clear HB; have HB := n0_; have BK307 := n1_; have GW307 := n2_; have GE307 := n3_; clear n0_ n1_ n2_ n3_ hb hbox hg; have hcz17_0 : w16.cell? ⟨gb307, 0, none⟩ = some (.slice A1_0 l1_0.length c1_0) := (blk_cell BK307.out 0).trans rfl; have hfz17_0 := blk_frozen BK307.out 0) | ((with_reducible refine gate_callee (f := 55) rfl ?_); refine goesL_ (some 7) rfl rfl Try.func55 (by kernel_rfl) rfl #[.agg #[.slice A1_0 l1_0.length c1_0]] rfl eqT ?_; (with_reducible refine (impl_IsCandidate.calls k _ _ l1_0 true _ ?side1 ?side2 A3.out).mono ?_); (case side1 => exact crT HR1_0.out HB.out); (case side2 => exact HC1_0.out); rintro e w18 ⟨rfl, hb⟩; refine ⟨_, rfl, ?_⟩; have n0_ := asT (blk_below (bkT BK307.out) hb); have n1_ := asT (below_step (hbT HB.out) hb); clear BK307 HB; have BK307 := n0_; have HB := n1_; clear n0_ n1_; (try clear hb); (try clear hb2); (try clear hk); (try clear hi); have hcz19_0 : w18.cell? ⟨gb307, 0, none⟩ = some (.slice A1_0 l1_0.length c1_0) := (blk_cell BK307.out 0).trans rfl; have hfz19_0 := blk_frozen BK307.out 0) | ((with_reducible refine gate_callee (f := 56) rfl ?_); refine goesL_ (some 10) rfl rfl Try.func56 (by kernel_rfl) rfl #[.agg #[.slice A1_0 l1_0.length c1_0]] rfl eqT ?_; (with_reducible refine (impl_OutputOf.calls k _ _ l1_0 t309 _ ?side1 ?side2 A5.out).mono ?_); (case side1 => exact crT HR1_0.out HB.out); (case side2 => exact HC1_0.out); rintro e w20 ⟨rfl, hb⟩; refine ⟨_, rfl, ?_⟩; have n0_ := asT (blk_below (bkT BK307.out) hb); have n1_ := asT (below_step (hbT HB.out) hb); clear BK307 HB; have BK307 := n0_; have HB := n1_; clear n0_ n1_; (try clear hb); (try clear hb2); (try clear hk); (try clear hi)) | ((with_reducible refine gate_callee (f := 58) rfl ?_); refine goesL_ (some 19) rfl rfl Try.func58 (by kernel_rfl) rfl #[.string t309] rfl eqT ?_; (with_reducible refine (impl_CountCodas.calls k t309 t311 _ A15.out).mono ?_); rintro e w21 ⟨rfl, hb⟩; refine ⟨_, rfl, ?_⟩; have n0_ := asT (blk_below (bkT BK307.out) hb); have n1_ := asT (below_step (hbT HB.out) hb); clear BK307 HB; have BK307 := n0_; have HB := n1_; clear n0_ n1_; (try clear hb); (try clear hb2); (try clear hk); (try clear hi)))
    go_ret
    exact ⟨rlT, hbT HB.out⟩
   ·rw [if_neg c14] at H
    have c14b0 : (a0.toList == ([110, 111, 99, 111, 100, 97] : List UInt8)) = false := beq_eq_false_iff_ne.mpr c14
    have c14b1 : (a0.toList != ([110, 111, 99, 111, 100, 97] : List UInt8)) = true := bne_iff_ne.mpr c14
    by_cases c22 : a0.toList = ([99, 108, 117, 115, 116, 101, 114] : List UInt8)
    ·rw [if_pos c22] at H
     have c22b0 : (a0.toList == ([99, 108, 117, 115, 116, 101, 114] : List UInt8)) = true := beq_iff_eq.mpr c22
     have c22b1 : (a0.toList != ([99, 108, 117, 115, 116, 101, 114] : List UInt8)) = false := bne_eq_false_iff_eq.mpr c22
     clear c22; replace H := Option.bind_eq_some_iff.mp H; obtain ⟨t312, A230, H⟩ := H; replace H : (some t312) = some r := H; have A23 := Aside0.mk A230; clear A230
     obtain rfl := Option.some.inj H
     go_enter Try.func16, Try.ntmps16
     go_wp2_with (first | ((with_reducible refine gate_dst (N := 3) rfl ?_); refine boxT (N := 3) (cs := #[.slice A1_0 l1_0.length c1_0]) (t := 34) ?_; intro gb307 hg w24 hbox hb; have n0_ := asT (below_step (hbT HB.out) hb); have n1_ := asT (hbox); have n2_ := asT (geT hg HB.out); have n3_ := asT (geT hg HB.out); clear HB; have HB := n0_; have BK307 := n1_; have GW307 := n2_; have GE307 := n3_; clear n0_ n1_ n2_ n3_ hb hbox hg; have hcz25_0 : w24.cell? ⟨gb307, 0, none⟩ = some (.slice A1_0 l1_0.length c1_0) := (blk_cell BK307.out 0).trans rfl; have hfz25_0 := blk_frozen BK307.out 0) | ((with_reducible refine gate_callee (f := 55) rfl ?_); refine goesL_ (some 7) rfl rfl Try.func55 (by kernel_rfl) rfl #[.agg #[.slice A1_0 l1_0.length c1_0]] rfl eqT ?_; (with_reducible refine (impl_IsCandidate.calls k _ _ l1_0 true _ ?side1 ?side2 A3.out).mono ?_); (case side1 => exact crT HR1_0.out HB.out); (case side2 => exact HC1_0.out); rintro e w26 ⟨rfl, hb⟩; refine ⟨_, rfl, ?_⟩; have n0_ := asT (blk_below (bkT BK307.out) hb); have n1_ := asT (below_step (hbT HB.out) hb); clear BK307 HB; have BK307 := n0_; have HB := n1_; clear n0_ n1_; (try clear hb); (try clear hb2); (try clear hk); (try clear hi); have hcz27_0 : w26.cell? ⟨gb307, 0, none⟩ = some (.slice A1_0 l1_0.length c1_0) := (blk_cell BK307.out 0).trans rfl; have hfz27_0 := blk_frozen BK307.out 0) | ((with_reducible refine gate_callee (f := 56) rfl ?_); refine goesL_ (some 10) rfl rfl Try.func56 (by kernel_rfl) rfl #[.agg #[.slice A1_0 l1_0.length c1_0]] rfl eqT ?_; (with_reducible refine (impl_OutputOf.calls k _ _ l1_0 t309 _ ?side1 ?side2 A5.out).mono ?_); (case side1 => exact crT HR1_0.out HB.out); (case side2 => exact HC1_0.out); rintro e w28 ⟨rfl, hb⟩; refine ⟨_, rfl, ?_⟩; have n0_ := asT (blk_below (bkT BK307.out) hb); have n1_ := asT (below_step (hbT HB.out) hb); clear BK307 HB; have BK307 := n0_; have HB := n1_; clear n0_ n1_; (try clear hb); (try clear hb2); (try clear hk); (try clear hi)) | ((with_reducible refine gate_callee (f := 59) rfl ?_); refine goesL_ (some 23) rfl rfl Try.func59 (by kernel_rfl) rfl #[.string t309] rfl eqT ?_; (with_reducible refine (impl_CountClusters.calls k t309 t312 _ A23.out).mono ?_); rintro e w29 ⟨rfl, hb⟩; refine ⟨_, rfl, ?_⟩; have n0_ := asT (blk_below (bkT BK307.out) hb); have n1_ := asT (below_step (hbT HB.out) hb); clear BK307 HB; have BK307 := n0_; have HB := n1_; clear n0_ n1_; (try clear hb); (try clear hb2); (try clear hk); (try clear hi)))
     go_ret
     exact ⟨rlT, hbT HB.out⟩
    ·rw [if_neg c22] at H
     have c22b0 : (a0.toList == ([99, 108, 117, 115, 116, 101, 114] : List UInt8)) = false := beq_eq_false_iff_ne.mpr c22
     have c22b1 : (a0.toList != ([99, 108, 117, 115, 116, 101, 114] : List UInt8)) = true := bne_iff_ne.mpr c22
     by_cases c30 : a0.toList = ([118, 111, 105, 99, 101] : List UInt8)
     ·rw [if_pos c30] at H
      have c30b0 : (a0.toList == ([118, 111, 105, 99, 101] : List UInt8)) = true := beq_iff_eq.mpr c30
      have c30b1 : (a0.toList != ([118, 111, 105, 99, 101] : List UInt8)) = false := bne_eq_false_iff_eq.mpr c30
      clear c30; replace H := Option.bind_eq_some_iff.mp H; obtain ⟨t313, A310, H⟩ := H; replace H : (some t313) = some r := H; have A31 := Aside0.mk A310; clear A310
      obtain rfl := Option.some.inj H
      go_enter Try.func16, Try.ntmps16
      go_wp2_with (first | ((with_reducible refine gate_dst (N := 3) rfl ?_); refine boxT (N := 3) (cs := #[.slice A1_0 l1_0.length c1_0]) (t := 34) ?_; intro gb307 hg w32 hbox hb; have n0_ := asT (below_step (hbT HB.out) hb); have n1_ := asT (hbox); have n2_ := asT (geT hg HB.out); have n3_ := asT (geT hg HB.out); clear HB; have HB := n0_; have BK307 := n1_; have GW307 := n2_; have GE307 := n3_; clear n0_ n1_ n2_ n3_ hb hbox hg; have hcz33_0 : w32.cell? ⟨gb307, 0, none⟩ = some (.slice A1_0 l1_0.length c1_0) := (blk_cell BK307.out 0).trans rfl; have hfz33_0 := blk_frozen BK307.out 0) | ((with_reducible refine gate_callee (f := 55) rfl ?_); refine goesL_ (some 7) rfl rfl Try.func55 (by kernel_rfl) rfl #[.agg #[.slice A1_0 l1_0.length c1_0]] rfl eqT ?_; (with_reducible refine (impl_IsCandidate.calls k _ _ l1_0 true _ ?side1 ?side2 A3.out).mono ?_); (case side1 => exact crT HR1_0.out HB.out); (case side2 => exact HC1_0.out); rintro e w34 ⟨rfl, hb⟩; refine ⟨_, rfl, ?_⟩; have n0_ := asT (blk_below (bkT BK307.out) hb); have n1_ := asT (below_step (hbT HB.out) hb); clear BK307 HB; have BK307 := n0_; have HB := n1_; clear n0_ n1_; (try clear hb); (try clear hb2); (try clear hk); (try clear hi); have hcz35_0 : w34.cell? ⟨gb307, 0, none⟩ = some (.slice A1_0 l1_0.length c1_0) := (blk_cell BK307.out 0).trans rfl; have hfz35_0 := blk_frozen BK307.out 0) | ((with_reducible refine gate_callee (f := 56) rfl ?_); refine goesL_ (some 10) rfl rfl Try.func56 (by kernel_rfl) rfl #[.agg #[.slice A1_0 l1_0.length c1_0]] rfl eqT ?_; (with_reducible refine (impl_OutputOf.calls k _ _ l1_0 t309 _ ?side1 ?side2 A5.out).mono ?_); (case side1 => exact crT HR1_0.out HB.out); (case side2 => exact HC1_0.out); rintro e w36 ⟨rfl, hb⟩; refine ⟨_, rfl, ?_⟩; have n0_ := asT (blk_below (bkT BK307.out) hb); have n1_ := asT (below_step (hbT HB.out) hb); clear BK307 HB; have BK307 := n0_; have HB := n1_; clear n0_ n1_; (try clear hb); (try clear hb2); (try clear hk); (try clear hi)) | ((with_reducible refine gate_callee (f := 60) rfl ?_); refine goesL_ (some 27) rfl rfl Try.func60 (by kernel_rfl) rfl #[.string t309] rfl eqT ?_; (with_reducible refine (impl_CountVoiced.calls k t309 t313 _ A31.out).mono ?_); rintro e w37 ⟨rfl, hb⟩; refine ⟨_, rfl, ?_⟩; have n0_ := asT (blk_below (bkT BK307.out) hb); have n1_ := asT (below_step (hbT HB.out) hb); clear BK307 HB; have BK307 := n0_; have HB := n1_; clear n0_ n1_; (try clear hb); (try clear hb2); (try clear hk); (try clear hi)))
      go_ret
      exact ⟨rlT, hbT HB.out⟩
     ·rw [if_neg c30] at H
      have c30b0 : (a0.toList == ([118, 111, 105, 99, 101] : List UInt8)) = false := beq_eq_false_iff_ne.mpr c30
      have c30b1 : (a0.toList != ([118, 111, 105, 99, 101] : List UInt8)) = true := bne_iff_ne.mpr c30
      by_cases c38 : a0.toList = ([102, 105, 110, 97, 108] : List UInt8)
      ·rw [if_pos c38] at H
       have c38b0 : (a0.toList == ([102, 105, 110, 97, 108] : List UInt8)) = true := beq_iff_eq.mpr c38
       have c38b1 : (a0.toList != ([102, 105, 110, 97, 108] : List UInt8)) = false := bne_eq_false_iff_eq.mpr c38
       clear c38; replace H := Option.bind_eq_some_iff.mp H; obtain ⟨t314, A390, H⟩ := H; replace H : (some t314) = some r := H; have A39 := Aside0.mk A390; clear A390
       obtain rfl := Option.some.inj H
       go_enter Try.func16, Try.ntmps16
       go_wp2_with (first | ((with_reducible refine gate_dst (N := 3) rfl ?_); refine boxT (N := 3) (cs := #[.slice A1_0 l1_0.length c1_0]) (t := 34) ?_; intro gb307 hg w40 hbox hb; have n0_ := asT (below_step (hbT HB.out) hb); have n1_ := asT (hbox); have n2_ := asT (geT hg HB.out); have n3_ := asT (geT hg HB.out); clear HB; have HB := n0_; have BK307 := n1_; have GW307 := n2_; have GE307 := n3_; clear n0_ n1_ n2_ n3_ hb hbox hg; have hcz41_0 : w40.cell? ⟨gb307, 0, none⟩ = some (.slice A1_0 l1_0.length c1_0) := (blk_cell BK307.out 0).trans rfl; have hfz41_0 := blk_frozen BK307.out 0) | ((with_reducible refine gate_callee (f := 55) rfl ?_); refine goesL_ (some 7) rfl rfl Try.func55 (by kernel_rfl) rfl #[.agg #[.slice A1_0 l1_0.length c1_0]] rfl eqT ?_; (with_reducible refine (impl_IsCandidate.calls k _ _ l1_0 true _ ?side1 ?side2 A3.out).mono ?_); (case side1 => exact crT HR1_0.out HB.out); (case side2 => exact HC1_0.out); rintro e w42 ⟨rfl, hb⟩; refine ⟨_, rfl, ?_⟩; have n0_ := asT (blk_below (bkT BK307.out) hb); have n1_ := asT (below_step (hbT HB.out) hb); clear BK307 HB; have BK307 := n0_; have HB := n1_; clear n0_ n1_; (try clear hb); (try clear hb2); (try clear hk); (try clear hi); have hcz43_0 : w42.cell? ⟨gb307, 0, none⟩ = some (.slice A1_0 l1_0.length c1_0) := (blk_cell BK307.out 0).trans rfl; have hfz43_0 := blk_frozen BK307.out 0) | ((with_reducible refine gate_callee (f := 56) rfl ?_); refine goesL_ (some 10) rfl rfl Try.func56 (by kernel_rfl) rfl #[.agg #[.slice A1_0 l1_0.length c1_0]] rfl eqT ?_; (with_reducible refine (impl_OutputOf.calls k _ _ l1_0 t309 _ ?side1 ?side2 A5.out).mono ?_); (case side1 => exact crT HR1_0.out HB.out); (case side2 => exact HC1_0.out); rintro e w44 ⟨rfl, hb⟩; refine ⟨_, rfl, ?_⟩; have n0_ := asT (blk_below (bkT BK307.out) hb); have n1_ := asT (below_step (hbT HB.out) hb); clear BK307 HB; have BK307 := n0_; have HB := n1_; clear n0_ n1_; (try clear hb); (try clear hb2); (try clear hk); (try clear hi)) | ((with_reducible refine gate_callee (f := 61) rfl ?_); refine goesL_ (some 31) rfl rfl Try.func61 (by kernel_rfl) rfl #[.string t309] rfl eqT ?_; (with_reducible refine (impl_CountFinalVoiced.calls k t309 t314 _ A39.out).mono ?_); rintro e w45 ⟨rfl, hb⟩; refine ⟨_, rfl, ?_⟩; have n0_ := asT (blk_below (bkT BK307.out) hb); have n1_ := asT (below_step (hbT HB.out) hb); clear BK307 HB; have BK307 := n0_; have HB := n1_; clear n0_ n1_; (try clear hb); (try clear hb2); (try clear hk); (try clear hi)))
       go_ret
       exact ⟨rlT, hbT HB.out⟩
      ·rw [if_neg c38] at H
       have c38b0 : (a0.toList == ([102, 105, 110, 97, 108] : List UInt8)) = false := beq_eq_false_iff_ne.mpr c38
       have c38b1 : (a0.toList != ([102, 105, 110, 97, 108] : List UInt8)) = true := bne_iff_ne.mpr c38
       by_cases c46 : a0.toList = ([110, 97, 115, 97, 108] : List UInt8)
       ·rw [if_pos c46] at H
        have c46b0 : (a0.toList == ([110, 97, 115, 97, 108] : List UInt8)) = true := beq_iff_eq.mpr c46
        have c46b1 : (a0.toList != ([110, 97, 115, 97, 108] : List UInt8)) = false := bne_eq_false_iff_eq.mpr c46
        clear c46; replace H := Option.bind_eq_some_iff.mp H; obtain ⟨t315, A470, H⟩ := H; replace H : (some t315) = some r := H; have A47 := Aside0.mk A470; clear A470
        obtain rfl := Option.some.inj H
        go_enter Try.func16, Try.ntmps16
        go_wp2_with (first | ((with_reducible refine gate_dst (N := 3) rfl ?_); refine boxT (N := 3) (cs := #[.slice A1_0 l1_0.length c1_0]) (t := 34) ?_; intro gb307 hg w48 hbox hb; have n0_ := asT (below_step (hbT HB.out) hb); have n1_ := asT (hbox); have n2_ := asT (geT hg HB.out); have n3_ := asT (geT hg HB.out); clear HB; have HB := n0_; have BK307 := n1_; have GW307 := n2_; have GE307 := n3_; clear n0_ n1_ n2_ n3_ hb hbox hg; have hcz49_0 : w48.cell? ⟨gb307, 0, none⟩ = some (.slice A1_0 l1_0.length c1_0) := (blk_cell BK307.out 0).trans rfl; have hfz49_0 := blk_frozen BK307.out 0) | ((with_reducible refine gate_callee (f := 55) rfl ?_); refine goesL_ (some 7) rfl rfl Try.func55 (by kernel_rfl) rfl #[.agg #[.slice A1_0 l1_0.length c1_0]] rfl eqT ?_; (with_reducible refine (impl_IsCandidate.calls k _ _ l1_0 true _ ?side1 ?side2 A3.out).mono ?_); (case side1 => exact crT HR1_0.out HB.out); (case side2 => exact HC1_0.out); rintro e w50 ⟨rfl, hb⟩; refine ⟨_, rfl, ?_⟩; have n0_ := asT (blk_below (bkT BK307.out) hb); have n1_ := asT (below_step (hbT HB.out) hb); clear BK307 HB; have BK307 := n0_; have HB := n1_; clear n0_ n1_; (try clear hb); (try clear hb2); (try clear hk); (try clear hi); have hcz51_0 : w50.cell? ⟨gb307, 0, none⟩ = some (.slice A1_0 l1_0.length c1_0) := (blk_cell BK307.out 0).trans rfl; have hfz51_0 := blk_frozen BK307.out 0) | ((with_reducible refine gate_callee (f := 56) rfl ?_); refine goesL_ (some 10) rfl rfl Try.func56 (by kernel_rfl) rfl #[.agg #[.slice A1_0 l1_0.length c1_0]] rfl eqT ?_; (with_reducible refine (impl_OutputOf.calls k _ _ l1_0 t309 _ ?side1 ?side2 A5.out).mono ?_); (case side1 => exact crT HR1_0.out HB.out); (case side2 => exact HC1_0.out); rintro e w52 ⟨rfl, hb⟩; refine ⟨_, rfl, ?_⟩; have n0_ := asT (blk_below (bkT BK307.out) hb); have n1_ := asT (below_step (hbT HB.out) hb); clear BK307 HB; have BK307 := n0_; have HB := n1_; clear n0_ n1_; (try clear hb); (try clear hb2); (try clear hk); (try clear hi)) | ((with_reducible refine gate_callee (f := 62) rfl ?_); refine goesL_ (some 35) rfl rfl Try.func62 (by kernel_rfl) rfl #[.string t309] rfl eqT ?_; (with_reducible refine (impl_CountNasalVoiceless.calls k t309 t315 _ A47.out).mono ?_); rintro e w53 ⟨rfl, hb⟩; refine ⟨_, rfl, ?_⟩; have n0_ := asT (blk_below (bkT BK307.out) hb); have n1_ := asT (below_step (hbT HB.out) hb); clear BK307 HB; have BK307 := n0_; have HB := n1_; clear n0_ n1_; (try clear hb); (try clear hb2); (try clear hk); (try clear hi)))
        go_ret
        exact ⟨rlT, hbT HB.out⟩
       ·rw [if_neg c46] at H
        have c46b0 : (a0.toList == ([110, 97, 115, 97, 108] : List UInt8)) = false := beq_eq_false_iff_ne.mpr c46
        have c46b1 : (a0.toList != ([110, 97, 115, 97, 108] : List UInt8)) = true := bne_iff_ne.mpr c46
        by_cases c54 : a0.toList = ([109, 97, 120] : List UInt8)
        ·rw [if_pos c54] at H
         have c54b0 : (a0.toList == ([109, 97, 120] : List UInt8)) = true := beq_iff_eq.mpr c54
         have c54b1 : (a0.toList != ([109, 97, 120] : List UInt8)) = false := bne_eq_false_iff_eq.mpr c54
         clear c54; replace H := Option.bind_eq_some_iff.mp H; obtain ⟨t316, A550, H⟩ := H; replace H : (some t316) = some r := H; have A55 := Aside0.mk A550; clear A550
         obtain rfl := Option.some.inj H
         go_enter Try.func16, Try.ntmps16
         go_wp2_with (first | ((with_reducible refine gate_dst (N := 3) rfl ?_); refine boxT (N := 3) (cs := #[.slice A1_0 l1_0.length c1_0]) (t := 34) ?_; intro gb307 hg w56 hbox hb; have n0_ := asT (below_step (hbT HB.out) hb); have n1_ := asT (hbox); have n2_ := asT (geT hg HB.out); have n3_ := asT (geT hg HB.out); clear HB; have HB := n0_; have BK307 := n1_; have GW307 := n2_; have GE307 := n3_; clear n0_ n1_ n2_ n3_ hb hbox hg; have hcz57_0 : w56.cell? ⟨gb307, 0, none⟩ = some (.slice A1_0 l1_0.length c1_0) := (blk_cell BK307.out 0).trans rfl; have hfz57_0 := blk_frozen BK307.out 0) | ((with_reducible refine gate_callee (f := 55) rfl ?_); refine goesL_ (some 7) rfl rfl Try.func55 (by kernel_rfl) rfl #[.agg #[.slice A1_0 l1_0.length c1_0]] rfl eqT ?_; (with_reducible refine (impl_IsCandidate.calls k _ _ l1_0 true _ ?side1 ?side2 A3.out).mono ?_); (case side1 => exact crT HR1_0.out HB.out); (case side2 => exact HC1_0.out); rintro e w58 ⟨rfl, hb⟩; refine ⟨_, rfl, ?_⟩; have n0_ := asT (blk_below (bkT BK307.out) hb); have n1_ := asT (below_step (hbT HB.out) hb); clear BK307 HB; have BK307 := n0_; have HB := n1_; clear n0_ n1_; (try clear hb); (try clear hb2); (try clear hk); (try clear hi); have hcz59_0 : w58.cell? ⟨gb307, 0, none⟩ = some (.slice A1_0 l1_0.length c1_0) := (blk_cell BK307.out 0).trans rfl; have hfz59_0 := blk_frozen BK307.out 0) | ((with_reducible refine gate_callee (f := 56) rfl ?_); refine goesL_ (some 10) rfl rfl Try.func56 (by kernel_rfl) rfl #[.agg #[.slice A1_0 l1_0.length c1_0]] rfl eqT ?_; (with_reducible refine (impl_OutputOf.calls k _ _ l1_0 t309 _ ?side1 ?side2 A5.out).mono ?_); (case side1 => exact crT HR1_0.out HB.out); (case side2 => exact HC1_0.out); rintro e w60 ⟨rfl, hb⟩; refine ⟨_, rfl, ?_⟩; have n0_ := asT (blk_below (bkT BK307.out) hb); have n1_ := asT (below_step (hbT HB.out) hb); clear BK307 HB; have BK307 := n0_; have HB := n1_; clear n0_ n1_; (try clear hb); (try clear hb2); (try clear hk); (try clear hi); have hcz61_0 : w60.cell? ⟨gb307, 0, none⟩ = some (.slice A1_0 l1_0.length c1_0) := (blk_cell BK307.out 0).trans rfl; have hfz61_0 := blk_frozen BK307.out 0) | ((with_reducible refine gate_callee (f := 63) rfl ?_); refine goesL_ (some 39) rfl rfl Try.func63 (by kernel_rfl) rfl #[.agg #[.slice A1_0 l1_0.length c1_0]] rfl eqT ?_; (with_reducible refine (impl_CountDeleted.calls k _ _ l1_0 t316 _ ?side1 ?side2 A55.out).mono ?_); (case side1 => exact crT HR1_0.out HB.out); (case side2 => exact HC1_0.out); rintro e w62 ⟨rfl, hb⟩; refine ⟨_, rfl, ?_⟩; have n0_ := asT (blk_below (bkT BK307.out) hb); have n1_ := asT (below_step (hbT HB.out) hb); clear BK307 HB; have BK307 := n0_; have HB := n1_; clear n0_ n1_; (try clear hb); (try clear hb2); (try clear hk); (try clear hi)))
         go_ret
         exact ⟨rlT, hbT HB.out⟩
        ·rw [if_neg c54] at H
         have c54b0 : (a0.toList == ([109, 97, 120] : List UInt8)) = false := beq_eq_false_iff_ne.mpr c54
         have c54b1 : (a0.toList != ([109, 97, 120] : List UInt8)) = true := bne_iff_ne.mpr c54
         by_cases c63 : a0.toList = ([100, 101, 112] : List UInt8)
         ·rw [if_pos c63] at H
          have c63b0 : (a0.toList == ([100, 101, 112] : List UInt8)) = true := beq_iff_eq.mpr c63
          have c63b1 : (a0.toList != ([100, 101, 112] : List UInt8)) = false := bne_eq_false_iff_eq.mpr c63
          clear c63; replace H := Option.bind_eq_some_iff.mp H; obtain ⟨t317, A640, H⟩ := H; replace H : (some t317) = some r := H; have A64 := Aside0.mk A640; clear A640
          obtain rfl := Option.some.inj H
          go_enter Try.func16, Try.ntmps16
          go_wp2_with (first | ((with_reducible refine gate_dst (N := 3) rfl ?_); refine boxT (N := 3) (cs := #[.slice A1_0 l1_0.length c1_0]) (t := 34) ?_; intro gb307 hg w65 hbox hb; have n0_ := asT (below_step (hbT HB.out) hb); have n1_ := asT (hbox); have n2_ := asT (geT hg HB.out); have n3_ := asT (geT hg HB.out); clear HB; have HB := n0_; have BK307 := n1_; have GW307 := n2_; have GE307 := n3_; clear n0_ n1_ n2_ n3_ hb hbox hg; have hcz66_0 : w65.cell? ⟨gb307, 0, none⟩ = some (.slice A1_0 l1_0.length c1_0) := (blk_cell BK307.out 0).trans rfl; have hfz66_0 := blk_frozen BK307.out 0) | ((with_reducible refine gate_callee (f := 55) rfl ?_); refine goesL_ (some 7) rfl rfl Try.func55 (by kernel_rfl) rfl #[.agg #[.slice A1_0 l1_0.length c1_0]] rfl eqT ?_; (with_reducible refine (impl_IsCandidate.calls k _ _ l1_0 true _ ?side1 ?side2 A3.out).mono ?_); (case side1 => exact crT HR1_0.out HB.out); (case side2 => exact HC1_0.out); rintro e w67 ⟨rfl, hb⟩; refine ⟨_, rfl, ?_⟩; have n0_ := asT (blk_below (bkT BK307.out) hb); have n1_ := asT (below_step (hbT HB.out) hb); clear BK307 HB; have BK307 := n0_; have HB := n1_; clear n0_ n1_; (try clear hb); (try clear hb2); (try clear hk); (try clear hi); have hcz68_0 : w67.cell? ⟨gb307, 0, none⟩ = some (.slice A1_0 l1_0.length c1_0) := (blk_cell BK307.out 0).trans rfl; have hfz68_0 := blk_frozen BK307.out 0) | ((with_reducible refine gate_callee (f := 56) rfl ?_); refine goesL_ (some 10) rfl rfl Try.func56 (by kernel_rfl) rfl #[.agg #[.slice A1_0 l1_0.length c1_0]] rfl eqT ?_; (with_reducible refine (impl_OutputOf.calls k _ _ l1_0 t309 _ ?side1 ?side2 A5.out).mono ?_); (case side1 => exact crT HR1_0.out HB.out); (case side2 => exact HC1_0.out); rintro e w69 ⟨rfl, hb⟩; refine ⟨_, rfl, ?_⟩; have n0_ := asT (blk_below (bkT BK307.out) hb); have n1_ := asT (below_step (hbT HB.out) hb); clear BK307 HB; have BK307 := n0_; have HB := n1_; clear n0_ n1_; (try clear hb); (try clear hb2); (try clear hk); (try clear hi); have hcz70_0 : w69.cell? ⟨gb307, 0, none⟩ = some (.slice A1_0 l1_0.length c1_0) := (blk_cell BK307.out 0).trans rfl; have hfz70_0 := blk_frozen BK307.out 0) | ((with_reducible refine gate_callee (f := 64) rfl ?_); refine goesL_ (some 43) rfl rfl Try.func64 (by kernel_rfl) rfl #[.agg #[.slice A1_0 l1_0.length c1_0]] rfl eqT ?_; (with_reducible refine (impl_CountInserted.calls k _ _ l1_0 t317 _ ?side1 ?side2 A64.out).mono ?_); (case side1 => exact crT HR1_0.out HB.out); (case side2 => exact HC1_0.out); rintro e w71 ⟨rfl, hb⟩; refine ⟨_, rfl, ?_⟩; have n0_ := asT (blk_below (bkT BK307.out) hb); have n1_ := asT (below_step (hbT HB.out) hb); clear BK307 HB; have BK307 := n0_; have HB := n1_; clear n0_ n1_; (try clear hb); (try clear hb2); (try clear hk); (try clear hi)))
          go_ret
          exact ⟨rlT, hbT HB.out⟩
         ·rw [if_neg c63] at H
          have c63b0 : (a0.toList == ([100, 101, 112] : List UInt8)) = false := beq_eq_false_iff_ne.mpr c63
          have c63b1 : (a0.toList != ([100, 101, 112] : List UInt8)) = true := bne_iff_ne.mpr c63
          by_cases c72 : a0.toList = ([105, 100, 101, 110, 116] : List UInt8)
          ·rw [if_pos c72] at H
           have c72b0 : (a0.toList == ([105, 100, 101, 110, 116] : List UInt8)) = true := beq_iff_eq.mpr c72
           have c72b1 : (a0.toList != ([105, 100, 101, 110, 116] : List UInt8)) = false := bne_eq_false_iff_eq.mpr c72
           clear c72; replace H := Option.bind_eq_some_iff.mp H; obtain ⟨t318, A730, H⟩ := H; replace H : (some t318) = some r := H; have A73 := Aside0.mk A730; clear A730
           obtain rfl := Option.some.inj H
           go_enter Try.func16, Try.ntmps16
           go_wp2_with (first | ((with_reducible refine gate_dst (N := 3) rfl ?_); refine boxT (N := 3) (cs := #[.slice A1_0 l1_0.length c1_0]) (t := 34) ?_; intro gb307 hg w74 hbox hb; have n0_ := asT (below_step (hbT HB.out) hb); have n1_ := asT (hbox); have n2_ := asT (geT hg HB.out); have n3_ := asT (geT hg HB.out); clear HB; have HB := n0_; have BK307 := n1_; have GW307 := n2_; have GE307 := n3_; clear n0_ n1_ n2_ n3_ hb hbox hg; have hcz75_0 : w74.cell? ⟨gb307, 0, none⟩ = some (.slice A1_0 l1_0.length c1_0) := (blk_cell BK307.out 0).trans rfl; have hfz75_0 := blk_frozen BK307.out 0) | ((with_reducible refine gate_callee (f := 55) rfl ?_); refine goesL_ (some 7) rfl rfl Try.func55 (by kernel_rfl) rfl #[.agg #[.slice A1_0 l1_0.length c1_0]] rfl eqT ?_; (with_reducible refine (impl_IsCandidate.calls k _ _ l1_0 true _ ?side1 ?side2 A3.out).mono ?_); (case side1 => exact crT HR1_0.out HB.out); (case side2 => exact HC1_0.out); rintro e w76 ⟨rfl, hb⟩; refine ⟨_, rfl, ?_⟩; have n0_ := asT (blk_below (bkT BK307.out) hb); have n1_ := asT (below_step (hbT HB.out) hb); clear BK307 HB; have BK307 := n0_; have HB := n1_; clear n0_ n1_; (try clear hb); (try clear hb2); (try clear hk); (try clear hi); have hcz77_0 : w76.cell? ⟨gb307, 0, none⟩ = some (.slice A1_0 l1_0.length c1_0) := (blk_cell BK307.out 0).trans rfl; have hfz77_0 := blk_frozen BK307.out 0) | ((with_reducible refine gate_callee (f := 56) rfl ?_); refine goesL_ (some 10) rfl rfl Try.func56 (by kernel_rfl) rfl #[.agg #[.slice A1_0 l1_0.length c1_0]] rfl eqT ?_; (with_reducible refine (impl_OutputOf.calls k _ _ l1_0 t309 _ ?side1 ?side2 A5.out).mono ?_); (case side1 => exact crT HR1_0.out HB.out); (case side2 => exact HC1_0.out); rintro e w78 ⟨rfl, hb⟩; refine ⟨_, rfl, ?_⟩; have n0_ := asT (blk_below (bkT BK307.out) hb); have n1_ := asT (below_step (hbT HB.out) hb); clear BK307 HB; have BK307 := n0_; have HB := n1_; clear n0_ n1_; (try clear hb); (try clear hb2); (try clear hk); (try clear hi); have hcz79_0 : w78.cell? ⟨gb307, 0, none⟩ = some (.slice A1_0 l1_0.length c1_0) := (blk_cell BK307.out 0).trans rfl; have hfz79_0 := blk_frozen BK307.out 0) | ((with_reducible refine gate_callee (f := 65) rfl ?_); refine goesL_ (some 47) rfl rfl Try.func65 (by kernel_rfl) rfl #[.agg #[.slice A1_0 l1_0.length c1_0]] rfl eqT ?_; (with_reducible refine (impl_CountVoiceChanged.calls k _ _ l1_0 t318 _ ?side1 ?side2 A73.out).mono ?_); (case side1 => exact crT HR1_0.out HB.out); (case side2 => exact HC1_0.out); rintro e w80 ⟨rfl, hb⟩; refine ⟨_, rfl, ?_⟩; have n0_ := asT (blk_below (bkT BK307.out) hb); have n1_ := asT (below_step (hbT HB.out) hb); clear BK307 HB; have BK307 := n0_; have HB := n1_; clear n0_ n1_; (try clear hb); (try clear hb2); (try clear hk); (try clear hi)))
           go_ret
           exact ⟨rlT, hbT HB.out⟩
          ·rw [if_neg c72] at H
           have c72b0 : (a0.toList == ([105, 100, 101, 110, 116] : List UInt8)) = false := beq_eq_false_iff_ne.mpr c72
           have c72b1 : (a0.toList != ([105, 100, 101, 110, 116] : List UInt8)) = true := bne_iff_ne.mpr c72
           by_cases c81 : a0.toList = ([99, 111, 110, 116, 105, 103] : List UInt8)
           ·rw [if_pos c81] at H
            have c81b0 : (a0.toList == ([99, 111, 110, 116, 105, 103] : List UInt8)) = true := beq_iff_eq.mpr c81
            have c81b1 : (a0.toList != ([99, 111, 110, 116, 105, 103] : List UInt8)) = false := bne_eq_false_iff_eq.mpr c81
            clear c81; replace H := Option.bind_eq_some_iff.mp H; obtain ⟨t319, A820, H⟩ := H; replace H : (some t319) = some r := H; have A82 := Aside0.mk A820; clear A820
            obtain rfl := Option.some.inj H
            go_enter Try.func16, Try.ntmps16
            go_wp2_with (first | ((with_reducible refine gate_dst (N := 3) rfl ?_); refine boxT (N := 3) (cs := #[.slice A1_0 l1_0.length c1_0]) (t := 34) ?_; intro gb307 hg w83 hbox hb; have n0_ := asT (below_step (hbT HB.out) hb); have n1_ := asT (hbox); have n2_ := asT (geT hg HB.out); have n3_ := asT (geT hg HB.out); clear HB; have HB := n0_; have BK307 := n1_; have GW307 := n2_; have GE307 := n3_; clear n0_ n1_ n2_ n3_ hb hbox hg; have hcz84_0 : w83.cell? ⟨gb307, 0, none⟩ = some (.slice A1_0 l1_0.length c1_0) := (blk_cell BK307.out 0).trans rfl; have hfz84_0 := blk_frozen BK307.out 0) | ((with_reducible refine gate_callee (f := 55) rfl ?_); refine goesL_ (some 7) rfl rfl Try.func55 (by kernel_rfl) rfl #[.agg #[.slice A1_0 l1_0.length c1_0]] rfl eqT ?_; (with_reducible refine (impl_IsCandidate.calls k _ _ l1_0 true _ ?side1 ?side2 A3.out).mono ?_); (case side1 => exact crT HR1_0.out HB.out); (case side2 => exact HC1_0.out); rintro e w85 ⟨rfl, hb⟩; refine ⟨_, rfl, ?_⟩; have n0_ := asT (blk_below (bkT BK307.out) hb); have n1_ := asT (below_step (hbT HB.out) hb); clear BK307 HB; have BK307 := n0_; have HB := n1_; clear n0_ n1_; (try clear hb); (try clear hb2); (try clear hk); (try clear hi); have hcz86_0 : w85.cell? ⟨gb307, 0, none⟩ = some (.slice A1_0 l1_0.length c1_0) := (blk_cell BK307.out 0).trans rfl; have hfz86_0 := blk_frozen BK307.out 0) | ((with_reducible refine gate_callee (f := 56) rfl ?_); refine goesL_ (some 10) rfl rfl Try.func56 (by kernel_rfl) rfl #[.agg #[.slice A1_0 l1_0.length c1_0]] rfl eqT ?_; (with_reducible refine (impl_OutputOf.calls k _ _ l1_0 t309 _ ?side1 ?side2 A5.out).mono ?_); (case side1 => exact crT HR1_0.out HB.out); (case side2 => exact HC1_0.out); rintro e w87 ⟨rfl, hb⟩; refine ⟨_, rfl, ?_⟩; have n0_ := asT (blk_below (bkT BK307.out) hb); have n1_ := asT (below_step (hbT HB.out) hb); clear BK307 HB; have BK307 := n0_; have HB := n1_; clear n0_ n1_; (try clear hb); (try clear hb2); (try clear hk); (try clear hi); have hcz88_0 : w87.cell? ⟨gb307, 0, none⟩ = some (.slice A1_0 l1_0.length c1_0) := (blk_cell BK307.out 0).trans rfl; have hfz88_0 := blk_frozen BK307.out 0) | ((with_reducible refine gate_callee (f := 66) rfl ?_); refine goesL_ (some 51) rfl rfl Try.func66 (by kernel_rfl) rfl #[.agg #[.slice A1_0 l1_0.length c1_0]] rfl eqT ?_; (with_reducible refine (impl_CountBreaks.calls k _ _ l1_0 t319 _ ?side1 ?side2 A82.out).mono ?_); (case side1 => exact crT HR1_0.out HB.out); (case side2 => exact HC1_0.out); rintro e w89 ⟨rfl, hb⟩; refine ⟨_, rfl, ?_⟩; have n0_ := asT (blk_below (bkT BK307.out) hb); have n1_ := asT (below_step (hbT HB.out) hb); clear BK307 HB; have BK307 := n0_; have HB := n1_; clear n0_ n1_; (try clear hb); (try clear hb2); (try clear hk); (try clear hi)))
            go_ret
            exact ⟨rlT, hbT HB.out⟩
           ·rw [if_neg c81] at H
            have c81b0 : (a0.toList == ([99, 111, 110, 116, 105, 103] : List UInt8)) = false := beq_eq_false_iff_ne.mpr c81
            have c81b1 : (a0.toList != ([99, 111, 110, 116, 105, 103] : List UInt8)) = true := bne_iff_ne.mpr c81
            obtain rfl := Option.some.inj H
            go_enter Try.func16, Try.ntmps16
            go_wp2_with (first | ((with_reducible refine gate_dst (N := 3) rfl ?_); refine boxT (N := 3) (cs := #[.slice A1_0 l1_0.length c1_0]) (t := 34) ?_; intro gb307 hg w90 hbox hb; have n0_ := asT (below_step (hbT HB.out) hb); have n1_ := asT (hbox); have n2_ := asT (geT hg HB.out); have n3_ := asT (geT hg HB.out); clear HB; have HB := n0_; have BK307 := n1_; have GW307 := n2_; have GE307 := n3_; clear n0_ n1_ n2_ n3_ hb hbox hg; have hcz91_0 : w90.cell? ⟨gb307, 0, none⟩ = some (.slice A1_0 l1_0.length c1_0) := (blk_cell BK307.out 0).trans rfl; have hfz91_0 := blk_frozen BK307.out 0) | ((with_reducible refine gate_callee (f := 55) rfl ?_); refine goesL_ (some 7) rfl rfl Try.func55 (by kernel_rfl) rfl #[.agg #[.slice A1_0 l1_0.length c1_0]] rfl eqT ?_; (with_reducible refine (impl_IsCandidate.calls k _ _ l1_0 true _ ?side1 ?side2 A3.out).mono ?_); (case side1 => exact crT HR1_0.out HB.out); (case side2 => exact HC1_0.out); rintro e w92 ⟨rfl, hb⟩; refine ⟨_, rfl, ?_⟩; have n0_ := asT (blk_below (bkT BK307.out) hb); have n1_ := asT (below_step (hbT HB.out) hb); clear BK307 HB; have BK307 := n0_; have HB := n1_; clear n0_ n1_; (try clear hb); (try clear hb2); (try clear hk); (try clear hi); have hcz93_0 : w92.cell? ⟨gb307, 0, none⟩ = some (.slice A1_0 l1_0.length c1_0) := (blk_cell BK307.out 0).trans rfl; have hfz93_0 := blk_frozen BK307.out 0) | ((with_reducible refine gate_callee (f := 56) rfl ?_); refine goesL_ (some 10) rfl rfl Try.func56 (by kernel_rfl) rfl #[.agg #[.slice A1_0 l1_0.length c1_0]] rfl eqT ?_; (with_reducible refine (impl_OutputOf.calls k _ _ l1_0 t309 _ ?side1 ?side2 A5.out).mono ?_); (case side1 => exact crT HR1_0.out HB.out); (case side2 => exact HC1_0.out); rintro e w94 ⟨rfl, hb⟩; refine ⟨_, rfl, ?_⟩; have n0_ := asT (blk_below (bkT BK307.out) hb); have n1_ := asT (below_step (hbT HB.out) hb); clear BK307 HB; have BK307 := n0_; have HB := n1_; clear n0_ n1_; (try clear hb); (try clear hb2); (try clear hk); (try clear hi)))
            go_ret
            exact ⟨rlT, hbT HB.out⟩
 ·replace c4 := Bool.eq_false_iff.mpr c4
  subst c4
  have H1 : (some (-1)) = some r := by rw [if_neg (show ¬ (false = true) by decide)] at H; exact H
  clear H; have H := H1; clear H1
  obtain rfl := Option.some.inj H
  go_enter Try.func16, Try.ntmps16
  go_wp2_with (first | ((with_reducible refine gate_dst (N := 3) rfl ?_); refine boxT (N := 3) (cs := #[.slice A1_0 l1_0.length c1_0]) (t := 34) ?_; intro gb307 hg w95 hbox hb; have n0_ := asT (below_step (hbT HB.out) hb); have n1_ := asT (hbox); have n2_ := asT (geT hg HB.out); have n3_ := asT (geT hg HB.out); clear HB; have HB := n0_; have BK307 := n1_; have GW307 := n2_; have GE307 := n3_; clear n0_ n1_ n2_ n3_ hb hbox hg; have hcz96_0 : w95.cell? ⟨gb307, 0, none⟩ = some (.slice A1_0 l1_0.length c1_0) := (blk_cell BK307.out 0).trans rfl; have hfz96_0 := blk_frozen BK307.out 0) | ((with_reducible refine gate_callee (f := 55) rfl ?_); refine goesL_ (some 7) rfl rfl Try.func55 (by kernel_rfl) rfl #[.agg #[.slice A1_0 l1_0.length c1_0]] rfl eqT ?_; (with_reducible refine (impl_IsCandidate.calls k _ _ l1_0 false _ ?side1 ?side2 A3.out).mono ?_); (case side1 => exact crT HR1_0.out HB.out); (case side2 => exact HC1_0.out); rintro e w97 ⟨rfl, hb⟩; refine ⟨_, rfl, ?_⟩; have n0_ := asT (blk_below (bkT BK307.out) hb); have n1_ := asT (below_step (hbT HB.out) hb); clear BK307 HB; have BK307 := n0_; have HB := n1_; clear n0_ n1_; (try clear hb); (try clear hb2); (try clear hk); (try clear hi)))
  go_ret
  exact ⟨rlT, hbT HB.out⟩

/-! ### laws_eqLink: function 112 -/
def laws_eqLink.f (a0_0 : Int) (a0_1 : Int) (a1_0 : Int) (a1_1 : Int) : Option (Bool) := if a0_0 = a1_0 then (if a0_1 = a1_1 then (some true) else (some false)) else (some false)
set_option maxHeartbeats 8000000 in
set_option maxRecDepth 100000 in
theorem laws_eqLink.calls (a0_0 : Int) (a0_1 : Int) (a1_0 : Int) (a1_1 : Int) (r : Bool) (w : World) (h : laws_eqLink.f a0_0 a0_1 a1_0 a1_1 = some r) :
  Calls Try.prog 112 #[.agg #[.int .u8 a0_0, .int .u8 a0_1], .agg #[.int .u8 a1_0, .int .u8 a1_1]] w fun e w' => e = .returned (.bool r) ∧ Below w.heap.size w w' := by
 have hu83 := Try.underlying83; have HB := asT (Below.refl w.heap.size w)
 have H : (if a0_0 = a1_0 then (if a0_1 = a1_1 then (some true) else (some false)) else (some false)) = some r := h
 clear h
 by_cases c3 : a0_0 = a1_0
 ·rw [if_pos c3] at H
  have c3b0 : (a0_0 == a1_0) = true := beq_iff_eq.mpr c3
  have c3b1 : (a0_0 != a1_0) = false := bne_eq_false_iff_eq.mpr c3
  clear c3
  by_cases c4 : a0_1 = a1_1
  ·rw [if_pos c4] at H
   have c4b0 : (a0_1 == a1_1) = true := beq_iff_eq.mpr c4
   have c4b1 : (a0_1 != a1_1) = false := bne_eq_false_iff_eq.mpr c4
   clear c4
   obtain rfl := Option.some.inj H
   go_enter Try.func112, Try.ntmps112
   go_wp2_with (first | ((with_reducible refine gate_dst (N := 2) rfl ?_); refine boxT (N := 2) (cs := #[.int .u8 a0_0, .int .u8 a0_1]) (t := 83) ?_; intro gb320 hg w5 hbox hb; have n0_ := asT (below_step (hbT HB.out) hb); have n1_ := asT (hbox); have n2_ := asT (geT hg HB.out); have n3_ := asT (geT hg HB.out); clear HB; have HB := n0_; have BK320 := n1_; have GW320 := n2_; have GE320 := n3_; clear n0_ n1_ n2_ n3_ hb hbox hg) | ((with_reducible refine gate_dst (N := 3) rfl ?_); refine boxT (N := 3) (cs := #[.int .u8 a1_0, .int .u8 a1_1]) (t := 83) ?_; intro gb321 hg w6 hbox hb; have n0_ := asT (blk_below (bkT BK320.out) hb); have n1_ := asT (below_step (hbT HB.out) hb); have n2_ := asT (hbox); have n3_ := asT (geT hg HB.out); have n4_ := asT (geT hg HB.out); have n5_ := asT ((by rw [hg]; exact Nat.ne_of_lt (blk_lt (bkT BK320.out)) : gb320 ≠ gb321)); have n6_ := asT ((by rw [hg]; exact Nat.ne_of_gt (blk_lt (bkT BK320.out)) : gb321 ≠ gb320)); clear BK320 HB; have BK320 := n0_; have HB := n1_; have BK321 := n2_; have GW321 := n3_; have GE321 := n4_; have NB320_321 := n5_; have NB321_320 := n6_; clear n0_ n1_ n2_ n3_ n4_ n5_ n6_ hb hbox hg; have hnb7 := NB320_321.out; have hnc7 := NB321_320.out; have hcz8_0 : w6.cell? ⟨gb320, 0, none⟩ = some (.int .u8 a0_0) := (blk_cell BK320.out 0).trans rfl; have hcz8_1 : w6.cell? ⟨gb320, 1, none⟩ = some (.int .u8 a0_1) := (blk_cell BK320.out 1).trans rfl; have hfz8_0 := blk_frozen BK320.out 0; have hfz8_1 := blk_frozen BK320.out 1; have hcz9_0 : w6.cell? ⟨gb321, 0, none⟩ = some (.int .u8 a1_0) := (blk_cell BK321.out 0).trans rfl; have hcz9_1 : w6.cell? ⟨gb321, 1, none⟩ = some (.int .u8 a1_1) := (blk_cell BK321.out 1).trans rfl; have hfz9_0 := blk_frozen BK321.out 0; have hfz9_1 := blk_frozen BK321.out 1))
   go_ret
   exact ⟨rlT, hbT HB.out⟩
  ·rw [if_neg c4] at H
   have c4b0 : (a0_1 == a1_1) = false := beq_eq_false_iff_ne.mpr c4
   have c4b1 : (a0_1 != a1_1) = true := bne_iff_ne.mpr c4
   obtain rfl := Option.some.inj H
   go_enter Try.func112, Try.ntmps112
   go_wp2_with (first | ((with_reducible refine gate_dst (N := 2) rfl ?_); refine boxT (N := 2) (cs := #[.int .u8 a0_0, .int .u8 a0_1]) (t := 83) ?_; intro gb320 hg w10 hbox hb; have n0_ := asT (below_step (hbT HB.out) hb); have n1_ := asT (hbox); have n2_ := asT (geT hg HB.out); have n3_ := asT (geT hg HB.out); clear HB; have HB := n0_; have BK320 := n1_; have GW320 := n2_; have GE320 := n3_; clear n0_ n1_ n2_ n3_ hb hbox hg) | ((with_reducible refine gate_dst (N := 3) rfl ?_); refine boxT (N := 3) (cs := #[.int .u8 a1_0, .int .u8 a1_1]) (t := 83) ?_; intro gb321 hg w11 hbox hb; have n0_ := asT (blk_below (bkT BK320.out) hb); have n1_ := asT (below_step (hbT HB.out) hb); have n2_ := asT (hbox); have n3_ := asT (geT hg HB.out); have n4_ := asT (geT hg HB.out); have n5_ := asT ((by rw [hg]; exact Nat.ne_of_lt (blk_lt (bkT BK320.out)) : gb320 ≠ gb321)); have n6_ := asT ((by rw [hg]; exact Nat.ne_of_gt (blk_lt (bkT BK320.out)) : gb321 ≠ gb320)); clear BK320 HB; have BK320 := n0_; have HB := n1_; have BK321 := n2_; have GW321 := n3_; have GE321 := n4_; have NB320_321 := n5_; have NB321_320 := n6_; clear n0_ n1_ n2_ n3_ n4_ n5_ n6_ hb hbox hg; have hnb12 := NB320_321.out; have hnc12 := NB321_320.out; have hcz13_0 : w11.cell? ⟨gb320, 0, none⟩ = some (.int .u8 a0_0) := (blk_cell BK320.out 0).trans rfl; have hcz13_1 : w11.cell? ⟨gb320, 1, none⟩ = some (.int .u8 a0_1) := (blk_cell BK320.out 1).trans rfl; have hfz13_0 := blk_frozen BK320.out 0; have hfz13_1 := blk_frozen BK320.out 1; have hcz14_0 : w11.cell? ⟨gb321, 0, none⟩ = some (.int .u8 a1_0) := (blk_cell BK321.out 0).trans rfl; have hcz14_1 : w11.cell? ⟨gb321, 1, none⟩ = some (.int .u8 a1_1) := (blk_cell BK321.out 1).trans rfl; have hfz14_0 := blk_frozen BK321.out 0; have hfz14_1 := blk_frozen BK321.out 1))
   go_ret
   exact ⟨rlT, hbT HB.out⟩
 ·rw [if_neg c3] at H
  have c3b0 : (a0_0 == a1_0) = false := beq_eq_false_iff_ne.mpr c3
  have c3b1 : (a0_0 != a1_0) = true := bne_iff_ne.mpr c3
  obtain rfl := Option.some.inj H
  go_enter Try.func112, Try.ntmps112
  go_wp2_with (first | ((with_reducible refine gate_dst (N := 2) rfl ?_); refine boxT (N := 2) (cs := #[.int .u8 a0_0, .int .u8 a0_1]) (t := 83) ?_; intro gb320 hg w15 hbox hb; have n0_ := asT (below_step (hbT HB.out) hb); have n1_ := asT (hbox); have n2_ := asT (geT hg HB.out); have n3_ := asT (geT hg HB.out); clear HB; have HB := n0_; have BK320 := n1_; have GW320 := n2_; have GE320 := n3_; clear n0_ n1_ n2_ n3_ hb hbox hg) | ((with_reducible refine gate_dst (N := 3) rfl ?_); refine boxT (N := 3) (cs := #[.int .u8 a1_0, .int .u8 a1_1]) (t := 83) ?_; intro gb321 hg w16 hbox hb; have n0_ := asT (blk_below (bkT BK320.out) hb); have n1_ := asT (below_step (hbT HB.out) hb); have n2_ := asT (hbox); have n3_ := asT (geT hg HB.out); have n4_ := asT (geT hg HB.out); have n5_ := asT ((by rw [hg]; exact Nat.ne_of_lt (blk_lt (bkT BK320.out)) : gb320 ≠ gb321)); have n6_ := asT ((by rw [hg]; exact Nat.ne_of_gt (blk_lt (bkT BK320.out)) : gb321 ≠ gb320)); clear BK320 HB; have BK320 := n0_; have HB := n1_; have BK321 := n2_; have GW321 := n3_; have GE321 := n4_; have NB320_321 := n5_; have NB321_320 := n6_; clear n0_ n1_ n2_ n3_ n4_ n5_ n6_ hb hbox hg; have hnb17 := NB320_321.out; have hnc17 := NB321_320.out; have hcz18_0 : w16.cell? ⟨gb320, 0, none⟩ = some (.int .u8 a0_0) := (blk_cell BK320.out 0).trans rfl; have hcz18_1 : w16.cell? ⟨gb320, 1, none⟩ = some (.int .u8 a0_1) := (blk_cell BK320.out 1).trans rfl; have hfz18_0 := blk_frozen BK320.out 0; have hfz18_1 := blk_frozen BK320.out 1; have hcz19_0 : w16.cell? ⟨gb321, 0, none⟩ = some (.int .u8 a1_0) := (blk_cell BK321.out 0).trans rfl; have hcz19_1 : w16.cell? ⟨gb321, 1, none⟩ = some (.int .u8 a1_1) := (blk_cell BK321.out 1).trans rfl; have hfz19_0 := blk_frozen BK321.out 0; have hfz19_1 := blk_frozen BK321.out 1))
  go_ret
  exact ⟨rlT, hbT HB.out⟩

/-! ### laws_eqLinkS: function 67 -/
def laws_eqLinkS.l0 : Nat → List (S83) → List (S83) → Int → Option (Bool)
 | 0, _, _, _ => none
 | k + 1, x0, x1, x5 => if x5 < (x0.length : Int) then (if 0 ≤ x5 then (if x5 < (x1.length : Int) then ((laws_eqLink.f ((rd_T83 x0 x5).f0) ((rd_T83 x0 x5).f1) ((rd_T83 x1 x5).f0) ((rd_T83 x1 x5).f1)).bind fun t324 => (if t324 = true then (laws_eqLinkS.l0 k x0 x1 (wrap64 (x5 + 1))) else (some false))) else (none)) else (none)) else (some true)
def laws_eqLinkS.f (k : Nat) (l0 : List (S83)) (l1 : List (S83)) : Option (Bool) := if (l0.length : Int) = (l1.length : Int) then (laws_eqLinkS.l0 k l0 l1 0) else (some false)
theorem laws_eqLinkS.mono_l : ∀ k, (∀ y0 y1 y2, LeO (laws_eqLinkS.l0 k y0 y1 y2) (laws_eqLinkS.l0 (k + 1) y0 y1 y2))
 | 0 => fun _ _ _ r h => by simp [laws_eqLinkS.l0] at h
 | k + 1 => by
  have ih0 := laws_eqLinkS.mono_l k
  ·intro y0 y1 y2
   unfold laws_eqLinkS.l0
   repeat' first
   | (with_reducible exact ih0 _ _ _)
   | (with_reducible exact LeO.refl _)
   | (with_reducible exact LeO.none _)
   | (with_reducible refine LeO.ite ?_ ?_)
   | (with_reducible refine LeO.bind ?_ (fun _ => ?_))
   | exact ih0 _ _ _
   | exact LeO.none _
   | refine LeO.ite ?_ ?_
   | refine LeO.bind ?_ (fun _ => ?_)
theorem laws_eqLinkS.mono : ∀ a0 a1 k, LeO (laws_eqLinkS.f k a0 a1) (laws_eqLinkS.f (k + 1) a0 a1) := by
 intro a0 a1 k
 have ih0 := laws_eqLinkS.mono_l k
 unfold laws_eqLinkS.f
 repeat' first
   | (with_reducible exact ih0 _ _ _)
   | (with_reducible exact LeO.refl _)
   | (with_reducible exact LeO.none _)
   | (with_reducible refine LeO.ite ?_ ?_)
   | (with_reducible refine LeO.bind ?_ (fun _ => ?_))
   | exact ih0 _ _ _
   | exact LeO.none _
   | refine LeO.ite ?_ ?_
   | refine LeO.bind ?_ (fun _ => ?_)
def laws_eqLinkS.T6 : Bool × List (List Nat × List Nat) := (true, [([], []), ([], []), ([0, 1], [0, 1]), ([2], [2]), ([], []), ([], []), ([4, 5], [4, 5]), ([6], [6]), ([3, 7], [3, 7]), ([8], [8])])
def laws_eqLinkS.B6 : List Nat := [0, 0, 3, 7, 0, 0, 48, 112, 255, 511]
theorem laws_eqLinkS.tab6 : rtab .any (opsOf Try.f67 6) = laws_eqLinkS.T6 := by kernel_rfl
theorem laws_eqLinkS.bits6 : waitsOk laws_eqLinkS.T6.2 laws_eqLinkS.B6 = true := by kernel_rfl
set_option maxHeartbeats 8000000 in
set_option maxRecDepth 100000 in
theorem laws_eqLinkS.calls (k : Nat) (A0 : Option Addr) (c0 : Nat) (l0 : List (S83)) (A1 : Option Addr) (c1 : Nat) (l1 : List (S83)) (r : Bool) (w : World) (hr0 : Kd.C k83 w A0 l0.length l0) (hc0 : l0.length ≤ c0) (hr1 : Kd.C k83 w A1 l1.length l1) (hc1 : l1.length ≤ c1) (h : laws_eqLinkS.f k l0 l1 = some r) :
  Calls Try.prog 67 #[.slice A0 l0.length c0, .slice A1 l1.length c1] w fun e w' => e = .returned (.bool r) ∧ Below w.heap.size w w' := by
 have hu83 := Try.underlying83; have HR0 := Aside0.mk hr0; have HC0 := Aside0.mk hc0; clear hr0 hc0; have HR1 := Aside0.mk hr1; have HC1 := Aside0.mk hc1; clear hr1 hc1; have HB := asT (Below.refl w.heap.size w)
 have H : (if (l0.length : Int) = (l1.length : Int) then (laws_eqLinkS.l0 k l0 l1 0) else (some false)) = some r := h
 clear h
 by_cases c3 : (l0.length : Int) = (l1.length : Int)
 ·rw [if_pos c3] at H
  have c3b0 : ((l0.length : Int) == (l1.length : Int)) = true := beq_iff_eq.mpr c3
  have c3b1 : ((l0.length : Int) != (l1.length : Int)) = false := bne_eq_false_iff_eq.mpr c3
  have c3b2 : (l0.length == l1.length) = true := by first | simpa using c3 | (simp at c3 ⊢; omega)
  clear c3; have H' := Aside0.mk H; clear H
  go_enter Try.func67, Try.ntmps67
  go_wp2
  go_loopg [5] k (fun kq v5 w' => ∃ (x5_1 : Int), v5 = .int .i64 x5_1 ∧ Aside0 (laws_eqLinkS.l0 kq l0 l1 x5_1 = some r) ∧ Aside0 (kq ≤ k) ∧ Aside0 (Below w.heap.size w w'))
  case atStart => exact ⟨(0), rdT, H', ⟨Nat.le_refl _⟩, ⟨hbT HB.out⟩⟩
  case round =>
   clear H'; (try clear c1); (try clear p2); (try clear c3); (try clear c3b0); (try clear c3b1); (try clear c3b2); obtain ⟨x5_1, rfl, HA, HK1, HB⟩ := hrel
   cases gk with
   | zero => exact absurd HA.out (by simp [laws_eqLinkS.l0])
   | succ k1 =>
    have H := HA.out; clear HA
    simp only [laws_eqLinkS.l0] at H
    by_cases c4 : x5_1 < (l0.length : Int)
    ·rw [if_pos c4] at H
     have c4b0 : decide (x5_1 < (l0.length : Int)) = true := decide_eq_true c4
     clear c4
     by_cases c5 : 0 ≤ x5_1
     ·rw [if_pos c5] at H
      have c5b0 : decide (0 ≤ x5_1) = true := decide_eq_true c5
      clear c5
      by_cases c6 : x5_1 < (l1.length : Int)
      ·rw [if_pos c6] at H
       have c6b0 : decide (x5_1 < (l1.length : Int)) = true := decide_eq_true c6
       clear c6; replace H := Option.bind_eq_some_iff.mp H; obtain ⟨t324, A70, H⟩ := H; replace H : (if t324 = true then (laws_eqLinkS.l0 k1 l0 l1 (wrap64 (x5_1 + 1))) else (some false)) = some r := H; have A7 := Aside0.mk A70; clear A70
       by_cases c8 : t324 = true
       ·subst c8
        have H1 : (laws_eqLinkS.l0 k1 l0 l1 (wrap64 (x5_1 + 1))) = some r := by rw [if_pos rfl] at H; exact H
        clear H; have H := H1; clear H1; have H' := Aside0.mk H; clear H
        try go_wp2
        have n0_ := asT (below_drew1 HB.out); clear HB; have HB := n0_; clear n0_
        have p322 : 0 ≤ (x5_1 : Int) := of_decide_eq_true asmT
        have q322 : x5_1 < (l0.length : Int) := of_decide_eq_true asmT
        obtain ⟨ad322, e322, hx322_0, hx322_1⟩ := at_T83 HR0.out x5_1 p322 q322; have hw322_1 := hx322_1; have hw322_0 := hx322_0
        cases e322
        replace hx322_0 := (HB.out.cell (World.block_lt_of_cell? w _ hx322_0)).trans hx322_0; replace hx322_1 := (HB.out.cell (World.block_lt_of_cell? w _ hx322_1)).trans hx322_1; replace p322 := eq_true p322; replace q322 := eq_true q322
        have p323 : 0 ≤ (x5_1 : Int) := of_decide_eq_true asmT
        have q323 : x5_1 < (l1.length : Int) := of_decide_eq_true asmT
        obtain ⟨ad323, e323, hx323_0, hx323_1⟩ := at_T83 HR1.out x5_1 p323 q323; have hw323_1 := hx323_1; have hw323_0 := hx323_0
        cases e323
        replace hx323_0 := (HB.out.cell (World.block_lt_of_cell? w _ hx323_0)).trans hx323_0; replace hx323_1 := (HB.out.cell (World.block_lt_of_cell? w _ hx323_1)).trans hx323_1; replace p323 := eq_true p323; replace q323 := eq_true q323
        refine start_ (n := 10) (S := fun w' => w'.cell? (ad322.add ((x5_1).toNat * 2)) = some (.int .u8 ((rd_T83 l0 x5_1).f0)) ∧ w'.cell? ⟨(ad322.add ((x5_1).toNat * 2)).block, (ad322.add ((x5_1).toNat * 2)).off + 1, none⟩ = some (.int .u8 ((rd_T83 l0 x5_1).f1)) ∧ w'.cell? (ad323.add ((x5_1).toNat * 2)) = some (.int .u8 ((rd_T83 l1 x5_1).f0)) ∧ w'.cell? ⟨(ad323.add ((x5_1).toNat * 2)).block, (ad323.add ((x5_1).toNat * 2)).off + 1, none⟩ = some (.int .u8 ((rd_T83 l1 x5_1).f1))) (ds := []) #[false, false, false, false, false, false, false, false, false, false] (by kernel_rfl) rfl rfl ⟨((HB.out.cell (World.block_lt_of_cell? w _ hw322_0)).trans hw322_0), ((HB.out.cell (World.block_lt_of_cell? w _ hw322_1)).trans hw322_1), ((HB.out.cell (World.block_lt_of_cell? w _ hw323_0)).trans hw323_0), ((HB.out.cell (World.block_lt_of_cell? w _ hw323_1)).trans hw323_1)⟩ (fun hHeld => ?_); refine with_tabW laws_eqLinkS.tab6 laws_eqLinkS.bits6 (fun HT_ HW_ => ?_)
        generalize wr.drew = w9 at HB hx322_0 hx322_1 hx323_0 hx323_1 hHeld ⊢
        refine pure_ (i := 0) (N := some 17) (v := ?_) (a' := ?_) #[true, false, false, false, false, false, false, false, false, false] rfl rfl (any_of HT_.out (by kernel_rfl)) (fun _ _ _ h => h) (Or.inl ⟨by rfl, ?_⟩) ?_ ?_
        rotate_left
        ·intro w'
         go_simp
         with_reducible rfl
        rotate_left
        ·simp only [Act.put, List.setIfInBounds_toArray, List.set_cons_zero, List.set_cons_succ, i64_w, i32_w]
         rfl
        refine pure_ (i := 1) (N := some 18) (v := ?_) (a' := ?_) #[true, true, false, false, false, false, false, false, false, false] rfl rfl (any_of HT_.out (by kernel_rfl)) (fun _ _ _ h => h) (Or.inl ⟨by rfl, ?_⟩) ?_ ?_
        rotate_left
        ·intro w'
         go_simp
         with_reducible rfl
        rotate_left
        ·simp only [Act.put, List.setIfInBounds_toArray, List.set_cons_zero, List.set_cons_succ, i64_w, i32_w]
         rfl
        refine pure_ (i := 2) (N := some 19) (v := ?_) (a' := ?_) #[true, true, true, false, false, false, false, false, false, false] rfl rfl (any_of HT_.out (by kernel_rfl)) (fun _ _ _ h => h) (Or.inl ⟨by rfl, ?_⟩) ?_ ?_
        rotate_left
        ·intro w'
         go_simp
         with_reducible rfl
        rotate_left
        ·simp only [Act.put, List.setIfInBounds_toArray, List.set_cons_zero, List.set_cons_succ, i64_w, i32_w]
         rfl
        refine pure_ (i := 4) (N := some 21) (v := ?_) (a' := ?_) #[true, true, true, false, true, false, false, false, false, false] rfl rfl (any_of HT_.out (by kernel_rfl)) (fun _ _ _ h => h) (Or.inl ⟨by rfl, ?_⟩) ?_ ?_
        rotate_left
        ·intro w'
         go_simp
         with_reducible rfl
        rotate_left
        ·simp only [Act.put, List.setIfInBounds_toArray, List.set_cons_zero, List.set_cons_succ, i64_w, i32_w]
         rfl
        refine pure_ (i := 5) (N := some 22) (v := ?_) (a' := ?_) #[true, true, true, false, true, true, false, false, false, false] rfl rfl (any_of HT_.out (by kernel_rfl)) (fun _ _ _ h => h) (Or.inl ⟨by rfl, ?_⟩) ?_ ?_
        rotate_left
        ·intro w'
         go_simp
         with_reducible rfl
        rotate_left
        ·simp only [Act.put, List.setIfInBounds_toArray, List.set_cons_zero, List.set_cons_succ, i64_w, i32_w]
         rfl
        refine pure_ (i := 6) (N := some 23) (v := ?_) (a' := ?_) #[true, true, true, false, true, true, true, false, false, false] rfl rfl (any_of HT_.out (by kernel_rfl)) (fun _ _ _ h => h) (Or.inl ⟨by rfl, ?_⟩) ?_ ?_
        rotate_left
        ·intro w'
         go_simp
         with_reducible rfl
        rotate_left
        ·simp only [Act.put, List.setIfInBounds_toArray, List.set_cons_zero, List.set_cons_succ, i64_w, i32_w]
         rfl
        refine take_ (i := 3) (N := some 20) (v := ?_) (a' := ?_) #[true, true, true, true, true, true, true, false, false, false] rfl rfl (take_ofW HT_.out HW_.out (by kernel_rfl)) (fun _ _ _ h => h) (Or.inl ⟨by rfl, ?_⟩) hHeld ?_ ?_
        rotate_left
        ·rintro w' ⟨s0, s1, s2, s3⟩
         go_simp
         with_reducible rfl
        rotate_left
        ·simp only [Act.put, List.setIfInBounds_toArray, List.set_cons_zero, List.set_cons_succ, i64_w, i32_w]
         rfl
        refine take_ (i := 7) (N := some 24) (v := ?_) (a' := ?_) #[true, true, true, true, true, true, true, true, false, false] rfl rfl (take_ofW HT_.out HW_.out (by kernel_rfl)) (fun _ _ _ h => h) (Or.inl ⟨by rfl, ?_⟩) hHeld ?_ ?_
        rotate_left
        ·rintro w' ⟨s0, s1, s2, s3⟩
         go_simp
         with_reducible rfl
        rotate_left
        ·simp only [Act.put, List.setIfInBounds_toArray, List.set_cons_zero, List.set_cons_succ, i64_w, i32_w]
         rfl
        refine one_ (i := 8) (N := some 25) #[true, true, true, true, true, true, true, true, true, false] rfl rfl (one_of HT_.out (by kernel_rfl)) (by decide) (fun K hK => ?_)
        refine goes_ Try.func112 (by kernel_rfl) rfl #[.agg #[.int .u8 ((rd_T83 l0 x5_1).f0), .int .u8 ((rd_T83 l0 x5_1).f1)], .agg #[.int .u8 ((rd_T83 l1 x5_1).f0), .int .u8 ((rd_T83 l1 x5_1).f1)]] (by rfl) rfl rfl eqT ?_
        with_reducible refine (laws_eqLink.calls ((rd_T83 l0 x5_1).f0) ((rd_T83 l0 x5_1).f1) ((rd_T83 l1 x5_1).f0) ((rd_T83 l1 x5_1).f1) true _ A7.out).mono ?_; rintro e w10 ⟨rfl, hb⟩; refine ⟨_, rfl, ?_⟩; have n0_ := asT (below_step (hbT HB.out) hb); clear HB; have HB := n0_; clear n0_; (try clear hb); (try clear hb2); (try clear hk); (try clear hi)
        refine hK.out _ _ ⟨((HB.out.cell (World.block_lt_of_cell? w _ hw322_0)).trans hw322_0), ((HB.out.cell (World.block_lt_of_cell? w _ hw322_1)).trans hw322_1), ((HB.out.cell (World.block_lt_of_cell? w _ hw323_0)).trans hw323_0), ((HB.out.cell (World.block_lt_of_cell? w _ hw323_1)).trans hw323_1)⟩ (fun hHeld => ?_)
        clear hK K
        refine norm_ (a' := ?_) ?_ ?_
        rotate_left
        ·show Act.put _ (some 25) _ = _
         simp only [Act.put, List.setIfInBounds_toArray, List.set_cons_zero, List.set_cons_succ, i64_w, i32_w]
         rfl
        refine pure_ (i := 9) (N := some 26) (v := ?_) (a' := ?_) #[true, true, true, true, true, true, true, true, true, true] rfl rfl (any_of HT_.out (by kernel_rfl)) (fun _ _ _ h => h) (Or.inl ⟨by rfl, ?_⟩) ?_ ?_
        rotate_left
        ·intro w'
         go_simp
         with_reducible rfl
        rotate_left
        ·simp only [Act.put, List.setIfInBounds_toArray, List.set_cons_zero, List.set_cons_succ, i64_w, i32_w]
         rfl
        refine done_ (done_of HT_.out (by kernel_rfl)) ?_
        try go_wp2
        go_roundg k1
        case measure => have := HK1.out; omega
        case rel => exact ⟨(wrap64 (x5_1 + 1)), rdT, H', ⟨by have := HK1.out; omega⟩, ⟨hbT HB.out⟩⟩
       ·replace c8 := Bool.eq_false_iff.mpr c8
        subst c8
        have H1 : (some false) = some r := by rw [if_neg (show ¬ (false = true) by decide)] at H; exact H
        clear H; have H := H1; clear H1
        obtain rfl := Option.some.inj H
        try go_wp2
        have n0_ := asT (below_drew1 HB.out); clear HB; have HB := n0_; clear n0_
        have p322 : 0 ≤ (x5_1 : Int) := of_decide_eq_true asmT
        have q322 : x5_1 < (l0.length : Int) := of_decide_eq_true asmT
        obtain ⟨ad322, e322, hx322_0, hx322_1⟩ := at_T83 HR0.out x5_1 p322 q322; have hw322_1 := hx322_1; have hw322_0 := hx322_0
        cases e322
        replace hx322_0 := (HB.out.cell (World.block_lt_of_cell? w _ hx322_0)).trans hx322_0; replace hx322_1 := (HB.out.cell (World.block_lt_of_cell? w _ hx322_1)).trans hx322_1; replace p322 := eq_true p322; replace q322 := eq_true q322
        have p323 : 0 ≤ (x5_1 : Int) := of_decide_eq_true asmT
        have q323 : x5_1 < (l1.length : Int) := of_decide_eq_true asmT
        obtain ⟨ad323, e323, hx323_0, hx323_1⟩ := at_T83 HR1.out x5_1 p323 q323; have hw323_1 := hx323_1; have hw323_0 := hx323_0
        cases e323
        replace hx323_0 := (HB.out.cell (World.block_lt_of_cell? w _ hx323_0)).trans hx323_0; replace hx323_1 := (HB.out.cell (World.block_lt_of_cell? w _ hx323_1)).trans hx323_1; replace p323 := eq_true p323; replace q323 := eq_true q323
        refine start_ (n := 10) (S := fun w' => w'.cell? (ad322.add ((x5_1).toNat * 2)) = some (.int .u8 ((rd_T83 l0 x5_1).f0)) ∧ w'.cell? ⟨(ad322.add ((x5_1).toNat * 2)).block, (ad322.add ((x5_1).toNat * 2)).off + 1, none⟩ = some (.int .u8 ((rd_T83 l0 x5_1).f1)) ∧ w'.cell? (ad323.add ((x5_1).toNat * 2)) = some (.int .u8 ((rd_T83 l1 x5_1).f0)) ∧ w'.cell? ⟨(ad323.add ((x5_1).toNat * 2)).block, (ad323.add ((x5_1).toNat * 2)).off + 1, none⟩ = some (.int .u8 ((rd_T83 l1 x5_1).f1))) (ds := []) #[false, false, false, false, false, false, false, false, false, false] (by kernel_rfl) rfl rfl ⟨((HB.out.cell (World.block_lt_of_cell? w _ hw322_0)).trans hw322_0), ((HB.out.cell (World.block_lt_of_cell? w _ hw322_1)).trans hw322_1), ((HB.out.cell (World.block_lt_of_cell? w _ hw323_0)).trans hw323_0), ((HB.out.cell (World.block_lt_of_cell? w _ hw323_1)).trans hw323_1)⟩ (fun hHeld => ?_); refine with_tabW laws_eqLinkS.tab6 laws_eqLinkS.bits6 (fun HT_ HW_ => ?_)
        generalize wr.drew = w11 at HB hx322_0 hx322_1 hx323_0 hx323_1 hHeld ⊢
        refine pure_ (i := 0) (N := some 17) (v := ?_) (a' := ?_) #[true, false, false, false, false, false, false, false, false, false] rfl rfl (any_of HT_.out (by kernel_rfl)) (fun _ _ _ h => h) (Or.inl ⟨by rfl, ?_⟩) ?_ ?_
        rotate_left
        ·intro w'
         go_simp
         with_reducible rfl
        rotate_left
        ·simp only [Act.put, List.setIfInBounds_toArray, List.set_cons_zero, List.set_cons_succ, i64_w, i32_w]
         rfl
        refine pure_ (i := 1) (N := some 18) (v := ?_) (a' := ?_) #[true, true, false, false, false, false, false, false, false, false] rfl rfl (any_of HT_.out (by kernel_rfl)) (fun _ _ _ h => h) (Or.inl ⟨by rfl, ?_⟩) ?_ ?_
        rotate_left
        ·intro w'
         go_simp
         with_reducible rfl
        rotate_left
        ·simp only [Act.put, List.setIfInBounds_toArray, List.set_cons_zero, List.set_cons_succ, i64_w, i32_w]
         rfl
        refine pure_ (i := 2) (N := some 19) (v := ?_) (a' := ?_) #[true, true, true, false, false, false, false, false, false, false] rfl rfl (any_of HT_.out (by kernel_rfl)) (fun _ _ _ h => h) (Or.inl ⟨by rfl, ?_⟩) ?_ ?_
        rotate_left
        ·intro w'
         go_simp
         with_reducible rfl
        rotate_left
        ·simp only [Act.put, List.setIfInBounds_toArray, List.set_cons_zero, List.set_cons_succ, i64_w, i32_w]
         rfl
        refine pure_ (i := 4) (N := some 21) (v := ?_) (a' := ?_) #[true, true, true, false, true, false, false, false, false, false] rfl rfl (any_of HT_.out (by kernel_rfl)) (fun _ _ _ h => h) (Or.inl ⟨by rfl, ?_⟩) ?_ ?_
        rotate_left
        ·intro w'
         go_simp
         with_reducible rfl
        rotate_left
        ·simp only [Act.put, List.setIfInBounds_toArray, List.set_cons_zero, List.set_cons_succ, i64_w, i32_w]
         rfl
        refine pure_ (i := 5) (N := some 22) (v := ?_) (a' := ?_) #[true, true, true, false, true, true, false, false, false, false] rfl rfl (any_of HT_.out (by kernel_rfl)) (fun _ _ _ h => h) (Or.inl ⟨by rfl, ?_⟩) ?_ ?_
        rotate_left
        ·intro w'
         go_simp
         with_reducible rfl
        rotate_left
        ·simp only [Act.put, List.setIfInBounds_toArray, List.set_cons_zero, List.set_cons_succ, i64_w, i32_w]
         rfl
        refine pure_ (i := 6) (N := some 23) (v := ?_) (a' := ?_) #[true, true, true, false, true, true, true, false, false, false] rfl rfl (any_of HT_.out (by kernel_rfl)) (fun _ _ _ h => h) (Or.inl ⟨by rfl, ?_⟩) ?_ ?_
        rotate_left
        ·intro w'
         go_simp
         with_reducible rfl
        rotate_left
        ·simp only [Act.put, List.setIfInBounds_toArray, List.set_cons_zero, List.set_cons_succ, i64_w, i32_w]
         rfl
        refine take_ (i := 3) (N := some 20) (v := ?_) (a' := ?_) #[true, true, true, true, true, true, true, false, false, false] rfl rfl (take_ofW HT_.out HW_.out (by kernel_rfl)) (fun _ _ _ h => h) (Or.inl ⟨by rfl, ?_⟩) hHeld ?_ ?_
        rotate_left
        ·rintro w' ⟨s0, s1, s2, s3⟩
         go_simp
         with_reducible rfl
        rotate_left
        ·simp only [Act.put, List.setIfInBounds_toArray, List.set_cons_zero, List.set_cons_succ, i64_w, i32_w]
         rfl
        refine take_ (i := 7) (N := some 24) (v := ?_) (a' := ?_) #[true, true, true, true, true, true, true, true, false, false] rfl rfl (take_ofW HT_.out HW_.out (by kernel_rfl)) (fun _ _ _ h => h) (Or.inl ⟨by rfl, ?_⟩) hHeld ?_ ?_
        rotate_left
        ·rintro w' ⟨s0, s1, s2, s3⟩
         go_simp
         with_reducible rfl
        rotate_left
        ·simp only [Act.put, List.setIfInBounds_toArray, List.set_cons_zero, List.set_cons_succ, i64_w, i32_w]
         rfl
        refine one_ (i := 8) (N := some 25) #[true, true, true, true, true, true, true, true, true, false] rfl rfl (one_of HT_.out (by kernel_rfl)) (by decide) (fun K hK => ?_)
        refine goes_ Try.func112 (by kernel_rfl) rfl #[.agg #[.int .u8 ((rd_T83 l0 x5_1).f0), .int .u8 ((rd_T83 l0 x5_1).f1)], .agg #[.int .u8 ((rd_T83 l1 x5_1).f0), .int .u8 ((rd_T83 l1 x5_1).f1)]] (by rfl) rfl rfl eqT ?_
        with_reducible refine (laws_eqLink.calls ((rd_T83 l0 x5_1).f0) ((rd_T83 l0 x5_1).f1) ((rd_T83 l1 x5_1).f0) ((rd_T83 l1 x5_1).f1) false _ A7.out).mono ?_; rintro e w12 ⟨rfl, hb⟩; refine ⟨_, rfl, ?_⟩; have n0_ := asT (below_step (hbT HB.out) hb); clear HB; have HB := n0_; clear n0_; (try clear hb); (try clear hb2); (try clear hk); (try clear hi)
        refine hK.out _ _ ⟨((HB.out.cell (World.block_lt_of_cell? w _ hw322_0)).trans hw322_0), ((HB.out.cell (World.block_lt_of_cell? w _ hw322_1)).trans hw322_1), ((HB.out.cell (World.block_lt_of_cell? w _ hw323_0)).trans hw323_0), ((HB.out.cell (World.block_lt_of_cell? w _ hw323_1)).trans hw323_1)⟩ (fun hHeld => ?_)
        clear hK K
        refine norm_ (a' := ?_) ?_ ?_
        rotate_left
        ·show Act.put _ (some 25) _ = _
         simp only [Act.put, List.setIfInBounds_toArray, List.set_cons_zero, List.set_cons_succ, i64_w, i32_w]
         rfl
        refine pure_ (i := 9) (N := some 26) (v := ?_) (a' := ?_) #[true, true, true, true, true, true, true, true, true, true] rfl rfl (any_of HT_.out (by kernel_rfl)) (fun _ _ _ h => h) (Or.inl ⟨by rfl, ?_⟩) ?_ ?_
        rotate_left
        ·intro w'
         go_simp
         with_reducible rfl
        rotate_left
        ·simp only [Act.put, List.setIfInBounds_toArray, List.set_cons_zero, List.set_cons_succ, i64_w, i32_w]
         rfl
        refine done_ (done_of HT_.out (by kernel_rfl)) ?_
        try go_wp2
        go_ret
        exact ⟨rlT, hbT HB.out⟩
      ·rw [if_neg c6] at H
       exact absurd H (by simp)
     ·rw [if_neg c5] at H
      exact absurd H (by simp)
    ·rw [if_neg c4] at H
     have c4b0 : decide (x5_1 < (l0.length : Int)) = false := decide_eq_false c4
     clear c4
     obtain rfl := Option.some.inj H
     go_wp2
     go_ret
     exact ⟨rlT, hbT HB.out⟩
 ·rw [if_neg c3] at H
  have c3b0 : ((l0.length : Int) == (l1.length : Int)) = false := beq_eq_false_iff_ne.mpr c3
  have c3b1 : ((l0.length : Int) != (l1.length : Int)) = true := bne_iff_ne.mpr c3
  have c3b2 : (l0.length == l1.length) = false := by first | simpa using c3 | (simp at c3 ⊢; omega)
  obtain rfl := Option.some.inj H
  go_enter Try.func67, Try.ntmps67
  go_wp2
  go_ret
  exact ⟨rlT, hbT HB.out⟩

/-! ### laws_eqCandidate: function 17 -/
def laws_eqCandidate.f (k : Nat) (l0_0 : List (S83)) (l1_0 : List (S83)) : Option (Bool) := (laws_eqLinkS.f k l0_0 l1_0).bind fun t327 => (if t327 = true then (some true) else (some false))
theorem laws_eqCandidate.mono : ∀ a0 a1 k, LeO (laws_eqCandidate.f k a0 a1) (laws_eqCandidate.f (k + 1) a0 a1) := by
 intro a0 a1 k
 unfold laws_eqCandidate.f
 repeat' first
   | (with_reducible exact laws_eqLinkS.mono _ _ _)
   | (with_reducible exact LeO.refl _)
   | (with_reducible exact LeO.none _)
   | (with_reducible refine LeO.ite ?_ ?_)
   | (with_reducible refine LeO.bind ?_ (fun _ => ?_))
   | exact laws_eqLinkS.mono _ _ _
   | exact LeO.none _
   | refine LeO.ite ?_ ?_
   | refine LeO.bind ?_ (fun _ => ?_)
set_option maxHeartbeats 8000000 in
set_option maxRecDepth 100000 in
theorem laws_eqCandidate.calls (k : Nat) (A0_0 : Option Addr) (c0_0 : Nat) (l0_0 : List (S83)) (A1_0 : Option Addr) (c1_0 : Nat) (l1_0 : List (S83)) (r : Bool) (w : World) (hr0_0 : Kd.C k83 w A0_0 l0_0.length l0_0) (hc0_0 : l0_0.length ≤ c0_0) (hr1_0 : Kd.C k83 w A1_0 l1_0.length l1_0) (hc1_0 : l1_0.length ≤ c1_0) (h : laws_eqCandidate.f k l0_0 l1_0 = some r) :
  Calls Try.prog 17 #[.agg #[.slice A0_0 l0_0.length c0_0], .agg #[.slice A1_0 l1_0.length c1_0]] w fun e w' => e = .returned (.bool r) ∧ Below w.heap.size w w' := by
 have hu34 := Try.underlying34; have HR0_0 := Aside0.mk hr0_0; have HC0_0 := Aside0.mk hc0_0; clear hr0_0 hc0_0; have HR1_0 := Aside0.mk hr1_0; have HC1_0 := Aside0.mk hc1_0; clear hr1_0 hc1_0; have HB := asT (Below.refl w.heap.size w)
 have H : ((laws_eqLinkS.f k l0_0 l1_0).bind fun t327 => (if t327 = true then (some true) else (some false))) = some r := h
 clear h; replace H := Option.bind_eq_some_iff.mp H; obtain ⟨t327, A30, H⟩ := H; replace H : (if t327 = true then (some true) else (some false)) = some r := H; have A3 := Aside0.mk A30; clear A30
 by_cases c4 : t327 = true
 ·subst c4
  have H1 : (some true) = some r := by rw [if_pos rfl] at H; exact H
  clear H; have H := H1; clear H1
  obtain rfl := Option.some.inj H
  go_enter Try.func17, Try.ntmps17
  go_wp2_with (first | ((with_reducible refine gate_dst (N := 2) rfl ?_); refine boxT (N := 2) (cs := #[.slice A0_0 l0_0.length c0_0]) (t := 34) ?_; intro gb325 hg w5 hbox hb; have n0_ := asT (below_step (hbT HB.out) hb); have n1_ := asT (hbox); have n2_ := asT (geT hg HB.out); have n3_ := asT (geT hg HB.out); clear HB; have HB := n0_; have BK325 := n1_; have GW325 := n2_; have GE325 := n3_; clear n0_ n1_ n2_ n3_ hb hbox hg) | ((with_reducible refine gate_dst (N := 3) rfl ?_); refine boxT (N := 3) (cs := #[.slice A1_0 l1_0.length c1_0]) (t := 34) ?_; intro gb326 hg w6 hbox hb; have n0_ := asT (blk_below (bkT BK325.out) hb); have n1_ := asT (below_step (hbT HB.out) hb); have n2_ := asT (hbox); have n3_ := asT (geT hg HB.out); have n4_ := asT (geT hg HB.out); have n5_ := asT ((by rw [hg]; exact Nat.ne_of_lt (blk_lt (bkT BK325.out)) : gb325 ≠ gb326)); have n6_ := asT ((by rw [hg]; exact Nat.ne_of_gt (blk_lt (bkT BK325.out)) : gb326 ≠ gb325)); clear BK325 HB; have BK325 := n0_; have HB := n1_; have BK326 := n2_; have GW326 := n3_; have GE326 := n4_; have NB325_326 := n5_; have NB326_325 := n6_; clear n0_ n1_ n2_ n3_ n4_ n5_ n6_ hb hbox hg; have hnb7 := NB325_326.out; have hnc7 := NB326_325.out; have hcz8_0 : w6.cell? ⟨gb325, 0, none⟩ = some (.slice A0_0 l0_0.length c0_0) := (blk_cell BK325.out 0).trans rfl; have hfz8_0 := blk_frozen BK325.out 0; have hcz9_0 : w6.cell? ⟨gb326, 0, none⟩ = some (.slice A1_0 l1_0.length c1_0) := (blk_cell BK326.out 0).trans rfl; have hfz9_0 := blk_frozen BK326.out 0) | ((with_reducible refine gate_callee (f := 67) rfl ?_); refine goesL_ (some 9) rfl rfl Try.func67 (by kernel_rfl) rfl #[.slice A0_0 l0_0.length c0_0, .slice A1_0 l1_0.length c1_0] rfl eqT ?_; (with_reducible refine (laws_eqLinkS.calls k _ _ l0_0 _ _ l1_0 true _ ?side1 ?side2 ?side3 ?side4 A3.out).mono ?_); (case side1 => exact crT HR0_0.out HB.out); (case side2 => exact HC0_0.out); (case side3 => exact crT HR1_0.out HB.out); (case side4 => exact HC1_0.out); rintro e w10 ⟨rfl, hb⟩; refine ⟨_, rfl, ?_⟩; have n0_ := asT (blk_below (bkT BK325.out) hb); have n1_ := asT (blk_below (bkT BK326.out) hb); have n2_ := asT (below_step (hbT HB.out) hb); clear BK325 BK326 HB; have BK325 := n0_; have BK326 := n1_; have HB := n2_; clear n0_ n1_ n2_; (try clear hb); (try clear hb2); (try clear hk); (try clear hi)))
  go_ret
  exact ⟨rlT, hbT HB.out⟩
 ·replace c4 := Bool.eq_false_iff.mpr c4
  subst c4
  have H1 : (some false) = some r := by rw [if_neg (show ¬ (false = true) by decide)] at H; exact H
  clear H; have H := H1; clear H1
  obtain rfl := Option.some.inj H
  go_enter Try.func17, Try.ntmps17
  go_wp2_with (first | ((with_reducible refine gate_dst (N := 2) rfl ?_); refine boxT (N := 2) (cs := #[.slice A0_0 l0_0.length c0_0]) (t := 34) ?_; intro gb325 hg w11 hbox hb; have n0_ := asT (below_step (hbT HB.out) hb); have n1_ := asT (hbox); have n2_ := asT (geT hg HB.out); have n3_ := asT (geT hg HB.out); clear HB; have HB := n0_; have BK325 := n1_; have GW325 := n2_; have GE325 := n3_; clear n0_ n1_ n2_ n3_ hb hbox hg) | ((with_reducible refine gate_dst (N := 3) rfl ?_); refine boxT (N := 3) (cs := #[.slice A1_0 l1_0.length c1_0]) (t := 34) ?_; intro gb326 hg w12 hbox hb; have n0_ := asT (blk_below (bkT BK325.out) hb); have n1_ := asT (below_step (hbT HB.out) hb); have n2_ := asT (hbox); have n3_ := asT (geT hg HB.out); have n4_ := asT (geT hg HB.out); have n5_ := asT ((by rw [hg]; exact Nat.ne_of_lt (blk_lt (bkT BK325.out)) : gb325 ≠ gb326)); have n6_ := asT ((by rw [hg]; exact Nat.ne_of_gt (blk_lt (bkT BK325.out)) : gb326 ≠ gb325)); clear BK325 HB; have BK325 := n0_; have HB := n1_; have BK326 := n2_; have GW326 := n3_; have GE326 := n4_; have NB325_326 := n5_; have NB326_325 := n6_; clear n0_ n1_ n2_ n3_ n4_ n5_ n6_ hb hbox hg; have hnb13 := NB325_326.out; have hnc13 := NB326_325.out; have hcz14_0 : w12.cell? ⟨gb325, 0, none⟩ = some (.slice A0_0 l0_0.length c0_0) := (blk_cell BK325.out 0).trans rfl; have hfz14_0 := blk_frozen BK325.out 0; have hcz15_0 : w12.cell? ⟨gb326, 0, none⟩ = some (.slice A1_0 l1_0.length c1_0) := (blk_cell BK326.out 0).trans rfl; have hfz15_0 := blk_frozen BK326.out 0) | ((with_reducible refine gate_callee (f := 67) rfl ?_); refine goesL_ (some 9) rfl rfl Try.func67 (by kernel_rfl) rfl #[.slice A0_0 l0_0.length c0_0, .slice A1_0 l1_0.length c1_0] rfl eqT ?_; (with_reducible refine (laws_eqLinkS.calls k _ _ l0_0 _ _ l1_0 false _ ?side1 ?side2 ?side3 ?side4 A3.out).mono ?_); (case side1 => exact crT HR0_0.out HB.out); (case side2 => exact HC0_0.out); (case side3 => exact crT HR1_0.out HB.out); (case side4 => exact HC1_0.out); rintro e w16 ⟨rfl, hb⟩; refine ⟨_, rfl, ?_⟩; have n0_ := asT (blk_below (bkT BK325.out) hb); have n1_ := asT (blk_below (bkT BK326.out) hb); have n2_ := asT (below_step (hbT HB.out) hb); clear BK325 BK326 HB; have BK325 := n0_; have BK326 := n1_; have HB := n2_; clear n0_ n1_ n2_; (try clear hb); (try clear hb2); (try clear hk); (try clear hi)))
  go_ret
  exact ⟨rlT, hbT HB.out⟩

/-! ### laws_FnExactViolationsOf: function 4 -/
def laws_FnExactViolationsOf.f (k : Nat) (a0 : ByteArray) (l1_0 : List (S92)) : Option (Bool) := if (a0.size : Int) > 1048576 then (some true) else ((laws_szCandidate.f l1_0 1048576).bind fun t329 => (if t329 < 0 then (some true) else ((laws_toCandidate.f k l1_0).bind fun t330 => ((spec_ViolationsOf.f k a0 t330).bind fun t333 => ((laws_toCandidate.f k l1_0).bind fun t334 => ((impl_ViolationsOf.f k a0 t334).bind fun t338 => (if t338 = t333 then ((laws_toCandidate.f k l1_0).bind fun t339 => ((laws_eqCandidate.f k t334 t339).bind fun t342 => (if t342 = true then (some true) else (none)))) else (none))))))))
theorem laws_FnExactViolationsOf.mono : ∀ a0 a1 k, LeO (laws_FnExactViolationsOf.f k a0 a1) (laws_FnExactViolationsOf.f (k + 1) a0 a1) := by
 intro a0 a1 k
 unfold laws_FnExactViolationsOf.f
 repeat' first
   | (with_reducible exact impl_ViolationsOf.mono _ _ _)
   | (with_reducible exact laws_eqCandidate.mono _ _ _)
   | (with_reducible exact laws_toCandidate.mono _ _)
   | (with_reducible exact spec_ViolationsOf.mono _ _ _)
   | (with_reducible exact LeO.refl _)
   | (with_reducible exact LeO.none _)
   | (with_reducible refine LeO.ite ?_ ?_)
   | (with_reducible refine LeO.bind ?_ (fun _ => ?_))
   | exact impl_ViolationsOf.mono _ _ _
   | exact laws_eqCandidate.mono _ _ _
   | exact laws_toCandidate.mono _ _
   | exact spec_ViolationsOf.mono _ _ _
   | exact LeO.none _
   | refine LeO.ite ?_ ?_
   | refine LeO.bind ?_ (fun _ => ?_)
set_option maxHeartbeats 8000000 in
set_option maxRecDepth 100000 in
theorem laws_FnExactViolationsOf.calls (k : Nat) (a0 : ByteArray) (A1_0 : Option Addr) (c1_0 : Nat) (l1_0 : List (S92)) (r : Bool) (w : World) (hr1_0 : Kd.C k92 w A1_0 l1_0.length l1_0) (hc1_0 : l1_0.length ≤ c1_0) (h : laws_FnExactViolationsOf.f k a0 l1_0 = some r) :
  Calls Try.prog 4 #[.string a0, .agg #[.slice A1_0 l1_0.length c1_0]] w fun e w' => e = .returned (.bool r) ∧ Below w.heap.size w w' := by
 have hu29 := Try.underlying29; have hu34 := Try.underlying34; have HR1_0 := Aside0.mk hr1_0; have HC1_0 := Aside0.mk hc1_0; clear hr1_0 hc1_0; have HB := asT (Below.refl w.heap.size w)
 have H : (if (a0.size : Int) > 1048576 then (some true) else ((laws_szCandidate.f l1_0 1048576).bind fun t329 => (if t329 < 0 then (some true) else ((laws_toCandidate.f k l1_0).bind fun t330 => ((spec_ViolationsOf.f k a0 t330).bind fun t333 => ((laws_toCandidate.f k l1_0).bind fun t334 => ((impl_ViolationsOf.f k a0 t334).bind fun t338 => (if t338 = t333 then ((laws_toCandidate.f k l1_0).bind fun t339 => ((laws_eqCandidate.f k t334 t339).bind fun t342 => (if t342 = true then (some true) else (none)))) else (none))))))))) = some r := h
 clear h
 by_cases c3 : (a0.size : Int) > 1048576
 ·rw [if_pos c3] at H
  have c3b0 : decide (1048576 < (a0.size : Int)) = true := decide_eq_true c3
  have c3b1 : decide (1048576 < a0.size) = true := decide_eq_true (by omega)
  clear c3
  obtain rfl := Option.some.inj H
  go_enter Try.func4, Try.ntmps4
  go_wp2_with (first | ((with_reducible refine gate_dst (N := 3) rfl ?_); refine boxT (N := 3) (cs := #[.slice A1_0 l1_0.length c1_0]) (t := 29) ?_; intro gb328 hg w4 hbox hb; have n0_ := asT (below_step (hbT HB.out) hb); have n1_ := asT (hbox); have n2_ := asT (geT hg HB.out); have n3_ := asT (geT hg HB.out); clear HB; have HB := n0_; have BK328 := n1_; have GW328 := n2_; have GE328 := n3_; clear n0_ n1_ n2_ n3_ hb hbox hg))
  go_ret
  exact ⟨rlT, hbT HB.out⟩
 ·rw [if_neg c3] at H
  have c3b0 : decide (1048576 < (a0.size : Int)) = false := decide_eq_false c3
  have c3b1 : decide (1048576 < a0.size) = false := decide_eq_false (by omega)
  clear c3; replace H := Option.bind_eq_some_iff.mp H; obtain ⟨t329, A50, H⟩ := H; replace H : (if t329 < 0 then (some true) else ((laws_toCandidate.f k l1_0).bind fun t330 => ((spec_ViolationsOf.f k a0 t330).bind fun t333 => ((laws_toCandidate.f k l1_0).bind fun t334 => ((impl_ViolationsOf.f k a0 t334).bind fun t338 => (if t338 = t333 then ((laws_toCandidate.f k l1_0).bind fun t339 => ((laws_eqCandidate.f k t334 t339).bind fun t342 => (if t342 = true then (some true) else (none)))) else (none))))))) = some r := H; have A5 := Aside0.mk A50; clear A50
  by_cases c6 : t329 < 0
  ·rw [if_pos c6] at H
   have c6b0 : decide (t329 < 0) = true := decide_eq_true c6
   clear c6
   obtain rfl := Option.some.inj H
   go_enter Try.func4, Try.ntmps4
   go_wp2_with (first | ((with_reducible refine gate_dst (N := 3) rfl ?_); refine boxT (N := 3) (cs := #[.slice A1_0 l1_0.length c1_0]) (t := 29) ?_; intro gb328 hg w7 hbox hb; have n0_ := asT (below_step (hbT HB.out) hb); have n1_ := asT (hbox); have n2_ := asT (geT hg HB.out); have n3_ := asT (geT hg HB.out); clear HB; have HB := n0_; have BK328 := n1_; have GW328 := n2_; have GE328 := n3_; clear n0_ n1_ n2_ n3_ hb hbox hg; have hcz8_0 : w7.cell? ⟨gb328, 0, none⟩ = some (.slice A1_0 l1_0.length c1_0) := (blk_cell BK328.out 0).trans rfl; have hfz8_0 := blk_frozen BK328.out 0) | ((with_reducible refine gate_callee (f := 13) rfl ?_); refine goesL_ (some 14) rfl rfl Try.func13 (by kernel_rfl) rfl #[.agg #[.slice A1_0 l1_0.length c1_0], .int .i64 1048576] rfl eqT ?_; (with_reducible refine (laws_szCandidate.calls _ _ l1_0 1048576 t329 _ ?side1 ?side2 A5.out).mono ?_); (case side1 => exact crT HR1_0.out HB.out); (case side2 => exact HC1_0.out); rintro e w9 ⟨rfl, hb⟩; refine ⟨_, rfl, ?_⟩; have n0_ := asT (blk_below (bkT BK328.out) hb); have n1_ := asT (below_step (hbT HB.out) hb); clear BK328 HB; have BK328 := n0_; have HB := n1_; clear n0_ n1_; (try clear hb); (try clear hb2); (try clear hk); (try clear hi)))
   go_ret
   exact ⟨rlT, hbT HB.out⟩
  ·rw [if_neg c6] at H
   have c6b0 : decide (t329 < 0) = false := decide_eq_false c6
   clear c6; replace H := Option.bind_eq_some_iff.mp H; obtain ⟨t330, A100, H⟩ := H; replace H : ((spec_ViolationsOf.f k a0 t330).bind fun t333 => ((laws_toCandidate.f k l1_0).bind fun t334 => ((impl_ViolationsOf.f k a0 t334).bind fun t338 => (if t338 = t333 then ((laws_toCandidate.f k l1_0).bind fun t339 => ((laws_eqCandidate.f k t334 t339).bind fun t342 => (if t342 = true then (some true) else (none)))) else (none))))) = some r := H; have A10 := Aside0.mk A100; clear A100; replace H := Option.bind_eq_some_iff.mp H; obtain ⟨t333, A110, H⟩ := H; replace H : ((laws_toCandidate.f k l1_0).bind fun t334 => ((impl_ViolationsOf.f k a0 t334).bind fun t338 => (if t338 = t333 then ((laws_toCandidate.f k l1_0).bind fun t339 => ((laws_eqCandidate.f k t334 t339).bind fun t342 => (if t342 = true then (some true) else (none)))) else (none)))) = some r := H; have A11 := Aside0.mk A110; clear A110; replace H := Option.bind_eq_some_iff.mp H; obtain ⟨t334, A120, H⟩ := H; replace H : ((impl_ViolationsOf.f k a0 t334).bind fun t338 => (if t338 = t333 then ((laws_toCandidate.f k l1_0).bind fun t339 => ((laws_eqCandidate.f k t334 t339).bind fun t342 => (if t342 = true then (some true) else (none)))) else (none))) = some r := H; have A12 := Aside0.mk A120; clear A120; replace H := Option.bind_eq_some_iff.mp H; obtain ⟨t338, A130, H⟩ := H; replace H : (if t338 = t333 then ((laws_toCandidate.f k l1_0).bind fun t339 => ((laws_eqCandidate.f k t334 t339).bind fun t342 => (if t342 = true then (some true) else (none)))) else (none)) = some r := H; have A13 := Aside0.mk A130; clear A130
   by_cases c14 : t338 = t333
   ·rw [if_pos c14] at H
    have c14b0 : (t338 == t333) = true := beq_iff_eq.mpr c14
    have c14b1 : (t338 != t333) = false := bne_eq_false_iff_eq.mpr c14
    clear c14; replace H := Option.bind_eq_some_iff.mp H; obtain ⟨t339, A150, H⟩ := H; replace H : ((laws_eqCandidate.f k t334 t339).bind fun t342 => (if t342 = true then (some true) else (none))) = some r := H; have A15 := Aside0.mk A150; clear A150; replace H := Option.bind_eq_some_iff.mp H; obtain ⟨t342, A160, H⟩ := H; replace H : (if t342 = true then (some true) else (none)) = some r := H; have A16 := Aside0.mk A160; clear A160
    by_cases c17 : t342 = true
    ·subst c17
     have H1 : (some true) = some r := by rw [if_pos rfl] at H; exact H
     clear H; have H := H1; clear H1
     obtain rfl := Option.some.inj H
     go_enter Try.func4, Try.ntmps4
     try go_wp2_with (first | ((with_reducible refine gate_dst (N := 3) rfl ?_); refine boxT (N := 3) (cs := #[.slice A1_0 l1_0.length c1_0]) (t := 29) ?_; intro gb328 hg w18 hbox hb; have n0_ := asT (below_step (hbT HB.out) hb); have n1_ := asT (hbox); have n2_ := asT (geT hg HB.out); have n3_ := asT (geT hg HB.out); clear HB; have HB := n0_; have BK328 := n1_; have GW328 := n2_; have GE328 := n3_; clear n0_ n1_ n2_ n3_ hb hbox hg; have hcz19_0 : w18.cell? ⟨gb328, 0, none⟩ = some (.slice A1_0 l1_0.length c1_0) := (blk_cell BK328.out 0).trans rfl; have hfz19_0 := blk_frozen BK328.out 0) | ((with_reducible refine gate_callee (f := 13) rfl ?_); refine goesL_ (some 14) rfl rfl Try.func13 (by kernel_rfl) rfl #[.agg #[.slice A1_0 l1_0.length c1_0], .int .i64 1048576] rfl eqT ?_; (with_reducible refine (laws_szCandidate.calls _ _ l1_0 1048576 t329 _ ?side1 ?side2 A5.out).mono ?_); (case side1 => exact crT HR1_0.out HB.out); (case side2 => exact HC1_0.out); rintro e w20 ⟨rfl, hb⟩; refine ⟨_, rfl, ?_⟩; have n0_ := asT (blk_below (bkT BK328.out) hb); have n1_ := asT (below_step (hbT HB.out) hb); clear BK328 HB; have BK328 := n0_; have HB := n1_; clear n0_ n1_; (try clear hb); (try clear hb2); (try clear hk); (try clear hi); have hcz21_0 : w20.cell? ⟨gb328, 0, none⟩ = some (.slice A1_0 l1_0.length c1_0) := (blk_cell BK328.out 0).trans rfl; have hfz21_0 := blk_frozen BK328.out 0) | ((with_reducible refine gate_callee (f := 15) rfl ?_); refine goesL_ (some 19) rfl rfl Try.func15 (by kernel_rfl) rfl #[.agg #[.slice A1_0 l1_0.length c1_0]] rfl eqT ?_; (with_reducible refine (laws_toCandidate.calls k _ _ l1_0 t330 _ ?side1 ?side2 A10.out).mono ?_); (case side1 => exact crT HR1_0.out HB.out); (case side2 => exact HC1_0.out); rintro e w22 ⟨v331, rfl, ho0, hb⟩; refine ⟨_, rfl, ?_⟩; have n0_ := asT (Kd.R_lower ho0 (below_size (hbT HB.out))); have n1_ := asT (blk_below (bkT BK328.out) hb); have n2_ := asT (below_step (hbT HB.out) hb); clear BK328 HB; have HO332 := n0_; have BK328 := n1_; have HB := n2_; clear n0_ n1_ n2_; (try clear hb); (try clear hb2); (try clear hk); (try clear hi); (try clear ho0); obtain ⟨Ao23, co23, eo23⟩ := Kd.R_slice HO332.out; subst eo23) | ((with_reducible refine gate_callee (f := 14) rfl ?_); refine goesL_ (some 20) rfl rfl Try.func14 (by kernel_rfl) rfl #[.string a0, .agg #[.slice Ao23 t330.length co23]] rfl eqT ?_; (with_reducible refine (spec_ViolationsOf.calls k a0 _ _ t330 t333 _ ?side1 ?side2 A11.out).mono ?_); (case side1 => repeat (first | exact (Kd.R_reads' HO332.out).2.2 | (with_reducible refine Kd.C_alloc ?_ _) | (with_reducible refine Kd.C_drewN ?_ _) | (with_reducible refine Kd.C_drew ?_))); (case side2 => exact (Kd.R_reads' HO332.out).2.1); rintro e w24 ⟨rfl, hb⟩; refine ⟨_, rfl, ?_⟩; have n0_ := asT (Kd.R_below (roT HO332.out) hb); have n1_ := asT (blk_below (bkT BK328.out) hb); have n2_ := asT (below_step (hbT HB.out) hb); clear HO332 BK328 HB; have HO332 := n0_; have BK328 := n1_; have HB := n2_; clear n0_ n1_ n2_; (try clear hb); (try clear hb2); (try clear hk); (try clear hi); have hcz25_0 : w24.cell? ⟨gb328, 0, none⟩ = some (.slice A1_0 l1_0.length c1_0) := (blk_cell BK328.out 0).trans rfl; have hfz25_0 := blk_frozen BK328.out 0) | ((with_reducible refine gate_callee (f := 15) rfl ?_); refine goesL_ (some 22) rfl rfl Try.func15 (by kernel_rfl) rfl #[.agg #[.slice A1_0 l1_0.length c1_0]] rfl eqT ?_; (with_reducible refine (laws_toCandidate.calls k _ _ l1_0 t334 _ ?side1 ?side2 A12.out).mono ?_); (case side1 => exact crT HR1_0.out HB.out); (case side2 => exact HC1_0.out); rintro e w26 ⟨v335, rfl, ho0, hb⟩; refine ⟨_, rfl, ?_⟩; have n0_ := asT (Kd.R_elder' (roT HO332.out) (Kd.R_base ho0) hb); have n1_ := asT (Kd.R_lower (Kd.R_new' ho0 (Kd.R_lt (roT HO332.out))) (below_size (hbT HB.out))); have n2_ := asT (blk_below (bkT BK328.out) hb); have n3_ := asT (below_step (hbT HB.out) hb); clear HO332 BK328 HB; have HO332 := n0_; have HO336 := n1_; have BK328 := n2_; have HB := n3_; clear n0_ n1_ n2_ n3_; (try clear hb); (try clear hb2); (try clear hk); (try clear hi); (try clear ho0)) | ((with_reducible refine gate_dst (N := 7) rfl ?_); refine boxT (N := 7) (cs := #[.slice none 0 0]) (t := 34) ?_; intro gb337 hg w27 hbox hb; have n0_ := asT (Kd.R_below (roT HO332.out) hb); have n1_ := asT (Kd.R_below (roT HO336.out) hb); have n2_ := asT (blk_below (bkT BK328.out) hb); have n3_ := asT (below_step (hbT HB.out) hb); have n4_ := asT (hbox); have n5_ := asT (geT hg HB.out); have n6_ := asT (geT hg HB.out); have n7_ := asT ((by rw [hg]; exact Nat.ne_of_lt (blk_lt (bkT BK328.out)) : gb328 ≠ gb337)); have n8_ := asT ((by rw [hg]; exact Nat.ne_of_gt (blk_lt (bkT BK328.out)) : gb337 ≠ gb328)); clear HO332 HO336 BK328 HB; have HO332 := n0_; have HO336 := n1_; have BK328 := n2_; have HB := n3_; have BK337 := n4_; have GW337 := n5_; have GE337 := n6_; have NB328_337 := n7_; have NB337_328 := n8_; clear n0_ n1_ n2_ n3_ n4_ n5_ n6_ n7_ n8_ hb hbox hg; obtain ⟨Ao28, co28, eo28⟩ := Kd.R_slice HO336.out; subst eo28; have hnb29 := NB337_328.out; have hnc29 := NB328_337.out; have hcz30_0 : w27.cell? ⟨gb337, 0, none⟩ = some (.slice none 0 0) := (blk_cell BK337.out 0).trans rfl; have hfz30_0 := blk_frozen BK337.out 0) | ((with_reducible refine gate_callee (f := 16) rfl ?_); refine goesL_ (some 25) rfl rfl Try.func16 (by kernel_rfl) rfl #[.string a0, .agg #[.slice Ao28 t334.length co28]] rfl eqT ?_; (with_reducible refine (impl_ViolationsOf.calls k a0 _ _ t334 t338 _ ?side1 ?side2 A13.out).mono ?_); (case side1 => refine (Kd.R_reads' (e := 83) (base := w.heap.size) (ok := fun k_ => (True ∧ some k_ ≠ (.slice Ao23 t330.length co23 : Value).ownBlock)) (n := t334.length) (c := co28) ?_).2.2; exact (by (with_reducible repeat (first | apply Kd.R_alloc | apply Kd.R_drewN | apply Kd.R_drew)); exact (Kd.R_mono (Kd.R_far (p := ⟨gb337, 0, none⟩) (Kd.R_types HO336.out BK337.out (by decide)) (fun _ hk => hk.2) (.slice Ao28 t334.length co28)) (fun _ h_ => h_.1)))); (case side2 => exact (Kd.R_reads' HO336.out).2.1); rintro e w31 ⟨rfl, hb⟩; refine ⟨_, rfl, ?_⟩; have n0_ := asT (Kd.R_below (by (with_reducible repeat (first | apply Kd.R_alloc | apply Kd.R_drewN | apply Kd.R_drew)); exact (Kd.R_mono (Kd.R_far (p := ⟨gb337, 0, none⟩) (Kd.R_types HO332.out BK337.out (by decide)) (fun _ hk => hk.2) (.slice Ao28 t334.length co28)) (fun _ h_ => h_.1))) hb); have n1_ := asT (Kd.R_below (by (with_reducible repeat (first | apply Kd.R_alloc | apply Kd.R_drewN | apply Kd.R_drew)); exact (Kd.R_mono (Kd.R_far (p := ⟨gb337, 0, none⟩) (Kd.R_types HO336.out BK337.out (by decide)) (fun _ hk => hk.2) (.slice Ao28 t334.length co28)) (fun _ h_ => h_.1))) hb); have n2_ := asT (blk_below (g := gb328) (o := .cells #[.slice A1_0 l1_0.length c1_0] 29 (0, 0)) (by (with_reducible repeat (first | refine blk_drewN ?_ _ | refine blk_drew ?_ | refine blk_alloc ?_ _)); refine blk_far ?_ NB328_337.out _; (with_reducible repeat (first | refine blk_drewN ?_ _ | refine blk_drew ?_ | refine blk_alloc ?_ _)); exact BK328.out) hb); have n3_ := asT (blk_below (g := gb337) (o := .cells #[.slice Ao28 t334.length co28] 34 (0, 0)) (by (with_reducible repeat (first | refine blk_drewN ?_ _ | refine blk_drew ?_ | refine blk_alloc ?_ _)); refine blk_put (cs := #[.slice none 0 0]) ?_ 0 _ rfl; (with_reducible repeat (first | refine blk_drewN ?_ _ | refine blk_drew ?_ | refine blk_alloc ?_ _)); exact BK337.out) hb); have n4_ := asT (below_step (hbT HB.out) hb); clear HO332 HO336 BK328 BK337 HB; have HO332 := n0_; have HO336 := n1_; have BK328 := n2_; have BK337 := n3_; have HB := n4_; clear n0_ n1_ n2_ n3_ n4_; (try clear hb); (try clear hb2); (try clear hk); (try clear hi)))
     have n0_ := asT (Kd.R_drew HO332.out); have n1_ := asT (Kd.R_drew HO336.out); have n2_ := asT (blk_drew BK328.out); have n3_ := asT (blk_drew BK337.out); have n4_ := asT (below_drew1 HB.out); clear HO332 HO336 BK328 BK337 HB; have HO332 := n0_; have HO336 := n1_; have BK328 := n2_; have BK337 := n3_; have HB := n4_; clear n0_ n1_ n2_ n3_ n4_
     refine start_ (n := 5) (S := fun w' => w'.cell? ⟨gb337, 0, none⟩ = some (.slice Ao28 t334.length co28) ∧ w'.cell? ⟨gb328, 0, none⟩ = some (.slice A1_0 l1_0.length c1_0)) (ds := []) #[false, false, false, false, false] (by kernel_rfl) rfl rfl ⟨(blk_cell BK337.out 0).trans rfl, (blk_cell BK328.out 0).trans rfl⟩ (fun hHeld => ?_)
     generalize w31.drew = w32 at HO332 HO336 BK328 BK337 HB hHeld ⊢
     refine take_ (i := 0) (N := some 29) (v := ?_) (a' := ?_) #[true, false, false, false, false] rfl rfl (by kernel_rfl) (fun _ _ _ h => h) (Or.inl ⟨by rfl, ?_⟩) hHeld ?_ ?_
     rotate_left
     ·rintro w' ⟨s0, s1⟩
      go_simp
      with_reducible rfl
     rotate_left
     ·simp only [Act.put, List.setIfInBounds_toArray, List.set_cons_zero, List.set_cons_succ, i64_w, i32_w]
      rfl
     refine take_ (i := 1) (N := some 30) (v := ?_) (a' := ?_) #[true, true, false, false, false] rfl rfl (by kernel_rfl) (fun _ _ _ h => h) (Or.inl ⟨by rfl, ?_⟩) hHeld ?_ ?_
     rotate_left
     ·rintro w' ⟨s0, s1⟩
      go_simp
      with_reducible rfl
     rotate_left
     ·simp only [Act.put, List.setIfInBounds_toArray, List.set_cons_zero, List.set_cons_succ, i64_w, i32_w]
      rfl
     refine one_ (i := 2) (N := some 31) #[true, true, true, false, false] rfl rfl (by kernel_rfl) (by decide) (fun K hK => ?_)
     refine goes_ Try.func15 (by kernel_rfl) rfl #[.agg #[.slice A1_0 l1_0.length c1_0]] (by rfl) rfl rfl eqT ?_
     with_reducible refine (laws_toCandidate.calls k _ _ l1_0 t339 _ ?side1 ?side2 A15.out).mono ?_; (case side1 => exact crT HR1_0.out HB.out); (case side2 => exact HC1_0.out); rintro e w33 ⟨v340, rfl, ho0, hb⟩; refine ⟨_, rfl, ?_⟩; have n0_ := asT (Kd.R_elder' (roT HO332.out) (Kd.R_base ho0) hb); have n1_ := asT (Kd.R_elder' (roT HO336.out) (Kd.R_base ho0) hb); have n2_ := asT (Kd.R_lower (Kd.R_new' (Kd.R_new' ho0 (Kd.R_lt (roT HO332.out))) (Kd.R_lt (roT HO336.out))) (below_size (hbT HB.out))); have n3_ := asT (blk_below (bkT BK328.out) hb); have n4_ := asT (blk_below (bkT BK337.out) hb); have n5_ := asT (below_step (hbT HB.out) hb); clear HO332 HO336 BK328 BK337 HB; have HO332 := n0_; have HO336 := n1_; have HO341 := n2_; have BK328 := n3_; have BK337 := n4_; have HB := n5_; clear n0_ n1_ n2_ n3_ n4_ n5_; (try clear hb); (try clear hb2); (try clear hk); (try clear hi); (try clear ho0); obtain ⟨Ao34, co34, eo34⟩ := Kd.R_slice HO341.out; (first | subst eo34 | (injection eo34 with f1_ f2_ f3_; have f4_ := f1_.symm; have f5_ := f3_.symm; clear f1_ f2_ f3_; subst f4_; subst f5_))
     refine hK.out _ _ ⟨(blk_cell BK337.out 0).trans rfl, (blk_cell BK328.out 0).trans rfl⟩ (fun hHeld => ?_)
     clear hK K
     refine norm_ (a' := ?_) ?_ ?_
     rotate_left
     ·show Act.put _ (some 31) _ = _
      simp only [Act.put, List.setIfInBounds_toArray, List.set_cons_zero, List.set_cons_succ, i64_w, i32_w]
      rfl
     refine one_ (i := 3) (N := some 32) #[true, true, true, true, false] rfl rfl (by kernel_rfl) (by decide) (fun K hK => ?_)
     refine goes_ Try.func17 (by kernel_rfl) rfl #[.agg #[.slice Ao28 t334.length co28], .agg #[.slice Ao34 t339.length co34]] (by rfl) rfl rfl eqT ?_
     with_reducible refine (laws_eqCandidate.calls k _ _ t334 _ _ t339 true _ ?side1 ?side2 ?side3 ?side4 A16.out).mono ?_; (case side1 => repeat (first | exact (Kd.R_reads' HO336.out).2.2 | (with_reducible refine Kd.C_alloc ?_ _) | (with_reducible refine Kd.C_drewN ?_ _) | (with_reducible refine Kd.C_drew ?_))); (case side2 => exact (Kd.R_reads' HO336.out).2.1); (case side3 => repeat (first | exact (Kd.R_reads' HO341.out).2.2 | (with_reducible refine Kd.C_alloc ?_ _) | (with_reducible refine Kd.C_drewN ?_ _) | (with_reducible refine Kd.C_drew ?_))); (case side4 => exact (Kd.R_reads' HO341.out).2.1); rintro e w35 ⟨rfl, hb⟩; refine ⟨_, rfl, ?_⟩; have n0_ := asT (Kd.R_below (roT HO332.out) hb); have n1_ := asT (Kd.R_below (roT HO336.out) hb); have n2_ := asT (Kd.R_below (roT HO341.out) hb); have n3_ := asT (blk_below (bkT BK328.out) hb); have n4_ := asT (blk_below (bkT BK337.out) hb); have n5_ := asT (below_step (hbT HB.out) hb); clear HO332 HO336 HO341 BK328 BK337 HB; have HO332 := n0_; have HO336 := n1_; have HO341 := n2_; have BK328 := n3_; have BK337 := n4_; have HB := n5_; clear n0_ n1_ n2_ n3_ n4_ n5_; (try clear hb); (try clear hb2); (try clear hk); (try clear hi)
     refine hK.out _ _ ⟨(blk_cell BK337.out 0).trans rfl, (blk_cell BK328.out 0).trans rfl⟩ (fun hHeld => ?_)
     clear hK K
     refine norm_ (a' := ?_) ?_ ?_
     rotate_left
     ·show Act.put _ (some 32) _ = _
      simp only [Act.put, List.setIfInBounds_toArray, List.set_cons_zero, List.set_cons_succ, i64_w, i32_w]
      rfl
     refine pure_ (i := 4) (N := some 33) (v := ?_) (a' := ?_) #[true, true, true, true, true] rfl rfl (by kernel_rfl) (fun _ _ _ h => h) (Or.inl ⟨by rfl, ?_⟩) ?_ ?_
     rotate_left
     ·intro w'
      go_simp
      with_reducible rfl
     rotate_left
     ·simp only [Act.put, List.setIfInBounds_toArray, List.set_cons_zero, List.set_cons_succ, i64_w, i32_w]
      rfl
     refine done_ (by kernel_rfl) ?_
     try go_wp2
     go_ret
     exact ⟨rlT, hbT HB.out⟩
    ·replace c17 := Bool.eq_false_iff.mpr c17
     subst c17
     have H1 : (none) = some r := by rw [if_neg (show ¬ (false = true) by decide)] at H; exact H
     clear H; have H := H1; clear H1
     exact absurd H (by simp)
   ·rw [if_neg c14] at H
    exact absurd H (by simp)


def Bd92 : S92 → Prop := fun x => (BdInt .u8) x.f0 ∧ (BdInt .u8) x.f1
def Bd29 : S29 → Prop := fun x => (BdSlice 2 Bd92) x.f0
/-- THE ONE PURE STATEMENT of laws_FnExactViolationsOf -/
def laws_FnExactViolationsOf.Pure : Prop := ∀ (a0 : ByteArray) (l1_0 : List (S92)), BdStr a0 → (BdSlice 2 Bd92) l1_0 → ∃ k, laws_FnExactViolationsOf.f k a0 l1_0 = some true

end Go.Proofs.Ytdamagcfmhimfad.PFnExactViolationsOf
