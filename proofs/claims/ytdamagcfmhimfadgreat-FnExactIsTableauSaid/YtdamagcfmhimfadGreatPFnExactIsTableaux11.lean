-- Made by gen.py (a program of this session) out of the translation; Lean checks it.
import Derived.Test.YtdamagcfmhimfadGreatPFnExactIsTableaux0
import Derived.Test.YtdamagcfmhimfadGreatPFnExactIsTableaux8
import Derived.Test.YtdamagcfmhimfadGreatPFnExactIsTableaux9
import Derived.Test.YtdamagcfmhimfadGreatPFnExactIsTableaux10
namespace Go.Proofs.YtdamagcfmhimfadGreat.PFnExactIsTableau
open Go.RowKit Go.Proofs.YtdamagcfmhimfadGreatB Go.Proofs.YtdamagcfmhimfadGreatW.PrintWords Go.Proofs.YtdamagcfmhimfadGreatW.PrintLast Go.Proofs.YtdamagcfmhimfadGreatW.PrintMore
attribute [local go_sem] max2_int min2_int max_two min_two max_three min_three max_four min_four   -- for this text's walks alone
set_option linter.unusedVariables false
set_option linter.unusedSimpArgs false

/-! ### impl_CountBreaks: function 127 -/
mutual
def impl_CountBreaks.l0 : Nat → Int → Int → Bool → List (S89) → Int → Int → List (S89) → Option (Int)
 | 0, _, _, _, _, _, _, _ => none
 | k + 1, x3, x4, x5, x9, x10, x11, x413000 => if x11 < x10 then (if 0 ≤ x11 then (if x11 < (x9.length : Int) then ((impl_IsCandidate.f k x413000).bind fun t415 => (if t415 = true then (if ((rd_T89 x9 x11).f0) = 0 then (impl_CountBreaks.j1 k x3 x4 x5 x9 x10 x11 false x413000) else (impl_CountBreaks.j1 k x3 x4 x5 x9 x10 x11 (((rd_T89 x9 x11).f1) != 0) x413000)) else (impl_CountBreaks.l0 k x3 x4 x5 x9 x10 (wrap64 (x11 + 1)) x413000))) else (none)) else (none)) else (some x3)
def impl_CountBreaks.j1 : Nat → Int → Int → Bool → List (S89) → Int → Int → Bool → List (S89) → Option (Int)
 | 0, _, _, _, _, _, _, _, _ => none
 | k + 1, x3, x4, x5, x9, x10, x11, x19, x413000 => if x19 = true then (impl_CountBreaks.l0 k (wrap64 (x3 + x4)) 0 true x9 x10 (wrap64 (x11 + 1)) x413000) else (if x5 = true then (impl_CountBreaks.l0 k x3 (wrap64 (x4 + 1)) x5 x9 x10 (wrap64 (x11 + 1)) x413000) else (impl_CountBreaks.l0 k x3 x4 x5 x9 x10 (wrap64 (x11 + 1)) x413000))
end
def impl_CountBreaks.f (k : Nat) (l0_0 : List (S89)) : Option (Int) := impl_CountBreaks.l0 k 0 0 false l0_0 (l0_0.length : Int) 0 l0_0
theorem impl_CountBreaks.mono_l : ∀ k, (∀ y0 y1 y2 y3 y4 y5 y6, LeO (impl_CountBreaks.l0 k y0 y1 y2 y3 y4 y5 y6) (impl_CountBreaks.l0 (k + 1) y0 y1 y2 y3 y4 y5 y6)) ∧ (∀ y0 y1 y2 y3 y4 y5 y6 y7, LeO (impl_CountBreaks.j1 k y0 y1 y2 y3 y4 y5 y6 y7) (impl_CountBreaks.j1 (k + 1) y0 y1 y2 y3 y4 y5 y6 y7))
 | 0 => ⟨fun _ _ _ _ _ _ _ r h => by simp [impl_CountBreaks.l0] at h, fun _ _ _ _ _ _ _ _ r h => by simp [impl_CountBreaks.j1] at h⟩
 | k + 1 => by
  obtain ⟨ih0, ih1⟩ := impl_CountBreaks.mono_l k; refine ⟨?_, ?_⟩
  ·intro y0 y1 y2 y3 y4 y5 y6
   unfold impl_CountBreaks.l0
   repeat' first
   | (with_reducible exact ih0 _ _ _ _ _ _ _)
   | (with_reducible exact ih1 _ _ _ _ _ _ _ _)
   | (with_reducible exact impl_IsCandidate.mono _ _)
   | (with_reducible exact LeO.refl _)
   | (with_reducible exact LeO.none _)
   | (with_reducible refine LeO.ite ?_ ?_)
   | (with_reducible refine LeO.bind ?_ (fun _ => ?_))
   | exact ih0 _ _ _ _ _ _ _
   | exact ih1 _ _ _ _ _ _ _ _
   | exact impl_IsCandidate.mono _ _
   | exact LeO.none _
   | refine LeO.ite ?_ ?_
   | refine LeO.bind ?_ (fun _ => ?_)
  ·intro y0 y1 y2 y3 y4 y5 y6 y7
   unfold impl_CountBreaks.j1
   repeat' first
   | (with_reducible exact ih0 _ _ _ _ _ _ _)
   | (with_reducible exact ih1 _ _ _ _ _ _ _ _)
   | (with_reducible exact impl_IsCandidate.mono _ _)
   | (with_reducible exact LeO.refl _)
   | (with_reducible exact LeO.none _)
   | (with_reducible refine LeO.ite ?_ ?_)
   | (with_reducible refine LeO.bind ?_ (fun _ => ?_))
   | exact ih0 _ _ _ _ _ _ _
   | exact ih1 _ _ _ _ _ _ _ _
   | exact impl_IsCandidate.mono _ _
   | exact LeO.none _
   | refine LeO.ite ?_ ?_
   | refine LeO.bind ?_ (fun _ => ?_)
theorem impl_CountBreaks.mono : ∀ a0 k, LeO (impl_CountBreaks.f k a0) (impl_CountBreaks.f (k + 1) a0) := by
 intro a0 k
 obtain ⟨ih0, ih1⟩ := impl_CountBreaks.mono_l k
 unfold impl_CountBreaks.f
 repeat' first
   | (with_reducible exact ih0 _ _ _ _ _ _ _)
   | (with_reducible exact ih1 _ _ _ _ _ _ _ _)
   | (with_reducible exact impl_IsCandidate.mono _ _)
   | (with_reducible exact LeO.refl _)
   | (with_reducible exact LeO.none _)
   | (with_reducible refine LeO.ite ?_ ?_)
   | (with_reducible refine LeO.bind ?_ (fun _ => ?_))
   | exact ih0 _ _ _ _ _ _ _
   | exact ih1 _ _ _ _ _ _ _ _
   | exact impl_IsCandidate.mono _ _
   | exact LeO.none _
   | refine LeO.ite ?_ ?_
   | refine LeO.bind ?_ (fun _ => ?_)
set_option maxHeartbeats 8000000 in
set_option maxRecDepth 100000 in
theorem impl_CountBreaks.calls (k : Nat) (A0_0 : Option Addr) (c0_0 : Nat) (l0_0 : List (S89)) (r : Int) (w : World) (hr0_0 : Kd.C k89 w A0_0 l0_0.length l0_0) (hc0_0 : l0_0.length ≤ c0_0) (h : impl_CountBreaks.f k l0_0 = some r) :
  Calls Tryz.prog 127 #[.agg #[.slice A0_0 l0_0.length c0_0]] w fun e w' => e = .returned (.int .i64 r) ∧ Below w.heap.size w w' := by
 have hu61 := Tryz.underlying61; have hu89 := Tryz.underlying89; have HR0_0 := Aside0.mk hr0_0; have HC0_0 := Aside0.mk hc0_0; clear hr0_0 hc0_0; have HB := asT (Below.refl w.heap.size w); have H := h; unfold impl_CountBreaks.f at H; clear h; have H' := Aside0.mk H; clear H
 go_enter Tryz.func127, Tryz.ntmps127
 go_wp2_with (first | ((with_reducible refine gate_dst (N := 1) rfl ?_); refine boxT (N := 1) (cs := #[.slice A0_0 l0_0.length c0_0]) (t := 61) ?_; intro gb412 hg w2 hbox hb; have BK412 := asT hbox; have GW412 := asT (geT hg HB.out); have GE412 := GW412; replace HB := asT (below_step (hbT HB.out) hb); clear hb hbox hg; have hcz3_0 : w2.cell? ⟨gb412, 0, none⟩ = some (.slice A0_0 l0_0.length c0_0) := (blk_cell BK412.out 0).trans rfl; have hfz3_0 := blk_frozen BK412.out 0))
 go_loopg [3, 4, 5, 11] k (fun kq v3 v4 v5 v11 w' => ∃ (x3_1 : Int) (x4_1 : Int) (x5_1 : Bool) (x11_1 : Int), v3 = .int .i64 x3_1 ∧ v4 = .int .i64 x4_1 ∧ v5 = .bool x5_1 ∧ v11 = .int .i64 x11_1 ∧ Aside0 (impl_CountBreaks.l0 kq x3_1 x4_1 x5_1 l0_0 (l0_0.length : Int) x11_1 l0_0 = some r) ∧ Aside0 (kq ≤ k) ∧ Aside0 (w'.heap[gb412]? = some (.cells #[(.slice A0_0 l0_0.length c0_0)] 61 (0, 0))) ∧ Aside0 (Below w.heap.size w w'))
 case atStart => exact ⟨(0), (0), (false), (0), rdT, rdT, rdT, rdT, H', ⟨Nat.le_refl _⟩, ⟨by (with_reducible repeat (first | refine blk_drewN ?_ _ | refine blk_drew ?_ | refine blk_alloc ?_ _)); exact BK412.out⟩, ⟨hbT HB.out⟩⟩
 case round =>
  clear H'; (try clear c1); (try clear p2); (try clear hcz3_0); (try clear hfz3_0); obtain ⟨x3_1, x4_1, x5_1, x11_1, rfl, rfl, rfl, rfl, HA, HK1, BK412, HB⟩ := hrel
  cases gk with
  | zero => exact absurd HA.out (by simp [impl_CountBreaks.l0])
  | succ k1 =>
   have H := HA.out; clear HA
   simp only [impl_CountBreaks.l0] at H
   by_cases c4 : x11_1 < (l0_0.length : Int)
   ·rw [if_pos c4] at H
    have c4b0 : decide (x11_1 < (l0_0.length : Int)) = true := decide_eq_true c4
    clear c4
    by_cases c5 : 0 ≤ x11_1
    ·rw [if_pos c5] at H
     have c5b0 : decide (0 ≤ x11_1) = true := decide_eq_true c5
     clear c5
     by_cases c6 : x11_1 < (l0_0.length : Int)
     ·rw [if_pos c6] at H
      have c6b0 : decide (x11_1 < (l0_0.length : Int)) = true := decide_eq_true c6
      clear c6; replace H := Option.bind_eq_some_iff.mp H; obtain ⟨t415, A70, H⟩ := H; have A7 := Aside0.mk A70; clear A70
      by_cases c8 : t415 = true
      ·subst c8
       rw [if_pos rfl] at H; have H1 := H; clear H; have H := H1; clear H1; have HC9 := Aside0.mk H; clear H
       have p413 : 0 ≤ (x11_1 : Int) := of_decide_eq_true asmT
       have q413 : x11_1 < (l0_0.length : Int) := of_decide_eq_true asmT
       obtain ⟨ad413, e413, hx413_0, hx413_1⟩ := at_T89 HR0_0.out x11_1 p413 q413
       cases e413
       replace hx413_0 := (HB.out.cell (World.block_lt_of_cell? w _ hx413_0)).trans hx413_0; replace hx413_1 := (HB.out.cell (World.block_lt_of_cell? w _ hx413_1)).trans hx413_1; replace p413 := eq_true p413; replace q413 := eq_true q413
       go_upto_region 6 with (first | ((with_reducible refine gate_dst (N := 7) rfl ?_); refine boxT (N := 7) (cs := #[.int .u8 0, .int .u8 0]) (t := 89) ?_; intro gb414 hg w10 hbox hb; have BK414 := asT (hbox); have GW414 := asT (geT hg HB.out); have GE414 := asT (geT hg HB.out); replace HB := asT (below_step (hbT HB.out) hb); have NB412_414 := asT ((by rw [hg]; exact Nat.ne_of_lt (blk_lt (g := gb412) (o := .cells #[.slice (some ad413) l0_0.length c0_0] 61 (0, 0)) (bkT BK412.out)) : gb412 ≠ gb414)); have NB414_412 := asT ((by rw [hg]; exact Nat.ne_of_gt (blk_lt (g := gb412) (o := .cells #[.slice (some ad413) l0_0.length c0_0] 61 (0, 0)) (bkT BK412.out)) : gb414 ≠ gb412)); replace BK412 := asT (blk_below (g := gb412) (o := .cells #[.slice (some ad413) l0_0.length c0_0] 61 (0, 0)) (bkT BK412.out) hb); clear hb hbox hg; have hnb11 := NB414_412.out; have hnc11 := NB412_414.out; have hcz12_0 : w10.cell? ⟨gb414, 0, none⟩ = some (.int .u8 0) := (blk_cell BK414.out 0).trans rfl; have hcz12_1 : w10.cell? ⟨gb414, 1, none⟩ = some (.int .u8 0) := (blk_cell BK414.out 1).trans rfl; have hfz12_0 := blk_frozen BK414.out 0; have hfz12_1 := blk_frozen BK414.out 1; have hcz13_0 : w10.cell? ⟨gb412, 0, none⟩ = some (.slice (some ad413) l0_0.length c0_0) := (blk_cell BK412.out 0).trans rfl; have hfz13_0 := blk_frozen BK412.out 0) | ((with_reducible refine gate_callee (f := 47) rfl ?_); refine goesL_ (some 17) rfl rfl Tryz.func47 (by kernel_rfl) rfl #[.agg #[.slice (some ad413) l0_0.length c0_0]] rfl eqT ?_; (with_reducible refine (impl_IsCandidate.calls k1 _ _ l0_0 true _ ?side1 ?side2 A7.out).mono ?_); (case side1 => exact Kd.C_below HR0_0.out (hbT HB.out)); (case side2 => exact HC0_0.out); rintro e w14 ⟨rfl, hb⟩; refine ⟨_, rfl, ?_⟩; replace BK412 := asT (blk_below (g := gb412) (o := .cells #[.slice (some ad413) l0_0.length c0_0] 61 (0, 0)) (by (with_reducible repeat (first | refine blk_drewN ?_ _ | refine blk_drew ?_ | refine blk_alloc ?_ _)); refine blk_far ?_ NB412_414.out _; (with_reducible repeat (first | refine blk_drewN ?_ _ | refine blk_drew ?_ | refine blk_alloc ?_ _)); refine blk_far ?_ NB412_414.out _; (with_reducible repeat (first | refine blk_drewN ?_ _ | refine blk_drew ?_ | refine blk_alloc ?_ _)); exact BK412.out) hb); replace BK414 := asT (blk_below (g := gb414) (o := .cells #[.int .u8 ((rd_T89 l0_0 x11_1).f0), .int .u8 ((rd_T89 l0_0 x11_1).f1)] 89 (0, 0)) (by (with_reducible repeat (first | refine blk_drewN ?_ _ | refine blk_drew ?_ | refine blk_alloc ?_ _)); refine blk_put (cs := #[.int .u8 ((rd_T89 l0_0 x11_1).f0), .int .u8 0]) ?_ 1 _ rfl; (with_reducible repeat (first | refine blk_drewN ?_ _ | refine blk_drew ?_ | refine blk_alloc ?_ _)); refine blk_put (cs := #[.int .u8 0, .int .u8 0]) ?_ 0 _ rfl; (with_reducible repeat (first | refine blk_drewN ?_ _ | refine blk_drew ?_ | refine blk_alloc ?_ _)); exact BK414.out) hb); replace HB := asT (below_step (hbT HB.out) hb); (try clear hb); (try clear hb2); (try clear hk); (try clear hi)))
       (try simp only [Act.put, sA, sZ, sS])
       go_cut [19] (fun v19 wc => ∃ (kq : Nat) (x19_8 : Bool), v19 = .bool x19_8 ∧ Aside0 (impl_CountBreaks.j1 kq x3_1 x4_1 x5_1 l0_0 (l0_0.length : Int) x11_1 x19_8 l0_0 = some r) ∧ Aside0 (kq ≤ k1) ∧ Aside0 (wc.heap[gb412]? = some (.cells #[(.slice (some ad413) l0_0.length c0_0)] 61 (0, 0))) ∧ Aside0 (wc.heap[gb414]? = some (.cells #[.int .u8 ((rd_T89 l0_0 x11_1).f0), .int .u8 ((rd_T89 l0_0 x11_1).f1)] 89 (0, 0))) ∧ Aside0 (Below w.heap.size w wc))
       case first =>
        have H := HC9.out; clear HC9
        by_cases c15 : ((rd_T89 l0_0 x11_1).f0) = 0
        ·rw [if_pos c15] at H
         have c15b0 : (((rd_T89 l0_0 x11_1).f0) == 0) = true := beq_iff_eq.mpr c15
         have c15b1 : (((rd_T89 l0_0 x11_1).f0) != 0) = false := bne_eq_false_iff_eq.mpr c15
         clear c15
         (first | rw [c15b0] | (simp only [i64_w, i32_w]; rw [c15b0]) | skip)
         have H' := Aside0.mk H; clear H; have hnb16 := NB414_412.out; have hnc16 := NB412_414.out
         have hcz17_0 : w14.cell? ⟨gb414, 0, none⟩ = some (.int .u8 ((rd_T89 l0_0 x11_1).f0)) := (blk_cell BK414.out 0).trans rfl
         have hcz17_1 : w14.cell? ⟨gb414, 1, none⟩ = some (.int .u8 ((rd_T89 l0_0 x11_1).f1)) := (blk_cell BK414.out 1).trans rfl
         have hfz17_0 := blk_frozen BK414.out 0; have hfz17_1 := blk_frozen BK414.out 1
         go_wp2
         go_meet
         case rel => exact ⟨_, (false), rdT, H', ⟨by have := HK1.out; first | omega | exact Nat.le_refl _⟩, ⟨by (with_reducible repeat (first | refine blk_drewN ?_ _ | refine blk_drew ?_ | refine blk_alloc ?_ _)); exact BK412.out⟩, ⟨by (with_reducible repeat (first | refine blk_drewN ?_ _ | refine blk_drew ?_ | refine blk_alloc ?_ _)); exact BK414.out⟩, ⟨hbT HB.out⟩⟩
        ·rw [if_neg c15] at H
         have c15b0 : (((rd_T89 l0_0 x11_1).f0) == 0) = false := beq_eq_false_iff_ne.mpr c15
         have c15b1 : (((rd_T89 l0_0 x11_1).f0) != 0) = true := bne_iff_ne.mpr c15
         (first | rw [c15b0] | (simp only [i64_w, i32_w]; rw [c15b0]) | skip)
         have H' := Aside0.mk H; clear H; have hnb18 := NB414_412.out; have hnc18 := NB412_414.out
         have hcz19_0 : w14.cell? ⟨gb414, 0, none⟩ = some (.int .u8 ((rd_T89 l0_0 x11_1).f0)) := (blk_cell BK414.out 0).trans rfl
         have hcz19_1 : w14.cell? ⟨gb414, 1, none⟩ = some (.int .u8 ((rd_T89 l0_0 x11_1).f1)) := (blk_cell BK414.out 1).trans rfl
         have hfz19_0 := blk_frozen BK414.out 0; have hfz19_1 := blk_frozen BK414.out 1
         go_wp2
         go_meet
         case rel => exact ⟨_, ((((rd_T89 l0_0 x11_1).f1) != 0)), rdT, H', ⟨by have := HK1.out; first | omega | exact Nat.le_refl _⟩, ⟨by (with_reducible repeat (first | refine blk_drewN ?_ _ | refine blk_drew ?_ | refine blk_alloc ?_ _)); exact BK412.out⟩, ⟨by (with_reducible repeat (first | refine blk_drewN ?_ _ | refine blk_drew ?_ | refine blk_alloc ?_ _)); exact BK414.out⟩, ⟨hbT HB.out⟩⟩
       case rest =>
        clear HC9; (try clear c1); (try clear p2); (try clear c4); (try clear c4b0); (try clear p4); (try clear q4); (try clear hx4); (try clear c5); (try clear c5b0); (try clear c6); (try clear c6b0); (try clear p6); (try clear c8); (try clear c11); (try clear c12); (try clear c15); (try clear c15b0); (try clear c15b1); (try clear c16); (try clear c18); (try clear hcz12_0); (try clear hcz12_1); (try clear hcz13_0); (try clear hcz17_0); (try clear hcz17_1); (try clear hcz19_0); (try clear hcz19_1); (try clear hcz3_0); (try clear hfz12_0); (try clear hfz12_1); (try clear hfz13_0); (try clear hfz17_0); (try clear hfz17_1); (try clear hfz19_0); (try clear hfz19_1); (try clear hfz3_0); (try clear hx413_0); (try clear hx413_1); (try clear p2); (try clear p413); (try clear q413); obtain ⟨kq, x19_8, rfl, HA, HJ8, BK412, BK414, HB⟩ := hcut
        cases kq with
        | zero => exact absurd HA.out (by simp [impl_CountBreaks.j1])
        | succ kj8 =>
         have H := HA.out; clear HA
         simp only [impl_CountBreaks.j1] at H
         by_cases c20 : x19_8 = true
         ·subst c20
          rw [if_pos rfl] at H; have H1 := H; clear H; have H := H1; clear H1; have H' := Aside0.mk H; clear H
          go_wp2
          go_roundg kj8
          case measure => have := HK1.out; have := HJ8.out; omega
          case rel => exact ⟨(wrap64 (x3_1 + x4_1)), (0), (true), (wrap64 (x11_1 + 1)), rdT, rdT, rdT, rdT, H', ⟨by have := HK1.out; have := HJ8.out; omega⟩, ⟨by (with_reducible repeat (first | refine blk_drewN ?_ _ | refine blk_drew ?_ | refine blk_alloc ?_ _)); exact BK412.out⟩, ⟨hbT HB.out⟩⟩
         ·replace c20 := Bool.eq_false_iff.mpr c20
          subst c20; rw [if_neg (show ¬ (false = true) by decide)] at H; have H1 := H; clear H; have H := H1; clear H1
          by_cases c21 : x5_1 = true
          ·subst c21
           rw [if_pos rfl] at H; have H1 := H; clear H; have H := H1; clear H1; have H' := Aside0.mk H; clear H
           go_wp2
           go_roundg kj8
           case measure => have := HK1.out; have := HJ8.out; omega
           case rel => exact ⟨(x3_1), (wrap64 (x4_1 + 1)), (true), (wrap64 (x11_1 + 1)), rdT, rdT, rdT, rdT, H', ⟨by have := HK1.out; have := HJ8.out; omega⟩, ⟨by (with_reducible repeat (first | refine blk_drewN ?_ _ | refine blk_drew ?_ | refine blk_alloc ?_ _)); exact BK412.out⟩, ⟨hbT HB.out⟩⟩
          ·replace c21 := Bool.eq_false_iff.mpr c21
           subst c21; rw [if_neg (show ¬ (false = true) by decide)] at H; have H1 := H; clear H; have H := H1; clear H1; have H' := Aside0.mk H; clear H
           go_wp2
           go_roundg kj8
           case measure => have := HK1.out; have := HJ8.out; omega
           case rel => exact ⟨(x3_1), (x4_1), (false), (wrap64 (x11_1 + 1)), rdT, rdT, rdT, rdT, H', ⟨by have := HK1.out; have := HJ8.out; omega⟩, ⟨by (with_reducible repeat (first | refine blk_drewN ?_ _ | refine blk_drew ?_ | refine blk_alloc ?_ _)); exact BK412.out⟩, ⟨hbT HB.out⟩⟩
      ·replace c8 := Bool.eq_false_iff.mpr c8
       subst c8; rw [if_neg (show ¬ (false = true) by decide)] at H; have H1 := H; clear H; have H := H1; clear H1; have H' := Aside0.mk H; clear H
       have p413 : 0 ≤ (x11_1 : Int) := of_decide_eq_true asmT
       have q413 : x11_1 < (l0_0.length : Int) := of_decide_eq_true asmT
       obtain ⟨ad413, e413, hx413_0, hx413_1⟩ := at_T89 HR0_0.out x11_1 p413 q413
       cases e413
       replace hx413_0 := (HB.out.cell (World.block_lt_of_cell? w _ hx413_0)).trans hx413_0; replace hx413_1 := (HB.out.cell (World.block_lt_of_cell? w _ hx413_1)).trans hx413_1; replace p413 := eq_true p413; replace q413 := eq_true q413
       go_wp2_with (first | ((with_reducible refine gate_dst (N := 7) rfl ?_); refine boxT (N := 7) (cs := #[.int .u8 0, .int .u8 0]) (t := 89) ?_; intro gb414 hg w22 hbox hb; have BK414 := asT (hbox); have GW414 := asT (geT hg HB.out); have GE414 := asT (geT hg HB.out); replace HB := asT (below_step (hbT HB.out) hb); have NB412_414 := asT ((by rw [hg]; exact Nat.ne_of_lt (blk_lt (g := gb412) (o := .cells #[.slice (some ad413) l0_0.length c0_0] 61 (0, 0)) (bkT BK412.out)) : gb412 ≠ gb414)); have NB414_412 := asT ((by rw [hg]; exact Nat.ne_of_gt (blk_lt (g := gb412) (o := .cells #[.slice (some ad413) l0_0.length c0_0] 61 (0, 0)) (bkT BK412.out)) : gb414 ≠ gb412)); replace BK412 := asT (blk_below (g := gb412) (o := .cells #[.slice (some ad413) l0_0.length c0_0] 61 (0, 0)) (bkT BK412.out) hb); clear hb hbox hg; have hnb23 := NB414_412.out; have hnc23 := NB412_414.out; have hcz24_0 : w22.cell? ⟨gb414, 0, none⟩ = some (.int .u8 0) := (blk_cell BK414.out 0).trans rfl; have hcz24_1 : w22.cell? ⟨gb414, 1, none⟩ = some (.int .u8 0) := (blk_cell BK414.out 1).trans rfl; have hfz24_0 := blk_frozen BK414.out 0; have hfz24_1 := blk_frozen BK414.out 1; have hcz25_0 : w22.cell? ⟨gb412, 0, none⟩ = some (.slice (some ad413) l0_0.length c0_0) := (blk_cell BK412.out 0).trans rfl; have hfz25_0 := blk_frozen BK412.out 0) | ((with_reducible refine gate_callee (f := 47) rfl ?_); refine goesL_ (some 17) rfl rfl Tryz.func47 (by kernel_rfl) rfl #[.agg #[.slice (some ad413) l0_0.length c0_0]] rfl eqT ?_; (with_reducible refine (impl_IsCandidate.calls k1 _ _ l0_0 false _ ?side1 ?side2 A7.out).mono ?_); (case side1 => exact Kd.C_below HR0_0.out (hbT HB.out)); (case side2 => exact HC0_0.out); rintro e w26 ⟨rfl, hb⟩; refine ⟨_, rfl, ?_⟩; replace BK412 := asT (blk_below (g := gb412) (o := .cells #[.slice (some ad413) l0_0.length c0_0] 61 (0, 0)) (by (with_reducible repeat (first | refine blk_drewN ?_ _ | refine blk_drew ?_ | refine blk_alloc ?_ _)); refine blk_far ?_ NB412_414.out _; (with_reducible repeat (first | refine blk_drewN ?_ _ | refine blk_drew ?_ | refine blk_alloc ?_ _)); refine blk_far ?_ NB412_414.out _; (with_reducible repeat (first | refine blk_drewN ?_ _ | refine blk_drew ?_ | refine blk_alloc ?_ _)); exact BK412.out) hb); replace BK414 := asT (blk_below (g := gb414) (o := .cells #[.int .u8 ((rd_T89 l0_0 x11_1).f0), .int .u8 ((rd_T89 l0_0 x11_1).f1)] 89 (0, 0)) (by (with_reducible repeat (first | refine blk_drewN ?_ _ | refine blk_drew ?_ | refine blk_alloc ?_ _)); refine blk_put (cs := #[.int .u8 ((rd_T89 l0_0 x11_1).f0), .int .u8 0]) ?_ 1 _ rfl; (with_reducible repeat (first | refine blk_drewN ?_ _ | refine blk_drew ?_ | refine blk_alloc ?_ _)); refine blk_put (cs := #[.int .u8 0, .int .u8 0]) ?_ 0 _ rfl; (with_reducible repeat (first | refine blk_drewN ?_ _ | refine blk_drew ?_ | refine blk_alloc ?_ _)); exact BK414.out) hb); replace HB := asT (below_step (hbT HB.out) hb); (try clear hb); (try clear hb2); (try clear hk); (try clear hi)))
       go_roundg k1
       case measure => have := HK1.out; omega
       case rel => exact ⟨(x3_1), (x4_1), (x5_1), (wrap64 (x11_1 + 1)), rdT, rdT, rdT, rdT, H', ⟨by have := HK1.out; omega⟩, ⟨by (with_reducible repeat (first | refine blk_drewN ?_ _ | refine blk_drew ?_ | refine blk_alloc ?_ _)); exact BK412.out⟩, ⟨hbT HB.out⟩⟩
     ·rw [if_neg c6] at H
      exact absurd H (by simp)
    ·rw [if_neg c5] at H
     exact absurd H (by simp)
   ·rw [if_neg c4] at H
    have c4b0 : decide (x11_1 < (l0_0.length : Int)) = false := decide_eq_false c4
    clear c4
    obtain rfl := Option.some.inj H
    go_wp2
    go_ret
    exact ⟨rlT, hbT HB.out⟩

/-! ### impl_ViolationsOf: function 92 -/
def impl_ViolationsOf.f (k : Nat) (a0 : ByteArray) (l1_0 : List (S89)) : Option (Int) := (impl_IsCandidate.f k l1_0).bind fun t417 => (if t417 = true then ((impl_OutputOf.f k l1_0).bind fun t418 => (if a0.toList = ([111, 110, 115, 101, 116] : List UInt8) then ((impl_CountOnsetless.f k t418).bind fun t419 => (some t419)) else (if a0.toList = ([110, 111, 99, 111, 100, 97] : List UInt8) then ((impl_CountCodas.f k t418).bind fun t420 => (some t420)) else (if a0.toList = ([99, 108, 117, 115, 116, 101, 114] : List UInt8) then ((impl_CountClusters.f k t418).bind fun t421 => (some t421)) else (if a0.toList = ([118, 111, 105, 99, 101] : List UInt8) then ((impl_CountVoiced.f k t418).bind fun t422 => (some t422)) else (if a0.toList = ([102, 105, 110, 97, 108] : List UInt8) then ((impl_CountFinalVoiced.f k t418).bind fun t423 => (some t423)) else (if a0.toList = ([110, 97, 115, 97, 108] : List UInt8) then ((impl_CountNasalVoiceless.f k t418).bind fun t424 => (some t424)) else (if a0.toList = ([109, 97, 120] : List UInt8) then ((impl_CountDeleted.f k l1_0).bind fun t425 => (some t425)) else (if a0.toList = ([100, 101, 112] : List UInt8) then ((impl_CountInserted.f k l1_0).bind fun t426 => (some t426)) else (if a0.toList = ([105, 100, 101, 110, 116] : List UInt8) then ((impl_CountVoiceChanged.f k l1_0).bind fun t427 => (some t427)) else (if a0.toList = ([99, 111, 110, 116, 105, 103] : List UInt8) then ((impl_CountBreaks.f k l1_0).bind fun t428 => (some t428)) else (some (-1))))))))))))) else (some (-1)))
theorem impl_ViolationsOf.mono : ∀ a0 a1 k, LeO (impl_ViolationsOf.f k a0 a1) (impl_ViolationsOf.f (k + 1) a0 a1) := by
 intro a0 a1 k
 unfold impl_ViolationsOf.f
 repeat' first
   | (with_reducible exact impl_CountBreaks.mono _ _)
   | (with_reducible exact impl_CountClusters.mono _ _)
   | (with_reducible exact impl_CountCodas.mono _ _)
   | (with_reducible exact impl_CountDeleted.mono _ _)
   | (with_reducible exact impl_CountFinalVoiced.mono _ _)
   | (with_reducible exact impl_CountInserted.mono _ _)
   | (with_reducible exact impl_CountNasalVoiceless.mono _ _)
   | (with_reducible exact impl_CountOnsetless.mono _ _)
   | (with_reducible exact impl_CountVoiceChanged.mono _ _)
   | (with_reducible exact impl_CountVoiced.mono _ _)
   | (with_reducible exact impl_IsCandidate.mono _ _)
   | (with_reducible exact impl_OutputOf.mono _ _)
   | (with_reducible exact LeO.refl _)
   | (with_reducible exact LeO.none _)
   | (with_reducible refine LeO.ite ?_ ?_)
   | (with_reducible refine LeO.bind ?_ (fun _ => ?_))
   | exact impl_CountBreaks.mono _ _
   | exact impl_CountClusters.mono _ _
   | exact impl_CountCodas.mono _ _
   | exact impl_CountDeleted.mono _ _
   | exact impl_CountFinalVoiced.mono _ _
   | exact impl_CountInserted.mono _ _
   | exact impl_CountNasalVoiceless.mono _ _
   | exact impl_CountOnsetless.mono _ _
   | exact impl_CountVoiceChanged.mono _ _
   | exact impl_CountVoiced.mono _ _
   | exact impl_IsCandidate.mono _ _
   | exact impl_OutputOf.mono _ _
   | exact LeO.none _
   | refine LeO.ite ?_ ?_
   | refine LeO.bind ?_ (fun _ => ?_)
set_option maxHeartbeats 8000000 in
set_option maxRecDepth 100000 in
theorem impl_ViolationsOf.calls (k : Nat) (a0 : ByteArray) (A1_0 : Option Addr) (c1_0 : Nat) (l1_0 : List (S89)) (r : Int) (w : World) (hr1_0 : Kd.C k89 w A1_0 l1_0.length l1_0) (hc1_0 : l1_0.length ≤ c1_0) (h : impl_ViolationsOf.f k a0 l1_0 = some r) :
  Calls Tryz.prog 92 #[.string a0, .agg #[.slice A1_0 l1_0.length c1_0]] w fun e w' => e = .returned (.int .i64 r) ∧ Below w.heap.size w w' := by
 have hu61 := Tryz.underlying61; have HR1_0 := Aside0.mk hr1_0; have HC1_0 := Aside0.mk hc1_0; clear hr1_0 hc1_0; have HB := asT (Below.refl w.heap.size w); have H := h; unfold impl_ViolationsOf.f at H; clear h; replace H := Option.bind_eq_some_iff.mp H; obtain ⟨t417, A30, H⟩ := H; have A3 := Aside0.mk A30; clear A30
 by_cases c4 : t417 = true
 ·subst c4
  rw [if_pos rfl] at H; have H1 := H; clear H; have H := H1; clear H1; replace H := Option.bind_eq_some_iff.mp H; obtain ⟨t418, A50, H⟩ := H; have A5 := Aside0.mk A50; clear A50
  by_cases c6 : a0.toList = ([111, 110, 115, 101, 116] : List UInt8)
  ·rw [if_pos c6] at H
   have c6b0 : (a0.toList == ([111, 110, 115, 101, 116] : List UInt8)) = true := beq_iff_eq.mpr c6
   have c6b1 : (a0.toList != ([111, 110, 115, 101, 116] : List UInt8)) = false := bne_eq_false_iff_eq.mpr c6
   clear c6; replace H := Option.bind_eq_some_iff.mp H; obtain ⟨t419, A70, H⟩ := H; have A7 := Aside0.mk A70; clear A70
   obtain rfl := Option.some.inj H
   go_enter Tryz.func92, Tryz.ntmps92
   go_wp2_with (first | ((with_reducible refine gate_dst (N := 3) rfl ?_); refine boxT (N := 3) (cs := #[.slice A1_0 l1_0.length c1_0]) (t := 61) ?_; intro gb416 hg w8 hbox hb; have BK416 := asT hbox; have GW416 := asT (geT hg HB.out); have GE416 := GW416; replace HB := asT (below_step (hbT HB.out) hb); clear hb hbox hg; have hcz9_0 : w8.cell? ⟨gb416, 0, none⟩ = some (.slice A1_0 l1_0.length c1_0) := (blk_cell BK416.out 0).trans rfl; have hfz9_0 := blk_frozen BK416.out 0) | ((with_reducible refine gate_callee (f := 47) rfl ?_); refine goesL_ (some 7) rfl rfl Tryz.func47 (by kernel_rfl) rfl #[.agg #[.slice A1_0 l1_0.length c1_0]] rfl eqT ?_; (with_reducible refine (impl_IsCandidate.calls k _ _ l1_0 true _ ?side1 ?side2 A3.out).mono ?_); (case side1 => exact crT HR1_0.out HB.out); (case side2 => exact HC1_0.out); rintro e w10 ⟨rfl, hb⟩; refine ⟨_, rfl, ?_⟩; replace BK416 := asT (blk_below (bkT BK416.out) hb); replace HB := asT (below_step (hbT HB.out) hb); (try clear hb); (try clear hb2); (try clear hk); (try clear hi); have hcz11_0 : w10.cell? ⟨gb416, 0, none⟩ = some (.slice A1_0 l1_0.length c1_0) := (blk_cell BK416.out 0).trans rfl; have hfz11_0 := blk_frozen BK416.out 0) | ((with_reducible refine gate_callee (f := 55) rfl ?_); refine goesL_ (some 10) rfl rfl Tryz.func55 (by kernel_rfl) rfl #[.agg #[.slice A1_0 l1_0.length c1_0]] rfl eqT ?_; (with_reducible refine (impl_OutputOf.calls k _ _ l1_0 t418 _ ?side1 ?side2 A5.out).mono ?_); (case side1 => exact crT HR1_0.out HB.out); (case side2 => exact HC1_0.out); rintro e w12 ⟨rfl, hb⟩; refine ⟨_, rfl, ?_⟩; replace BK416 := asT (blk_below (bkT BK416.out) hb); replace HB := asT (below_step (hbT HB.out) hb); (try clear hb); (try clear hb2); (try clear hk); (try clear hi)) | ((with_reducible refine gate_callee (f := 118) rfl ?_); refine goesL_ (some 15) rfl rfl Tryz.func118 (by kernel_rfl) rfl #[.string t418] rfl eqT ?_; (with_reducible refine (impl_CountOnsetless.calls k t418 t419 _ A7.out).mono ?_); rintro e w13 ⟨rfl, hb⟩; refine ⟨_, rfl, ?_⟩; replace BK416 := asT (blk_below (bkT BK416.out) hb); replace HB := asT (below_step (hbT HB.out) hb); (try clear hb); (try clear hb2); (try clear hk); (try clear hi)))
   go_ret
   exact ⟨rlT, hbT HB.out⟩
  ·rw [if_neg c6] at H
   have c6b0 : (a0.toList == ([111, 110, 115, 101, 116] : List UInt8)) = false := beq_eq_false_iff_ne.mpr c6
   have c6b1 : (a0.toList != ([111, 110, 115, 101, 116] : List UInt8)) = true := bne_iff_ne.mpr c6
   by_cases c14 : a0.toList = ([110, 111, 99, 111, 100, 97] : List UInt8)
   ·rw [if_pos c14] at H
    have c14b0 : (a0.toList == ([110, 111, 99, 111, 100, 97] : List UInt8)) = true := beq_iff_eq.mpr c14
    have c14b1 : (a0.toList != ([110, 111, 99, 111, 100, 97] : List UInt8)) = false := bne_eq_false_iff_eq.mpr c14
    clear c14; replace H := Option.bind_eq_some_iff.mp H; obtain ⟨t420, A150, H⟩ := H; have A15 := Aside0.mk A150; clear A150
    obtain rfl := Option.some.inj H
    go_enter Tryz.func92, Tryz.ntmps92
    go_wp2_with (first | ((with_reducible refine gate_dst (N := 3) rfl ?_); refine boxT (N := 3) (cs := #[.slice A1_0 l1_0.length c1_0]) (t := 61) ?_; intro gb416 hg w16 hbox hb; have BK416 := asT hbox; have GW416 := asT (geT hg HB.out); have GE416 := GW416; replace HB := asT (below_step (hbT HB.out) hb); clear hb hbox hg; have hcz17_0 : w16.cell? ⟨gb416, 0, none⟩ = some (.slice A1_0 l1_0.length c1_0) := (blk_cell BK416.out 0).trans rfl; have hfz17_0 := blk_frozen BK416.out 0) | ((with_reducible refine gate_callee (f := 47) rfl ?_); refine goesL_ (some 7) rfl rfl Tryz.func47 (by kernel_rfl) rfl #[.agg #[.slice A1_0 l1_0.length c1_0]] rfl eqT ?_; (with_reducible refine (impl_IsCandidate.calls k _ _ l1_0 true _ ?side1 ?side2 A3.out).mono ?_); (case side1 => exact crT HR1_0.out HB.out); (case side2 => exact HC1_0.out); rintro e w18 ⟨rfl, hb⟩; refine ⟨_, rfl, ?_⟩; replace BK416 := asT (blk_below (bkT BK416.out) hb); replace HB := asT (below_step (hbT HB.out) hb); (try clear hb); (try clear hb2); (try clear hk); (try clear hi); have hcz19_0 : w18.cell? ⟨gb416, 0, none⟩ = some (.slice A1_0 l1_0.length c1_0) := (blk_cell BK416.out 0).trans rfl; have hfz19_0 := blk_frozen BK416.out 0) | ((with_reducible refine gate_callee (f := 55) rfl ?_); refine goesL_ (some 10) rfl rfl Tryz.func55 (by kernel_rfl) rfl #[.agg #[.slice A1_0 l1_0.length c1_0]] rfl eqT ?_; (with_reducible refine (impl_OutputOf.calls k _ _ l1_0 t418 _ ?side1 ?side2 A5.out).mono ?_); (case side1 => exact crT HR1_0.out HB.out); (case side2 => exact HC1_0.out); rintro e w20 ⟨rfl, hb⟩; refine ⟨_, rfl, ?_⟩; replace BK416 := asT (blk_below (bkT BK416.out) hb); replace HB := asT (below_step (hbT HB.out) hb); (try clear hb); (try clear hb2); (try clear hk); (try clear hi)) | ((with_reducible refine gate_callee (f := 119) rfl ?_); refine goesL_ (some 19) rfl rfl Tryz.func119 (by kernel_rfl) rfl #[.string t418] rfl eqT ?_; (with_reducible refine (impl_CountCodas.calls k t418 t420 _ A15.out).mono ?_); rintro e w21 ⟨rfl, hb⟩; refine ⟨_, rfl, ?_⟩; replace BK416 := asT (blk_below (bkT BK416.out) hb); replace HB := asT (below_step (hbT HB.out) hb); (try clear hb); (try clear hb2); (try clear hk); (try clear hi)))
    go_ret
    exact ⟨rlT, hbT HB.out⟩
   ·rw [if_neg c14] at H
    have c14b0 : (a0.toList == ([110, 111, 99, 111, 100, 97] : List UInt8)) = false := beq_eq_false_iff_ne.mpr c14
    have c14b1 : (a0.toList != ([110, 111, 99, 111, 100, 97] : List UInt8)) = true := bne_iff_ne.mpr c14
    by_cases c22 : a0.toList = ([99, 108, 117, 115, 116, 101, 114] : List UInt8)
    ·rw [if_pos c22] at H
     have c22b0 : (a0.toList == ([99, 108, 117, 115, 116, 101, 114] : List UInt8)) = true := beq_iff_eq.mpr c22
     have c22b1 : (a0.toList != ([99, 108, 117, 115, 116, 101, 114] : List UInt8)) = false := bne_eq_false_iff_eq.mpr c22
     clear c22; replace H := Option.bind_eq_some_iff.mp H; obtain ⟨t421, A230, H⟩ := H; have A23 := Aside0.mk A230; clear A230
     obtain rfl := Option.some.inj H
     go_enter Tryz.func92, Tryz.ntmps92
     go_wp2_with (first | ((with_reducible refine gate_dst (N := 3) rfl ?_); refine boxT (N := 3) (cs := #[.slice A1_0 l1_0.length c1_0]) (t := 61) ?_; intro gb416 hg w24 hbox hb; have BK416 := asT hbox; have GW416 := asT (geT hg HB.out); have GE416 := GW416; replace HB := asT (below_step (hbT HB.out) hb); clear hb hbox hg; have hcz25_0 : w24.cell? ⟨gb416, 0, none⟩ = some (.slice A1_0 l1_0.length c1_0) := (blk_cell BK416.out 0).trans rfl; have hfz25_0 := blk_frozen BK416.out 0) | ((with_reducible refine gate_callee (f := 47) rfl ?_); refine goesL_ (some 7) rfl rfl Tryz.func47 (by kernel_rfl) rfl #[.agg #[.slice A1_0 l1_0.length c1_0]] rfl eqT ?_; (with_reducible refine (impl_IsCandidate.calls k _ _ l1_0 true _ ?side1 ?side2 A3.out).mono ?_); (case side1 => exact crT HR1_0.out HB.out); (case side2 => exact HC1_0.out); rintro e w26 ⟨rfl, hb⟩; refine ⟨_, rfl, ?_⟩; replace BK416 := asT (blk_below (bkT BK416.out) hb); replace HB := asT (below_step (hbT HB.out) hb); (try clear hb); (try clear hb2); (try clear hk); (try clear hi); have hcz27_0 : w26.cell? ⟨gb416, 0, none⟩ = some (.slice A1_0 l1_0.length c1_0) := (blk_cell BK416.out 0).trans rfl; have hfz27_0 := blk_frozen BK416.out 0) | ((with_reducible refine gate_callee (f := 55) rfl ?_); refine goesL_ (some 10) rfl rfl Tryz.func55 (by kernel_rfl) rfl #[.agg #[.slice A1_0 l1_0.length c1_0]] rfl eqT ?_; (with_reducible refine (impl_OutputOf.calls k _ _ l1_0 t418 _ ?side1 ?side2 A5.out).mono ?_); (case side1 => exact crT HR1_0.out HB.out); (case side2 => exact HC1_0.out); rintro e w28 ⟨rfl, hb⟩; refine ⟨_, rfl, ?_⟩; replace BK416 := asT (blk_below (bkT BK416.out) hb); replace HB := asT (below_step (hbT HB.out) hb); (try clear hb); (try clear hb2); (try clear hk); (try clear hi)) | ((with_reducible refine gate_callee (f := 120) rfl ?_); refine goesL_ (some 23) rfl rfl Tryz.func120 (by kernel_rfl) rfl #[.string t418] rfl eqT ?_; (with_reducible refine (impl_CountClusters.calls k t418 t421 _ A23.out).mono ?_); rintro e w29 ⟨rfl, hb⟩; refine ⟨_, rfl, ?_⟩; replace BK416 := asT (blk_below (bkT BK416.out) hb); replace HB := asT (below_step (hbT HB.out) hb); (try clear hb); (try clear hb2); (try clear hk); (try clear hi)))
     go_ret
     exact ⟨rlT, hbT HB.out⟩
    ·rw [if_neg c22] at H
     have c22b0 : (a0.toList == ([99, 108, 117, 115, 116, 101, 114] : List UInt8)) = false := beq_eq_false_iff_ne.mpr c22
     have c22b1 : (a0.toList != ([99, 108, 117, 115, 116, 101, 114] : List UInt8)) = true := bne_iff_ne.mpr c22
     by_cases c30 : a0.toList = ([118, 111, 105, 99, 101] : List UInt8)
     ·rw [if_pos c30] at H
      have c30b0 : (a0.toList == ([118, 111, 105, 99, 101] : List UInt8)) = true := beq_iff_eq.mpr c30
      have c30b1 : (a0.toList != ([118, 111, 105, 99, 101] : List UInt8)) = false := bne_eq_false_iff_eq.mpr c30
      clear c30; replace H := Option.bind_eq_some_iff.mp H; obtain ⟨t422, A310, H⟩ := H; have A31 := Aside0.mk A310; clear A310
      obtain rfl := Option.some.inj H
      go_enter Tryz.func92, Tryz.ntmps92
      go_wp2_with (first | ((with_reducible refine gate_dst (N := 3) rfl ?_); refine boxT (N := 3) (cs := #[.slice A1_0 l1_0.length c1_0]) (t := 61) ?_; intro gb416 hg w32 hbox hb; have BK416 := asT hbox; have GW416 := asT (geT hg HB.out); have GE416 := GW416; replace HB := asT (below_step (hbT HB.out) hb); clear hb hbox hg; have hcz33_0 : w32.cell? ⟨gb416, 0, none⟩ = some (.slice A1_0 l1_0.length c1_0) := (blk_cell BK416.out 0).trans rfl; have hfz33_0 := blk_frozen BK416.out 0) | ((with_reducible refine gate_callee (f := 47) rfl ?_); refine goesL_ (some 7) rfl rfl Tryz.func47 (by kernel_rfl) rfl #[.agg #[.slice A1_0 l1_0.length c1_0]] rfl eqT ?_; (with_reducible refine (impl_IsCandidate.calls k _ _ l1_0 true _ ?side1 ?side2 A3.out).mono ?_); (case side1 => exact crT HR1_0.out HB.out); (case side2 => exact HC1_0.out); rintro e w34 ⟨rfl, hb⟩; refine ⟨_, rfl, ?_⟩; replace BK416 := asT (blk_below (bkT BK416.out) hb); replace HB := asT (below_step (hbT HB.out) hb); (try clear hb); (try clear hb2); (try clear hk); (try clear hi); have hcz35_0 : w34.cell? ⟨gb416, 0, none⟩ = some (.slice A1_0 l1_0.length c1_0) := (blk_cell BK416.out 0).trans rfl; have hfz35_0 := blk_frozen BK416.out 0) | ((with_reducible refine gate_callee (f := 55) rfl ?_); refine goesL_ (some 10) rfl rfl Tryz.func55 (by kernel_rfl) rfl #[.agg #[.slice A1_0 l1_0.length c1_0]] rfl eqT ?_; (with_reducible refine (impl_OutputOf.calls k _ _ l1_0 t418 _ ?side1 ?side2 A5.out).mono ?_); (case side1 => exact crT HR1_0.out HB.out); (case side2 => exact HC1_0.out); rintro e w36 ⟨rfl, hb⟩; refine ⟨_, rfl, ?_⟩; replace BK416 := asT (blk_below (bkT BK416.out) hb); replace HB := asT (below_step (hbT HB.out) hb); (try clear hb); (try clear hb2); (try clear hk); (try clear hi)) | ((with_reducible refine gate_callee (f := 121) rfl ?_); refine goesL_ (some 27) rfl rfl Tryz.func121 (by kernel_rfl) rfl #[.string t418] rfl eqT ?_; (with_reducible refine (impl_CountVoiced.calls k t418 t422 _ A31.out).mono ?_); rintro e w37 ⟨rfl, hb⟩; refine ⟨_, rfl, ?_⟩; replace BK416 := asT (blk_below (bkT BK416.out) hb); replace HB := asT (below_step (hbT HB.out) hb); (try clear hb); (try clear hb2); (try clear hk); (try clear hi)))
      go_ret
      exact ⟨rlT, hbT HB.out⟩
     ·rw [if_neg c30] at H
      have c30b0 : (a0.toList == ([118, 111, 105, 99, 101] : List UInt8)) = false := beq_eq_false_iff_ne.mpr c30
      have c30b1 : (a0.toList != ([118, 111, 105, 99, 101] : List UInt8)) = true := bne_iff_ne.mpr c30
      by_cases c38 : a0.toList = ([102, 105, 110, 97, 108] : List UInt8)
      ·rw [if_pos c38] at H
       have c38b0 : (a0.toList == ([102, 105, 110, 97, 108] : List UInt8)) = true := beq_iff_eq.mpr c38
       have c38b1 : (a0.toList != ([102, 105, 110, 97, 108] : List UInt8)) = false := bne_eq_false_iff_eq.mpr c38
       clear c38; replace H := Option.bind_eq_some_iff.mp H; obtain ⟨t423, A390, H⟩ := H; have A39 := Aside0.mk A390; clear A390
       obtain rfl := Option.some.inj H
       go_enter Tryz.func92, Tryz.ntmps92
       go_wp2_with (first | ((with_reducible refine gate_dst (N := 3) rfl ?_); refine boxT (N := 3) (cs := #[.slice A1_0 l1_0.length c1_0]) (t := 61) ?_; intro gb416 hg w40 hbox hb; have BK416 := asT hbox; have GW416 := asT (geT hg HB.out); have GE416 := GW416; replace HB := asT (below_step (hbT HB.out) hb); clear hb hbox hg; have hcz41_0 : w40.cell? ⟨gb416, 0, none⟩ = some (.slice A1_0 l1_0.length c1_0) := (blk_cell BK416.out 0).trans rfl; have hfz41_0 := blk_frozen BK416.out 0) | ((with_reducible refine gate_callee (f := 47) rfl ?_); refine goesL_ (some 7) rfl rfl Tryz.func47 (by kernel_rfl) rfl #[.agg #[.slice A1_0 l1_0.length c1_0]] rfl eqT ?_; (with_reducible refine (impl_IsCandidate.calls k _ _ l1_0 true _ ?side1 ?side2 A3.out).mono ?_); (case side1 => exact crT HR1_0.out HB.out); (case side2 => exact HC1_0.out); rintro e w42 ⟨rfl, hb⟩; refine ⟨_, rfl, ?_⟩; replace BK416 := asT (blk_below (bkT BK416.out) hb); replace HB := asT (below_step (hbT HB.out) hb); (try clear hb); (try clear hb2); (try clear hk); (try clear hi); have hcz43_0 : w42.cell? ⟨gb416, 0, none⟩ = some (.slice A1_0 l1_0.length c1_0) := (blk_cell BK416.out 0).trans rfl; have hfz43_0 := blk_frozen BK416.out 0) | ((with_reducible refine gate_callee (f := 55) rfl ?_); refine goesL_ (some 10) rfl rfl Tryz.func55 (by kernel_rfl) rfl #[.agg #[.slice A1_0 l1_0.length c1_0]] rfl eqT ?_; (with_reducible refine (impl_OutputOf.calls k _ _ l1_0 t418 _ ?side1 ?side2 A5.out).mono ?_); (case side1 => exact crT HR1_0.out HB.out); (case side2 => exact HC1_0.out); rintro e w44 ⟨rfl, hb⟩; refine ⟨_, rfl, ?_⟩; replace BK416 := asT (blk_below (bkT BK416.out) hb); replace HB := asT (below_step (hbT HB.out) hb); (try clear hb); (try clear hb2); (try clear hk); (try clear hi)) | ((with_reducible refine gate_callee (f := 122) rfl ?_); refine goesL_ (some 31) rfl rfl Tryz.func122 (by kernel_rfl) rfl #[.string t418] rfl eqT ?_; (with_reducible refine (impl_CountFinalVoiced.calls k t418 t423 _ A39.out).mono ?_); rintro e w45 ⟨rfl, hb⟩; refine ⟨_, rfl, ?_⟩; replace BK416 := asT (blk_below (bkT BK416.out) hb); replace HB := asT (below_step (hbT HB.out) hb); (try clear hb); (try clear hb2); (try clear hk); (try clear hi)))
       go_ret
       exact ⟨rlT, hbT HB.out⟩
      ·rw [if_neg c38] at H
       have c38b0 : (a0.toList == ([102, 105, 110, 97, 108] : List UInt8)) = false := beq_eq_false_iff_ne.mpr c38
       have c38b1 : (a0.toList != ([102, 105, 110, 97, 108] : List UInt8)) = true := bne_iff_ne.mpr c38
       by_cases c46 : a0.toList = ([110, 97, 115, 97, 108] : List UInt8)
       ·rw [if_pos c46] at H
        have c46b0 : (a0.toList == ([110, 97, 115, 97, 108] : List UInt8)) = true := beq_iff_eq.mpr c46
        have c46b1 : (a0.toList != ([110, 97, 115, 97, 108] : List UInt8)) = false := bne_eq_false_iff_eq.mpr c46
        clear c46; replace H := Option.bind_eq_some_iff.mp H; obtain ⟨t424, A470, H⟩ := H; have A47 := Aside0.mk A470; clear A470
        obtain rfl := Option.some.inj H
        go_enter Tryz.func92, Tryz.ntmps92
        go_wp2_with (first | ((with_reducible refine gate_dst (N := 3) rfl ?_); refine boxT (N := 3) (cs := #[.slice A1_0 l1_0.length c1_0]) (t := 61) ?_; intro gb416 hg w48 hbox hb; have BK416 := asT hbox; have GW416 := asT (geT hg HB.out); have GE416 := GW416; replace HB := asT (below_step (hbT HB.out) hb); clear hb hbox hg; have hcz49_0 : w48.cell? ⟨gb416, 0, none⟩ = some (.slice A1_0 l1_0.length c1_0) := (blk_cell BK416.out 0).trans rfl; have hfz49_0 := blk_frozen BK416.out 0) | ((with_reducible refine gate_callee (f := 47) rfl ?_); refine goesL_ (some 7) rfl rfl Tryz.func47 (by kernel_rfl) rfl #[.agg #[.slice A1_0 l1_0.length c1_0]] rfl eqT ?_; (with_reducible refine (impl_IsCandidate.calls k _ _ l1_0 true _ ?side1 ?side2 A3.out).mono ?_); (case side1 => exact crT HR1_0.out HB.out); (case side2 => exact HC1_0.out); rintro e w50 ⟨rfl, hb⟩; refine ⟨_, rfl, ?_⟩; replace BK416 := asT (blk_below (bkT BK416.out) hb); replace HB := asT (below_step (hbT HB.out) hb); (try clear hb); (try clear hb2); (try clear hk); (try clear hi); have hcz51_0 : w50.cell? ⟨gb416, 0, none⟩ = some (.slice A1_0 l1_0.length c1_0) := (blk_cell BK416.out 0).trans rfl; have hfz51_0 := blk_frozen BK416.out 0) | ((with_reducible refine gate_callee (f := 55) rfl ?_); refine goesL_ (some 10) rfl rfl Tryz.func55 (by kernel_rfl) rfl #[.agg #[.slice A1_0 l1_0.length c1_0]] rfl eqT ?_; (with_reducible refine (impl_OutputOf.calls k _ _ l1_0 t418 _ ?side1 ?side2 A5.out).mono ?_); (case side1 => exact crT HR1_0.out HB.out); (case side2 => exact HC1_0.out); rintro e w52 ⟨rfl, hb⟩; refine ⟨_, rfl, ?_⟩; replace BK416 := asT (blk_below (bkT BK416.out) hb); replace HB := asT (below_step (hbT HB.out) hb); (try clear hb); (try clear hb2); (try clear hk); (try clear hi)) | ((with_reducible refine gate_callee (f := 123) rfl ?_); refine goesL_ (some 35) rfl rfl Tryz.func123 (by kernel_rfl) rfl #[.string t418] rfl eqT ?_; (with_reducible refine (impl_CountNasalVoiceless.calls k t418 t424 _ A47.out).mono ?_); rintro e w53 ⟨rfl, hb⟩; refine ⟨_, rfl, ?_⟩; replace BK416 := asT (blk_below (bkT BK416.out) hb); replace HB := asT (below_step (hbT HB.out) hb); (try clear hb); (try clear hb2); (try clear hk); (try clear hi)))
        go_ret
        exact ⟨rlT, hbT HB.out⟩
       ·rw [if_neg c46] at H
        have c46b0 : (a0.toList == ([110, 97, 115, 97, 108] : List UInt8)) = false := beq_eq_false_iff_ne.mpr c46
        have c46b1 : (a0.toList != ([110, 97, 115, 97, 108] : List UInt8)) = true := bne_iff_ne.mpr c46
        by_cases c54 : a0.toList = ([109, 97, 120] : List UInt8)
        ·rw [if_pos c54] at H
         have c54b0 : (a0.toList == ([109, 97, 120] : List UInt8)) = true := beq_iff_eq.mpr c54
         have c54b1 : (a0.toList != ([109, 97, 120] : List UInt8)) = false := bne_eq_false_iff_eq.mpr c54
         clear c54; replace H := Option.bind_eq_some_iff.mp H; obtain ⟨t425, A550, H⟩ := H; have A55 := Aside0.mk A550; clear A550
         obtain rfl := Option.some.inj H
         go_enter Tryz.func92, Tryz.ntmps92
         go_wp2_with (first | ((with_reducible refine gate_dst (N := 3) rfl ?_); refine boxT (N := 3) (cs := #[.slice A1_0 l1_0.length c1_0]) (t := 61) ?_; intro gb416 hg w56 hbox hb; have BK416 := asT hbox; have GW416 := asT (geT hg HB.out); have GE416 := GW416; replace HB := asT (below_step (hbT HB.out) hb); clear hb hbox hg; have hcz57_0 : w56.cell? ⟨gb416, 0, none⟩ = some (.slice A1_0 l1_0.length c1_0) := (blk_cell BK416.out 0).trans rfl; have hfz57_0 := blk_frozen BK416.out 0) | ((with_reducible refine gate_callee (f := 47) rfl ?_); refine goesL_ (some 7) rfl rfl Tryz.func47 (by kernel_rfl) rfl #[.agg #[.slice A1_0 l1_0.length c1_0]] rfl eqT ?_; (with_reducible refine (impl_IsCandidate.calls k _ _ l1_0 true _ ?side1 ?side2 A3.out).mono ?_); (case side1 => exact crT HR1_0.out HB.out); (case side2 => exact HC1_0.out); rintro e w58 ⟨rfl, hb⟩; refine ⟨_, rfl, ?_⟩; replace BK416 := asT (blk_below (bkT BK416.out) hb); replace HB := asT (below_step (hbT HB.out) hb); (try clear hb); (try clear hb2); (try clear hk); (try clear hi); have hcz59_0 : w58.cell? ⟨gb416, 0, none⟩ = some (.slice A1_0 l1_0.length c1_0) := (blk_cell BK416.out 0).trans rfl; have hfz59_0 := blk_frozen BK416.out 0) | ((with_reducible refine gate_callee (f := 55) rfl ?_); refine goesL_ (some 10) rfl rfl Tryz.func55 (by kernel_rfl) rfl #[.agg #[.slice A1_0 l1_0.length c1_0]] rfl eqT ?_; (with_reducible refine (impl_OutputOf.calls k _ _ l1_0 t418 _ ?side1 ?side2 A5.out).mono ?_); (case side1 => exact crT HR1_0.out HB.out); (case side2 => exact HC1_0.out); rintro e w60 ⟨rfl, hb⟩; refine ⟨_, rfl, ?_⟩; replace BK416 := asT (blk_below (bkT BK416.out) hb); replace HB := asT (below_step (hbT HB.out) hb); (try clear hb); (try clear hb2); (try clear hk); (try clear hi); have hcz61_0 : w60.cell? ⟨gb416, 0, none⟩ = some (.slice A1_0 l1_0.length c1_0) := (blk_cell BK416.out 0).trans rfl; have hfz61_0 := blk_frozen BK416.out 0) | ((with_reducible refine gate_callee (f := 124) rfl ?_); refine goesL_ (some 39) rfl rfl Tryz.func124 (by kernel_rfl) rfl #[.agg #[.slice A1_0 l1_0.length c1_0]] rfl eqT ?_; (with_reducible refine (impl_CountDeleted.calls k _ _ l1_0 t425 _ ?side1 ?side2 A55.out).mono ?_); (case side1 => exact crT HR1_0.out HB.out); (case side2 => exact HC1_0.out); rintro e w62 ⟨rfl, hb⟩; refine ⟨_, rfl, ?_⟩; replace BK416 := asT (blk_below (bkT BK416.out) hb); replace HB := asT (below_step (hbT HB.out) hb); (try clear hb); (try clear hb2); (try clear hk); (try clear hi)))
         go_ret
         exact ⟨rlT, hbT HB.out⟩
        ·rw [if_neg c54] at H
         have c54b0 : (a0.toList == ([109, 97, 120] : List UInt8)) = false := beq_eq_false_iff_ne.mpr c54
         have c54b1 : (a0.toList != ([109, 97, 120] : List UInt8)) = true := bne_iff_ne.mpr c54
         by_cases c63 : a0.toList = ([100, 101, 112] : List UInt8)
         ·rw [if_pos c63] at H
          have c63b0 : (a0.toList == ([100, 101, 112] : List UInt8)) = true := beq_iff_eq.mpr c63
          have c63b1 : (a0.toList != ([100, 101, 112] : List UInt8)) = false := bne_eq_false_iff_eq.mpr c63
          clear c63; replace H := Option.bind_eq_some_iff.mp H; obtain ⟨t426, A640, H⟩ := H; have A64 := Aside0.mk A640; clear A640
          obtain rfl := Option.some.inj H
          go_enter Tryz.func92, Tryz.ntmps92
          go_wp2_with (first | ((with_reducible refine gate_dst (N := 3) rfl ?_); refine boxT (N := 3) (cs := #[.slice A1_0 l1_0.length c1_0]) (t := 61) ?_; intro gb416 hg w65 hbox hb; have BK416 := asT hbox; have GW416 := asT (geT hg HB.out); have GE416 := GW416; replace HB := asT (below_step (hbT HB.out) hb); clear hb hbox hg; have hcz66_0 : w65.cell? ⟨gb416, 0, none⟩ = some (.slice A1_0 l1_0.length c1_0) := (blk_cell BK416.out 0).trans rfl; have hfz66_0 := blk_frozen BK416.out 0) | ((with_reducible refine gate_callee (f := 47) rfl ?_); refine goesL_ (some 7) rfl rfl Tryz.func47 (by kernel_rfl) rfl #[.agg #[.slice A1_0 l1_0.length c1_0]] rfl eqT ?_; (with_reducible refine (impl_IsCandidate.calls k _ _ l1_0 true _ ?side1 ?side2 A3.out).mono ?_); (case side1 => exact crT HR1_0.out HB.out); (case side2 => exact HC1_0.out); rintro e w67 ⟨rfl, hb⟩; refine ⟨_, rfl, ?_⟩; replace BK416 := asT (blk_below (bkT BK416.out) hb); replace HB := asT (below_step (hbT HB.out) hb); (try clear hb); (try clear hb2); (try clear hk); (try clear hi); have hcz68_0 : w67.cell? ⟨gb416, 0, none⟩ = some (.slice A1_0 l1_0.length c1_0) := (blk_cell BK416.out 0).trans rfl; have hfz68_0 := blk_frozen BK416.out 0) | ((with_reducible refine gate_callee (f := 55) rfl ?_); refine goesL_ (some 10) rfl rfl Tryz.func55 (by kernel_rfl) rfl #[.agg #[.slice A1_0 l1_0.length c1_0]] rfl eqT ?_; (with_reducible refine (impl_OutputOf.calls k _ _ l1_0 t418 _ ?side1 ?side2 A5.out).mono ?_); (case side1 => exact crT HR1_0.out HB.out); (case side2 => exact HC1_0.out); rintro e w69 ⟨rfl, hb⟩; refine ⟨_, rfl, ?_⟩; replace BK416 := asT (blk_below (bkT BK416.out) hb); replace HB := asT (below_step (hbT HB.out) hb); (try clear hb); (try clear hb2); (try clear hk); (try clear hi); have hcz70_0 : w69.cell? ⟨gb416, 0, none⟩ = some (.slice A1_0 l1_0.length c1_0) := (blk_cell BK416.out 0).trans rfl; have hfz70_0 := blk_frozen BK416.out 0) | ((with_reducible refine gate_callee (f := 125) rfl ?_); refine goesL_ (some 43) rfl rfl Tryz.func125 (by kernel_rfl) rfl #[.agg #[.slice A1_0 l1_0.length c1_0]] rfl eqT ?_; (with_reducible refine (impl_CountInserted.calls k _ _ l1_0 t426 _ ?side1 ?side2 A64.out).mono ?_); (case side1 => exact crT HR1_0.out HB.out); (case side2 => exact HC1_0.out); rintro e w71 ⟨rfl, hb⟩; refine ⟨_, rfl, ?_⟩; replace BK416 := asT (blk_below (bkT BK416.out) hb); replace HB := asT (below_step (hbT HB.out) hb); (try clear hb); (try clear hb2); (try clear hk); (try clear hi)))
          go_ret
          exact ⟨rlT, hbT HB.out⟩
         ·rw [if_neg c63] at H
          have c63b0 : (a0.toList == ([100, 101, 112] : List UInt8)) = false := beq_eq_false_iff_ne.mpr c63
          have c63b1 : (a0.toList != ([100, 101, 112] : List UInt8)) = true := bne_iff_ne.mpr c63
          by_cases c72 : a0.toList = ([105, 100, 101, 110, 116] : List UInt8)
          ·rw [if_pos c72] at H
           have c72b0 : (a0.toList == ([105, 100, 101, 110, 116] : List UInt8)) = true := beq_iff_eq.mpr c72
           have c72b1 : (a0.toList != ([105, 100, 101, 110, 116] : List UInt8)) = false := bne_eq_false_iff_eq.mpr c72
           clear c72; replace H := Option.bind_eq_some_iff.mp H; obtain ⟨t427, A730, H⟩ := H; have A73 := Aside0.mk A730; clear A730
           obtain rfl := Option.some.inj H
           go_enter Tryz.func92, Tryz.ntmps92
           go_wp2_with (first | ((with_reducible refine gate_dst (N := 3) rfl ?_); refine boxT (N := 3) (cs := #[.slice A1_0 l1_0.length c1_0]) (t := 61) ?_; intro gb416 hg w74 hbox hb; have BK416 := asT hbox; have GW416 := asT (geT hg HB.out); have GE416 := GW416; replace HB := asT (below_step (hbT HB.out) hb); clear hb hbox hg; have hcz75_0 : w74.cell? ⟨gb416, 0, none⟩ = some (.slice A1_0 l1_0.length c1_0) := (blk_cell BK416.out 0).trans rfl; have hfz75_0 := blk_frozen BK416.out 0) | ((with_reducible refine gate_callee (f := 47) rfl ?_); refine goesL_ (some 7) rfl rfl Tryz.func47 (by kernel_rfl) rfl #[.agg #[.slice A1_0 l1_0.length c1_0]] rfl eqT ?_; (with_reducible refine (impl_IsCandidate.calls k _ _ l1_0 true _ ?side1 ?side2 A3.out).mono ?_); (case side1 => exact crT HR1_0.out HB.out); (case side2 => exact HC1_0.out); rintro e w76 ⟨rfl, hb⟩; refine ⟨_, rfl, ?_⟩; replace BK416 := asT (blk_below (bkT BK416.out) hb); replace HB := asT (below_step (hbT HB.out) hb); (try clear hb); (try clear hb2); (try clear hk); (try clear hi); have hcz77_0 : w76.cell? ⟨gb416, 0, none⟩ = some (.slice A1_0 l1_0.length c1_0) := (blk_cell BK416.out 0).trans rfl; have hfz77_0 := blk_frozen BK416.out 0) | ((with_reducible refine gate_callee (f := 55) rfl ?_); refine goesL_ (some 10) rfl rfl Tryz.func55 (by kernel_rfl) rfl #[.agg #[.slice A1_0 l1_0.length c1_0]] rfl eqT ?_; (with_reducible refine (impl_OutputOf.calls k _ _ l1_0 t418 _ ?side1 ?side2 A5.out).mono ?_); (case side1 => exact crT HR1_0.out HB.out); (case side2 => exact HC1_0.out); rintro e w78 ⟨rfl, hb⟩; refine ⟨_, rfl, ?_⟩; replace BK416 := asT (blk_below (bkT BK416.out) hb); replace HB := asT (below_step (hbT HB.out) hb); (try clear hb); (try clear hb2); (try clear hk); (try clear hi); have hcz79_0 : w78.cell? ⟨gb416, 0, none⟩ = some (.slice A1_0 l1_0.length c1_0) := (blk_cell BK416.out 0).trans rfl; have hfz79_0 := blk_frozen BK416.out 0) | ((with_reducible refine gate_callee (f := 126) rfl ?_); refine goesL_ (some 47) rfl rfl Tryz.func126 (by kernel_rfl) rfl #[.agg #[.slice A1_0 l1_0.length c1_0]] rfl eqT ?_; (with_reducible refine (impl_CountVoiceChanged.calls k _ _ l1_0 t427 _ ?side1 ?side2 A73.out).mono ?_); (case side1 => exact crT HR1_0.out HB.out); (case side2 => exact HC1_0.out); rintro e w80 ⟨rfl, hb⟩; refine ⟨_, rfl, ?_⟩; replace BK416 := asT (blk_below (bkT BK416.out) hb); replace HB := asT (below_step (hbT HB.out) hb); (try clear hb); (try clear hb2); (try clear hk); (try clear hi)))
           go_ret
           exact ⟨rlT, hbT HB.out⟩
          ·rw [if_neg c72] at H
           have c72b0 : (a0.toList == ([105, 100, 101, 110, 116] : List UInt8)) = false := beq_eq_false_iff_ne.mpr c72
           have c72b1 : (a0.toList != ([105, 100, 101, 110, 116] : List UInt8)) = true := bne_iff_ne.mpr c72
           by_cases c81 : a0.toList = ([99, 111, 110, 116, 105, 103] : List UInt8)
           ·rw [if_pos c81] at H
            have c81b0 : (a0.toList == ([99, 111, 110, 116, 105, 103] : List UInt8)) = true := beq_iff_eq.mpr c81
            have c81b1 : (a0.toList != ([99, 111, 110, 116, 105, 103] : List UInt8)) = false := bne_eq_false_iff_eq.mpr c81
            clear c81; replace H := Option.bind_eq_some_iff.mp H; obtain ⟨t428, A820, H⟩ := H; have A82 := Aside0.mk A820; clear A820
            obtain rfl := Option.some.inj H
            go_enter Tryz.func92, Tryz.ntmps92
            go_wp2_with (first | ((with_reducible refine gate_dst (N := 3) rfl ?_); refine boxT (N := 3) (cs := #[.slice A1_0 l1_0.length c1_0]) (t := 61) ?_; intro gb416 hg w83 hbox hb; have BK416 := asT hbox; have GW416 := asT (geT hg HB.out); have GE416 := GW416; replace HB := asT (below_step (hbT HB.out) hb); clear hb hbox hg; have hcz84_0 : w83.cell? ⟨gb416, 0, none⟩ = some (.slice A1_0 l1_0.length c1_0) := (blk_cell BK416.out 0).trans rfl; have hfz84_0 := blk_frozen BK416.out 0) | ((with_reducible refine gate_callee (f := 47) rfl ?_); refine goesL_ (some 7) rfl rfl Tryz.func47 (by kernel_rfl) rfl #[.agg #[.slice A1_0 l1_0.length c1_0]] rfl eqT ?_; (with_reducible refine (impl_IsCandidate.calls k _ _ l1_0 true _ ?side1 ?side2 A3.out).mono ?_); (case side1 => exact crT HR1_0.out HB.out); (case side2 => exact HC1_0.out); rintro e w85 ⟨rfl, hb⟩; refine ⟨_, rfl, ?_⟩; replace BK416 := asT (blk_below (bkT BK416.out) hb); replace HB := asT (below_step (hbT HB.out) hb); (try clear hb); (try clear hb2); (try clear hk); (try clear hi); have hcz86_0 : w85.cell? ⟨gb416, 0, none⟩ = some (.slice A1_0 l1_0.length c1_0) := (blk_cell BK416.out 0).trans rfl; have hfz86_0 := blk_frozen BK416.out 0) | ((with_reducible refine gate_callee (f := 55) rfl ?_); refine goesL_ (some 10) rfl rfl Tryz.func55 (by kernel_rfl) rfl #[.agg #[.slice A1_0 l1_0.length c1_0]] rfl eqT ?_; (with_reducible refine (impl_OutputOf.calls k _ _ l1_0 t418 _ ?side1 ?side2 A5.out).mono ?_); (case side1 => exact crT HR1_0.out HB.out); (case side2 => exact HC1_0.out); rintro e w87 ⟨rfl, hb⟩; refine ⟨_, rfl, ?_⟩; replace BK416 := asT (blk_below (bkT BK416.out) hb); replace HB := asT (below_step (hbT HB.out) hb); (try clear hb); (try clear hb2); (try clear hk); (try clear hi); have hcz88_0 : w87.cell? ⟨gb416, 0, none⟩ = some (.slice A1_0 l1_0.length c1_0) := (blk_cell BK416.out 0).trans rfl; have hfz88_0 := blk_frozen BK416.out 0) | ((with_reducible refine gate_callee (f := 127) rfl ?_); refine goesL_ (some 51) rfl rfl Tryz.func127 (by kernel_rfl) rfl #[.agg #[.slice A1_0 l1_0.length c1_0]] rfl eqT ?_; (with_reducible refine (impl_CountBreaks.calls k _ _ l1_0 t428 _ ?side1 ?side2 A82.out).mono ?_); (case side1 => exact crT HR1_0.out HB.out); (case side2 => exact HC1_0.out); rintro e w89 ⟨rfl, hb⟩; refine ⟨_, rfl, ?_⟩; replace BK416 := asT (blk_below (bkT BK416.out) hb); replace HB := asT (below_step (hbT HB.out) hb); (try clear hb); (try clear hb2); (try clear hk); (try clear hi)))
            go_ret
            exact ⟨rlT, hbT HB.out⟩
           ·rw [if_neg c81] at H
            have c81b0 : (a0.toList == ([99, 111, 110, 116, 105, 103] : List UInt8)) = false := beq_eq_false_iff_ne.mpr c81
            have c81b1 : (a0.toList != ([99, 111, 110, 116, 105, 103] : List UInt8)) = true := bne_iff_ne.mpr c81
            obtain rfl := Option.some.inj H
            go_enter Tryz.func92, Tryz.ntmps92
            go_wp2_with (first | ((with_reducible refine gate_dst (N := 3) rfl ?_); refine boxT (N := 3) (cs := #[.slice A1_0 l1_0.length c1_0]) (t := 61) ?_; intro gb416 hg w90 hbox hb; have BK416 := asT hbox; have GW416 := asT (geT hg HB.out); have GE416 := GW416; replace HB := asT (below_step (hbT HB.out) hb); clear hb hbox hg; have hcz91_0 : w90.cell? ⟨gb416, 0, none⟩ = some (.slice A1_0 l1_0.length c1_0) := (blk_cell BK416.out 0).trans rfl; have hfz91_0 := blk_frozen BK416.out 0) | ((with_reducible refine gate_callee (f := 47) rfl ?_); refine goesL_ (some 7) rfl rfl Tryz.func47 (by kernel_rfl) rfl #[.agg #[.slice A1_0 l1_0.length c1_0]] rfl eqT ?_; (with_reducible refine (impl_IsCandidate.calls k _ _ l1_0 true _ ?side1 ?side2 A3.out).mono ?_); (case side1 => exact crT HR1_0.out HB.out); (case side2 => exact HC1_0.out); rintro e w92 ⟨rfl, hb⟩; refine ⟨_, rfl, ?_⟩; replace BK416 := asT (blk_below (bkT BK416.out) hb); replace HB := asT (below_step (hbT HB.out) hb); (try clear hb); (try clear hb2); (try clear hk); (try clear hi); have hcz93_0 : w92.cell? ⟨gb416, 0, none⟩ = some (.slice A1_0 l1_0.length c1_0) := (blk_cell BK416.out 0).trans rfl; have hfz93_0 := blk_frozen BK416.out 0) | ((with_reducible refine gate_callee (f := 55) rfl ?_); refine goesL_ (some 10) rfl rfl Tryz.func55 (by kernel_rfl) rfl #[.agg #[.slice A1_0 l1_0.length c1_0]] rfl eqT ?_; (with_reducible refine (impl_OutputOf.calls k _ _ l1_0 t418 _ ?side1 ?side2 A5.out).mono ?_); (case side1 => exact crT HR1_0.out HB.out); (case side2 => exact HC1_0.out); rintro e w94 ⟨rfl, hb⟩; refine ⟨_, rfl, ?_⟩; replace BK416 := asT (blk_below (bkT BK416.out) hb); replace HB := asT (below_step (hbT HB.out) hb); (try clear hb); (try clear hb2); (try clear hk); (try clear hi)))
            go_ret
            exact ⟨rlT, hbT HB.out⟩
 ·replace c4 := Bool.eq_false_iff.mpr c4
  subst c4; rw [if_neg (show ¬ (false = true) by decide)] at H; have H1 := H; clear H; have H := H1; clear H1
  obtain rfl := Option.some.inj H
  go_enter Tryz.func92, Tryz.ntmps92
  go_wp2_with (first | ((with_reducible refine gate_dst (N := 3) rfl ?_); refine boxT (N := 3) (cs := #[.slice A1_0 l1_0.length c1_0]) (t := 61) ?_; intro gb416 hg w95 hbox hb; have BK416 := asT hbox; have GW416 := asT (geT hg HB.out); have GE416 := GW416; replace HB := asT (below_step (hbT HB.out) hb); clear hb hbox hg; have hcz96_0 : w95.cell? ⟨gb416, 0, none⟩ = some (.slice A1_0 l1_0.length c1_0) := (blk_cell BK416.out 0).trans rfl; have hfz96_0 := blk_frozen BK416.out 0) | ((with_reducible refine gate_callee (f := 47) rfl ?_); refine goesL_ (some 7) rfl rfl Tryz.func47 (by kernel_rfl) rfl #[.agg #[.slice A1_0 l1_0.length c1_0]] rfl eqT ?_; (with_reducible refine (impl_IsCandidate.calls k _ _ l1_0 false _ ?side1 ?side2 A3.out).mono ?_); (case side1 => exact crT HR1_0.out HB.out); (case side2 => exact HC1_0.out); rintro e w97 ⟨rfl, hb⟩; refine ⟨_, rfl, ?_⟩; replace BK416 := asT (blk_below (bkT BK416.out) hb); replace HB := asT (below_step (hbT HB.out) hb); (try clear hb); (try clear hb2); (try clear hk); (try clear hi)))
  go_ret
  exact ⟨rlT, hbT HB.out⟩

/-! ### impl_ProfileOf: function 50 -/
mutual
def impl_ProfileOf.j0 : Nat → List ByteArray → Bool → List (S89) → Option (List Int)
 | 0, _, _, _ => none
 | k + 1, x0, x15, x430000 => if x15 = true then (some ([] : List Int)) else (impl_ProfileOf.l0 k (([] : List Int)) x0 (x0.length : Int) 0 x430000)
def impl_ProfileOf.l0 : Nat → List Int → List ByteArray → Int → Int → List (S89) → Option (List Int)
 | 0, _, _, _, _, _ => none
 | k + 1, x5, x17, x18, x19, x430000 => if x19 < x18 then (if 0 ≤ x19 then (if x19 < (x17.length : Int) then ((impl_ViolationsOf.f k (rdOf ByteArray.empty x17 x19) x430000).bind fun t436 => (if x5.length < 17592186044416 then (impl_ProfileOf.l0 k (x5 ++ [t436]) x17 x18 (wrap64 (x19 + 1)) x430000) else (none))) else (none)) else (none)) else (some x5)
end
def impl_ProfileOf.f (k : Nat) (l0 : List ByteArray) (l1_0 : List (S89)) : Option (List Int) := (impl_AreConstraints.f k l0).bind fun t430 => (if t430 = true then ((impl_IsCandidate.f k l1_0).bind fun t431 => (impl_ProfileOf.j0 k l0 (!t431) l1_0)) else (impl_ProfileOf.j0 k l0 true l1_0))
theorem impl_ProfileOf.mono_l : ∀ k, (∀ y0 y1 y2, LeO (impl_ProfileOf.j0 k y0 y1 y2) (impl_ProfileOf.j0 (k + 1) y0 y1 y2)) ∧ (∀ y0 y1 y2 y3 y4, LeO (impl_ProfileOf.l0 k y0 y1 y2 y3 y4) (impl_ProfileOf.l0 (k + 1) y0 y1 y2 y3 y4))
 | 0 => ⟨fun _ _ _ r h => by simp [impl_ProfileOf.j0] at h, fun _ _ _ _ _ r h => by simp [impl_ProfileOf.l0] at h⟩
 | k + 1 => by
  obtain ⟨ih0, ih1⟩ := impl_ProfileOf.mono_l k; refine ⟨?_, ?_⟩
  ·intro y0 y1 y2
   unfold impl_ProfileOf.j0
   repeat' first
   | (with_reducible exact ih0 _ _ _)
   | (with_reducible exact ih1 _ _ _ _ _)
   | (with_reducible exact impl_AreConstraints.mono _ _)
   | (with_reducible exact impl_IsCandidate.mono _ _)
   | (with_reducible exact impl_ViolationsOf.mono _ _ _)
   | (with_reducible exact LeO.refl _)
   | (with_reducible exact LeO.none _)
   | (with_reducible refine LeO.ite ?_ ?_)
   | (with_reducible refine LeO.bind ?_ (fun _ => ?_))
   | exact ih0 _ _ _
   | exact ih1 _ _ _ _ _
   | exact impl_AreConstraints.mono _ _
   | exact impl_IsCandidate.mono _ _
   | exact impl_ViolationsOf.mono _ _ _
   | exact LeO.none _
   | refine LeO.ite ?_ ?_
   | refine LeO.bind ?_ (fun _ => ?_)
  ·intro y0 y1 y2 y3 y4
   unfold impl_ProfileOf.l0
   repeat' first
   | (with_reducible exact ih0 _ _ _)
   | (with_reducible exact ih1 _ _ _ _ _)
   | (with_reducible exact impl_AreConstraints.mono _ _)
   | (with_reducible exact impl_IsCandidate.mono _ _)
   | (with_reducible exact impl_ViolationsOf.mono _ _ _)
   | (with_reducible exact LeO.refl _)
   | (with_reducible exact LeO.none _)
   | (with_reducible refine LeO.ite ?_ ?_)
   | (with_reducible refine LeO.bind ?_ (fun _ => ?_))
   | exact ih0 _ _ _
   | exact ih1 _ _ _ _ _
   | exact impl_AreConstraints.mono _ _
   | exact impl_IsCandidate.mono _ _
   | exact impl_ViolationsOf.mono _ _ _
   | exact LeO.none _
   | refine LeO.ite ?_ ?_
   | refine LeO.bind ?_ (fun _ => ?_)
theorem impl_ProfileOf.mono : ∀ a0 a1 k, LeO (impl_ProfileOf.f k a0 a1) (impl_ProfileOf.f (k + 1) a0 a1) := by
 intro a0 a1 k
 obtain ⟨ih0, ih1⟩ := impl_ProfileOf.mono_l k
 unfold impl_ProfileOf.f
 repeat' first
   | (with_reducible exact ih0 _ _ _)
   | (with_reducible exact ih1 _ _ _ _ _)
   | (with_reducible exact impl_AreConstraints.mono _ _)
   | (with_reducible exact impl_IsCandidate.mono _ _)
   | (with_reducible exact impl_ViolationsOf.mono _ _ _)
   | (with_reducible exact LeO.refl _)
   | (with_reducible exact LeO.none _)
   | (with_reducible refine LeO.ite ?_ ?_)
   | (with_reducible refine LeO.bind ?_ (fun _ => ?_))
   | exact ih0 _ _ _
   | exact ih1 _ _ _ _ _
   | exact impl_AreConstraints.mono _ _
   | exact impl_IsCandidate.mono _ _
   | exact impl_ViolationsOf.mono _ _ _
   | exact LeO.none _
   | refine LeO.ite ?_ ?_
   | refine LeO.bind ?_ (fun _ => ?_)
set_option maxHeartbeats 8000000 in
set_option maxRecDepth 100000 in
theorem impl_ProfileOf.calls (k : Nat) (A0 : Option Addr) (c0 : Nat) (l0 : List ByteArray) (A1_0 : Option Addr) (c1_0 : Nat) (l1_0 : List (S89)) (r : List Int) (w : World) (hr0 : Kd.C Kd.string w A0 l0.length l0) (hc0 : l0.length ≤ c0) (hr1_0 : Kd.C k89 w A1_0 l1_0.length l1_0) (hc1_0 : l1_0.length ≤ c1_0) (h : impl_ProfileOf.f k l0 l1_0 = some r) :
  Calls Tryz.prog 50 #[.slice A0 l0.length c0, .agg #[.slice A1_0 l1_0.length c1_0]] w fun e w' => ∃ v0_ : Value, e = .returned (v0_) ∧ Kd.R (Kd.int .i64) 3 w' w.heap.size (fun _ => True) v0_ r ∧ Below w.heap.size w w' := by
 have hu61 := Tryz.underlying61; have HR0 := Aside0.mk hr0; have HC0 := Aside0.mk hc0; clear hr0 hc0; have HR1_0 := Aside0.mk hr1_0; have HC1_0 := Aside0.mk hc1_0; clear hr1_0 hc1_0; have HB := asT (Below.refl w.heap.size w); have H := h; unfold impl_ProfileOf.f at H; clear h; have HC3 := Aside0.mk H; clear H
 go_enter Tryz.func50, Tryz.ntmps50
 go_upto_region 1 with (first | ((with_reducible refine gate_dst (N := 3) rfl ?_); refine boxT (N := 3) (cs := #[.slice A1_0 l1_0.length c1_0]) (t := 61) ?_; intro gb429 hg w4 hbox hb; have BK429 := asT hbox; have GW429 := asT (geT hg HB.out); have GE429 := GW429; replace HB := asT (below_step (hbT HB.out) hb); clear hb hbox hg))
 (try simp only [Act.put, sA, sZ, sS])
 go_cut [15] (fun v15 wc => ∃ (kq : Nat) (x15_2 : Bool), v15 = .bool x15_2 ∧ Aside0 (impl_ProfileOf.j0 kq l0 x15_2 l1_0 = some r) ∧ Aside0 (kq ≤ k) ∧ Aside0 (wc.heap[gb429]? = some (.cells #[(.slice A1_0 l1_0.length c1_0)] 61 (0, 0))) ∧ Aside0 (Below w.heap.size w wc))
 case first =>
  have H := HC3.out; clear HC3; replace H := Option.bind_eq_some_iff.mp H; obtain ⟨t430, A50, H⟩ := H; have A5 := Aside0.mk A50; clear A50
  by_cases c6 : t430 = true
  ·subst c6
   rw [if_pos rfl] at H; have H1 := H; clear H; have H := H1; clear H1; replace H := Option.bind_eq_some_iff.mp H; obtain ⟨t431, A70, H⟩ := H; have A7 := Aside0.mk A70; clear A70; have H' := Aside0.mk H; clear H
   go_wp2_with (first | ((with_reducible refine gate_callee (f := 44) rfl ?_); refine goesL_ (some 9) rfl rfl Tryz.func44 (by kernel_rfl) rfl #[.slice A0 l0.length c0] rfl eqT ?_; (with_reducible refine (impl_AreConstraints.calls k _ _ l0 true _ ?side1 ?side2 A5.out).mono ?_); (case side1 => exact crT HR0.out HB.out); (case side2 => exact HC0.out); rintro e w8 ⟨rfl, hb⟩; refine ⟨_, rfl, ?_⟩; replace BK429 := asT (blk_below (bkT BK429.out) hb); replace HB := asT (below_step (hbT HB.out) hb); (try clear hb); (try clear hb2); (try clear hk); (try clear hi); have hcz9_0 : w8.cell? ⟨gb429, 0, none⟩ = some (.slice A1_0 l1_0.length c1_0) := (blk_cell BK429.out 0).trans rfl; have hfz9_0 := blk_frozen BK429.out 0) | (go_at_call 47; (with_reducible refine (impl_IsCandidate.calls k _ _ l1_0 t431 _ ?side1 ?side2 A7.out).mono ?_); (case side1 => exact crT HR1_0.out HB.out); (case side2 => exact HC1_0.out); rintro e w10 ⟨rfl, hb⟩; replace BK429 := asT (blk_below (bkT BK429.out) hb); replace HB := asT (below_step (hbT HB.out) hb); (try clear hb); (try clear hb2); (try clear hk); (try clear hi)))
   go_meet
   case rel => exact ⟨_, (!t431), rdT, H', ⟨by first | omega | exact Nat.le_refl _⟩, ⟨by (with_reducible repeat (first | refine blk_drewN ?_ _ | refine blk_drew ?_ | refine blk_alloc ?_ _)); exact BK429.out⟩, ⟨hbT HB.out⟩⟩
  ·replace c6 := Bool.eq_false_iff.mpr c6
   subst c6; rw [if_neg (show ¬ (false = true) by decide)] at H; have H1 := H; clear H; have H := H1; clear H1; have H' := Aside0.mk H; clear H
   go_wp2_with (first | ((with_reducible refine gate_callee (f := 44) rfl ?_); refine goesL_ (some 9) rfl rfl Tryz.func44 (by kernel_rfl) rfl #[.slice A0 l0.length c0] rfl eqT ?_; (with_reducible refine (impl_AreConstraints.calls k _ _ l0 false _ ?side1 ?side2 A5.out).mono ?_); (case side1 => exact crT HR0.out HB.out); (case side2 => exact HC0.out); rintro e w11 ⟨rfl, hb⟩; refine ⟨_, rfl, ?_⟩; replace BK429 := asT (blk_below (bkT BK429.out) hb); replace HB := asT (below_step (hbT HB.out) hb); (try clear hb); (try clear hb2); (try clear hk); (try clear hi)))
   go_meet
   case rel => exact ⟨_, (true), rdT, H', ⟨by first | omega | exact Nat.le_refl _⟩, ⟨by (with_reducible repeat (first | refine blk_drewN ?_ _ | refine blk_drew ?_ | refine blk_alloc ?_ _)); exact BK429.out⟩, ⟨hbT HB.out⟩⟩
 case rest =>
  clear HC3; (try clear c1); (try clear p2); (try clear c4); (try clear c5); (try clear c6); (try clear hcz9_0); (try clear hfz9_0); obtain ⟨kq, x15_2, rfl, HA, HJ2, BK429, HB⟩ := hcut
  cases kq with
  | zero => exact absurd HA.out (by simp [impl_ProfileOf.j0])
  | succ kj2 =>
   have H := HA.out; clear HA
   simp only [impl_ProfileOf.j0] at H
   by_cases c12 : x15_2 = true
   ·subst c12
    rw [if_pos rfl] at H; have H1 := H; clear H; have H := H1; clear H1
    obtain rfl := Option.some.inj H
    go_wp2
    go_ret
    exact ⟨_, rlT, by first | exact Kd.R_nil _ _ _ _ _ | exact Kd.N_nil _ _ _ _ _ | exact Kd.V_nil _ _ _ _ _ | exact Kd.Q_nil _ _ _ _ _ | exact Kd.S_nil _ _ _ _ _, hbT HB.out⟩
   ·replace c12 := Bool.eq_false_iff.mpr c12
    subst c12; rw [if_neg (show ¬ (false = true) by decide)] at H; have H1 := H; clear H; have H := H1; clear H1; obtain ⟨y432, hy432⟩ : ∃ y_ : List Int, y_ = (([] : List Int)) := ⟨_, rfl⟩
    replace H : (impl_ProfileOf.l0 kj2 y432 l0 (l0.length : Int) 0 l1_0) = some r := by first | (rw [hy432]; with_reducible exact H) | (have H2_ := (Option.bind_some _ _).symm.trans H; rw [hy432]; with_reducible exact H2_) | (have H2_ := (Option.bind_some _ _).symm.trans H; with_reducible exact H2_) | with_reducible exact H | (rw [hy432]; exact H) | exact H
    have Ny432 := Aside0.mk hy432; clear hy432; have H' := Aside0.mk H; clear H
    go_wp2_with (first | ((with_reducible refine gate_dst (N := 16) rfl ?_); refine Kd.R_lit (Kd.int .i64) _ 3 ?hg (N := 16) ?hd (xs := ([] : List Int)) (inner := []) (ok := fun _ => True) (okp := fun _ => True) ?hr ?hp (fun _ hk => hk) trivial (Below.refl _ _) (Nat.le_refl _) (by simp) ?_; (case hd => rfl); (case hg => rfl); (case hr => first | (go_simp; done) | (go_simp; rfl)); (case hp => exact (Reps.none _ _)); intro v433 w13 ho14 hb hg_ hnew_; clear hg_ hnew_; (first | rw [← Ny432.out] at ho14 | (simp only [Int.reduceToNat] at ho14; rw [← Ny432.out] at ho14)); have HO434 := asT (Kd.R_lower ho14 (below_size (hbT HB.out))); replace BK429 := asT (blk_below (bkT BK429.out) hb); replace HB := asT (below_step (hbT HB.out) hb); clear hb ho14))
    go_loopg [5, 19] kj2 (fun kq v5 v19 w' => ∃ (x5_2 : List Int) (x19_2 : Int), v19 = .int .i64 x19_2 ∧ Aside0 (impl_ProfileOf.l0 kq x5_2 l0 (l0.length : Int) x19_2 l1_0 = some r) ∧ Aside0 (kq ≤ kj2) ∧ Aside0 (Kd.R (Kd.int .i64) 3 w' w.heap.size (fun _ => True) v5 x5_2) ∧ Aside0 (w'.heap[gb429]? = some (.cells #[(.slice A1_0 l1_0.length c1_0)] 61 (0, 0))) ∧ Aside0 (Below w.heap.size w w'))
    case atStart => exact ⟨(y432), (0), rdT, H', ⟨Nat.le_refl _⟩, ⟨by (with_reducible repeat (first | apply Kd.R_alloc | apply Kd.R_drewN | apply Kd.R_drew)); exact HO434.out⟩, ⟨by (with_reducible repeat (first | refine blk_drewN ?_ _ | refine blk_drew ?_ | refine blk_alloc ?_ _)); exact BK429.out⟩, ⟨hbT HB.out⟩⟩
    case round =>
     clear H'; (try clear c1); (try clear p2); (try clear c4); (try clear c5); (try clear c6); (try clear c12); (try clear hcz9_0); (try clear hfz9_0); (try clear p2); obtain ⟨x5_2, x19_2, rfl, HA, HK2, HO_5, BK429, HB⟩ := hrel
     cases gk with
     | zero => exact absurd HA.out (by simp [impl_ProfileOf.l0])
     | succ k2 =>
      have H := HA.out; clear HA
      simp only [impl_ProfileOf.l0] at H
      by_cases c15 : x19_2 < (l0.length : Int)
      ·rw [if_pos c15] at H
       have c15b0 : decide (x19_2 < (l0.length : Int)) = true := decide_eq_true c15
       clear c15
       by_cases c16 : 0 ≤ x19_2
       ·rw [if_pos c16] at H
        have c16b0 : decide (0 ≤ x19_2) = true := decide_eq_true c16
        clear c16
        by_cases c17 : x19_2 < (l0.length : Int)
        ·rw [if_pos c17] at H
         have c17b0 : decide (x19_2 < (l0.length : Int)) = true := decide_eq_true c17
         clear c17; replace H := Option.bind_eq_some_iff.mp H; obtain ⟨t436, A180, H⟩ := H; have A18 := Aside0.mk A180; clear A180
         by_cases c19 : x5_2.length < 17592186044416
         ·rw [if_pos c19] at H
          have LMc19 := Aside0.mk c19; clear c19; obtain ⟨y437, hy437⟩ : ∃ y_ : List Int, y_ = (x5_2 ++ [t436]) := ⟨_, rfl⟩
          replace H : (impl_ProfileOf.l0 k2 y437 l0 (l0.length : Int) (wrap64 (x19_2 + 1)) l1_0) = some r := by first | (rw [hy437]; with_reducible exact H) | (have H2_ := (Option.bind_some _ _).symm.trans H; rw [hy437]; with_reducible exact H2_) | (have H2_ := (Option.bind_some _ _).symm.trans H; with_reducible exact H2_) | with_reducible exact H | (rw [hy437]; exact H) | exact H
          have Ny437 := Aside0.mk hy437; clear hy437; have H' := Aside0.mk H; clear H
          have p435 : 0 ≤ (x19_2 : Int) := of_decide_eq_true asmT
          have q435 : x19_2 < (l0.length : Int) := of_decide_eq_true asmT
          obtain ⟨ad435, e435, hx435_0⟩ := Kd.at_string HR0.out x19_2 p435 q435
          cases e435
          replace hx435_0 := (HB.out.cell (World.block_lt_of_cell? w _ hx435_0)).trans hx435_0; replace p435 := eq_true p435; replace q435 := eq_true q435
          have hcz20_0 : wr.cell? ⟨gb429, 0, none⟩ = some (.slice A1_0 l1_0.length c1_0) := (blk_cell BK429.out 0).trans rfl
          have hfz20_0 := blk_frozen BK429.out 0
          go_wp2_with (first | ((with_reducible refine gate_callee (f := 92) rfl ?_); refine goesL_ (some 26) rfl rfl Tryz.func92 (by kernel_rfl) rfl #[.string (rdOf ByteArray.empty l0 x19_2), .agg #[.slice A1_0 l1_0.length c1_0]] rfl eqT ?_; (with_reducible refine (impl_ViolationsOf.calls k2 (rdOf ByteArray.empty l0 x19_2) _ _ l1_0 t436 _ ?side1 ?side2 A18.out).mono ?_); (case side1 => exact crT HR1_0.out HB.out); (case side2 => exact HC1_0.out); rintro e w21 ⟨rfl, hb⟩; refine ⟨_, rfl, ?_⟩; replace HO_5 := asT (Kd.R_below (roT HO_5.out) hb); replace BK429 := asT (blk_below (bkT BK429.out) hb); replace HB := asT (below_step (hbT HB.out) hb); (try clear hb); (try clear hb2); (try clear hk); (try clear hi)) | ((with_reducible refine gate_builtin (b := .append) (xs := #[.tmp 23, .tmp 27]) rfl ?_); at_builtin; refine Kd.R_append (Kd.int .i64) (w0 := w) w.heap.size rfl (.tmp 23) (.tmp 27) 44 3 (.int .i64 0) 8 rfl Tryz.underlying44 info3 rfl (by decide) (by omega) u5 x5_2 t436 [.int .i64 t436] (fun _ => True) (fun _ => False) rfl rfl ?aP (fun _ hk => hk.elim) ?aF ?aO ?aB ?aS ?aL ?_; (case aP => exact rfl); (case aB => exact (hbT HB.out)); (case aF => exact (fun _ _ => trivial)); (case aO => exact (roT HO_5.out)); (case aS => exact (below_size (hbT HB.out))); (case aL => have := LMc19.out; omega); intro v438 w22 ho hb hg hat; rw [← Ny437.out] at ho; replace BK429 := asT (blk_grown (g := gb429) (o := .cells #[.slice A1_0 l1_0.length c1_0] 61 (0, 0)) (bkT BK429.out) hg (Kd.R_ne HO_5.out BK429.out (by decide))); replace HB := asT (hb); have HO439 := asT (ho); clear HO_5 ho hb hg hat))
          go_roundg k2
          case measure => have := HJ2.out; have := HK2.out; omega
          case rel => exact ⟨(y437), (wrap64 (x19_2 + 1)), rdT, H', ⟨by have := HJ2.out; have := HK2.out; omega⟩, ⟨by (with_reducible repeat (first | apply Kd.R_alloc | apply Kd.R_drewN | apply Kd.R_drew)); exact HO439.out⟩, ⟨by (with_reducible repeat (first | refine blk_drewN ?_ _ | refine blk_drew ?_ | refine blk_alloc ?_ _)); exact BK429.out⟩, ⟨hbT HB.out⟩⟩
         ·rw [if_neg c19] at H
          exact absurd H (by simp)
        ·rw [if_neg c17] at H
         exact absurd H (by simp)
       ·rw [if_neg c16] at H
        exact absurd H (by simp)
      ·rw [if_neg c15] at H
       have c15b0 : decide (x19_2 < (l0.length : Int)) = false := decide_eq_false c15
       clear c15
       obtain rfl := Option.some.inj H
       go_wp2
       go_ret
       exact ⟨_, rlT, by (with_reducible repeat (first | apply Kd.R_alloc | apply Kd.R_drewN | apply Kd.R_drew)); exact HO_5.out, hbT HB.out⟩

end Go.Proofs.YtdamagcfmhimfadGreat.PFnExactIsTableau
