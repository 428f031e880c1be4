-- Made by gen.py (a program of this session) out of the translation; Lean checks it.
import Derived.Test.YtmfhaplhgaehhabGreatPFnExactFatalMarkx0
import Derived.Test.YtmfhaplhgaehhabGreatPFnExactFatalMarkx2
import Derived.Test.YtmfhaplhgaehhabGreatPFnExactFatalMarkx3
import Derived.Test.YtmfhaplhgaehhabGreatPFnExactFatalMarkx4
import Derived.Test.YtmfhaplhgaehhabGreatPFnExactFatalMarkx5
namespace Go.Proofs.YtmfhaplhgaehhabGreat.PFnExactFatalMark
open Go.RowKit Go.Proofs.YtmfhaplhgaehhabGreatB Go.Proofs.YtmfhaplhgaehhabGreatW.PrintWords Go.Proofs.YtmfhaplhgaehhabGreatW.PrintLast Go.Proofs.YtmfhaplhgaehhabGreatW.PrintMore
attribute [local go_sem] max2_int min2_int max_two min_two max_three min_three max_four min_four   -- for this text's walks alone
set_option linter.unusedVariables false
set_option linter.unusedSimpArgs false
mutual
def spec_CountBreaks.l0 : Nat → Int → Int → Int → List (S103) → Option (Int)
 | 0, _, _, _, _ => none
 | k + 1, x3, x4, x5, x275000 => if x5 < (x275000.length : Int) then ((spec_IsCandidate.f k x275000).bind fun t275 => (spec_CountBreaks.j1 k x3 x4 x5 t275 x275000)) else (spec_CountBreaks.j1 k x3 x4 x5 false x275000)
def spec_CountBreaks.j1 : Nat → Int → Int → Int → Bool → List (S103) → Option (Int)
 | 0, _, _, _, _, _ => none
 | k + 1, x3, x4, x5, x16, x275000 => if x16 = true then (if 0 ≤ x5 then (if x5 < (x275000.length : Int) then ((spec_l9Kept.f ((rd_T103 x275000 x5).f0) ((rd_T103 x275000 x5).f1)).bind fun t277 => (if t277 = true then (if x3 < 0 then (spec_CountBreaks.l0 k x5 x5 (wrap64 (x5 + 1)) x275000) else (spec_CountBreaks.l0 k x3 x5 (wrap64 (x5 + 1)) x275000)) else (spec_CountBreaks.l0 k x3 x4 (wrap64 (x5 + 1)) x275000))) else (none)) else (none)) else (spec_CountBreaks.l1 k x4 0 (mx 0 x3) x275000)
def spec_CountBreaks.l1 : Nat → Int → Int → Int → List (S103) → Option (Int)
 | 0, _, _, _, _ => none
 | k + 1, x4, x6, x7, x275000 => if x7 < x4 then (if 0 ≤ x7 then (if x7 < (x275000.length : Int) then ((spec_l9Kept.f ((rd_T103 x275000 x7).f0) ((rd_T103 x275000 x7).f1)).bind fun t279 => (if t279 = true then (spec_CountBreaks.l1 k x4 x6 (wrap64 (x7 + 1)) x275000) else (spec_CountBreaks.l1 k x4 (wrap64 (x6 + 1)) (wrap64 (x7 + 1)) x275000))) else (none)) else (none)) else (some x6)
end
def spec_CountBreaks.f (k : Nat) (l0_0 : List (S103)) : Option (Int) := spec_CountBreaks.l0 k (-1) (-1) 0 l0_0
theorem spec_CountBreaks.mono_l : ∀ k, (∀ y0 y1 y2 y3, LeO (spec_CountBreaks.l0 k y0 y1 y2 y3) (spec_CountBreaks.l0 (k + 1) y0 y1 y2 y3)) ∧ (∀ y0 y1 y2 y3 y4, LeO (spec_CountBreaks.j1 k y0 y1 y2 y3 y4) (spec_CountBreaks.j1 (k + 1) y0 y1 y2 y3 y4)) ∧ (∀ y0 y1 y2 y3, LeO (spec_CountBreaks.l1 k y0 y1 y2 y3) (spec_CountBreaks.l1 (k + 1) y0 y1 y2 y3))
 | 0 => ⟨fun _ _ _ _ r h => by simp [spec_CountBreaks.l0] at h, fun _ _ _ _ _ r h => by simp [spec_CountBreaks.j1] at h, fun _ _ _ _ r h => by simp [spec_CountBreaks.l1] at h⟩
 | k + 1 => by
  obtain ⟨ih0, ih1, ih2⟩ := spec_CountBreaks.mono_l k; refine ⟨?_, ?_, ?_⟩
  ·intro y0 y1 y2 y3
   unfold spec_CountBreaks.l0
   with_reducible repeat' first | exact ih0 _ _ _ _ | exact ih1 _ _ _ _ _ | exact ih2 _ _ _ _ | exact spec_IsCandidate.mono _ _ | exact LeO.refl _ | exact LeO.none _ | refine LeO.ite ?_ ?_ | refine LeO.bind ?_ (fun _ => ?_)
  ·intro y0 y1 y2 y3 y4
   unfold spec_CountBreaks.j1
   with_reducible repeat' first | exact ih0 _ _ _ _ | exact ih1 _ _ _ _ _ | exact ih2 _ _ _ _ | exact spec_IsCandidate.mono _ _ | exact LeO.refl _ | exact LeO.none _ | refine LeO.ite ?_ ?_ | refine LeO.bind ?_ (fun _ => ?_)
  ·intro y0 y1 y2 y3
   unfold spec_CountBreaks.l1
   with_reducible repeat' first | exact ih0 _ _ _ _ | exact ih1 _ _ _ _ _ | exact ih2 _ _ _ _ | exact spec_IsCandidate.mono _ _ | exact LeO.refl _ | exact LeO.none _ | refine LeO.ite ?_ ?_ | refine LeO.bind ?_ (fun _ => ?_)
theorem spec_CountBreaks.mono : ∀ a0 k, LeO (spec_CountBreaks.f k a0) (spec_CountBreaks.f (k + 1) a0) := by
 intro a0 k
 obtain ⟨ih0, ih1, ih2⟩ := spec_CountBreaks.mono_l k
 unfold spec_CountBreaks.f
 with_reducible repeat' first | exact ih0 _ _ _ _ | exact ih1 _ _ _ _ _ | exact ih2 _ _ _ _ | exact spec_IsCandidate.mono _ _ | exact LeO.refl _ | exact LeO.none _ | refine LeO.ite ?_ ?_ | refine LeO.bind ?_ (fun _ => ?_)
set_option maxHeartbeats 8000000 in
set_option maxRecDepth 100000 in
theorem spec_CountBreaks.calls (k : Nat) (A0_0 : Option Addr) (c0_0 : Nat) (l0_0 : List (S103)) (r : Int) (w : World) (hr0_0 : Kd.C k103 w A0_0 l0_0.length l0_0) (hc0_0 : l0_0.length ≤ c0_0) (h : spec_CountBreaks.f k l0_0 = some r) :
  Calls Tryz.prog 124 #[.agg #[.slice A0_0 l0_0.length c0_0]] w fun e w' => e = .returned (.int .i64 r) ∧ Below w.heap.size w w' := by
 have hu77 := Tryz.underlying77; have hu103 := Tryz.underlying103; have HR0_0 := Aside0.mk hr0_0; have HC0_0 := Aside0.mk hc0_0; clear hr0_0 hc0_0; have HB := asT (Below.refl w.heap.size w); have H := h; unfold spec_CountBreaks.f at H; clear h; have H' := Aside0.mk H; clear H
 go_enter Tryz.func124, Tryz.ntmps124
 go_wp2_with (first | ((with_reducible refine gate_dst (N := 1) rfl ?_); refine boxT (N := 1) (cs := #[.slice A0_0 l0_0.length c0_0]) (t := 77) ?_; intro gb274 hg w2 hbox hb; have BK274 := asT hbox; have GW274 := asT (geT hg HB.out); have GE274 := GW274; replace HB := hS HB hb; clear hb hbox hg))
 go_loopg [3, 4, 5] k (fun kq v3 v4 v5 w' => ∃ (x3_1 : Int) (x4_1 : Int) (x5_1 : Int), v3 = .int .i64 x3_1 ∧ v4 = .int .i64 x4_1 ∧ v5 = .int .i64 x5_1 ∧ Aside0 (spec_CountBreaks.l0 kq x3_1 x4_1 x5_1 l0_0 = some r) ∧ Aside0 (kq ≤ k) ∧ Aside0 (w'.heap[gb274]? = some (.cells #[(.slice A0_0 l0_0.length c0_0)] 77 (0, 0))) ∧ Aside0 (Below w.heap.size w w'))
 case atStart => exact ⟨((-1)), ((-1)), (0), rdT, rdT, rdT, H', ⟨Nat.le_refl _⟩, ⟨by (with_reducible repeat (first | refine blk_drewN ?_ _ | refine blk_drew ?_ | refine blk_alloc ?_ _)); exact BK274.out⟩, ⟨hbT HB.out⟩⟩
 case round =>
  clear H'; (try clear c1 p2); obtain ⟨x3_1, x4_1, x5_1, rfl, rfl, rfl, HA, HK1, BK274, HB⟩ := hrel
  cases gk with
  | zero => exact absurd HA.out (by simp [spec_CountBreaks.l0])
  | succ k1 =>
   have H := HA.out; clear HA
   simp only [spec_CountBreaks.l0] at H
   have HC3 := Aside0.mk H; clear H
   go_upto_region 4 with (fail)
   go_cut [16] (fun v16 wc => ∃ (kq : Nat) (x16_2 : Bool), v16 = .bool x16_2 ∧ Aside0 (spec_CountBreaks.j1 kq x3_1 x4_1 x5_1 x16_2 l0_0 = some r) ∧ Aside0 (kq ≤ k1) ∧ Aside0 (wc.heap[gb274]? = some (.cells #[(.slice A0_0 l0_0.length c0_0)] 77 (0, 0))) ∧ Aside0 (Below w.heap.size w wc))
   case first =>
    have H := HC3.out; clear HC3
    by_cases c4 : x5_1 < (l0_0.length : Int)
    ·rw [if_pos c4] at H
     have c4b0 : decide (x5_1 < (l0_0.length : Int)) = true := decide_eq_true c4
     clear c4
     (first | rw [c4b0] | (simp only [i64_w, i32_w]; rw [c4b0]) | skip)
     obtain ⟨t275, A5, H⟩ := be H; have H' := Aside0.mk H; clear H
     have hcz6_0 := bc0 BK274.out
     have hfz6_0 := blk_frozen BK274.out 0
     go_wp2_with (first | (go_at_call 69; (with_reducible refine (spec_IsCandidate.calls k1 _ _ l0_0 t275 _ ?side1 ?side2 A5.out).mono ?_); (case side1 => exact crT HR0_0.out HB.out); (case side2 => exact HC0_0.out); rintro e w7 ⟨rfl, hb⟩; replace BK274 := bS BK274 hb; replace HB := hS HB hb; (try clear hb hb2 hk hi)))
     go_meet
     case rel => exact ⟨_, (t275), rdT, H', ⟨by have := HK1.out; first | omega | exact Nat.le_refl _⟩, ⟨by (with_reducible repeat (first | refine blk_drewN ?_ _ | refine blk_drew ?_ | refine blk_alloc ?_ _)); exact BK274.out⟩, ⟨hbT HB.out⟩⟩
    ·rw [if_neg c4] at H
     have c4b0 : decide (x5_1 < (l0_0.length : Int)) = false := decide_eq_false c4
     clear c4
     (first | rw [c4b0] | (simp only [i64_w, i32_w]; rw [c4b0]) | skip)
     have H' := Aside0.mk H; clear H
     have hcz8_0 := bc0 BK274.out
     have hfz8_0 := blk_frozen BK274.out 0
     go_wp2
     go_meet
     case rel => exact ⟨_, (false), rdT, H', ⟨by have := HK1.out; first | omega | exact Nat.le_refl _⟩, ⟨by (with_reducible repeat (first | refine blk_drewN ?_ _ | refine blk_drew ?_ | refine blk_alloc ?_ _)); exact BK274.out⟩, ⟨hbT HB.out⟩⟩
   case rest =>
    clear HC3; (try clear c1 p2 c4 c4b0 hcz6_0 hcz8_0 hfz6_0 hfz8_0 p2); obtain ⟨kq, x16_2, rfl, HA, HJ2, BK274, HB⟩ := hcut
    cases kq with
    | zero => exact absurd HA.out (by simp [spec_CountBreaks.j1])
    | succ kj2 =>
     have H := HA.out; clear HA
     simp only [spec_CountBreaks.j1] at H
     by_cases c9 : x16_2 = true
     ·subst c9
      rw [if_pos rfl] at H; have H1 := H; clear H; have H := H1; clear H1
      by_cases c10 : 0 ≤ x5_1
      ·rw [if_pos c10] at H
       have c10b0 : decide (0 ≤ x5_1) = true := decide_eq_true c10
       clear c10
       by_cases c11 : x5_1 < (l0_0.length : Int)
       ·rw [if_pos c11] at H
        have c11b0 : decide (x5_1 < (l0_0.length : Int)) = true := decide_eq_true c11
        clear c11; obtain ⟨t277, A12, H⟩ := be H
        by_cases c13 : t277 = true
        ·subst c13
         rw [if_pos rfl] at H; have H1 := H; clear H; have H := H1; clear H1
         by_cases c14 : x3_1 < 0
         ·rw [if_pos c14] at H
          have c14b0 : decide (x3_1 < 0) = true := decide_eq_true c14
          clear c14; have H' := Aside0.mk H; clear H
          have hcz15_0 := bc0 BK274.out
          have hfz15_0 := blk_frozen BK274.out 0
          have p276 : 0 ≤ (x5_1 : Int) := of_decide_eq_true asmT
          have q276 : x5_1 < (l0_0.length : Int) := of_decide_eq_true asmT
          obtain ⟨ad276, e276, hx276_0, hx276_1⟩ := at_T103 HR0_0.out x5_1 p276 q276
          cases e276
          replace hx276_0 := hbc HB.out hx276_0; replace hx276_1 := hbc HB.out hx276_1; replace p276 := eq_true p276; replace q276 := eq_true q276
          go_wp2_with (first | ((with_reducible refine gate_callee (f := 150) rfl ?_); refine goesL_ (some 24) rfl rfl Tryz.func150 (by kernel_rfl) rfl #[.agg #[.int .u8 ((rd_T103 l0_0 x5_1).f0), .int .u8 ((rd_T103 l0_0 x5_1).f1)]] rfl eqT ?_; (with_reducible refine (spec_l9Kept.calls ((rd_T103 l0_0 x5_1).f0) ((rd_T103 l0_0 x5_1).f1) true _ A12.out).mono ?_); rintro e w16 ⟨rfl, hb⟩; refine ⟨_, rfl, ?_⟩; replace BK274 := bS BK274 hb; replace HB := hS HB hb; (try clear hb hb2 hk hi)))
          go_roundg kj2
          case measure => have := HK1.out; have := HJ2.out; omega
          case rel => exact ⟨(x5_1), (x5_1), (wrap64 (x5_1 + 1)), rdT, rdT, rdT, H', ⟨by have := HK1.out; have := HJ2.out; omega⟩, ⟨by (with_reducible repeat (first | refine blk_drewN ?_ _ | refine blk_drew ?_ | refine blk_alloc ?_ _)); exact BK274.out⟩, ⟨hbT HB.out⟩⟩
         ·rw [if_neg c14] at H
          have c14b0 : decide (x3_1 < 0) = false := decide_eq_false c14
          clear c14; have H' := Aside0.mk H; clear H
          have hcz17_0 := bc0 BK274.out
          have hfz17_0 := blk_frozen BK274.out 0
          have p276 : 0 ≤ (x5_1 : Int) := of_decide_eq_true asmT
          have q276 : x5_1 < (l0_0.length : Int) := of_decide_eq_true asmT
          obtain ⟨ad276, e276, hx276_0, hx276_1⟩ := at_T103 HR0_0.out x5_1 p276 q276
          cases e276
          replace hx276_0 := hbc HB.out hx276_0; replace hx276_1 := hbc HB.out hx276_1; replace p276 := eq_true p276; replace q276 := eq_true q276
          go_wp2_with (first | ((with_reducible refine gate_callee (f := 150) rfl ?_); refine goesL_ (some 24) rfl rfl Tryz.func150 (by kernel_rfl) rfl #[.agg #[.int .u8 ((rd_T103 l0_0 x5_1).f0), .int .u8 ((rd_T103 l0_0 x5_1).f1)]] rfl eqT ?_; (with_reducible refine (spec_l9Kept.calls ((rd_T103 l0_0 x5_1).f0) ((rd_T103 l0_0 x5_1).f1) true _ A12.out).mono ?_); rintro e w18 ⟨rfl, hb⟩; refine ⟨_, rfl, ?_⟩; replace BK274 := bS BK274 hb; replace HB := hS HB hb; (try clear hb hb2 hk hi)))
          go_roundg kj2
          case measure => have := HK1.out; have := HJ2.out; omega
          case rel => exact ⟨(x3_1), (x5_1), (wrap64 (x5_1 + 1)), rdT, rdT, rdT, H', ⟨by have := HK1.out; have := HJ2.out; omega⟩, ⟨by (with_reducible repeat (first | refine blk_drewN ?_ _ | refine blk_drew ?_ | refine blk_alloc ?_ _)); exact BK274.out⟩, ⟨hbT HB.out⟩⟩
        ·replace c13 := Bool.eq_false_iff.mpr c13
         subst c13; rw [if_neg nF] at H; have H' := Aside0.mk H; clear H
         have hcz19_0 := bc0 BK274.out
         have hfz19_0 := blk_frozen BK274.out 0
         have p276 : 0 ≤ (x5_1 : Int) := of_decide_eq_true asmT
         have q276 : x5_1 < (l0_0.length : Int) := of_decide_eq_true asmT
         obtain ⟨ad276, e276, hx276_0, hx276_1⟩ := at_T103 HR0_0.out x5_1 p276 q276
         cases e276
         replace hx276_0 := hbc HB.out hx276_0; replace hx276_1 := hbc HB.out hx276_1; replace p276 := eq_true p276; replace q276 := eq_true q276
         go_wp2_with (first | ((with_reducible refine gate_callee (f := 150) rfl ?_); refine goesL_ (some 24) rfl rfl Tryz.func150 (by kernel_rfl) rfl #[.agg #[.int .u8 ((rd_T103 l0_0 x5_1).f0), .int .u8 ((rd_T103 l0_0 x5_1).f1)]] rfl eqT ?_; (with_reducible refine (spec_l9Kept.calls ((rd_T103 l0_0 x5_1).f0) ((rd_T103 l0_0 x5_1).f1) false _ A12.out).mono ?_); rintro e w20 ⟨rfl, hb⟩; refine ⟨_, rfl, ?_⟩; replace BK274 := bS BK274 hb; replace HB := hS HB hb; (try clear hb hb2 hk hi)))
         go_roundg kj2
         case measure => have := HK1.out; have := HJ2.out; omega
         case rel => exact ⟨(x3_1), (x4_1), (wrap64 (x5_1 + 1)), rdT, rdT, rdT, H', ⟨by have := HK1.out; have := HJ2.out; omega⟩, ⟨by (with_reducible repeat (first | refine blk_drewN ?_ _ | refine blk_drew ?_ | refine blk_alloc ?_ _)); exact BK274.out⟩, ⟨hbT HB.out⟩⟩
       ·rw [if_neg c11] at H
        exact absurd H (by simp)
      ·rw [if_neg c10] at H
       exact absurd H (by simp)
     ·replace c9 := Bool.eq_false_iff.mpr c9
      subst c9; rw [if_neg nF] at H; obtain ⟨ji21, hji21⟩ : ∃ j_ : Int, (mx 0 x3_1) = j_ := ⟨_, rfl⟩
      replace H : (spec_CountBreaks.l1 kj2 x4_1 0 ji21 l0_0) = some r := by first | (rw [hji21] at H; exact H) | (simp only [hji21] at H ⊢; exact H)
      have hji21_ : (if 0 < x3_1 then x3_1 else 0) = ji21 := hji21
      have H' := Aside0.mk H; clear H
      go_wp2
      go_loopg [6, 7] kj2 (fun kq v6 v7 w' => ∃ (x6_3 : Int) (x7_3 : Int), v6 = .int .i64 x6_3 ∧ v7 = .int .i64 x7_3 ∧ Aside0 (spec_CountBreaks.l1 kq x4_1 x6_3 x7_3 l0_0 = some r) ∧ Aside0 (kq ≤ kj2) ∧ Aside0 (w'.heap[gb274]? = some (.cells #[(.slice A0_0 l0_0.length c0_0)] 77 (0, 0))) ∧ Aside0 (Below w.heap.size w w'))
      case atStart => exact ⟨(0), (ji21), rdT, (by first | rfl | (simp; done) | (simp only [← hji21] <;> (first | rfl | simp)) | (simp [*]; done)), H', ⟨Nat.le_refl _⟩, ⟨by (with_reducible repeat (first | refine blk_drewN ?_ _ | refine blk_drew ?_ | refine blk_alloc ?_ _)); exact BK274.out⟩, ⟨hbT HB.out⟩⟩
      case round =>
       clear H'; (try clear c1 p2 q2 hx2 c4 c4b0 p6 c9 c10 c10b0 c11 c11b0 c12 c13 c14 c14b0 c15 hcz15_0 hcz17_0 hcz19_0 hcz6_0 hcz8_0 hfz15_0 hfz17_0 hfz19_0 hfz6_0 hfz8_0 hx276_0 hx276_1 p2 p276 q276); obtain ⟨x6_3, x7_3, rfl, rfl, HA, HK3, BK274, HB⟩ := hrel
       cases gk with
       | zero => exact absurd HA.out (by simp [spec_CountBreaks.l1])
       | succ k3 =>
        have H := HA.out; clear HA
        simp only [spec_CountBreaks.l1] at H
        by_cases c22 : x7_3 < x4_1
        ·rw [if_pos c22] at H
         have c22b0 : decide (x7_3 < x4_1) = true := decide_eq_true c22
         clear c22
         by_cases c23 : 0 ≤ x7_3
         ·rw [if_pos c23] at H
          have c23b0 : decide (0 ≤ x7_3) = true := decide_eq_true c23
          clear c23
          by_cases c24 : x7_3 < (l0_0.length : Int)
          ·rw [if_pos c24] at H
           have c24b0 : decide (x7_3 < (l0_0.length : Int)) = true := decide_eq_true c24
           clear c24; obtain ⟨t279, A25, H⟩ := be H
           by_cases c26 : t279 = true
           ·subst c26
            rw [if_pos rfl] at H; have H' := Aside0.mk H; clear H
            have hcz27_0 := bc0 BK274.out
            have hfz27_0 := blk_frozen BK274.out 0
            have p278 : 0 ≤ (x7_3 : Int) := of_decide_eq_true asmT
            have q278 : x7_3 < (l0_0.length : Int) := of_decide_eq_true asmT
            obtain ⟨ad278, e278, hx278_0, hx278_1⟩ := at_T103 HR0_0.out x7_3 p278 q278
            cases e278
            replace hx278_0 := hbc HB.out hx278_0; replace hx278_1 := hbc HB.out hx278_1; replace p278 := eq_true p278; replace q278 := eq_true q278
            go_wp2_with (first | ((with_reducible refine gate_callee (f := 150) rfl ?_); refine goesL_ (some 41) rfl rfl Tryz.func150 (by kernel_rfl) rfl #[.agg #[.int .u8 ((rd_T103 l0_0 x7_3).f0), .int .u8 ((rd_T103 l0_0 x7_3).f1)]] rfl eqT ?_; (with_reducible refine (spec_l9Kept.calls ((rd_T103 l0_0 x7_3).f0) ((rd_T103 l0_0 x7_3).f1) true _ A25.out).mono ?_); rintro e w28 ⟨rfl, hb⟩; refine ⟨_, rfl, ?_⟩; replace BK274 := bS BK274 hb; replace HB := hS HB hb; (try clear hb hb2 hk hi)))
            go_roundg k3
            case measure => have := HK1.out; have := HJ2.out; have := HK3.out; omega
            case rel => exact ⟨(x6_3), (wrap64 (x7_3 + 1)), rdT, rdT, H', ⟨by have := HK1.out; have := HJ2.out; have := HK3.out; omega⟩, ⟨by (with_reducible repeat (first | refine blk_drewN ?_ _ | refine blk_drew ?_ | refine blk_alloc ?_ _)); exact BK274.out⟩, ⟨hbT HB.out⟩⟩
           ·replace c26 := Bool.eq_false_iff.mpr c26
            subst c26; rw [if_neg nF] at H; have H' := Aside0.mk H; clear H
            have hcz29_0 := bc0 BK274.out
            have hfz29_0 := blk_frozen BK274.out 0
            have p278 : 0 ≤ (x7_3 : Int) := of_decide_eq_true asmT
            have q278 : x7_3 < (l0_0.length : Int) := of_decide_eq_true asmT
            obtain ⟨ad278, e278, hx278_0, hx278_1⟩ := at_T103 HR0_0.out x7_3 p278 q278
            cases e278
            replace hx278_0 := hbc HB.out hx278_0; replace hx278_1 := hbc HB.out hx278_1; replace p278 := eq_true p278; replace q278 := eq_true q278
            go_wp2_with (first | ((with_reducible refine gate_callee (f := 150) rfl ?_); refine goesL_ (some 41) rfl rfl Tryz.func150 (by kernel_rfl) rfl #[.agg #[.int .u8 ((rd_T103 l0_0 x7_3).f0), .int .u8 ((rd_T103 l0_0 x7_3).f1)]] rfl eqT ?_; (with_reducible refine (spec_l9Kept.calls ((rd_T103 l0_0 x7_3).f0) ((rd_T103 l0_0 x7_3).f1) false _ A25.out).mono ?_); rintro e w30 ⟨rfl, hb⟩; refine ⟨_, rfl, ?_⟩; replace BK274 := bS BK274 hb; replace HB := hS HB hb; (try clear hb hb2 hk hi)))
            go_roundg k3
            case measure => have := HK1.out; have := HJ2.out; have := HK3.out; omega
            case rel => exact ⟨(wrap64 (x6_3 + 1)), (wrap64 (x7_3 + 1)), rdT, rdT, H', ⟨by have := HK1.out; have := HJ2.out; have := HK3.out; omega⟩, ⟨by (with_reducible repeat (first | refine blk_drewN ?_ _ | refine blk_drew ?_ | refine blk_alloc ?_ _)); exact BK274.out⟩, ⟨hbT HB.out⟩⟩
          ·rw [if_neg c24] at H
           exact absurd H (by simp)
         ·rw [if_neg c23] at H
          exact absurd H (by simp)
        ·rw [if_neg c22] at H
         have c22b0 : decide (x7_3 < x4_1) = false := decide_eq_false c22
         clear c22
         obtain rfl := Option.some.inj H
         go_wp2
         go_ret
         exact ⟨by first | rfl | (simp [errW_none, errW_some] <;> rfl) | (simp only [← hji21]; first | rfl | (simp [errW_none, errW_some] <;> rfl)) | (simp [*, errW_none, errW_some] <;> rfl), hbT HB.out⟩
def spec_ViolationsOf.f (k : Nat) (a0 : ByteArray) (l1_0 : List (S103)) : Option (Int) := (spec_IsCandidate.f k l1_0).bind fun t281 => (if t281 = true then ((spec_OutputOf.f k l1_0).bind fun t282 => (if a0.toList = ([111, 110, 115, 101, 116] : List UInt8) then ((spec_CountOnsetless.f k t282).bind fun t283 => (some t283)) else (if a0.toList = ([110, 111, 99, 111, 100, 97] : List UInt8) then ((spec_CountCodas.f k t282).bind fun t284 => (some t284)) else (if a0.toList = ([99, 108, 117, 115, 116, 101, 114] : List UInt8) then ((spec_CountClusters.f k t282).bind fun t285 => (some t285)) else (if a0.toList = ([118, 111, 105, 99, 101] : List UInt8) then ((spec_CountVoiced.f k t282).bind fun t286 => (some t286)) else (if a0.toList = ([102, 105, 110, 97, 108] : List UInt8) then ((spec_CountFinalVoiced.f k t282).bind fun t287 => (some t287)) else (if a0.toList = ([110, 97, 115, 97, 108] : List UInt8) then ((spec_CountNasalVoiceless.f k t282).bind fun t288 => (some t288)) else (if a0.toList = ([109, 97, 120] : List UInt8) then ((spec_CountDeleted.f k l1_0).bind fun t289 => (some t289)) else (if a0.toList = ([100, 101, 112] : List UInt8) then ((spec_CountInserted.f k l1_0).bind fun t290 => (some t290)) else (if a0.toList = ([105, 100, 101, 110, 116] : List UInt8) then ((spec_CountVoiceChanged.f k l1_0).bind fun t291 => (some t291)) else (if a0.toList = ([99, 111, 110, 116, 105, 103] : List UInt8) then ((spec_CountBreaks.f k l1_0).bind fun t292 => (some t292)) else (some (-1))))))))))))) else (some (-1)))
theorem spec_ViolationsOf.mono : ∀ a0 a1 k, LeO (spec_ViolationsOf.f k a0 a1) (spec_ViolationsOf.f (k + 1) a0 a1) := by
 intro a0 a1 k
 unfold spec_ViolationsOf.f
 with_reducible repeat' first | exact spec_CountBreaks.mono _ _ | exact spec_CountClusters.mono _ _ | exact spec_CountCodas.mono _ _ | exact spec_CountDeleted.mono _ _ | exact spec_CountFinalVoiced.mono _ _ | exact spec_CountInserted.mono _ _ | exact spec_CountNasalVoiceless.mono _ _ | exact spec_CountOnsetless.mono _ _ | exact spec_CountVoiceChanged.mono _ _ | exact spec_CountVoiced.mono _ _ | exact spec_IsCandidate.mono _ _ | exact spec_OutputOf.mono _ _ | exact LeO.refl _ | exact LeO.none _ | refine LeO.ite ?_ ?_ | refine LeO.bind ?_ (fun _ => ?_)
set_option maxHeartbeats 8000000 in
set_option maxRecDepth 100000 in
theorem spec_ViolationsOf.calls (k : Nat) (a0 : ByteArray) (A1_0 : Option Addr) (c1_0 : Nat) (l1_0 : List (S103)) (r : Int) (w : World) (hr1_0 : Kd.C k103 w A1_0 l1_0.length l1_0) (hc1_0 : l1_0.length ≤ c1_0) (h : spec_ViolationsOf.f k a0 l1_0 = some r) :
  Calls Tryz.prog 98 #[.string a0, .agg #[.slice A1_0 l1_0.length c1_0]] w fun e w' => e = .returned (.int .i64 r) ∧ Below w.heap.size w w' := by
 have hu77 := Tryz.underlying77; have HR1_0 := Aside0.mk hr1_0; have HC1_0 := Aside0.mk hc1_0; clear hr1_0 hc1_0; have HB := asT (Below.refl w.heap.size w); have H := h; unfold spec_ViolationsOf.f at H; clear h; obtain ⟨t281, A3, H⟩ := be H
 by_cases c4 : t281 = true
 ·subst c4
  rw [if_pos rfl] at H; obtain ⟨t282, A5, H⟩ := be H
  by_cases c6 : a0.toList = ([111, 110, 115, 101, 116] : List UInt8)
  ·rw [if_pos c6] at H
   have c6b0 : (a0.toList == ([111, 110, 115, 101, 116] : List UInt8)) = true := beq_iff_eq.mpr c6
   have c6b1 : (a0.toList != ([111, 110, 115, 101, 116] : List UInt8)) = false := bne_eq_false_iff_eq.mpr c6
   clear c6; obtain ⟨t283, A7, H⟩ := be H
   obtain rfl := Option.some.inj H
   go_enter Tryz.func98, Tryz.ntmps98
   go_wp2_with (first | ((with_reducible refine gate_dst (N := 3) rfl ?_); refine boxT (N := 3) (cs := #[.slice A1_0 l1_0.length c1_0]) (t := 77) ?_; intro gb280 hg w8 hbox hb; have BK280 := asT hbox; have GW280 := asT (geT hg HB.out); have GE280 := GW280; replace HB := hS HB hb; clear hb hbox hg; obtain ⟨hcz9_0, hfz9_0⟩ := bx1 BK280.out) | ((with_reducible refine gate_callee (f := 69) rfl ?_); refine goesL_ (some 7) rfl rfl Tryz.func69 (by kernel_rfl) rfl #[.agg #[.slice A1_0 l1_0.length c1_0]] rfl eqT ?_; (with_reducible refine (spec_IsCandidate.calls k _ _ l1_0 true _ ?side1 ?side2 A3.out).mono ?_); (case side1 => exact crT HR1_0.out HB.out); (case side2 => exact HC1_0.out); rintro e w10 ⟨rfl, hb⟩; refine ⟨_, rfl, ?_⟩; replace BK280 := bS BK280 hb; replace HB := hS HB hb; (try clear hb hb2 hk hi); obtain ⟨hcz11_0, hfz11_0⟩ := bx1 BK280.out) | ((with_reducible refine gate_callee (f := 59) rfl ?_); refine goesL_ (some 10) rfl rfl Tryz.func59 (by kernel_rfl) rfl #[.agg #[.slice A1_0 l1_0.length c1_0]] rfl eqT ?_; (with_reducible refine (spec_OutputOf.calls k _ _ l1_0 t282 _ ?side1 ?side2 A5.out).mono ?_); (case side1 => exact crT HR1_0.out HB.out); (case side2 => exact HC1_0.out); rintro e w12 ⟨rfl, hb⟩; refine ⟨_, rfl, ?_⟩; replace BK280 := bS BK280 hb; replace HB := hS HB hb; (try clear hb hb2 hk hi)) | ((with_reducible refine gate_callee (f := 115) rfl ?_); refine goesL_ (some 15) rfl rfl Tryz.func115 (by kernel_rfl) rfl #[.string t282] rfl eqT ?_; (with_reducible refine (spec_CountOnsetless.calls k t282 t283 _ A7.out).mono ?_); rintro e w' ⟨rfl, ⟨nd, rfl⟩⟩; refine ⟨_, rfl, ?_⟩))
   go_ret
   exact ⟨rlT, hbT HB.out⟩
  ·rw [if_neg c6] at H
   have c6b0 : (a0.toList == ([111, 110, 115, 101, 116] : List UInt8)) = false := beq_eq_false_iff_ne.mpr c6
   have c6b1 : (a0.toList != ([111, 110, 115, 101, 116] : List UInt8)) = true := bne_iff_ne.mpr c6
   by_cases c13 : a0.toList = ([110, 111, 99, 111, 100, 97] : List UInt8)
   ·rw [if_pos c13] at H
    have c13b0 : (a0.toList == ([110, 111, 99, 111, 100, 97] : List UInt8)) = true := beq_iff_eq.mpr c13
    have c13b1 : (a0.toList != ([110, 111, 99, 111, 100, 97] : List UInt8)) = false := bne_eq_false_iff_eq.mpr c13
    clear c13; obtain ⟨t284, A14, H⟩ := be H
    obtain rfl := Option.some.inj H
    go_enter Tryz.func98, Tryz.ntmps98
    go_wp2_with (first | ((with_reducible refine gate_dst (N := 3) rfl ?_); refine boxT (N := 3) (cs := #[.slice A1_0 l1_0.length c1_0]) (t := 77) ?_; intro gb280 hg w15 hbox hb; have BK280 := asT hbox; have GW280 := asT (geT hg HB.out); have GE280 := GW280; replace HB := hS HB hb; clear hb hbox hg; obtain ⟨hcz16_0, hfz16_0⟩ := bx1 BK280.out) | ((with_reducible refine gate_callee (f := 69) rfl ?_); refine goesL_ (some 7) rfl rfl Tryz.func69 (by kernel_rfl) rfl #[.agg #[.slice A1_0 l1_0.length c1_0]] rfl eqT ?_; (with_reducible refine (spec_IsCandidate.calls k _ _ l1_0 true _ ?side1 ?side2 A3.out).mono ?_); (case side1 => exact crT HR1_0.out HB.out); (case side2 => exact HC1_0.out); rintro e w17 ⟨rfl, hb⟩; refine ⟨_, rfl, ?_⟩; replace BK280 := bS BK280 hb; replace HB := hS HB hb; (try clear hb hb2 hk hi); obtain ⟨hcz18_0, hfz18_0⟩ := bx1 BK280.out) | ((with_reducible refine gate_callee (f := 59) rfl ?_); refine goesL_ (some 10) rfl rfl Tryz.func59 (by kernel_rfl) rfl #[.agg #[.slice A1_0 l1_0.length c1_0]] rfl eqT ?_; (with_reducible refine (spec_OutputOf.calls k _ _ l1_0 t282 _ ?side1 ?side2 A5.out).mono ?_); (case side1 => exact crT HR1_0.out HB.out); (case side2 => exact HC1_0.out); rintro e w19 ⟨rfl, hb⟩; refine ⟨_, rfl, ?_⟩; replace BK280 := bS BK280 hb; replace HB := hS HB hb; (try clear hb hb2 hk hi)) | ((with_reducible refine gate_callee (f := 116) rfl ?_); refine goesL_ (some 19) rfl rfl Tryz.func116 (by kernel_rfl) rfl #[.string t282] rfl eqT ?_; (with_reducible refine (spec_CountCodas.calls k t282 t284 _ A14.out).mono ?_); rintro e w' ⟨rfl, ⟨nd, rfl⟩⟩; refine ⟨_, rfl, ?_⟩))
    go_ret
    exact ⟨rlT, hbT HB.out⟩
   ·rw [if_neg c13] at H
    have c13b0 : (a0.toList == ([110, 111, 99, 111, 100, 97] : List UInt8)) = false := beq_eq_false_iff_ne.mpr c13
    have c13b1 : (a0.toList != ([110, 111, 99, 111, 100, 97] : List UInt8)) = true := bne_iff_ne.mpr c13
    by_cases c20 : a0.toList = ([99, 108, 117, 115, 116, 101, 114] : List UInt8)
    ·rw [if_pos c20] at H
     have c20b0 : (a0.toList == ([99, 108, 117, 115, 116, 101, 114] : List UInt8)) = true := beq_iff_eq.mpr c20
     have c20b1 : (a0.toList != ([99, 108, 117, 115, 116, 101, 114] : List UInt8)) = false := bne_eq_false_iff_eq.mpr c20
     clear c20; obtain ⟨t285, A21, H⟩ := be H
     obtain rfl := Option.some.inj H
     go_enter Tryz.func98, Tryz.ntmps98
     go_wp2_with (first | ((with_reducible refine gate_dst (N := 3) rfl ?_); refine boxT (N := 3) (cs := #[.slice A1_0 l1_0.length c1_0]) (t := 77) ?_; intro gb280 hg w22 hbox hb; have BK280 := asT hbox; have GW280 := asT (geT hg HB.out); have GE280 := GW280; replace HB := hS HB hb; clear hb hbox hg; obtain ⟨hcz23_0, hfz23_0⟩ := bx1 BK280.out) | ((with_reducible refine gate_callee (f := 69) rfl ?_); refine goesL_ (some 7) rfl rfl Tryz.func69 (by kernel_rfl) rfl #[.agg #[.slice A1_0 l1_0.length c1_0]] rfl eqT ?_; (with_reducible refine (spec_IsCandidate.calls k _ _ l1_0 true _ ?side1 ?side2 A3.out).mono ?_); (case side1 => exact crT HR1_0.out HB.out); (case side2 => exact HC1_0.out); rintro e w24 ⟨rfl, hb⟩; refine ⟨_, rfl, ?_⟩; replace BK280 := bS BK280 hb; replace HB := hS HB hb; (try clear hb hb2 hk hi); obtain ⟨hcz25_0, hfz25_0⟩ := bx1 BK280.out) | ((with_reducible refine gate_callee (f := 59) rfl ?_); refine goesL_ (some 10) rfl rfl Tryz.func59 (by kernel_rfl) rfl #[.agg #[.slice A1_0 l1_0.length c1_0]] rfl eqT ?_; (with_reducible refine (spec_OutputOf.calls k _ _ l1_0 t282 _ ?side1 ?side2 A5.out).mono ?_); (case side1 => exact crT HR1_0.out HB.out); (case side2 => exact HC1_0.out); rintro e w26 ⟨rfl, hb⟩; refine ⟨_, rfl, ?_⟩; replace BK280 := bS BK280 hb; replace HB := hS HB hb; (try clear hb hb2 hk hi)) | ((with_reducible refine gate_callee (f := 117) rfl ?_); refine goesL_ (some 23) rfl rfl Tryz.func117 (by kernel_rfl) rfl #[.string t282] rfl eqT ?_; (with_reducible refine (spec_CountClusters.calls k t282 t285 _ A21.out).mono ?_); rintro e w' ⟨rfl, ⟨nd, rfl⟩⟩; refine ⟨_, rfl, ?_⟩))
     go_ret
     exact ⟨rlT, hbT HB.out⟩
    ·rw [if_neg c20] at H
     have c20b0 : (a0.toList == ([99, 108, 117, 115, 116, 101, 114] : List UInt8)) = false := beq_eq_false_iff_ne.mpr c20
     have c20b1 : (a0.toList != ([99, 108, 117, 115, 116, 101, 114] : List UInt8)) = true := bne_iff_ne.mpr c20
     by_cases c27 : a0.toList = ([118, 111, 105, 99, 101] : List UInt8)
     ·rw [if_pos c27] at H
      have c27b0 : (a0.toList == ([118, 111, 105, 99, 101] : List UInt8)) = true := beq_iff_eq.mpr c27
      have c27b1 : (a0.toList != ([118, 111, 105, 99, 101] : List UInt8)) = false := bne_eq_false_iff_eq.mpr c27
      clear c27; obtain ⟨t286, A28, H⟩ := be H
      obtain rfl := Option.some.inj H
      go_enter Tryz.func98, Tryz.ntmps98
      go_wp2_with (first | ((with_reducible refine gate_dst (N := 3) rfl ?_); refine boxT (N := 3) (cs := #[.slice A1_0 l1_0.length c1_0]) (t := 77) ?_; intro gb280 hg w29 hbox hb; have BK280 := asT hbox; have GW280 := asT (geT hg HB.out); have GE280 := GW280; replace HB := hS HB hb; clear hb hbox hg; obtain ⟨hcz30_0, hfz30_0⟩ := bx1 BK280.out) | ((with_reducible refine gate_callee (f := 69) rfl ?_); refine goesL_ (some 7) rfl rfl Tryz.func69 (by kernel_rfl) rfl #[.agg #[.slice A1_0 l1_0.length c1_0]] rfl eqT ?_; (with_reducible refine (spec_IsCandidate.calls k _ _ l1_0 true _ ?side1 ?side2 A3.out).mono ?_); (case side1 => exact crT HR1_0.out HB.out); (case side2 => exact HC1_0.out); rintro e w31 ⟨rfl, hb⟩; refine ⟨_, rfl, ?_⟩; replace BK280 := bS BK280 hb; replace HB := hS HB hb; (try clear hb hb2 hk hi); obtain ⟨hcz32_0, hfz32_0⟩ := bx1 BK280.out) | ((with_reducible refine gate_callee (f := 59) rfl ?_); refine goesL_ (some 10) rfl rfl Tryz.func59 (by kernel_rfl) rfl #[.agg #[.slice A1_0 l1_0.length c1_0]] rfl eqT ?_; (with_reducible refine (spec_OutputOf.calls k _ _ l1_0 t282 _ ?side1 ?side2 A5.out).mono ?_); (case side1 => exact crT HR1_0.out HB.out); (case side2 => exact HC1_0.out); rintro e w33 ⟨rfl, hb⟩; refine ⟨_, rfl, ?_⟩; replace BK280 := bS BK280 hb; replace HB := hS HB hb; (try clear hb hb2 hk hi)) | ((with_reducible refine gate_callee (f := 118) rfl ?_); refine goesL_ (some 27) rfl rfl Tryz.func118 (by kernel_rfl) rfl #[.string t282] rfl eqT ?_; (with_reducible refine (spec_CountVoiced.calls k t282 t286 _ A28.out).mono ?_); rintro e w' ⟨rfl, ⟨nd, rfl⟩⟩; refine ⟨_, rfl, ?_⟩))
      go_ret
      exact ⟨rlT, hbT HB.out⟩
     ·rw [if_neg c27] at H
      have c27b0 : (a0.toList == ([118, 111, 105, 99, 101] : List UInt8)) = false := beq_eq_false_iff_ne.mpr c27
      have c27b1 : (a0.toList != ([118, 111, 105, 99, 101] : List UInt8)) = true := bne_iff_ne.mpr c27
      by_cases c34 : a0.toList = ([102, 105, 110, 97, 108] : List UInt8)
      ·rw [if_pos c34] at H
       have c34b0 : (a0.toList == ([102, 105, 110, 97, 108] : List UInt8)) = true := beq_iff_eq.mpr c34
       have c34b1 : (a0.toList != ([102, 105, 110, 97, 108] : List UInt8)) = false := bne_eq_false_iff_eq.mpr c34
       clear c34; obtain ⟨t287, A35, H⟩ := be H
       obtain rfl := Option.some.inj H
       go_enter Tryz.func98, Tryz.ntmps98
       go_wp2_with (first | ((with_reducible refine gate_dst (N := 3) rfl ?_); refine boxT (N := 3) (cs := #[.slice A1_0 l1_0.length c1_0]) (t := 77) ?_; intro gb280 hg w36 hbox hb; have BK280 := asT hbox; have GW280 := asT (geT hg HB.out); have GE280 := GW280; replace HB := hS HB hb; clear hb hbox hg; obtain ⟨hcz37_0, hfz37_0⟩ := bx1 BK280.out) | ((with_reducible refine gate_callee (f := 69) rfl ?_); refine goesL_ (some 7) rfl rfl Tryz.func69 (by kernel_rfl) rfl #[.agg #[.slice A1_0 l1_0.length c1_0]] rfl eqT ?_; (with_reducible refine (spec_IsCandidate.calls k _ _ l1_0 true _ ?side1 ?side2 A3.out).mono ?_); (case side1 => exact crT HR1_0.out HB.out); (case side2 => exact HC1_0.out); rintro e w38 ⟨rfl, hb⟩; refine ⟨_, rfl, ?_⟩; replace BK280 := bS BK280 hb; replace HB := hS HB hb; (try clear hb hb2 hk hi); obtain ⟨hcz39_0, hfz39_0⟩ := bx1 BK280.out) | ((with_reducible refine gate_callee (f := 59) rfl ?_); refine goesL_ (some 10) rfl rfl Tryz.func59 (by kernel_rfl) rfl #[.agg #[.slice A1_0 l1_0.length c1_0]] rfl eqT ?_; (with_reducible refine (spec_OutputOf.calls k _ _ l1_0 t282 _ ?side1 ?side2 A5.out).mono ?_); (case side1 => exact crT HR1_0.out HB.out); (case side2 => exact HC1_0.out); rintro e w40 ⟨rfl, hb⟩; refine ⟨_, rfl, ?_⟩; replace BK280 := bS BK280 hb; replace HB := hS HB hb; (try clear hb hb2 hk hi)) | ((with_reducible refine gate_callee (f := 119) rfl ?_); refine goesL_ (some 31) rfl rfl Tryz.func119 (by kernel_rfl) rfl #[.string t282] rfl eqT ?_; (with_reducible refine (spec_CountFinalVoiced.calls k t282 t287 _ A35.out).mono ?_); rintro e w' ⟨rfl, ⟨nd, rfl⟩⟩; refine ⟨_, rfl, ?_⟩))
       go_ret
       exact ⟨rlT, hbT HB.out⟩
      ·rw [if_neg c34] at H
       have c34b0 : (a0.toList == ([102, 105, 110, 97, 108] : List UInt8)) = false := beq_eq_false_iff_ne.mpr c34
       have c34b1 : (a0.toList != ([102, 105, 110, 97, 108] : List UInt8)) = true := bne_iff_ne.mpr c34
       by_cases c41 : a0.toList = ([110, 97, 115, 97, 108] : List UInt8)
       ·rw [if_pos c41] at H
        have c41b0 : (a0.toList == ([110, 97, 115, 97, 108] : List UInt8)) = true := beq_iff_eq.mpr c41
        have c41b1 : (a0.toList != ([110, 97, 115, 97, 108] : List UInt8)) = false := bne_eq_false_iff_eq.mpr c41
        clear c41; obtain ⟨t288, A42, H⟩ := be H
        obtain rfl := Option.some.inj H
        go_enter Tryz.func98, Tryz.ntmps98
        go_wp2_with (first | ((with_reducible refine gate_dst (N := 3) rfl ?_); refine boxT (N := 3) (cs := #[.slice A1_0 l1_0.length c1_0]) (t := 77) ?_; intro gb280 hg w43 hbox hb; have BK280 := asT hbox; have GW280 := asT (geT hg HB.out); have GE280 := GW280; replace HB := hS HB hb; clear hb hbox hg; obtain ⟨hcz44_0, hfz44_0⟩ := bx1 BK280.out) | ((with_reducible refine gate_callee (f := 69) rfl ?_); refine goesL_ (some 7) rfl rfl Tryz.func69 (by kernel_rfl) rfl #[.agg #[.slice A1_0 l1_0.length c1_0]] rfl eqT ?_; (with_reducible refine (spec_IsCandidate.calls k _ _ l1_0 true _ ?side1 ?side2 A3.out).mono ?_); (case side1 => exact crT HR1_0.out HB.out); (case side2 => exact HC1_0.out); rintro e w45 ⟨rfl, hb⟩; refine ⟨_, rfl, ?_⟩; replace BK280 := bS BK280 hb; replace HB := hS HB hb; (try clear hb hb2 hk hi); obtain ⟨hcz46_0, hfz46_0⟩ := bx1 BK280.out) | ((with_reducible refine gate_callee (f := 59) rfl ?_); refine goesL_ (some 10) rfl rfl Tryz.func59 (by kernel_rfl) rfl #[.agg #[.slice A1_0 l1_0.length c1_0]] rfl eqT ?_; (with_reducible refine (spec_OutputOf.calls k _ _ l1_0 t282 _ ?side1 ?side2 A5.out).mono ?_); (case side1 => exact crT HR1_0.out HB.out); (case side2 => exact HC1_0.out); rintro e w47 ⟨rfl, hb⟩; refine ⟨_, rfl, ?_⟩; replace BK280 := bS BK280 hb; replace HB := hS HB hb; (try clear hb hb2 hk hi)) | ((with_reducible refine gate_callee (f := 120) rfl ?_); refine goesL_ (some 35) rfl rfl Tryz.func120 (by kernel_rfl) rfl #[.string t282] rfl eqT ?_; (with_reducible refine (spec_CountNasalVoiceless.calls k t282 t288 _ A42.out).mono ?_); rintro e w' ⟨rfl, ⟨nd, rfl⟩⟩; refine ⟨_, rfl, ?_⟩))
        go_ret
        exact ⟨rlT, hbT HB.out⟩
       ·rw [if_neg c41] at H
        have c41b0 : (a0.toList == ([110, 97, 115, 97, 108] : List UInt8)) = false := beq_eq_false_iff_ne.mpr c41
        have c41b1 : (a0.toList != ([110, 97, 115, 97, 108] : List UInt8)) = true := bne_iff_ne.mpr c41
        by_cases c48 : a0.toList = ([109, 97, 120] : List UInt8)
        ·rw [if_pos c48] at H
         have c48b0 : (a0.toList == ([109, 97, 120] : List UInt8)) = true := beq_iff_eq.mpr c48
         have c48b1 : (a0.toList != ([109, 97, 120] : List UInt8)) = false := bne_eq_false_iff_eq.mpr c48
         clear c48; obtain ⟨t289, A49, H⟩ := be H
         obtain rfl := Option.some.inj H
         go_enter Tryz.func98, Tryz.ntmps98
         go_wp2_with (first | ((with_reducible refine gate_dst (N := 3) rfl ?_); refine boxT (N := 3) (cs := #[.slice A1_0 l1_0.length c1_0]) (t := 77) ?_; intro gb280 hg w50 hbox hb; have BK280 := asT hbox; have GW280 := asT (geT hg HB.out); have GE280 := GW280; replace HB := hS HB hb; clear hb hbox hg; obtain ⟨hcz51_0, hfz51_0⟩ := bx1 BK280.out) | ((with_reducible refine gate_callee (f := 69) rfl ?_); refine goesL_ (some 7) rfl rfl Tryz.func69 (by kernel_rfl) rfl #[.agg #[.slice A1_0 l1_0.length c1_0]] rfl eqT ?_; (with_reducible refine (spec_IsCandidate.calls k _ _ l1_0 true _ ?side1 ?side2 A3.out).mono ?_); (case side1 => exact crT HR1_0.out HB.out); (case side2 => exact HC1_0.out); rintro e w52 ⟨rfl, hb⟩; refine ⟨_, rfl, ?_⟩; replace BK280 := bS BK280 hb; replace HB := hS HB hb; (try clear hb hb2 hk hi); obtain ⟨hcz53_0, hfz53_0⟩ := bx1 BK280.out) | ((with_reducible refine gate_callee (f := 59) rfl ?_); refine goesL_ (some 10) rfl rfl Tryz.func59 (by kernel_rfl) rfl #[.agg #[.slice A1_0 l1_0.length c1_0]] rfl eqT ?_; (with_reducible refine (spec_OutputOf.calls k _ _ l1_0 t282 _ ?side1 ?side2 A5.out).mono ?_); (case side1 => exact crT HR1_0.out HB.out); (case side2 => exact HC1_0.out); rintro e w54 ⟨rfl, hb⟩; refine ⟨_, rfl, ?_⟩; replace BK280 := bS BK280 hb; replace HB := hS HB hb; (try clear hb hb2 hk hi); obtain ⟨hcz55_0, hfz55_0⟩ := bx1 BK280.out) | ((with_reducible refine gate_callee (f := 121) rfl ?_); refine goesL_ (some 39) rfl rfl Tryz.func121 (by kernel_rfl) rfl #[.agg #[.slice A1_0 l1_0.length c1_0]] rfl eqT ?_; (with_reducible refine (spec_CountDeleted.calls k _ _ l1_0 t289 _ ?side1 ?side2 A49.out).mono ?_); (case side1 => exact crT HR1_0.out HB.out); (case side2 => exact HC1_0.out); rintro e w56 ⟨rfl, hb⟩; refine ⟨_, rfl, ?_⟩; replace BK280 := bS BK280 hb; replace HB := hS HB hb; (try clear hb hb2 hk hi)))
         go_ret
         exact ⟨rlT, hbT HB.out⟩
        ·rw [if_neg c48] at H
         have c48b0 : (a0.toList == ([109, 97, 120] : List UInt8)) = false := beq_eq_false_iff_ne.mpr c48
         have c48b1 : (a0.toList != ([109, 97, 120] : List UInt8)) = true := bne_iff_ne.mpr c48
         by_cases c57 : a0.toList = ([100, 101, 112] : List UInt8)
         ·rw [if_pos c57] at H
          have c57b0 : (a0.toList == ([100, 101, 112] : List UInt8)) = true := beq_iff_eq.mpr c57
          have c57b1 : (a0.toList != ([100, 101, 112] : List UInt8)) = false := bne_eq_false_iff_eq.mpr c57
          clear c57; obtain ⟨t290, A58, H⟩ := be H
          obtain rfl := Option.some.inj H
          go_enter Tryz.func98, Tryz.ntmps98
          go_wp2_with (first | ((with_reducible refine gate_dst (N := 3) rfl ?_); refine boxT (N := 3) (cs := #[.slice A1_0 l1_0.length c1_0]) (t := 77) ?_; intro gb280 hg w59 hbox hb; have BK280 := asT hbox; have GW280 := asT (geT hg HB.out); have GE280 := GW280; replace HB := hS HB hb; clear hb hbox hg; obtain ⟨hcz60_0, hfz60_0⟩ := bx1 BK280.out) | ((with_reducible refine gate_callee (f := 69) rfl ?_); refine goesL_ (some 7) rfl rfl Tryz.func69 (by kernel_rfl) rfl #[.agg #[.slice A1_0 l1_0.length c1_0]] rfl eqT ?_; (with_reducible refine (spec_IsCandidate.calls k _ _ l1_0 true _ ?side1 ?side2 A3.out).mono ?_); (case side1 => exact crT HR1_0.out HB.out); (case side2 => exact HC1_0.out); rintro e w61 ⟨rfl, hb⟩; refine ⟨_, rfl, ?_⟩; replace BK280 := bS BK280 hb; replace HB := hS HB hb; (try clear hb hb2 hk hi); obtain ⟨hcz62_0, hfz62_0⟩ := bx1 BK280.out) | ((with_reducible refine gate_callee (f := 59) rfl ?_); refine goesL_ (some 10) rfl rfl Tryz.func59 (by kernel_rfl) rfl #[.agg #[.slice A1_0 l1_0.length c1_0]] rfl eqT ?_; (with_reducible refine (spec_OutputOf.calls k _ _ l1_0 t282 _ ?side1 ?side2 A5.out).mono ?_); (case side1 => exact crT HR1_0.out HB.out); (case side2 => exact HC1_0.out); rintro e w63 ⟨rfl, hb⟩; refine ⟨_, rfl, ?_⟩; replace BK280 := bS BK280 hb; replace HB := hS HB hb; (try clear hb hb2 hk hi); obtain ⟨hcz64_0, hfz64_0⟩ := bx1 BK280.out) | ((with_reducible refine gate_callee (f := 122) rfl ?_); refine goesL_ (some 43) rfl rfl Tryz.func122 (by kernel_rfl) rfl #[.agg #[.slice A1_0 l1_0.length c1_0]] rfl eqT ?_; (with_reducible refine (spec_CountInserted.calls k _ _ l1_0 t290 _ ?side1 ?side2 A58.out).mono ?_); (case side1 => exact crT HR1_0.out HB.out); (case side2 => exact HC1_0.out); rintro e w65 ⟨rfl, hb⟩; refine ⟨_, rfl, ?_⟩; replace BK280 := bS BK280 hb; replace HB := hS HB hb; (try clear hb hb2 hk hi)))
          go_ret
          exact ⟨rlT, hbT HB.out⟩
         ·rw [if_neg c57] at H
          have c57b0 : (a0.toList == ([100, 101, 112] : List UInt8)) = false := beq_eq_false_iff_ne.mpr c57
          have c57b1 : (a0.toList != ([100, 101, 112] : List UInt8)) = true := bne_iff_ne.mpr c57
          by_cases c66 : a0.toList = ([105, 100, 101, 110, 116] : List UInt8)
          ·rw [if_pos c66] at H
           have c66b0 : (a0.toList == ([105, 100, 101, 110, 116] : List UInt8)) = true := beq_iff_eq.mpr c66
           have c66b1 : (a0.toList != ([105, 100, 101, 110, 116] : List UInt8)) = false := bne_eq_false_iff_eq.mpr c66
           clear c66; obtain ⟨t291, A67, H⟩ := be H
           obtain rfl := Option.some.inj H
           go_enter Tryz.func98, Tryz.ntmps98
           go_wp2_with (first | ((with_reducible refine gate_dst (N := 3) rfl ?_); refine boxT (N := 3) (cs := #[.slice A1_0 l1_0.length c1_0]) (t := 77) ?_; intro gb280 hg w68 hbox hb; have BK280 := asT hbox; have GW280 := asT (geT hg HB.out); have GE280 := GW280; replace HB := hS HB hb; clear hb hbox hg; obtain ⟨hcz69_0, hfz69_0⟩ := bx1 BK280.out) | ((with_reducible refine gate_callee (f := 69) rfl ?_); refine goesL_ (some 7) rfl rfl Tryz.func69 (by kernel_rfl) rfl #[.agg #[.slice A1_0 l1_0.length c1_0]] rfl eqT ?_; (with_reducible refine (spec_IsCandidate.calls k _ _ l1_0 true _ ?side1 ?side2 A3.out).mono ?_); (case side1 => exact crT HR1_0.out HB.out); (case side2 => exact HC1_0.out); rintro e w70 ⟨rfl, hb⟩; refine ⟨_, rfl, ?_⟩; replace BK280 := bS BK280 hb; replace HB := hS HB hb; (try clear hb hb2 hk hi); obtain ⟨hcz71_0, hfz71_0⟩ := bx1 BK280.out) | ((with_reducible refine gate_callee (f := 59) rfl ?_); refine goesL_ (some 10) rfl rfl Tryz.func59 (by kernel_rfl) rfl #[.agg #[.slice A1_0 l1_0.length c1_0]] rfl eqT ?_; (with_reducible refine (spec_OutputOf.calls k _ _ l1_0 t282 _ ?side1 ?side2 A5.out).mono ?_); (case side1 => exact crT HR1_0.out HB.out); (case side2 => exact HC1_0.out); rintro e w72 ⟨rfl, hb⟩; refine ⟨_, rfl, ?_⟩; replace BK280 := bS BK280 hb; replace HB := hS HB hb; (try clear hb hb2 hk hi); obtain ⟨hcz73_0, hfz73_0⟩ := bx1 BK280.out) | ((with_reducible refine gate_callee (f := 123) rfl ?_); refine goesL_ (some 47) rfl rfl Tryz.func123 (by kernel_rfl) rfl #[.agg #[.slice A1_0 l1_0.length c1_0]] rfl eqT ?_; (with_reducible refine (spec_CountVoiceChanged.calls k _ _ l1_0 t291 _ ?side1 ?side2 A67.out).mono ?_); (case side1 => exact crT HR1_0.out HB.out); (case side2 => exact HC1_0.out); rintro e w74 ⟨rfl, hb⟩; refine ⟨_, rfl, ?_⟩; replace BK280 := bS BK280 hb; replace HB := hS HB hb; (try clear hb hb2 hk hi)))
           go_ret
           exact ⟨rlT, hbT HB.out⟩
          ·rw [if_neg c66] at H
           have c66b0 : (a0.toList == ([105, 100, 101, 110, 116] : List UInt8)) = false := beq_eq_false_iff_ne.mpr c66
           have c66b1 : (a0.toList != ([105, 100, 101, 110, 116] : List UInt8)) = true := bne_iff_ne.mpr c66
           by_cases c75 : a0.toList = ([99, 111, 110, 116, 105, 103] : List UInt8)
           ·rw [if_pos c75] at H
            have c75b0 : (a0.toList == ([99, 111, 110, 116, 105, 103] : List UInt8)) = true := beq_iff_eq.mpr c75
            have c75b1 : (a0.toList != ([99, 111, 110, 116, 105, 103] : List UInt8)) = false := bne_eq_false_iff_eq.mpr c75
            clear c75; obtain ⟨t292, A76, H⟩ := be H
            obtain rfl := Option.some.inj H
            go_enter Tryz.func98, Tryz.ntmps98
            go_wp2_with (first | ((with_reducible refine gate_dst (N := 3) rfl ?_); refine boxT (N := 3) (cs := #[.slice A1_0 l1_0.length c1_0]) (t := 77) ?_; intro gb280 hg w77 hbox hb; have BK280 := asT hbox; have GW280 := asT (geT hg HB.out); have GE280 := GW280; replace HB := hS HB hb; clear hb hbox hg; obtain ⟨hcz78_0, hfz78_0⟩ := bx1 BK280.out) | ((with_reducible refine gate_callee (f := 69) rfl ?_); refine goesL_ (some 7) rfl rfl Tryz.func69 (by kernel_rfl) rfl #[.agg #[.slice A1_0 l1_0.length c1_0]] rfl eqT ?_; (with_reducible refine (spec_IsCandidate.calls k _ _ l1_0 true _ ?side1 ?side2 A3.out).mono ?_); (case side1 => exact crT HR1_0.out HB.out); (case side2 => exact HC1_0.out); rintro e w79 ⟨rfl, hb⟩; refine ⟨_, rfl, ?_⟩; replace BK280 := bS BK280 hb; replace HB := hS HB hb; (try clear hb hb2 hk hi); obtain ⟨hcz80_0, hfz80_0⟩ := bx1 BK280.out) | ((with_reducible refine gate_callee (f := 59) rfl ?_); refine goesL_ (some 10) rfl rfl Tryz.func59 (by kernel_rfl) rfl #[.agg #[.slice A1_0 l1_0.length c1_0]] rfl eqT ?_; (with_reducible refine (spec_OutputOf.calls k _ _ l1_0 t282 _ ?side1 ?side2 A5.out).mono ?_); (case side1 => exact crT HR1_0.out HB.out); (case side2 => exact HC1_0.out); rintro e w81 ⟨rfl, hb⟩; refine ⟨_, rfl, ?_⟩; replace BK280 := bS BK280 hb; replace HB := hS HB hb; (try clear hb hb2 hk hi); obtain ⟨hcz82_0, hfz82_0⟩ := bx1 BK280.out) | ((with_reducible refine gate_callee (f := 124) rfl ?_); refine goesL_ (some 51) rfl rfl Tryz.func124 (by kernel_rfl) rfl #[.agg #[.slice A1_0 l1_0.length c1_0]] rfl eqT ?_; (with_reducible refine (spec_CountBreaks.calls k _ _ l1_0 t292 _ ?side1 ?side2 A76.out).mono ?_); (case side1 => exact crT HR1_0.out HB.out); (case side2 => exact HC1_0.out); rintro e w83 ⟨rfl, hb⟩; refine ⟨_, rfl, ?_⟩; replace BK280 := bS BK280 hb; replace HB := hS HB hb; (try clear hb hb2 hk hi)))
            go_ret
            exact ⟨rlT, hbT HB.out⟩
           ·rw [if_neg c75] at H
            have c75b0 : (a0.toList == ([99, 111, 110, 116, 105, 103] : List UInt8)) = false := beq_eq_false_iff_ne.mpr c75
            have c75b1 : (a0.toList != ([99, 111, 110, 116, 105, 103] : List UInt8)) = true := bne_iff_ne.mpr c75
            obtain rfl := Option.some.inj H
            go_enter Tryz.func98, Tryz.ntmps98
            go_wp2_with (first | ((with_reducible refine gate_dst (N := 3) rfl ?_); refine boxT (N := 3) (cs := #[.slice A1_0 l1_0.length c1_0]) (t := 77) ?_; intro gb280 hg w84 hbox hb; have BK280 := asT hbox; have GW280 := asT (geT hg HB.out); have GE280 := GW280; replace HB := hS HB hb; clear hb hbox hg; obtain ⟨hcz85_0, hfz85_0⟩ := bx1 BK280.out) | ((with_reducible refine gate_callee (f := 69) rfl ?_); refine goesL_ (some 7) rfl rfl Tryz.func69 (by kernel_rfl) rfl #[.agg #[.slice A1_0 l1_0.length c1_0]] rfl eqT ?_; (with_reducible refine (spec_IsCandidate.calls k _ _ l1_0 true _ ?side1 ?side2 A3.out).mono ?_); (case side1 => exact crT HR1_0.out HB.out); (case side2 => exact HC1_0.out); rintro e w86 ⟨rfl, hb⟩; refine ⟨_, rfl, ?_⟩; replace BK280 := bS BK280 hb; replace HB := hS HB hb; (try clear hb hb2 hk hi); obtain ⟨hcz87_0, hfz87_0⟩ := bx1 BK280.out) | ((with_reducible refine gate_callee (f := 59) rfl ?_); refine goesL_ (some 10) rfl rfl Tryz.func59 (by kernel_rfl) rfl #[.agg #[.slice A1_0 l1_0.length c1_0]] rfl eqT ?_; (with_reducible refine (spec_OutputOf.calls k _ _ l1_0 t282 _ ?side1 ?side2 A5.out).mono ?_); (case side1 => exact crT HR1_0.out HB.out); (case side2 => exact HC1_0.out); rintro e w88 ⟨rfl, hb⟩; refine ⟨_, rfl, ?_⟩; replace BK280 := bS BK280 hb; replace HB := hS HB hb; (try clear hb hb2 hk hi)))
            go_ret
            exact ⟨rlT, hbT HB.out⟩
 ·replace c4 := Bool.eq_false_iff.mpr c4
  subst c4; rw [if_neg nF] at H; have H1 := H; clear H; have H := H1; clear H1
  obtain rfl := Option.some.inj H
  go_enter Tryz.func98, Tryz.ntmps98
  go_wp2_with (first | ((with_reducible refine gate_dst (N := 3) rfl ?_); refine boxT (N := 3) (cs := #[.slice A1_0 l1_0.length c1_0]) (t := 77) ?_; intro gb280 hg w89 hbox hb; have BK280 := asT hbox; have GW280 := asT (geT hg HB.out); have GE280 := GW280; replace HB := hS HB hb; clear hb hbox hg; obtain ⟨hcz90_0, hfz90_0⟩ := bx1 BK280.out) | ((with_reducible refine gate_callee (f := 69) rfl ?_); refine goesL_ (some 7) rfl rfl Tryz.func69 (by kernel_rfl) rfl #[.agg #[.slice A1_0 l1_0.length c1_0]] rfl eqT ?_; (with_reducible refine (spec_IsCandidate.calls k _ _ l1_0 false _ ?side1 ?side2 A3.out).mono ?_); (case side1 => exact crT HR1_0.out HB.out); (case side2 => exact HC1_0.out); rintro e w91 ⟨rfl, hb⟩; refine ⟨_, rfl, ?_⟩; replace BK280 := bS BK280 hb; replace HB := hS HB hb; (try clear hb hb2 hk hi)))
  go_ret
  exact ⟨rlT, hbT HB.out⟩
def spec_ProfileOf.l0 : Nat → List ByteArray → List Int → Int → List (S103) → Option (List Int)
 | 0, _, _, _, _ => none
 | k + 1, x0, x5, x6, x294000 => if x6 < (x0.length : Int) then ((spec_AreConstraints.f k x0).bind fun t297 => (if t297 = true then ((spec_IsCandidate.f k x294000).bind fun t298 => (if t298 = true then (if 0 ≤ x6 then ((spec_ViolationsOf.f k (rdOf ByteArray.empty x0 x6) x294000).bind fun t300 => (if x5.length < 17592186044416 then (spec_ProfileOf.l0 k x0 (x5 ++ [t300]) (wrap64 (x6 + 1)) x294000) else (none))) else (none)) else (some x5))) else (some x5))) else (some x5)
def spec_ProfileOf.f (k : Nat) (l0 : List ByteArray) (l1_0 : List (S103)) : Option (List Int) := spec_ProfileOf.l0 k l0 (([] : List Int)) 0 l1_0
theorem spec_ProfileOf.mono_l : ∀ k, (∀ y0 y1 y2 y3, LeO (spec_ProfileOf.l0 k y0 y1 y2 y3) (spec_ProfileOf.l0 (k + 1) y0 y1 y2 y3))
 | 0 => fun _ _ _ _ r h => by simp [spec_ProfileOf.l0] at h
 | k + 1 => by
  have ih0 := spec_ProfileOf.mono_l k
  ·intro y0 y1 y2 y3
   unfold spec_ProfileOf.l0
   with_reducible repeat' first | exact ih0 _ _ _ _ | exact spec_AreConstraints.mono _ _ | exact spec_IsCandidate.mono _ _ | exact spec_ViolationsOf.mono _ _ _ | exact LeO.refl _ | exact LeO.none _ | refine LeO.ite ?_ ?_ | refine LeO.bind ?_ (fun _ => ?_)
theorem spec_ProfileOf.mono : ∀ a0 a1 k, LeO (spec_ProfileOf.f k a0 a1) (spec_ProfileOf.f (k + 1) a0 a1) := by
 intro a0 a1 k
 have ih0 := spec_ProfileOf.mono_l k
 unfold spec_ProfileOf.f
 with_reducible repeat' first | exact ih0 _ _ _ _ | exact spec_AreConstraints.mono _ _ | exact spec_IsCandidate.mono _ _ | exact spec_ViolationsOf.mono _ _ _ | exact LeO.refl _ | exact LeO.none _ | refine LeO.ite ?_ ?_ | refine LeO.bind ?_ (fun _ => ?_)
def spec_ProfileOf.T5 : Bool × List (List Nat × List Nat) := (true, [([], []), ([], []), ([], []), ([1, 2], [1, 2]), ([3], [3]), ([], []), ([4, 5], [4, 5]), ([6], [6]), ([0, 7, 6], [0, 7]), ([8, 8, 0, 1, 2, 3, 4, 5, 6, 7, 8], [0, 8])])
def spec_ProfileOf.B5 : List Nat := [0, 0, 0, 6, 14, 0, 62, 126, 255, 511]
theorem spec_ProfileOf.tab5 : rtab .any (opsOf Tryz.f70 5) = spec_ProfileOf.T5 := by kernel_rfl
theorem spec_ProfileOf.bits5 : waitsOk spec_ProfileOf.T5.2 spec_ProfileOf.B5 = true := by kernel_rfl
set_option maxHeartbeats 8000000 in
set_option maxRecDepth 100000 in
theorem spec_ProfileOf.calls (k : Nat) (A0 : Option Addr) (c0 : Nat) (l0 : List ByteArray) (A1_0 : Option Addr) (c1_0 : Nat) (l1_0 : List (S103)) (r : List Int) (w : World) (hr0 : Kd.C Kd.string w A0 l0.length l0) (hc0 : l0.length ≤ c0) (hr1_0 : Kd.C k103 w A1_0 l1_0.length l1_0) (hc1_0 : l1_0.length ≤ c1_0) (h : spec_ProfileOf.f k l0 l1_0 = some r) :
  Calls Tryz.prog 70 #[.slice A0 l0.length c0, .agg #[.slice A1_0 l1_0.length c1_0]] w fun e w' => ∃ v0_ : Value, e = .returned (v0_) ∧ Kd.R (Kd.int .i64) 3 w' w.heap.size (fun _ => True) v0_ r ∧ Below w.heap.size w w' := by
 have hu77 := Tryz.underlying77; have HR0 := Aside0.mk hr0; have HC0 := Aside0.mk hc0; clear hr0 hc0; have HR1_0 := Aside0.mk hr1_0; have HC1_0 := Aside0.mk hc1_0; clear hr1_0 hc1_0; have HB := asT (Below.refl w.heap.size w); have H := h; unfold spec_ProfileOf.f at H; clear h; obtain ⟨y294, hy294⟩ : ∃ y_ : List Int, y_ = (([] : List Int)) := ⟨_, rfl⟩
 replace H : (spec_ProfileOf.l0 k l0 y294 0 l1_0) = some r := by first | (rw [hy294]; with_reducible exact H) | (have H2_ := (Option.bind_some _ _).symm.trans H; rw [hy294]; with_reducible exact H2_) | (have H2_ := (Option.bind_some _ _).symm.trans H; with_reducible exact H2_) | with_reducible exact H | (rw [hy294]; exact H) | exact H
 have Ny294 := Aside0.mk hy294; clear hy294; have H' := Aside0.mk H; clear H
 go_enter Tryz.func70, Tryz.ntmps70
 go_wp2_with (first | ((with_reducible refine gate_dst (N := 3) rfl ?_); refine boxT (N := 3) (cs := #[.slice A1_0 l1_0.length c1_0]) (t := 77) ?_; intro gb293 hg w3 hbox hb; have BK293 := asT hbox; have GW293 := asT (geT hg HB.out); have GE293 := GW293; replace HB := hS HB hb; clear hb hbox hg) | ((with_reducible refine gate_dst (N := 7) rfl ?_); refine Kd.R_lit (Kd.int .i64) _ 3 ?hg (N := 7) ?hd (xs := ([] : List Int)) (inner := []) (ok := fun _ => True) (okp := fun _ => True) ?hr ?hp (fun _ hk => hk) trivial (Below.refl _ _) (Nat.le_refl _) (by simp) ?_; (case hd => rfl); (case hg => rfl); (case hr => first | (go_simp; done) | (go_simp; rfl)); (case hp => exact (Reps.none _ _)); intro v295 w4 ho5 hb hg_ hnew_; clear hg_ hnew_; (first | rw [← Ny294.out] at ho5 | (simp only [Int.reduceToNat] at ho5; rw [← Ny294.out] at ho5)); have HO296 := asT (Kd.R_lower ho5 (below_size (hbT HB.out))); replace BK293 := bS BK293 hb; replace HB := hS HB hb; clear hb ho5))
 go_loopg [5, 6] k (fun kq v5 v6 w' => ∃ (x5_1 : List Int) (x6_1 : Int), v6 = .int .i64 x6_1 ∧ Aside0 (spec_ProfileOf.l0 kq l0 x5_1 x6_1 l1_0 = some r) ∧ Aside0 (kq ≤ k) ∧ Aside0 (Kd.R (Kd.int .i64) 3 w' w.heap.size (fun _ => True) v5 x5_1) ∧ Aside0 (w'.heap[gb293]? = some (.cells #[(.slice A1_0 l1_0.length c1_0)] 77 (0, 0))) ∧ Aside0 (Below w.heap.size w w'))
 case atStart => exact ⟨(y294), (0), rdT, H', ⟨Nat.le_refl _⟩, ⟨by (with_reducible repeat (first | apply Kd.R_alloc | apply Kd.R_drewN | apply Kd.R_drew)); exact HO296.out⟩, ⟨by (with_reducible repeat (first | refine blk_drewN ?_ _ | refine blk_drew ?_ | refine blk_alloc ?_ _)); exact BK293.out⟩, ⟨hbT HB.out⟩⟩
 case round =>
  clear H'; (try clear c1 p2); obtain ⟨x5_1, x6_1, rfl, HA, HK1, HO_5, BK293, HB⟩ := hrel
  cases gk with
  | zero => exact absurd HA.out (by simp [spec_ProfileOf.l0])
  | succ k1 =>
   have H := HA.out; clear HA
   simp only [spec_ProfileOf.l0] at H
   by_cases c6 : x6_1 < (l0.length : Int)
   ·rw [if_pos c6] at H
    have c6b0 : decide (x6_1 < (l0.length : Int)) = true := decide_eq_true c6
    clear c6; obtain ⟨t297, A7, H⟩ := be H
    by_cases c8 : t297 = true
    ·subst c8
     rw [if_pos rfl] at H; obtain ⟨t298, A9, H⟩ := be H
     by_cases c10 : t298 = true
     ·subst c10
      rw [if_pos rfl] at H; have H1 := H; clear H; have H := H1; clear H1
      by_cases c11 : 0 ≤ x6_1
      ·rw [if_pos c11] at H
       have c11b0 : decide (0 ≤ x6_1) = true := decide_eq_true c11
       clear c11; obtain ⟨t300, A12, H⟩ := be H
       by_cases c13 : x5_1.length < 17592186044416
       ·rw [if_pos c13] at H
        have LMc13 := Aside0.mk c13; clear c13; obtain ⟨y301, hy301⟩ : ∃ y_ : List Int, y_ = (x5_1 ++ [t300]) := ⟨_, rfl⟩
        replace H : (spec_ProfileOf.l0 k1 l0 y301 (wrap64 (x6_1 + 1)) l1_0) = some r := by first | (rw [hy301]; with_reducible exact H) | (have H2_ := (Option.bind_some _ _).symm.trans H; rw [hy301]; with_reducible exact H2_) | (have H2_ := (Option.bind_some _ _).symm.trans H; with_reducible exact H2_) | with_reducible exact H | (rw [hy301]; exact H) | exact H
        have Ny301 := Aside0.mk hy301; clear hy301; have H' := Aside0.mk H; clear H
        try go_wp2_with (first | (go_at_call 65; (with_reducible refine (spec_AreConstraints.calls k1 _ _ l0 true _ ?side1 ?side2 A7.out).mono ?_); (case side1 => exact crT HR0.out HB.out); (case side2 => exact HC0.out); rintro e w14 ⟨rfl, hb⟩; replace HO_5 := asT (Kd.R_below (roT HO_5.out) hb); replace BK293 := bS BK293 hb; replace HB := hS HB hb; (try clear hb hb2 hk hi); obtain ⟨hcz15_0, hfz15_0⟩ := bx1 BK293.out) | (go_at_call 69; (with_reducible refine (spec_IsCandidate.calls k1 _ _ l1_0 true _ ?side1 ?side2 A9.out).mono ?_); (case side1 => exact crT HR1_0.out HB.out); (case side2 => exact HC1_0.out); rintro e w16 ⟨rfl, hb⟩; replace HO_5 := asT (Kd.R_below (roT HO_5.out) hb); replace BK293 := bS BK293 hb; replace HB := hS HB hb; (try clear hb hb2 hk hi)))
        replace HO_5 := asT (Kd.R_drew HO_5.out); replace BK293 := asT (blk_drew BK293.out); replace HB := asT (below_drew1 HB.out)
        have p299 : 0 ≤ (x6_1 : Int) := of_decide_eq_true asmT
        have q299 : x6_1 < (l0.length : Int) := of_decide_eq_true asmT
        obtain ⟨ad299, e299, hx299_0⟩ := Kd.at_string HR0.out x6_1 p299 q299; have hw299_0 := hx299_0
        cases e299
        replace hx299_0 := hbc HB.out hx299_0; replace p299 := eq_true p299; replace q299 := eq_true q299
        refine start_ (n := 10) (S := fun w' => w'.cell? ⟨gb293, 0, none⟩ = some (.slice A1_0 l1_0.length c1_0) ∧ w'.cell? (ad299.add (x6_1).toNat) = some (.string (rdOf ByteArray.empty l0 x6_1))) (ds := []) (bA 10 0) (by kernel_rfl) rfl rfl ⟨bc0 BK293.out, (hbc HB.out hw299_0 :)⟩ (fun hHeld => ?_); refine with_tabW spec_ProfileOf.tab5 spec_ProfileOf.bits5 (fun HT_ HW_ => ?_)
        generalize w16.drew = w17 at HO_5 BK293 HB hx299_0 hHeld ⊢
        refine pA 0 22 10 1 HT_.out ?_ rfl rfl; refine pA 1 23 10 3 HT_.out ?_ rfl rfl; refine pA 2 24 10 7 HT_.out ?_ rfl rfl; refine pA 3 25 10 15 HT_.out ?_ rfl rfl; refine tA 4 26 10 31 HT_.out HW_.out hHeld ?_ rfl rfl; refine tA 5 27 10 63 HT_.out HW_.out hHeld ?_ rfl rfl
        refine oA 6 28 10 127 HT_.out (fun K hK => ?_) rfl rfl
        refine goes_ Tryz.func98 (by kernel_rfl) rfl #[.string (rdOf ByteArray.empty l0 x6_1), .agg #[.slice A1_0 l1_0.length c1_0]] (by rfl) rfl rfl eqT ?_
        (with_reducible refine (spec_ViolationsOf.calls k1 (rdOf ByteArray.empty l0 x6_1) _ _ l1_0 t300 _ ?side1 ?side2 A12.out).mono ?_); (case side1 => exact crT HR1_0.out HB.out); (case side2 => exact HC1_0.out); rintro e w18 ⟨rfl, hb⟩; refine ⟨_, rfl, ?_⟩; replace HO_5 := asT (Kd.R_below (roT HO_5.out) hb); replace BK293 := bS BK293 hb; replace HB := hS HB hb; (try clear hb hb2 hk hi)
        refine hK.out _ _ ⟨bc0 BK293.out, (hbc HB.out hw299_0 :)⟩ (fun hHeld => ?_)
        clear hK K
        refine nB 28 ?_ rfl
        refine oA 7 29 10 255 HT_.out (fun K hK => ?_) rfl rfl
        refine value_ (w1 := ?_) (v := ?_) (by rfl) rfl ?_ ?_
        rotate_left 2
        ·go_simp
         constructor
         ·rfl
         ·rfl
        refine hK.out _ _ ⟨(blk_cell (blk_alloc BK293.out _) 0).trans rfl, (World.cell?_alloc_lt _ _ _ (World.block_lt_of_cell? _ _ (((HB.out.cell (World.block_lt_of_cell? w _ hw299_0)).trans hw299_0)))).trans (((HB.out.cell (World.block_lt_of_cell? w _ hw299_0)).trans hw299_0))⟩ (fun hHeld => ?_)
        clear hK K
        refine nB 29 ?_ rfl
        refine oA 8 30 10 511 HT_.out (fun K hK => ?_) rfl rfl
        refine Kd.R_append_step (Kd.int .i64) (w0 := w) w.heap.size (by rfl) (.tmp 22) (.tmp 29) 28 3 (.int .i64 0) 8 rfl Tryz.underlying28 info3 rfl (by decide) (by omega) u5 x5_1 t300 [.int .i64 t300] (fun _ => True) (fun _ => False) rfl rfl ?aP (fun _ hk => hk.elim) ?aF ?aO ?aB ?aS ?aL ?_
        (case aP => exact rfl)
        (case aB => exact (hbT HB.out))
        (case aF => exact (fun _ _ => trivial))
        (case aO => exact (roT HO_5.out))
        (case aS => exact (below_size (hbT HB.out)))
        (case aL => have := LMc13.out; omega)
        intro v302 w19 ho hb hg hat
        rw [← Ny301.out] at ho; replace BK293 := asT (blk_grown (g := gb293) (o := .cells #[.slice A1_0 l1_0.length c1_0] 77 (0, 0)) (bkT BK293.out) hg (Kd.R_ne HO_5.out BK293.out (by decide))); replace HB := asT (hb); have HO303 := asT (ho); clear HO_5 ho hb hg hat
        refine hK.out _ _ ⟨bc0 BK293.out, (hbc HB.out hw299_0 :)⟩ (fun hHeld => ?_)
        clear hK K
        refine nB 30 ?_ rfl; refine pA 9 5 10 1023 HT_.out ?_ rfl rfl
        refine done_ (done_of HT_.out (by kernel_rfl)) ?_
        try go_wp2
        go_roundg k1
        case measure => have := HK1.out; omega
        case rel => exact ⟨(y301), (wrap64 (x6_1 + 1)), rdT, H', ⟨by have := HK1.out; omega⟩, ⟨by (with_reducible repeat (first | apply Kd.R_alloc | apply Kd.R_drewN | apply Kd.R_drew)); exact HO303.out⟩, ⟨by (with_reducible repeat (first | refine blk_drewN ?_ _ | refine blk_drew ?_ | refine blk_alloc ?_ _)); exact BK293.out⟩, ⟨hbT HB.out⟩⟩
       ·rw [if_neg c13] at H
        exact absurd H (by simp)
      ·rw [if_neg c11] at H
       exact absurd H (by simp)
     ·replace c10 := Bool.eq_false_iff.mpr c10
      subst c10; rw [if_neg nF] at H; have H1 := H; clear H; have H := H1; clear H1
      obtain rfl := Option.some.inj H
      go_wp2_with (first | (go_at_call 65; (with_reducible refine (spec_AreConstraints.calls k1 _ _ l0 true _ ?side1 ?side2 A7.out).mono ?_); (case side1 => exact crT HR0.out HB.out); (case side2 => exact HC0.out); rintro e w20 ⟨rfl, hb⟩; replace HO_5 := asT (Kd.R_below (roT HO_5.out) hb); replace BK293 := bS BK293 hb; replace HB := hS HB hb; (try clear hb hb2 hk hi); obtain ⟨hcz21_0, hfz21_0⟩ := bx1 BK293.out) | (go_at_call 69; (with_reducible refine (spec_IsCandidate.calls k1 _ _ l1_0 false _ ?side1 ?side2 A9.out).mono ?_); (case side1 => exact crT HR1_0.out HB.out); (case side2 => exact HC1_0.out); rintro e w22 ⟨rfl, hb⟩; replace HO_5 := asT (Kd.R_below (roT HO_5.out) hb); replace BK293 := bS BK293 hb; replace HB := hS HB hb; (try clear hb hb2 hk hi)))
      go_ret
      exact ⟨_, rlT, by (with_reducible repeat (first | apply Kd.R_alloc | apply Kd.R_drewN | apply Kd.R_drew)); exact HO_5.out, hbT HB.out⟩
    ·replace c8 := Bool.eq_false_iff.mpr c8
     subst c8; rw [if_neg nF] at H; have H1 := H; clear H; have H := H1; clear H1
     obtain rfl := Option.some.inj H
     go_wp2_with (first | (go_at_call 65; (with_reducible refine (spec_AreConstraints.calls k1 _ _ l0 false _ ?side1 ?side2 A7.out).mono ?_); (case side1 => exact crT HR0.out HB.out); (case side2 => exact HC0.out); rintro e w23 ⟨rfl, hb⟩; replace HO_5 := asT (Kd.R_below (roT HO_5.out) hb); replace BK293 := bS BK293 hb; replace HB := hS HB hb; (try clear hb hb2 hk hi)))
     go_ret
     exact ⟨_, rlT, by (with_reducible repeat (first | apply Kd.R_alloc | apply Kd.R_drewN | apply Kd.R_drew)); exact HO_5.out, hbT HB.out⟩
   ·rw [if_neg c6] at H
    have c6b0 : decide (x6_1 < (l0.length : Int)) = false := decide_eq_false c6
    clear c6
    obtain rfl := Option.some.inj H
    go_wp2
    go_ret
    exact ⟨_, rlT, by (with_reducible repeat (first | apply Kd.R_alloc | apply Kd.R_drewN | apply Kd.R_drew)); exact HO_5.out, hbT HB.out⟩
mutual
def spec_IsTableau.j0 : Nat → Bool → ByteArray → List ByteArray → List (S77) → List (List Int) → Option (Bool)
 | 0, _, _, _, _, _ => none
 | k + 1, x29, x305000, x305001, x305002, x305003 => if x29 = true then (some false) else (spec_IsTableau.l0 k 0 x305000 x305001 x305002 x305003)
def spec_IsTableau.l0 : Nat → Int → ByteArray → List ByteArray → List (S77) → List (List Int) → Option (Bool)
 | 0, _, _, _, _, _ => none
 | k + 1, x3, x305000, x305001, x305002, x305003 => if x3 < (x305002.length : Int) then (if 0 ≤ x3 then ((spec_InputOf.f k ((rd_T77 x305002 x3).f0)).bind fun t309 => (if t309.toList = x305000.toList then ((spec_IsCandidate.f k ((rd_T77 x305002 x3).f0)).bind fun t311 => (if t311 = true then (if x3 < (x305003.length : Int) then ((spec_ProfileOf.f k x305001 ((rd_T77 x305002 x3).f0)).bind fun t314 => ((spec_l11Same.f k (rd_L6 x305003 x3) t314).bind fun t317 => (if t317 = true then (spec_IsTableau.l0 k (wrap64 (x3 + 1)) x305000 x305001 x305002 x305003) else (some false)))) else (none)) else (some false))) else (some false))) else (none)) else (some true)
end
def spec_IsTableau.f (k : Nat) (a0_0 : ByteArray) (l0_1 : List ByteArray) (l0_2 : List (S77)) (l0_3 : List (List Int)) : Option (Bool) := (spec_AreConstraints.f k l0_1).bind fun t305 => (if t305 = true then ((spec_IsForm.f k a0_0).bind fun t306 => (if t306 = true then ((spec_l1In.f (l0_2.length : Int) 1 250).bind fun t307 => (if t307 = true then (spec_IsTableau.j0 k ((l0_3.length : Int) != (l0_2.length : Int)) a0_0 l0_1 l0_2 l0_3) else (spec_IsTableau.j0 k true a0_0 l0_1 l0_2 l0_3))) else (spec_IsTableau.j0 k true a0_0 l0_1 l0_2 l0_3))) else (spec_IsTableau.j0 k true a0_0 l0_1 l0_2 l0_3))
theorem spec_IsTableau.mono_l : ∀ k, (∀ y0 y1 y2 y3 y4, LeO (spec_IsTableau.j0 k y0 y1 y2 y3 y4) (spec_IsTableau.j0 (k + 1) y0 y1 y2 y3 y4)) ∧ (∀ y0 y1 y2 y3 y4, LeO (spec_IsTableau.l0 k y0 y1 y2 y3 y4) (spec_IsTableau.l0 (k + 1) y0 y1 y2 y3 y4))
 | 0 => ⟨fun _ _ _ _ _ r h => by simp [spec_IsTableau.j0] at h, fun _ _ _ _ _ r h => by simp [spec_IsTableau.l0] at h⟩
 | k + 1 => by
  obtain ⟨ih0, ih1⟩ := spec_IsTableau.mono_l k; refine ⟨?_, ?_⟩
  ·intro y0 y1 y2 y3 y4
   unfold spec_IsTableau.j0
   with_reducible repeat' first | exact ih0 _ _ _ _ _ | exact ih1 _ _ _ _ _ | exact spec_AreConstraints.mono _ _ | exact spec_InputOf.mono _ _ | exact spec_IsCandidate.mono _ _ | exact spec_IsForm.mono _ _ | exact spec_ProfileOf.mono _ _ _ | exact spec_l11Same.mono _ _ _ | exact LeO.refl _ | exact LeO.none _ | refine LeO.ite ?_ ?_ | refine LeO.bind ?_ (fun _ => ?_)
  ·intro y0 y1 y2 y3 y4
   unfold spec_IsTableau.l0
   with_reducible repeat' first | exact ih0 _ _ _ _ _ | exact ih1 _ _ _ _ _ | exact spec_AreConstraints.mono _ _ | exact spec_InputOf.mono _ _ | exact spec_IsCandidate.mono _ _ | exact spec_IsForm.mono _ _ | exact spec_ProfileOf.mono _ _ _ | exact spec_l11Same.mono _ _ _ | exact LeO.refl _ | exact LeO.none _ | refine LeO.ite ?_ ?_ | refine LeO.bind ?_ (fun _ => ?_)
theorem spec_IsTableau.mono : ∀ a0 a1 a2 a3 k, LeO (spec_IsTableau.f k a0 a1 a2 a3) (spec_IsTableau.f (k + 1) a0 a1 a2 a3) := by
 intro a0 a1 a2 a3 k
 obtain ⟨ih0, ih1⟩ := spec_IsTableau.mono_l k
 unfold spec_IsTableau.f
 with_reducible repeat' first | exact ih0 _ _ _ _ _ | exact ih1 _ _ _ _ _ | exact spec_AreConstraints.mono _ _ | exact spec_InputOf.mono _ _ | exact spec_IsCandidate.mono _ _ | exact spec_IsForm.mono _ _ | exact spec_ProfileOf.mono _ _ _ | exact spec_l11Same.mono _ _ _ | exact LeO.refl _ | exact LeO.none _ | refine LeO.ite ?_ ?_ | refine LeO.bind ?_ (fun _ => ?_)
def spec_IsTableau.T6 : Bool × List (List Nat × List Nat) := (true, [([], []), ([0], [0]), ([], []), ([1, 2], [1, 2]), ([3], [3]), ([4], [4]), ([], []), ([6], [6]), ([5, 7], [5, 7]), ([8, 5], [8]), ([9], [9]), ([10, 9], [9, 10]), ([9], [9]), ([11, 12, 9], [9, 11, 12]), ([13, 9], [9, 13]), ([14, 9, 9], [9, 14]), ([15, 9], [9, 15]), ([9, 16], [9, 16]), ([17, 15], [17]), ([18], [18]), ([19, 18], [18, 19]), ([18], [18]), ([20, 21, 18], [18, 20, 21]), ([22, 18], [18, 22]), ([18], [18]), ([24, 18], [18, 24]), ([18], [18]), ([26, 18], [18, 26]), ([18], [18]), ([27, 28, 18], [18, 27, 28]), ([29, 18], [18, 29]), ([25, 30, 18, 18], [18, 25, 30]), ([23, 31, 31, 18], [18, 23, 31]), ([32, 18], [18, 32]), ([18, 33], [18, 33])])
def spec_IsTableau.B6 : List Nat := [0, 1, 0, 7, 15, 31, 0, 64, 255, 511, 1023, 2047, 1023, 8191, 16383, 32767, 65535, 131071, 262143, 524287, 1048575, 524287, 4194303, 8388607, 524287, 17301503, 524287, 67633151, 524287, 470286335, 1007157247, 2131230719, 4294967295, 8589934591, 17179869183]
theorem spec_IsTableau.tab6 : rtab .any (opsOf Tryz.f35 6) = spec_IsTableau.T6 := by kernel_rfl
theorem spec_IsTableau.bits6 : waitsOk spec_IsTableau.T6.2 spec_IsTableau.B6 = true := by kernel_rfl
set_option maxHeartbeats 8000000 in
set_option maxRecDepth 100000 in
theorem spec_IsTableau.calls (k : Nat) (a0_0 : ByteArray) (A0_1 : Option Addr) (c0_1 : Nat) (l0_1 : List ByteArray) (A0_2 : Option Addr) (c0_2 : Nat) (l0_2 : List (S77)) (A0_3 : Option Addr) (c0_3 : Nat) (l0_3 : List (List Int)) (r : Bool) (w : World) (hr0_1 : Kd.C Kd.string w A0_1 l0_1.length l0_1) (hc0_1 : l0_1.length ≤ c0_1) (hr0_2 : Kd.C k77 w A0_2 l0_2.length l0_2) (hc0_2 : l0_2.length ≤ c0_2) (hr0_3 : Kd.C (Kd.slice 3 (Kd.int .i64)) w A0_3 l0_3.length l0_3) (hc0_3 : l0_3.length ≤ c0_3) (h : spec_IsTableau.f k a0_0 l0_1 l0_2 l0_3 = some r) :
  Calls Tryz.prog 35 #[.agg #[.string a0_0, .slice A0_1 l0_1.length c0_1, .slice A0_2 l0_2.length c0_2, .slice A0_3 l0_3.length c0_3]] w fun e w' => e = .returned (.bool r) ∧ Below w.heap.size w w' := by
 have hu32 := Tryz.underlying32; have hu77 := Tryz.underlying77; have HR0_1 := Aside0.mk hr0_1; have HC0_1 := Aside0.mk hc0_1; clear hr0_1 hc0_1; have HR0_2 := Aside0.mk hr0_2; have HC0_2 := Aside0.mk hc0_2; clear hr0_2 hc0_2; have HR0_3 := Aside0.mk hr0_3; have HC0_3 := Aside0.mk hc0_3; clear hr0_3 hc0_3; have HB := asT (Below.refl w.heap.size w); have H := h; unfold spec_IsTableau.f at H; clear h; have HC2 := Aside0.mk H; clear H
 go_enter Tryz.func35, Tryz.ntmps35
 go_upto_region 1 with (first | ((with_reducible refine gate_dst (N := 1) rfl ?_); (try (refine gate_guard (by rfl) ?_; dsimp only)); refine boxT (N := 1) (cs := #[.string a0_0, .slice A0_1 l0_1.length c0_1, .slice A0_2 l0_2.length c0_2, .slice A0_3 l0_3.length c0_3]) (t := 32) ?_; intro gb304 hg w3 hbox hb; have BK304 := asT hbox; have GW304 := asT (geT hg HB.out); have GE304 := GW304; replace HB := hS HB hb; clear hb hbox hg))
 (try simp only [Act.put, sA, sZ, sS])
 go_cut [29] (fun v29 wc => ∃ (kq : Nat) (x29_1 : Bool), v29 = .bool x29_1 ∧ Aside0 (spec_IsTableau.j0 kq x29_1 a0_0 l0_1 l0_2 l0_3 = some r) ∧ Aside0 (kq ≤ k) ∧ Aside0 (wc.heap[gb304]? = some (.cells #[.string a0_0, (.slice A0_1 l0_1.length c0_1), (.slice A0_2 l0_2.length c0_2), (.slice A0_3 l0_3.length c0_3)] 32 (0, 0))) ∧ Aside0 (Below w.heap.size w wc))
 case first =>
  have H := HC2.out; clear HC2; obtain ⟨t305, A4, H⟩ := be H
  by_cases c5 : t305 = true
  ·subst c5
   rw [if_pos rfl] at H; obtain ⟨t306, A6, H⟩ := be H
   by_cases c7 : t306 = true
   ·subst c7
    rw [if_pos rfl] at H; obtain ⟨t307, A8, H⟩ := be H
    by_cases c9 : t307 = true
    ·subst c9
     rw [if_pos rfl] at H; have H' := Aside0.mk H; clear H
     have hcz10_0 := bc0 BK304.out
     have hcz10_1 := bc1 BK304.out
     have hcz10_2 := bc2 BK304.out
     have hcz10_3 := bc3 BK304.out
     have hfz10_0 := blk_frozen BK304.out 0; have hfz10_1 := blk_frozen BK304.out 1; have hfz10_2 := blk_frozen BK304.out 2; have hfz10_3 := blk_frozen BK304.out 3
     go_wp2_with (first | ((with_reducible refine gate_callee (f := 65) rfl ?_); refine goesL_ (some 6) rfl rfl Tryz.func65 (by kernel_rfl) rfl #[.slice A0_1 l0_1.length c0_1] rfl eqT ?_; (with_reducible refine (spec_AreConstraints.calls k _ _ l0_1 true _ ?side1 ?side2 A4.out).mono ?_); (case side1 => exact crT HR0_1.out HB.out); (case side2 => exact HC0_1.out); rintro e w11 ⟨rfl, hb⟩; refine ⟨_, rfl, ?_⟩; replace BK304 := bS BK304 hb; replace HB := hS HB hb; (try clear hb hb2 hk hi); obtain ⟨hcz12_0, hcz12_1, hcz12_2, hcz12_3, hfz12_0, hfz12_1, hfz12_2, hfz12_3⟩ := bx4 BK304.out) | (go_at_call 66; (with_reducible refine (spec_IsForm.calls k a0_0 true _ A6.out).mono ?_); rintro e w' ⟨rfl, ⟨nd, rfl⟩⟩) | (go_at_call 67; (with_reducible refine (spec_l1In.calls (l0_2.length : Int) 1 250 true _ A8.out).mono ?_); rintro e w' ⟨rfl, ⟨nd, rfl⟩⟩))
     go_meet
     case rel => exact ⟨_, (((l0_3.length : Int) != (l0_2.length : Int))), rdT, H', ⟨by first | omega | exact Nat.le_refl _⟩, ⟨by (with_reducible repeat (first | refine blk_drewN ?_ _ | refine blk_drew ?_ | refine blk_alloc ?_ _)); exact BK304.out⟩, ⟨hbT HB.out⟩⟩
    ·replace c9 := Bool.eq_false_iff.mpr c9
     subst c9; rw [if_neg nF] at H; have H' := Aside0.mk H; clear H
     have hcz13_0 := bc0 BK304.out
     have hcz13_1 := bc1 BK304.out
     have hcz13_2 := bc2 BK304.out
     have hcz13_3 := bc3 BK304.out
     have hfz13_0 := blk_frozen BK304.out 0; have hfz13_1 := blk_frozen BK304.out 1; have hfz13_2 := blk_frozen BK304.out 2; have hfz13_3 := blk_frozen BK304.out 3
     go_wp2_with (first | ((with_reducible refine gate_callee (f := 65) rfl ?_); refine goesL_ (some 6) rfl rfl Tryz.func65 (by kernel_rfl) rfl #[.slice A0_1 l0_1.length c0_1] rfl eqT ?_; (with_reducible refine (spec_AreConstraints.calls k _ _ l0_1 true _ ?side1 ?side2 A4.out).mono ?_); (case side1 => exact crT HR0_1.out HB.out); (case side2 => exact HC0_1.out); rintro e w14 ⟨rfl, hb⟩; refine ⟨_, rfl, ?_⟩; replace BK304 := bS BK304 hb; replace HB := hS HB hb; (try clear hb hb2 hk hi); obtain ⟨hcz15_0, hcz15_1, hcz15_2, hcz15_3, hfz15_0, hfz15_1, hfz15_2, hfz15_3⟩ := bx4 BK304.out) | (go_at_call 66; (with_reducible refine (spec_IsForm.calls k a0_0 true _ A6.out).mono ?_); rintro e w' ⟨rfl, ⟨nd, rfl⟩⟩) | (go_at_call 67; (with_reducible refine (spec_l1In.calls (l0_2.length : Int) 1 250 false _ A8.out).mono ?_); rintro e w' ⟨rfl, ⟨nd, rfl⟩⟩))
     go_meet
     case rel => exact ⟨_, (true), rdT, H', ⟨by first | omega | exact Nat.le_refl _⟩, ⟨by (with_reducible repeat (first | refine blk_drewN ?_ _ | refine blk_drew ?_ | refine blk_alloc ?_ _)); exact BK304.out⟩, ⟨hbT HB.out⟩⟩
   ·replace c7 := Bool.eq_false_iff.mpr c7
    subst c7; rw [if_neg nF] at H; have H' := Aside0.mk H; clear H
    have hcz16_0 := bc0 BK304.out
    have hcz16_1 := bc1 BK304.out
    have hcz16_2 := bc2 BK304.out
    have hcz16_3 := bc3 BK304.out
    have hfz16_0 := blk_frozen BK304.out 0; have hfz16_1 := blk_frozen BK304.out 1; have hfz16_2 := blk_frozen BK304.out 2; have hfz16_3 := blk_frozen BK304.out 3
    go_wp2_with (first | ((with_reducible refine gate_callee (f := 65) rfl ?_); refine goesL_ (some 6) rfl rfl Tryz.func65 (by kernel_rfl) rfl #[.slice A0_1 l0_1.length c0_1] rfl eqT ?_; (with_reducible refine (spec_AreConstraints.calls k _ _ l0_1 true _ ?side1 ?side2 A4.out).mono ?_); (case side1 => exact crT HR0_1.out HB.out); (case side2 => exact HC0_1.out); rintro e w17 ⟨rfl, hb⟩; refine ⟨_, rfl, ?_⟩; replace BK304 := bS BK304 hb; replace HB := hS HB hb; (try clear hb hb2 hk hi); obtain ⟨hcz18_0, hcz18_1, hcz18_2, hcz18_3, hfz18_0, hfz18_1, hfz18_2, hfz18_3⟩ := bx4 BK304.out) | (go_at_call 66; (with_reducible refine (spec_IsForm.calls k a0_0 false _ A6.out).mono ?_); rintro e w' ⟨rfl, ⟨nd, rfl⟩⟩))
    go_meet
    case rel => exact ⟨_, (true), rdT, H', ⟨by first | omega | exact Nat.le_refl _⟩, ⟨by (with_reducible repeat (first | refine blk_drewN ?_ _ | refine blk_drew ?_ | refine blk_alloc ?_ _)); exact BK304.out⟩, ⟨hbT HB.out⟩⟩
  ·replace c5 := Bool.eq_false_iff.mpr c5
   subst c5; rw [if_neg nF] at H; have H' := Aside0.mk H; clear H
   have hcz19_0 := bc0 BK304.out
   have hcz19_1 := bc1 BK304.out
   have hcz19_2 := bc2 BK304.out
   have hcz19_3 := bc3 BK304.out
   have hfz19_0 := blk_frozen BK304.out 0; have hfz19_1 := blk_frozen BK304.out 1; have hfz19_2 := blk_frozen BK304.out 2; have hfz19_3 := blk_frozen BK304.out 3
   go_wp2_with (first | ((with_reducible refine gate_callee (f := 65) rfl ?_); refine goesL_ (some 6) rfl rfl Tryz.func65 (by kernel_rfl) rfl #[.slice A0_1 l0_1.length c0_1] rfl eqT ?_; (with_reducible refine (spec_AreConstraints.calls k _ _ l0_1 false _ ?side1 ?side2 A4.out).mono ?_); (case side1 => exact crT HR0_1.out HB.out); (case side2 => exact HC0_1.out); rintro e w20 ⟨rfl, hb⟩; refine ⟨_, rfl, ?_⟩; replace BK304 := bS BK304 hb; replace HB := hS HB hb; (try clear hb hb2 hk hi)))
   go_meet
   case rel => exact ⟨_, (true), rdT, H', ⟨by first | omega | exact Nat.le_refl _⟩, ⟨by (with_reducible repeat (first | refine blk_drewN ?_ _ | refine blk_drew ?_ | refine blk_alloc ?_ _)); exact BK304.out⟩, ⟨hbT HB.out⟩⟩
 case rest =>
  clear HC2; (try clear p2 c3 c5 c6 c7 c9 hcz10_0 hcz10_1 hcz10_2 hcz10_3 hcz12_0 hcz12_1 hcz12_2 hcz12_3 hcz13_0 hcz13_1 hcz13_2 hcz13_3 hcz15_0 hcz15_1 hcz15_2 hcz15_3 hcz16_0 hcz16_1 hcz16_2 hcz16_3 hcz18_0 hcz18_1 hcz18_2 hcz18_3 hcz19_0 hcz19_1 hcz19_2 hcz19_3 hfz10_0 hfz10_1 hfz10_2 hfz10_3 hfz12_0 hfz12_1 hfz12_2 hfz12_3 hfz13_0 hfz13_1 hfz13_2 hfz13_3 hfz15_0 hfz15_1 hfz15_2 hfz15_3 hfz16_0 hfz16_1 hfz16_2 hfz16_3 hfz18_0 hfz18_1 hfz18_2 hfz18_3 hfz19_0 hfz19_1 hfz19_2 hfz19_3); obtain ⟨kq, x29_1, rfl, HA, HJ1, BK304, HB⟩ := hcut
  cases kq with
  | zero => exact absurd HA.out (by simp [spec_IsTableau.j0])
  | succ kj1 =>
   have H := HA.out; clear HA
   simp only [spec_IsTableau.j0] at H
   by_cases c21 : x29_1 = true
   ·subst c21
    rw [if_pos rfl] at H; have H1 := H; clear H; have H := H1; clear H1
    obtain rfl := Option.some.inj H
    go_wp2
    go_ret
    exact ⟨rlT, hbT HB.out⟩
   ·replace c21 := Bool.eq_false_iff.mpr c21
    subst c21; rw [if_neg nF] at H; have H' := Aside0.mk H; clear H
    go_wp2
    go_loopg [3] kj1 (fun kq v3 w' => ∃ (x3_2 : Int), v3 = .int .i64 x3_2 ∧ Aside0 (spec_IsTableau.l0 kq x3_2 a0_0 l0_1 l0_2 l0_3 = some r) ∧ Aside0 (kq ≤ kj1) ∧ Aside0 (w'.heap[gb304]? = some (.cells #[.string a0_0, (.slice A0_1 l0_1.length c0_1), (.slice A0_2 l0_2.length c0_2), (.slice A0_3 l0_3.length c0_3)] 32 (0, 0))) ∧ Aside0 (Below w.heap.size w w'))
    case atStart => exact ⟨(0), rdT, H', ⟨Nat.le_refl _⟩, ⟨by (with_reducible repeat (first | refine blk_drewN ?_ _ | refine blk_drew ?_ | refine blk_alloc ?_ _)); exact BK304.out⟩, ⟨hbT HB.out⟩⟩
    case round =>
     clear H'; (try clear c2 p2 c3 c5 c6 c7 c9 c21 hcz10_0 hcz10_1 hcz10_2 hcz10_3 hcz12_0 hcz12_1 hcz12_2 hcz12_3 hcz13_0 hcz13_1 hcz13_2 hcz13_3 hcz15_0 hcz15_1 hcz15_2 hcz15_3 hcz16_0 hcz16_1 hcz16_2 hcz16_3 hcz18_0 hcz18_1 hcz18_2 hcz18_3 hcz19_0 hcz19_1 hcz19_2 hcz19_3 hfz10_0 hfz10_1 hfz10_2 hfz10_3 hfz12_0 hfz12_1 hfz12_2 hfz12_3 hfz13_0 hfz13_1 hfz13_2 hfz13_3 hfz15_0 hfz15_1 hfz15_2 hfz15_3 hfz16_0 hfz16_1 hfz16_2 hfz16_3 hfz18_0 hfz18_1 hfz18_2 hfz18_3 hfz19_0 hfz19_1 hfz19_2 hfz19_3 p2); obtain ⟨x3_2, rfl, HA, HK2, BK304, HB⟩ := hrel
     cases gk with
     | zero => exact absurd HA.out (by simp [spec_IsTableau.l0])
     | succ k2 =>
      have H := HA.out; clear HA
      simp only [spec_IsTableau.l0] at H
      by_cases c22 : x3_2 < (l0_2.length : Int)
      ·rw [if_pos c22] at H
       have c22b0 : decide (x3_2 < (l0_2.length : Int)) = true := decide_eq_true c22
       clear c22
       by_cases c23 : 0 ≤ x3_2
       ·rw [if_pos c23] at H
        have c23b0 : decide (0 ≤ x3_2) = true := decide_eq_true c23
        clear c23; obtain ⟨t309, A24, H⟩ := be H
        by_cases c25 : t309.toList = a0_0.toList
        ·rw [if_pos c25] at H
         have c25b0 : (t309.toList == a0_0.toList) = true := beq_iff_eq.mpr c25
         have c25b1 : (t309.toList != a0_0.toList) = false := bne_eq_false_iff_eq.mpr c25
         clear c25; obtain ⟨t311, A26, H⟩ := be H
         by_cases c27 : t311 = true
         ·subst c27
          rw [if_pos rfl] at H; have H1 := H; clear H; have H := H1; clear H1
          by_cases c28 : x3_2 < (l0_3.length : Int)
          ·rw [if_pos c28] at H
           have c28b0 : decide (x3_2 < (l0_3.length : Int)) = true := decide_eq_true c28
           clear c28; obtain ⟨t314, A29, H⟩ := be H; obtain ⟨t317, A30, H⟩ := be H
           by_cases c31 : t317 = true
           ·subst c31
            rw [if_pos rfl] at H; have H' := Aside0.mk H; clear H
            have hcz32_0 := bc0 BK304.out
            have hcz32_1 := bc1 BK304.out
            have hcz32_2 := bc2 BK304.out
            have hcz32_3 := bc3 BK304.out
            have hfz32_0 := blk_frozen BK304.out 0; have hfz32_1 := blk_frozen BK304.out 1; have hfz32_2 := blk_frozen BK304.out 2; have hfz32_3 := blk_frozen BK304.out 3
            try go_wp2
            replace BK304 := asT (blk_drew BK304.out); replace HB := asT (below_drew1 HB.out)
            have p308 : 0 ≤ (x3_2 : Int) := of_decide_eq_true asmT
            have q308 : x3_2 < (l0_2.length : Int) := of_decide_eq_true asmT
            obtain ⟨ad308, A308_0, c308_0, e308, hx308_0, hl308_0, hi308_0⟩ := at_T77 HR0_2.out x3_2 p308 q308; have hw308_0 := hx308_0
            cases e308
            replace hx308_0 := hbc HB.out hx308_0; have HR308_0 := Aside0.mk hi308_0; have HC308_0 := Aside0.mk hl308_0; clear hi308_0 hl308_0; replace p308 := eq_true p308; replace q308 := eq_true q308
            have p310 : 0 ≤ (x3_2 : Int) := of_decide_eq_true asmT
            have q310 : x3_2 < (l0_2.length : Int) := of_decide_eq_true asmT
            obtain ⟨ad310, A310_0, c310_0, e310, hx310_0, hl310_0, hi310_0⟩ := at_T77 HR0_2.out x3_2 p310 q310; have hw310_0 := hx310_0
            obtain rfl : ad308 = ad310 := (by injection e310)
            obtain ⟨rfl, rfl⟩ : A308_0 = A310_0 ∧ c308_0 = c310_0 := sameT hw308_0 hw310_0; replace hx310_0 := hbc HB.out hx310_0; have HR310_0 := Aside0.mk hi310_0; have HC310_0 := Aside0.mk hl310_0; clear hi310_0 hl310_0; replace p310 := eq_true p310; replace q310 := eq_true q310
            have p312 : 0 ≤ (x3_2 : Int) := of_decide_eq_true asmT
            have q312 : x3_2 < (l0_3.length : Int) := of_decide_eq_true asmT
            obtain ⟨ad312, A312_0, c312_0, e312, hx312_0, hl312_0, hi312_0⟩ := at_L6 HR0_3.out x3_2 p312 q312; have hw312_0 := hx312_0
            cases e312
            replace hx312_0 := hbc HB.out hx312_0; have HR312_0 := Aside0.mk hi312_0; have HC312_0 := Aside0.mk hl312_0; clear hi312_0 hl312_0; replace p312 := eq_true p312; replace q312 := eq_true q312
            have p313 : 0 ≤ (x3_2 : Int) := of_decide_eq_true asmT
            have q313 : x3_2 < (l0_2.length : Int) := of_decide_eq_true asmT
            obtain ⟨ad313, A313_0, c313_0, e313, hx313_0, hl313_0, hi313_0⟩ := at_T77 HR0_2.out x3_2 p313 q313; have hw313_0 := hx313_0
            obtain rfl : ad308 = ad313 := (by injection e313)
            obtain ⟨rfl, rfl⟩ : A308_0 = A313_0 ∧ c308_0 = c313_0 := sameT hw308_0 hw313_0; replace hx313_0 := hbc HB.out hx313_0; have HR313_0 := Aside0.mk hi313_0; have HC313_0 := Aside0.mk hl313_0; clear hi313_0 hl313_0; replace p313 := eq_true p313; replace q313 := eq_true q313
            refine start_ (n := 35) (S := fun w' => w'.cell? ⟨gb304, 0, none⟩ = some (.string a0_0) ∧ w'.cell? ⟨gb304, 1, none⟩ = some (.slice A0_1 l0_1.length c0_1) ∧ w'.cell? ⟨gb304, 2, none⟩ = some (.slice (some ad308) l0_2.length c0_2) ∧ w'.cell? ⟨gb304, 3, none⟩ = some (.slice (some ad312) l0_3.length c0_3) ∧ w'.cell? (ad308.add (x3_2).toNat) = some (.slice A308_0 ((rd_T77 l0_2 x3_2).f0).length c308_0) ∧ w'.cell? (ad308.add (x3_2).toNat) = some (.slice A308_0 ((rd_T77 l0_2 x3_2).f0).length c308_0) ∧ w'.cell? (ad312.add (x3_2).toNat) = some (.slice A312_0 (rd_L6 l0_3 x3_2).length c312_0) ∧ w'.cell? (ad308.add (x3_2).toNat) = some (.slice A308_0 ((rd_T77 l0_2 x3_2).f0).length c308_0)) (ds := []) (bA 35 0) (by kernel_rfl) rfl rfl ⟨bc0 BK304.out, bc1 BK304.out, bc2 BK304.out, bc3 BK304.out, (hbc HB.out hw308_0 :), (hbc HB.out hw310_0 :), (hbc HB.out hw312_0 :), (hbc HB.out hw313_0 :)⟩ (fun hHeld => ?_); refine with_tabW spec_IsTableau.tab6 spec_IsTableau.bits6 (fun HT_ HW_ => ?_)
            generalize wr.drew = w33 at BK304 HB HR308_0 HR310_0 HR312_0 HR313_0 hx308_0 hx310_0 hx312_0 hx313_0 hHeld ⊢
            refine pA 0 37 35 1 HT_.out ?_ rfl rfl; refine pA 2 39 35 5 HT_.out ?_ rfl rfl; refine pA 6 43 35 69 HT_.out ?_ rfl rfl; refine tA 1 38 35 71 HT_.out HW_.out hHeld ?_ rfl rfl; refine pA 3 40 35 79 HT_.out ?_ rfl rfl; refine tA 4 41 35 95 HT_.out HW_.out hHeld ?_ rfl rfl; refine tA 7 44 35 223 HT_.out HW_.out hHeld ?_ rfl rfl
            refine oA 5 42 35 255 HT_.out (fun K hK => ?_) rfl rfl
            refine goes_ Tryz.func68 (by kernel_rfl) rfl #[.agg #[.slice A308_0 ((rd_T77 l0_2 x3_2).f0).length c308_0]] (by rfl) rfl rfl eqT ?_
            (with_reducible refine (spec_InputOf.calls k2 _ _ ((rd_T77 l0_2 x3_2).f0) t309 _ ?side1 ?side2 A24.out).mono ?_); (case side1 => exact crT HR308_0.out HB.out); (case side2 => exact HC308_0.out); rintro e w34 ⟨rfl, hb⟩; refine ⟨_, rfl, ?_⟩; replace BK304 := bS BK304 hb; replace HB := hS HB hb; (try clear hb hb2 hk hi)
            refine hK.out _ _ ⟨bc0 BK304.out, bc1 BK304.out, bc2 BK304.out, bc3 BK304.out, (hbc HB.out hw308_0 :), (hbc HB.out hw310_0 :), (hbc HB.out hw312_0 :), (hbc HB.out hw313_0 :)⟩ (fun hHeld => ?_)
            clear hK K
            refine nB 42 ?_ rfl; refine pA 8 45 35 511 HT_.out ?_ rfl rfl; refine pA 9 46 35 1023 HT_.out ?_ rfl rfl; refine pA 10 47 35 2047 HT_.out ?_ rfl rfl; refine pA 12 49 35 6143 HT_.out ?_ rfl rfl; refine tA 11 48 35 8191 HT_.out HW_.out hHeld ?_ rfl rfl; refine pA 13 50 35 16383 HT_.out ?_ rfl rfl; refine tA 14 51 35 32767 HT_.out HW_.out hHeld ?_ rfl rfl
            refine oA 15 52 35 65535 HT_.out (fun K hK => ?_) rfl rfl
            refine goes_ Tryz.func69 (by kernel_rfl) rfl #[.agg #[.slice A308_0 ((rd_T77 l0_2 x3_2).f0).length c308_0]] (by rfl) rfl rfl eqT ?_
            (with_reducible refine (spec_IsCandidate.calls k2 _ _ ((rd_T77 l0_2 x3_2).f0) true _ ?side1 ?side2 A26.out).mono ?_); (case side1 => exact crT HR310_0.out HB.out); (case side2 => exact HC310_0.out); rintro e w35 ⟨rfl, hb⟩; refine ⟨_, rfl, ?_⟩; replace BK304 := bS BK304 hb; replace HB := hS HB hb; (try clear hb hb2 hk hi)
            refine hK.out _ _ ⟨bc0 BK304.out, bc1 BK304.out, bc2 BK304.out, bc3 BK304.out, (hbc HB.out hw308_0 :), (hbc HB.out hw310_0 :), (hbc HB.out hw312_0 :), (hbc HB.out hw313_0 :)⟩ (fun hHeld => ?_)
            clear hK K
            refine nB 52 ?_ rfl; refine pA 16 53 35 131071 HT_.out ?_ rfl rfl; refine pA 17 54 35 262143 HT_.out ?_ rfl rfl; refine pA 18 55 35 524287 HT_.out ?_ rfl rfl; refine pA 19 56 35 1048575 HT_.out ?_ rfl rfl; refine pA 21 58 35 3145727 HT_.out ?_ rfl rfl; refine pA 24 61 35 19922943 HT_.out ?_ rfl rfl; refine pA 26 63 35 87031807 HT_.out ?_ rfl rfl; refine pA 28 65 35 355467263 HT_.out ?_ rfl rfl; refine tA 20 57 35 356515839 HT_.out HW_.out hHeld ?_ rfl rfl; refine pA 22 59 35 360710143 HT_.out ?_ rfl rfl; refine tA 23 60 35 369098751 HT_.out HW_.out hHeld ?_ rfl rfl; refine tA 25 62 35 402653183 HT_.out HW_.out hHeld ?_ rfl rfl; refine tA 27 64 35 536870911 HT_.out HW_.out hHeld ?_ rfl rfl; refine pA 29 66 35 1073741823 HT_.out ?_ rfl rfl; refine tA 30 67 35 2147483647 HT_.out HW_.out hHeld ?_ rfl rfl
            refine oA 31 68 35 4294967295 HT_.out (fun K hK => ?_) rfl rfl
            refine goes_ Tryz.func70 (by kernel_rfl) rfl #[.slice A0_1 l0_1.length c0_1, .agg #[.slice A308_0 ((rd_T77 l0_2 x3_2).f0).length c308_0]] (by rfl) rfl rfl eqT ?_
            (with_reducible refine (spec_ProfileOf.calls k2 _ _ l0_1 _ _ ((rd_T77 l0_2 x3_2).f0) t314 _ ?side1 ?side2 ?side3 ?side4 A29.out).mono ?_); (case side1 => exact crT HR0_1.out HB.out); (case side2 => exact HC0_1.out); (case side3 => exact crT HR313_0.out HB.out); (case side4 => exact HC313_0.out); rintro e w36 ⟨v315, rfl, ho0, hb⟩; refine ⟨_, rfl, ?_⟩; have HO316 := asT (Kd.R_lower ho0 (below_size (hbT HB.out))); replace BK304 := bS BK304 hb; replace HB := hS HB hb; (try clear hb hb2 hk hi ho0); obtain ⟨Ao37, co37, eo37⟩ := Kd.R_slice HO316.out; (first | subst eo37 | (injection eo37 with f1_ f2_ f3_; have f4_ := f1_.symm; have f5_ := f3_.symm; clear f1_ f2_ f3_; subst f4_; subst f5_))
            refine hK.out _ _ ⟨bc0 BK304.out, bc1 BK304.out, bc2 BK304.out, bc3 BK304.out, (hbc HB.out hw308_0 :), (hbc HB.out hw310_0 :), (hbc HB.out hw312_0 :), (hbc HB.out hw313_0 :)⟩ (fun hHeld => ?_)
            clear hK K
            refine nB 68 ?_ rfl
            refine oA 32 69 35 8589934591 HT_.out (fun K hK => ?_) rfl rfl
            refine goes_ Tryz.func36 (by kernel_rfl) rfl #[.slice A312_0 (rd_L6 l0_3 x3_2).length c312_0, .slice Ao37 t314.length co37] (by rfl) rfl rfl eqT ?_
            (with_reducible refine (spec_l11Same.calls k2 _ _ (rd_L6 l0_3 x3_2) _ _ t314 true _ ?side1 ?side2 ?side3 ?side4 A30.out).mono ?_); (case side1 => exact crT HR312_0.out HB.out); (case side2 => exact HC312_0.out); (case side3 => repeat (first | exact (Kd.R_reads' HO316.out).2.2 | (with_reducible refine Kd.C_alloc ?_ _) | (with_reducible refine Kd.C_drewN ?_ _) | (with_reducible refine Kd.C_drew ?_))); (case side4 => exact (Kd.R_reads' HO316.out).2.1); rintro e w' ⟨rfl, ⟨nd, rfl⟩⟩; refine ⟨_, rfl, ?_⟩
            refine hK.out _ _ ⟨bc0 BK304.out, bc1 BK304.out, bc2 BK304.out, bc3 BK304.out, (hbc HB.out hw308_0 :), (hbc HB.out hw310_0 :), (hbc HB.out hw312_0 :), (hbc HB.out hw313_0 :)⟩ (fun hHeld => ?_)
            clear hK K
            refine nB 69 ?_ rfl; refine pA 33 70 35 17179869183 HT_.out ?_ rfl rfl; refine pA 34 71 35 34359738367 HT_.out ?_ rfl rfl
            refine done_ (done_of HT_.out (by kernel_rfl)) ?_
            try go_wp2
            go_roundg k2
            case measure => have := HJ1.out; have := HK2.out; omega
            case rel => exact ⟨(wrap64 (x3_2 + 1)), rdT, H', ⟨by have := HJ1.out; have := HK2.out; omega⟩, ⟨by (with_reducible repeat (first | refine blk_drewN ?_ _ | refine blk_drew ?_ | refine blk_alloc ?_ _)); exact BK304.out⟩, ⟨hbT HB.out⟩⟩
           ·replace c31 := Bool.eq_false_iff.mpr c31
            subst c31; rw [if_neg nF] at H; have H1 := H; clear H; have H := H1; clear H1
            obtain rfl := Option.some.inj H
            have hcz38_0 := bc0 BK304.out
            have hcz38_1 := bc1 BK304.out
            have hcz38_2 := bc2 BK304.out
            have hcz38_3 := bc3 BK304.out
            have hfz38_0 := blk_frozen BK304.out 0; have hfz38_1 := blk_frozen BK304.out 1; have hfz38_2 := blk_frozen BK304.out 2; have hfz38_3 := blk_frozen BK304.out 3
            try go_wp2
            replace BK304 := asT (blk_drew BK304.out); replace HB := asT (below_drew1 HB.out)
            have p308 : 0 ≤ (x3_2 : Int) := of_decide_eq_true asmT
            have q308 : x3_2 < (l0_2.length : Int) := of_decide_eq_true asmT
            obtain ⟨ad308, A308_0, c308_0, e308, hx308_0, hl308_0, hi308_0⟩ := at_T77 HR0_2.out x3_2 p308 q308; have hw308_0 := hx308_0
            cases e308
            replace hx308_0 := hbc HB.out hx308_0; have HR308_0 := Aside0.mk hi308_0; have HC308_0 := Aside0.mk hl308_0; clear hi308_0 hl308_0; replace p308 := eq_true p308; replace q308 := eq_true q308
            have p310 : 0 ≤ (x3_2 : Int) := of_decide_eq_true asmT
            have q310 : x3_2 < (l0_2.length : Int) := of_decide_eq_true asmT
            obtain ⟨ad310, A310_0, c310_0, e310, hx310_0, hl310_0, hi310_0⟩ := at_T77 HR0_2.out x3_2 p310 q310; have hw310_0 := hx310_0
            obtain rfl : ad308 = ad310 := (by injection e310)
            obtain ⟨rfl, rfl⟩ : A308_0 = A310_0 ∧ c308_0 = c310_0 := sameT hw308_0 hw310_0; replace hx310_0 := hbc HB.out hx310_0; have HR310_0 := Aside0.mk hi310_0; have HC310_0 := Aside0.mk hl310_0; clear hi310_0 hl310_0; replace p310 := eq_true p310; replace q310 := eq_true q310
            have p312 : 0 ≤ (x3_2 : Int) := of_decide_eq_true asmT
            have q312 : x3_2 < (l0_3.length : Int) := of_decide_eq_true asmT
            obtain ⟨ad312, A312_0, c312_0, e312, hx312_0, hl312_0, hi312_0⟩ := at_L6 HR0_3.out x3_2 p312 q312; have hw312_0 := hx312_0
            cases e312
            replace hx312_0 := hbc HB.out hx312_0; have HR312_0 := Aside0.mk hi312_0; have HC312_0 := Aside0.mk hl312_0; clear hi312_0 hl312_0; replace p312 := eq_true p312; replace q312 := eq_true q312
            have p313 : 0 ≤ (x3_2 : Int) := of_decide_eq_true asmT
            have q313 : x3_2 < (l0_2.length : Int) := of_decide_eq_true asmT
            obtain ⟨ad313, A313_0, c313_0, e313, hx313_0, hl313_0, hi313_0⟩ := at_T77 HR0_2.out x3_2 p313 q313; have hw313_0 := hx313_0
            obtain rfl : ad308 = ad313 := (by injection e313)
            obtain ⟨rfl, rfl⟩ : A308_0 = A313_0 ∧ c308_0 = c313_0 := sameT hw308_0 hw313_0; replace hx313_0 := hbc HB.out hx313_0; have HR313_0 := Aside0.mk hi313_0; have HC313_0 := Aside0.mk hl313_0; clear hi313_0 hl313_0; replace p313 := eq_true p313; replace q313 := eq_true q313
            refine start_ (n := 35) (S := fun w' => w'.cell? ⟨gb304, 0, none⟩ = some (.string a0_0) ∧ w'.cell? ⟨gb304, 1, none⟩ = some (.slice A0_1 l0_1.length c0_1) ∧ w'.cell? ⟨gb304, 2, none⟩ = some (.slice (some ad308) l0_2.length c0_2) ∧ w'.cell? ⟨gb304, 3, none⟩ = some (.slice (some ad312) l0_3.length c0_3) ∧ w'.cell? (ad308.add (x3_2).toNat) = some (.slice A308_0 ((rd_T77 l0_2 x3_2).f0).length c308_0) ∧ w'.cell? (ad308.add (x3_2).toNat) = some (.slice A308_0 ((rd_T77 l0_2 x3_2).f0).length c308_0) ∧ w'.cell? (ad312.add (x3_2).toNat) = some (.slice A312_0 (rd_L6 l0_3 x3_2).length c312_0) ∧ w'.cell? (ad308.add (x3_2).toNat) = some (.slice A308_0 ((rd_T77 l0_2 x3_2).f0).length c308_0)) (ds := []) (bA 35 0) (by kernel_rfl) rfl rfl ⟨bc0 BK304.out, bc1 BK304.out, bc2 BK304.out, bc3 BK304.out, (hbc HB.out hw308_0 :), (hbc HB.out hw310_0 :), (hbc HB.out hw312_0 :), (hbc HB.out hw313_0 :)⟩ (fun hHeld => ?_); refine with_tabW spec_IsTableau.tab6 spec_IsTableau.bits6 (fun HT_ HW_ => ?_)
            generalize wr.drew = w39 at BK304 HB HR308_0 HR310_0 HR312_0 HR313_0 hx308_0 hx310_0 hx312_0 hx313_0 hHeld ⊢
            refine pA 0 37 35 1 HT_.out ?_ rfl rfl; refine pA 2 39 35 5 HT_.out ?_ rfl rfl; refine pA 6 43 35 69 HT_.out ?_ rfl rfl; refine tA 1 38 35 71 HT_.out HW_.out hHeld ?_ rfl rfl; refine pA 3 40 35 79 HT_.out ?_ rfl rfl; refine tA 4 41 35 95 HT_.out HW_.out hHeld ?_ rfl rfl; refine tA 7 44 35 223 HT_.out HW_.out hHeld ?_ rfl rfl
            refine oA 5 42 35 255 HT_.out (fun K hK => ?_) rfl rfl
            refine goes_ Tryz.func68 (by kernel_rfl) rfl #[.agg #[.slice A308_0 ((rd_T77 l0_2 x3_2).f0).length c308_0]] (by rfl) rfl rfl eqT ?_
            (with_reducible refine (spec_InputOf.calls k2 _ _ ((rd_T77 l0_2 x3_2).f0) t309 _ ?side1 ?side2 A24.out).mono ?_); (case side1 => exact crT HR308_0.out HB.out); (case side2 => exact HC308_0.out); rintro e w40 ⟨rfl, hb⟩; refine ⟨_, rfl, ?_⟩; replace BK304 := bS BK304 hb; replace HB := hS HB hb; (try clear hb hb2 hk hi)
            refine hK.out _ _ ⟨bc0 BK304.out, bc1 BK304.out, bc2 BK304.out, bc3 BK304.out, (hbc HB.out hw308_0 :), (hbc HB.out hw310_0 :), (hbc HB.out hw312_0 :), (hbc HB.out hw313_0 :)⟩ (fun hHeld => ?_)
            clear hK K
            refine nB 42 ?_ rfl; refine pA 8 45 35 511 HT_.out ?_ rfl rfl; refine pA 9 46 35 1023 HT_.out ?_ rfl rfl; refine pA 10 47 35 2047 HT_.out ?_ rfl rfl; refine pA 12 49 35 6143 HT_.out ?_ rfl rfl; refine tA 11 48 35 8191 HT_.out HW_.out hHeld ?_ rfl rfl; refine pA 13 50 35 16383 HT_.out ?_ rfl rfl; refine tA 14 51 35 32767 HT_.out HW_.out hHeld ?_ rfl rfl
            refine oA 15 52 35 65535 HT_.out (fun K hK => ?_) rfl rfl
            refine goes_ Tryz.func69 (by kernel_rfl) rfl #[.agg #[.slice A308_0 ((rd_T77 l0_2 x3_2).f0).length c308_0]] (by rfl) rfl rfl eqT ?_
            (with_reducible refine (spec_IsCandidate.calls k2 _ _ ((rd_T77 l0_2 x3_2).f0) true _ ?side1 ?side2 A26.out).mono ?_); (case side1 => exact crT HR310_0.out HB.out); (case side2 => exact HC310_0.out); rintro e w41 ⟨rfl, hb⟩; refine ⟨_, rfl, ?_⟩; replace BK304 := bS BK304 hb; replace HB := hS HB hb; (try clear hb hb2 hk hi)
            refine hK.out _ _ ⟨bc0 BK304.out, bc1 BK304.out, bc2 BK304.out, bc3 BK304.out, (hbc HB.out hw308_0 :), (hbc HB.out hw310_0 :), (hbc HB.out hw312_0 :), (hbc HB.out hw313_0 :)⟩ (fun hHeld => ?_)
            clear hK K
            refine nB 52 ?_ rfl; refine pA 16 53 35 131071 HT_.out ?_ rfl rfl; refine pA 17 54 35 262143 HT_.out ?_ rfl rfl; refine pA 18 55 35 524287 HT_.out ?_ rfl rfl; refine pA 19 56 35 1048575 HT_.out ?_ rfl rfl; refine pA 21 58 35 3145727 HT_.out ?_ rfl rfl; refine pA 24 61 35 19922943 HT_.out ?_ rfl rfl; refine pA 26 63 35 87031807 HT_.out ?_ rfl rfl; refine pA 28 65 35 355467263 HT_.out ?_ rfl rfl; refine tA 20 57 35 356515839 HT_.out HW_.out hHeld ?_ rfl rfl; refine pA 22 59 35 360710143 HT_.out ?_ rfl rfl; refine tA 23 60 35 369098751 HT_.out HW_.out hHeld ?_ rfl rfl; refine tA 25 62 35 402653183 HT_.out HW_.out hHeld ?_ rfl rfl; refine tA 27 64 35 536870911 HT_.out HW_.out hHeld ?_ rfl rfl; refine pA 29 66 35 1073741823 HT_.out ?_ rfl rfl; refine tA 30 67 35 2147483647 HT_.out HW_.out hHeld ?_ rfl rfl
            refine oA 31 68 35 4294967295 HT_.out (fun K hK => ?_) rfl rfl
            refine goes_ Tryz.func70 (by kernel_rfl) rfl #[.slice A0_1 l0_1.length c0_1, .agg #[.slice A308_0 ((rd_T77 l0_2 x3_2).f0).length c308_0]] (by rfl) rfl rfl eqT ?_
            (with_reducible refine (spec_ProfileOf.calls k2 _ _ l0_1 _ _ ((rd_T77 l0_2 x3_2).f0) t314 _ ?side1 ?side2 ?side3 ?side4 A29.out).mono ?_); (case side1 => exact crT HR0_1.out HB.out); (case side2 => exact HC0_1.out); (case side3 => exact crT HR313_0.out HB.out); (case side4 => exact HC313_0.out); rintro e w42 ⟨v315, rfl, ho0, hb⟩; refine ⟨_, rfl, ?_⟩; have HO316 := asT (Kd.R_lower ho0 (below_size (hbT HB.out))); replace BK304 := bS BK304 hb; replace HB := hS HB hb; (try clear hb hb2 hk hi ho0); obtain ⟨Ao43, co43, eo43⟩ := Kd.R_slice HO316.out; (first | subst eo43 | (injection eo43 with f1_ f2_ f3_; have f4_ := f1_.symm; have f5_ := f3_.symm; clear f1_ f2_ f3_; subst f4_; subst f5_))
            refine hK.out _ _ ⟨bc0 BK304.out, bc1 BK304.out, bc2 BK304.out, bc3 BK304.out, (hbc HB.out hw308_0 :), (hbc HB.out hw310_0 :), (hbc HB.out hw312_0 :), (hbc HB.out hw313_0 :)⟩ (fun hHeld => ?_)
            clear hK K
            refine nB 68 ?_ rfl
            refine oA 32 69 35 8589934591 HT_.out (fun K hK => ?_) rfl rfl
            refine goes_ Tryz.func36 (by kernel_rfl) rfl #[.slice A312_0 (rd_L6 l0_3 x3_2).length c312_0, .slice Ao43 t314.length co43] (by rfl) rfl rfl eqT ?_
            (with_reducible refine (spec_l11Same.calls k2 _ _ (rd_L6 l0_3 x3_2) _ _ t314 false _ ?side1 ?side2 ?side3 ?side4 A30.out).mono ?_); (case side1 => exact crT HR312_0.out HB.out); (case side2 => exact HC312_0.out); (case side3 => repeat (first | exact (Kd.R_reads' HO316.out).2.2 | (with_reducible refine Kd.C_alloc ?_ _) | (with_reducible refine Kd.C_drewN ?_ _) | (with_reducible refine Kd.C_drew ?_))); (case side4 => exact (Kd.R_reads' HO316.out).2.1); rintro e w' ⟨rfl, ⟨nd, rfl⟩⟩; refine ⟨_, rfl, ?_⟩
            refine hK.out _ _ ⟨bc0 BK304.out, bc1 BK304.out, bc2 BK304.out, bc3 BK304.out, (hbc HB.out hw308_0 :), (hbc HB.out hw310_0 :), (hbc HB.out hw312_0 :), (hbc HB.out hw313_0 :)⟩ (fun hHeld => ?_)
            clear hK K
            refine nB 69 ?_ rfl; refine pA 33 70 35 17179869183 HT_.out ?_ rfl rfl; refine pA 34 71 35 34359738367 HT_.out ?_ rfl rfl
            refine done_ (done_of HT_.out (by kernel_rfl)) ?_
            try go_wp2
            go_ret
            exact ⟨rlT, hbT HB.out⟩
          ·rw [if_neg c28] at H
           exact absurd H (by simp)
         ·replace c27 := Bool.eq_false_iff.mpr c27
          subst c27; rw [if_neg nF] at H; have H1 := H; clear H; have H := H1; clear H1
          obtain rfl := Option.some.inj H
          have hcz44_0 := bc0 BK304.out
          have hcz44_1 := bc1 BK304.out
          have hcz44_2 := bc2 BK304.out
          have hcz44_3 := bc3 BK304.out
          have hfz44_0 := blk_frozen BK304.out 0; have hfz44_1 := blk_frozen BK304.out 1; have hfz44_2 := blk_frozen BK304.out 2; have hfz44_3 := blk_frozen BK304.out 3
          try go_wp2
          replace BK304 := asT (blk_drew BK304.out); replace HB := asT (below_drew1 HB.out)
          have p308 : 0 ≤ (x3_2 : Int) := of_decide_eq_true asmT
          have q308 : x3_2 < (l0_2.length : Int) := of_decide_eq_true asmT
          obtain ⟨ad308, A308_0, c308_0, e308, hx308_0, hl308_0, hi308_0⟩ := at_T77 HR0_2.out x3_2 p308 q308; have hw308_0 := hx308_0
          cases e308
          replace hx308_0 := hbc HB.out hx308_0; have HR308_0 := Aside0.mk hi308_0; have HC308_0 := Aside0.mk hl308_0; clear hi308_0 hl308_0; replace p308 := eq_true p308; replace q308 := eq_true q308
          have p310 : 0 ≤ (x3_2 : Int) := of_decide_eq_true asmT
          have q310 : x3_2 < (l0_2.length : Int) := of_decide_eq_true asmT
          obtain ⟨ad310, A310_0, c310_0, e310, hx310_0, hl310_0, hi310_0⟩ := at_T77 HR0_2.out x3_2 p310 q310; have hw310_0 := hx310_0
          obtain rfl : ad308 = ad310 := (by injection e310)
          obtain ⟨rfl, rfl⟩ : A308_0 = A310_0 ∧ c308_0 = c310_0 := sameT hw308_0 hw310_0; replace hx310_0 := hbc HB.out hx310_0; have HR310_0 := Aside0.mk hi310_0; have HC310_0 := Aside0.mk hl310_0; clear hi310_0 hl310_0; replace p310 := eq_true p310; replace q310 := eq_true q310
          refine start_ (n := 35) (S := fun w' => w'.cell? ⟨gb304, 0, none⟩ = some (.string a0_0) ∧ w'.cell? ⟨gb304, 1, none⟩ = some (.slice A0_1 l0_1.length c0_1) ∧ w'.cell? ⟨gb304, 2, none⟩ = some (.slice (some ad308) l0_2.length c0_2) ∧ w'.cell? ⟨gb304, 3, none⟩ = some (.slice A0_3 l0_3.length c0_3) ∧ w'.cell? (ad308.add (x3_2).toNat) = some (.slice A308_0 ((rd_T77 l0_2 x3_2).f0).length c308_0) ∧ w'.cell? (ad308.add (x3_2).toNat) = some (.slice A308_0 ((rd_T77 l0_2 x3_2).f0).length c308_0)) (ds := []) (bA 35 0) (by kernel_rfl) rfl rfl ⟨bc0 BK304.out, bc1 BK304.out, bc2 BK304.out, bc3 BK304.out, (hbc HB.out hw308_0 :), (hbc HB.out hw310_0 :)⟩ (fun hHeld => ?_); refine with_tabW spec_IsTableau.tab6 spec_IsTableau.bits6 (fun HT_ HW_ => ?_)
          generalize wr.drew = w45 at BK304 HB HR308_0 HR310_0 hx308_0 hx310_0 hHeld ⊢
          refine pA 0 37 35 1 HT_.out ?_ rfl rfl; refine pA 2 39 35 5 HT_.out ?_ rfl rfl; refine pA 6 43 35 69 HT_.out ?_ rfl rfl; refine tA 1 38 35 71 HT_.out HW_.out hHeld ?_ rfl rfl; refine pA 3 40 35 79 HT_.out ?_ rfl rfl; refine tA 4 41 35 95 HT_.out HW_.out hHeld ?_ rfl rfl; refine tA 7 44 35 223 HT_.out HW_.out hHeld ?_ rfl rfl
          refine oA 5 42 35 255 HT_.out (fun K hK => ?_) rfl rfl
          refine goes_ Tryz.func68 (by kernel_rfl) rfl #[.agg #[.slice A308_0 ((rd_T77 l0_2 x3_2).f0).length c308_0]] (by rfl) rfl rfl eqT ?_
          (with_reducible refine (spec_InputOf.calls k2 _ _ ((rd_T77 l0_2 x3_2).f0) t309 _ ?side1 ?side2 A24.out).mono ?_); (case side1 => exact crT HR308_0.out HB.out); (case side2 => exact HC308_0.out); rintro e w46 ⟨rfl, hb⟩; refine ⟨_, rfl, ?_⟩; replace BK304 := bS BK304 hb; replace HB := hS HB hb; (try clear hb hb2 hk hi)
          refine hK.out _ _ ⟨bc0 BK304.out, bc1 BK304.out, bc2 BK304.out, bc3 BK304.out, (hbc HB.out hw308_0 :), (hbc HB.out hw310_0 :)⟩ (fun hHeld => ?_)
          clear hK K
          refine nB 42 ?_ rfl; refine pA 8 45 35 511 HT_.out ?_ rfl rfl; refine pA 9 46 35 1023 HT_.out ?_ rfl rfl; refine pA 10 47 35 2047 HT_.out ?_ rfl rfl; refine pA 12 49 35 6143 HT_.out ?_ rfl rfl; refine tA 11 48 35 8191 HT_.out HW_.out hHeld ?_ rfl rfl; refine pA 13 50 35 16383 HT_.out ?_ rfl rfl; refine tA 14 51 35 32767 HT_.out HW_.out hHeld ?_ rfl rfl
          refine oA 15 52 35 65535 HT_.out (fun K hK => ?_) rfl rfl
          refine goes_ Tryz.func69 (by kernel_rfl) rfl #[.agg #[.slice A308_0 ((rd_T77 l0_2 x3_2).f0).length c308_0]] (by rfl) rfl rfl eqT ?_
          (with_reducible refine (spec_IsCandidate.calls k2 _ _ ((rd_T77 l0_2 x3_2).f0) false _ ?side1 ?side2 A26.out).mono ?_); (case side1 => exact crT HR310_0.out HB.out); (case side2 => exact HC310_0.out); rintro e w47 ⟨rfl, hb⟩; refine ⟨_, rfl, ?_⟩; replace BK304 := bS BK304 hb; replace HB := hS HB hb; (try clear hb hb2 hk hi)
          refine hK.out _ _ ⟨bc0 BK304.out, bc1 BK304.out, bc2 BK304.out, bc3 BK304.out, (hbc HB.out hw308_0 :), (hbc HB.out hw310_0 :)⟩ (fun hHeld => ?_)
          clear hK K
          refine nB 52 ?_ rfl; refine pA 16 53 35 131071 HT_.out ?_ rfl rfl; refine pA 17 54 35 262143 HT_.out ?_ rfl rfl; refine pA 18 55 35 524287 HT_.out ?_ rfl rfl; refine uA 19 56 35 1048575 HT_.out ?_ rfl rfl; refine uA 20 57 35 2097151 HT_.out ?_ rfl rfl; refine uA 21 58 35 4194303 HT_.out ?_ rfl rfl; refine uA 22 59 35 8388607 HT_.out ?_ rfl rfl; refine uA 23 60 35 16777215 HT_.out ?_ rfl rfl; refine uA 24 61 35 33554431 HT_.out ?_ rfl rfl; refine uA 25 62 35 67108863 HT_.out ?_ rfl rfl; refine uA 26 63 35 134217727 HT_.out ?_ rfl rfl; refine uA 27 64 35 268435455 HT_.out ?_ rfl rfl; refine uA 28 65 35 536870911 HT_.out ?_ rfl rfl; refine uA 29 66 35 1073741823 HT_.out ?_ rfl rfl; refine uA 30 67 35 2147483647 HT_.out ?_ rfl rfl; refine uA 31 68 35 4294967295 HT_.out ?_ rfl rfl; refine uA 32 69 35 8589934591 HT_.out ?_ rfl rfl; refine uA 33 70 35 17179869183 HT_.out ?_ rfl rfl; refine pA 34 71 35 34359738367 HT_.out ?_ rfl rfl
          refine done_ (done_of HT_.out (by kernel_rfl)) ?_
          try go_wp2
          go_ret
          exact ⟨rlT, hbT HB.out⟩
        ·rw [if_neg c25] at H
         have c25b0 : (t309.toList == a0_0.toList) = false := beq_eq_false_iff_ne.mpr c25
         have c25b1 : (t309.toList != a0_0.toList) = true := bne_iff_ne.mpr c25
         obtain rfl := Option.some.inj H
         have hcz48_0 := bc0 BK304.out
         have hcz48_1 := bc1 BK304.out
         have hcz48_2 := bc2 BK304.out
         have hcz48_3 := bc3 BK304.out
         have hfz48_0 := blk_frozen BK304.out 0; have hfz48_1 := blk_frozen BK304.out 1; have hfz48_2 := blk_frozen BK304.out 2; have hfz48_3 := blk_frozen BK304.out 3
         try go_wp2
         replace BK304 := asT (blk_drew BK304.out); replace HB := asT (below_drew1 HB.out)
         have p308 : 0 ≤ (x3_2 : Int) := of_decide_eq_true asmT
         have q308 : x3_2 < (l0_2.length : Int) := of_decide_eq_true asmT
         obtain ⟨ad308, A308_0, c308_0, e308, hx308_0, hl308_0, hi308_0⟩ := at_T77 HR0_2.out x3_2 p308 q308; have hw308_0 := hx308_0
         cases e308
         replace hx308_0 := hbc HB.out hx308_0; have HR308_0 := Aside0.mk hi308_0; have HC308_0 := Aside0.mk hl308_0; clear hi308_0 hl308_0; replace p308 := eq_true p308; replace q308 := eq_true q308
         refine start_ (n := 35) (S := fun w' => w'.cell? ⟨gb304, 0, none⟩ = some (.string a0_0) ∧ w'.cell? ⟨gb304, 1, none⟩ = some (.slice A0_1 l0_1.length c0_1) ∧ w'.cell? ⟨gb304, 2, none⟩ = some (.slice (some ad308) l0_2.length c0_2) ∧ w'.cell? ⟨gb304, 3, none⟩ = some (.slice A0_3 l0_3.length c0_3) ∧ w'.cell? (ad308.add (x3_2).toNat) = some (.slice A308_0 ((rd_T77 l0_2 x3_2).f0).length c308_0)) (ds := []) (bA 35 0) (by kernel_rfl) rfl rfl ⟨bc0 BK304.out, bc1 BK304.out, bc2 BK304.out, bc3 BK304.out, (hbc HB.out hw308_0 :)⟩ (fun hHeld => ?_); refine with_tabW spec_IsTableau.tab6 spec_IsTableau.bits6 (fun HT_ HW_ => ?_)
         generalize wr.drew = w49 at BK304 HB HR308_0 hx308_0 hHeld ⊢
         refine pA 0 37 35 1 HT_.out ?_ rfl rfl; refine pA 2 39 35 5 HT_.out ?_ rfl rfl; refine pA 6 43 35 69 HT_.out ?_ rfl rfl; refine tA 1 38 35 71 HT_.out HW_.out hHeld ?_ rfl rfl; refine pA 3 40 35 79 HT_.out ?_ rfl rfl; refine tA 4 41 35 95 HT_.out HW_.out hHeld ?_ rfl rfl; refine tA 7 44 35 223 HT_.out HW_.out hHeld ?_ rfl rfl
         refine oA 5 42 35 255 HT_.out (fun K hK => ?_) rfl rfl
         refine goes_ Tryz.func68 (by kernel_rfl) rfl #[.agg #[.slice A308_0 ((rd_T77 l0_2 x3_2).f0).length c308_0]] (by rfl) rfl rfl eqT ?_
         (with_reducible refine (spec_InputOf.calls k2 _ _ ((rd_T77 l0_2 x3_2).f0) t309 _ ?side1 ?side2 A24.out).mono ?_); (case side1 => exact crT HR308_0.out HB.out); (case side2 => exact HC308_0.out); rintro e w50 ⟨rfl, hb⟩; refine ⟨_, rfl, ?_⟩; replace BK304 := bS BK304 hb; replace HB := hS HB hb; (try clear hb hb2 hk hi)
         refine hK.out _ _ ⟨bc0 BK304.out, bc1 BK304.out, bc2 BK304.out, bc3 BK304.out, (hbc HB.out hw308_0 :)⟩ (fun hHeld => ?_)
         clear hK K
         refine nB 42 ?_ rfl; refine pA 8 45 35 511 HT_.out ?_ rfl rfl; refine pA 9 46 35 1023 HT_.out ?_ rfl rfl; refine uA 10 47 35 2047 HT_.out ?_ rfl rfl; refine uA 11 48 35 4095 HT_.out ?_ rfl rfl; refine uA 12 49 35 8191 HT_.out ?_ rfl rfl; refine uA 13 50 35 16383 HT_.out ?_ rfl rfl; refine uA 14 51 35 32767 HT_.out ?_ rfl rfl; refine uA 15 52 35 65535 HT_.out ?_ rfl rfl; refine uA 16 53 35 131071 HT_.out ?_ rfl rfl; refine pA 17 54 35 262143 HT_.out ?_ rfl rfl; refine pA 18 55 35 524287 HT_.out ?_ rfl rfl; refine uA 19 56 35 1048575 HT_.out ?_ rfl rfl; refine uA 20 57 35 2097151 HT_.out ?_ rfl rfl; refine uA 21 58 35 4194303 HT_.out ?_ rfl rfl; refine uA 22 59 35 8388607 HT_.out ?_ rfl rfl; refine uA 23 60 35 16777215 HT_.out ?_ rfl rfl; refine uA 24 61 35 33554431 HT_.out ?_ rfl rfl; refine uA 25 62 35 67108863 HT_.out ?_ rfl rfl; refine uA 26 63 35 134217727 HT_.out ?_ rfl rfl; refine uA 27 64 35 268435455 HT_.out ?_ rfl rfl; refine uA 28 65 35 536870911 HT_.out ?_ rfl rfl; refine uA 29 66 35 1073741823 HT_.out ?_ rfl rfl; refine uA 30 67 35 2147483647 HT_.out ?_ rfl rfl; refine uA 31 68 35 4294967295 HT_.out ?_ rfl rfl; refine uA 32 69 35 8589934591 HT_.out ?_ rfl rfl; refine uA 33 70 35 17179869183 HT_.out ?_ rfl rfl; refine pA 34 71 35 34359738367 HT_.out ?_ rfl rfl
         refine done_ (done_of HT_.out (by kernel_rfl)) ?_
         try go_wp2
         go_ret
         exact ⟨rlT, hbT HB.out⟩
       ·rw [if_neg c23] at H
        exact absurd H (by simp)
      ·rw [if_neg c22] at H
       have c22b0 : decide (x3_2 < (l0_2.length : Int)) = false := decide_eq_false c22
       clear c22
       obtain rfl := Option.some.inj H
       have hcz51_0 := bc0 BK304.out
       have hcz51_1 := bc1 BK304.out
       have hcz51_2 := bc2 BK304.out
       have hcz51_3 := bc3 BK304.out
       have hfz51_0 := blk_frozen BK304.out 0; have hfz51_1 := blk_frozen BK304.out 1; have hfz51_2 := blk_frozen BK304.out 2; have hfz51_3 := blk_frozen BK304.out 3
       go_wp2
       go_ret
       exact ⟨rlT, hbT HB.out⟩
end Go.Proofs.YtmfhaplhgaehhabGreat.PFnExactFatalMark
