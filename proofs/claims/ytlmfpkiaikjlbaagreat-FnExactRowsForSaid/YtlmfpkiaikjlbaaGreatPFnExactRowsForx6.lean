-- Made by gen.py (a program of this session) out of the translation; Lean checks it.
import Derived.Test.YtlmfpkiaikjlbaaGreatPFnExactRowsForx0
import Derived.Test.YtlmfpkiaikjlbaaGreatPFnExactRowsForx3
import Derived.Test.YtlmfpkiaikjlbaaGreatPFnExactRowsForx4
import Derived.Test.YtlmfpkiaikjlbaaGreatPFnExactRowsForx5
namespace Go.Proofs.YtlmfpkiaikjlbaaGreat.PFnExactRowsFor
open Go.RowKit Go.Proofs.YtlmfpkiaikjlbaaGreatB Go.Proofs.YtlmfpkiaikjlbaaGreatW.PrintWords Go.Proofs.YtlmfpkiaikjlbaaGreatW.PrintLast Go.Proofs.YtlmfpkiaikjlbaaGreatW.PrintMore
attribute [local go_sem] max2_int min2_int max_two min_two max_three min_three max_four min_four   -- for this text's walks alone
set_option linter.unusedVariables false
set_option maxHeartbeats 8000000
set_option maxRecDepth 100000
set_option linter.unusedSimpArgs false
mutual
def spec_CountVoiceChanged.l0 : Nat → Int → Int → List (S109) → Option (Int)
 | 0, _, _, _ => none
 | k + 1, x3, x4, x272000 => if x4 < (x272000.length : Int) then ((spec_IsCandidate.f k x272000).bind fun t272 => (spec_CountVoiceChanged.j1 k x3 x4 t272 x272000)) else (spec_CountVoiceChanged.j1 k x3 x4 false x272000)
def spec_CountVoiceChanged.j1 : Nat → Int → Int → Bool → List (S109) → Option (Int)
 | 0, _, _, _, _ => none
 | k + 1, x3, x4, x14, x272000 => if x14 = true then (if 0 ≤ x4 then (if x4 < (x272000.length : Int) then (if ((rd_T109 x272000 x4).f0) = 0 then (spec_CountVoiceChanged.l0 k x3 (wrap64 (x4 + 1)) x272000) else (if ((rd_T109 x272000 x4).f1) = 0 then (spec_CountVoiceChanged.l0 k x3 (wrap64 (x4 + 1)) x272000) else (if ((rd_T109 x272000 x4).f0) = ((rd_T109 x272000 x4).f1) then (spec_CountVoiceChanged.l0 k x3 (wrap64 (x4 + 1)) x272000) else (spec_CountVoiceChanged.l0 k (wrap64 (x3 + 1)) (wrap64 (x4 + 1)) x272000)))) else (none)) else (none)) else (some x3)
end
def spec_CountVoiceChanged.f (k : Nat) (l0_0 : List (S109)) : Option (Int) := spec_CountVoiceChanged.l0 k 0 0 l0_0
theorem spec_CountVoiceChanged.mono_l : ∀ k, (∀ y0 y1 y2, LeO (spec_CountVoiceChanged.l0 k y0 y1 y2) (spec_CountVoiceChanged.l0 (k + 1) y0 y1 y2)) ∧ (∀ y0 y1 y2 y3, LeO (spec_CountVoiceChanged.j1 k y0 y1 y2 y3) (spec_CountVoiceChanged.j1 (k + 1) y0 y1 y2 y3))
 | 0 => ⟨fun _ _ _ r h => by simp [spec_CountVoiceChanged.l0] at h, fun _ _ _ _ r h => by simp [spec_CountVoiceChanged.j1] at h⟩
 | k + 1 => by
  obtain ⟨ih0, ih1⟩ := spec_CountVoiceChanged.mono_l k; refine ⟨?_, ?_⟩
  ·intro y0 y1 y2; unfold spec_CountVoiceChanged.l0
   with_reducible repeat' first | exact ih0 _ _ _ | exact ih1 _ _ _ _ | exact spec_IsCandidate.mono _ _ | exact LeO.refl _ | exact LeO.none _ | refine LeO.ite ?_ ?_ | refine LeO.bind ?_ (fun _ => ?_)
  ·intro y0 y1 y2 y3; unfold spec_CountVoiceChanged.j1
   with_reducible repeat' first | exact ih0 _ _ _ | exact ih1 _ _ _ _ | exact spec_IsCandidate.mono _ _ | exact LeO.refl _ | exact LeO.none _ | refine LeO.ite ?_ ?_ | refine LeO.bind ?_ (fun _ => ?_)
theorem spec_CountVoiceChanged.mono : ∀ a0 k, LeO (spec_CountVoiceChanged.f k a0) (spec_CountVoiceChanged.f (k + 1) a0) := by
 intro a0 k; obtain ⟨ih0, ih1⟩ := spec_CountVoiceChanged.mono_l k; unfold spec_CountVoiceChanged.f
 with_reducible repeat' first | exact ih0 _ _ _ | exact ih1 _ _ _ _ | exact spec_IsCandidate.mono _ _ | exact LeO.refl _ | exact LeO.none _ | refine LeO.ite ?_ ?_ | refine LeO.bind ?_ (fun _ => ?_)
theorem spec_CountVoiceChanged.calls (k : Nat) (A0_0 : Option Addr) (c0_0 : Nat) (l0_0 : List (S109)) (r : Int) (w : World) (hr0_0 : Kd.C k109 w A0_0 l0_0.length l0_0) (hc0_0 : l0_0.length ≤ c0_0) (h : spec_CountVoiceChanged.f k l0_0 = some r) :
  Calls Tryz.prog 120 #[.agg #[.slice A0_0 l0_0.length c0_0]] w fun e w' => e = .returned (.int .i64 r) ∧ Below w.heap.size w w' := by
 have hu60 := Tryz.underlying60; have hu109 := Tryz.underlying109; have HR0_0 := asT hr0_0; have HC0_0 := asT hc0_0; clear hr0_0 hc0_0; have HB := asT (Below.refl w.heap.size w); have H := h; unfold spec_CountVoiceChanged.f at H; clear h; have H' := asT H; clear H; go_enter Tryz.func120, Tryz.ntmps120
 go_wp2_with (first | ((with_reducible refine gate_dst (N := 1) rfl ?_); refine boxT (N := 1) (cs := #[.slice A0_0 l0_0.length c0_0]) (t := 60) ?_; intro gb271 hg w2 hbox hb; have BK271 := asT hbox; have GW271 := asT (geT hg HB.out); have GE271 := GW271; replace HB := hS HB hb; clear hb hbox hg))
 go_loopg [3, 4] k (fun kq v3 v4 w' => ∃ (x3_1 : Int) (x4_1 : Int), v3 = .int .i64 x3_1 ∧ v4 = .int .i64 x4_1 ∧ Aside0 (spec_CountVoiceChanged.l0 kq x3_1 x4_1 l0_0 = some r) ∧ Aside0 (kq ≤ k) ∧ Aside0 (w'.heap[gb271]? = some (.cells #[(.slice A0_0 l0_0.length c0_0)] 60 (0, 0))) ∧ Aside0 (Below w.heap.size w w'))
 case atStart => exact ⟨(0), (0), rdT, rdT, H', ⟨Nat.le_refl _⟩, kpT BK271.out, ⟨hbT HB.out⟩⟩
 case round =>
  clear H'; (try clear c1 p2); obtain ⟨x3_1, x4_1, rfl, rfl, HA, HK1, BK271, HB⟩ := hrel
  cases gk with
  | zero => exact absurd HA.out (by simp [spec_CountVoiceChanged.l0])
  | succ k1 =>
   have H := HA.out; clear HA
   simp only [spec_CountVoiceChanged.l0] at H
   have HC3 := asT H; clear H
   go_upto_region 3 with (fail)
   go_cut [14] (fun v14 wc => ∃ (kq : Nat) (x14_2 : Bool), v14 = .bool x14_2 ∧ Aside0 (spec_CountVoiceChanged.j1 kq x3_1 x4_1 x14_2 l0_0 = some r) ∧ Aside0 (kq ≤ k1) ∧ Aside0 (wc.heap[gb271]? = some (.cells #[(.slice A0_0 l0_0.length c0_0)] 60 (0, 0))) ∧ Aside0 (Below w.heap.size w wc))
   case first =>
    have H := HC3.out; clear HC3; by_cases c4 : x4_1 < (l0_0.length : Int)
    ·rw [if_pos c4] at H; have c4b0 := dt c4; clear c4
     (first | rw [c4b0] | (simp only [i64_w, i32_w]; rw [c4b0]) | skip)
     obtain ⟨t272, A5, H⟩ := be H; have H' := asT H; clear H; obtain ⟨hcz6_0, hfz6_0⟩ := bx1 BK271.out
     go_wp2_with (first | (go_at_call 78; (with_reducible refine (spec_IsCandidate.calls k1 _ _ l0_0 t272 _ ?side1 ?side2 A5.out).mono ?_); (case side1 => exact crT HR0_0.out HB.out); (case side2 => exact HC0_0.out); rintro e w7 ⟨rfl, hb⟩; replace BK271 := bS BK271 hb; replace HB := hS HB hb; (try clear hb hb2 hk hi)))
     go_meet
     case rel => exact ⟨_, (t272), rdT, H', ⟨by have := HK1.out; first | omega | exact Nat.le_refl _⟩, kpT BK271.out, ⟨hbT HB.out⟩⟩
    ·rw [if_neg c4] at H; have c4b0 := df c4; clear c4
     (first | rw [c4b0] | (simp only [i64_w, i32_w]; rw [c4b0]) | skip)
     have H' := asT H; clear H; obtain ⟨hcz8_0, hfz8_0⟩ := bx1 BK271.out
     go_wp2
     go_meet
     case rel => exact ⟨_, (false), rdT, H', ⟨by have := HK1.out; first | omega | exact Nat.le_refl _⟩, kpT BK271.out, ⟨hbT HB.out⟩⟩
   case rest =>
    clear HC3; (try clear c1 p2 c4 c4b0 hcz6_0 hcz8_0 hfz6_0 hfz8_0 p2); obtain ⟨kq, x14_2, rfl, HA, HJ2, BK271, HB⟩ := hcut
    cases kq with
    | zero => exact absurd HA.out (by simp [spec_CountVoiceChanged.j1])
    | succ kj2 =>
     have H := HA.out; clear HA
     simp only [spec_CountVoiceChanged.j1] at H
     by_cases c9 : x14_2 = true
     ·subst c9; rw [if_pos rfl] at H; have H1 := H; clear H; have H := H1; clear H1; by_cases c10 : 0 ≤ x4_1
      ·rw [if_pos c10] at H; have c10b0 := dt c10; clear c10; by_cases c11 : x4_1 < (l0_0.length : Int)
       ·rw [if_pos c11] at H; have c11b0 := dt c11; clear c11; by_cases c12 : ((rd_T109 l0_0 x4_1).f0) = 0
        ·rw [if_pos c12] at H; have c12b0 : (((rd_T109 l0_0 x4_1).f0) == 0) = true := eC c12; have c12b1 : (((rd_T109 l0_0 x4_1).f0) != 0) = false := eA c12; clear c12; have H' := asT H; clear H; obtain ⟨hcz13_0, hfz13_0⟩ := bx1 BK271.out; have p273 : 0 ≤ (x4_1 : Int) := dT asmT; have q273 : x4_1 < (l0_0.length : Int) := dT asmT; obtain ⟨ad273, e273, hx273_0, hx273_1⟩ := at_T109 HR0_0.out x4_1 p273 q273
         cases e273
         replace hx273_0 := hbc HB.out hx273_0; replace hx273_1 := hbc HB.out hx273_1; replace p273 := eq_true p273; replace q273 := eq_true q273
         go_wp2_with (first | ((with_reducible refine gate_dst (N := 5) rfl ?_); refine boxT (N := 5) (cs := #[.int .u8 0, .int .u8 0]) (t := 109) ?_; intro gb274 hg w14 hbox hb; have BK274 := asT (hbox); have GW274 := asT (geT hg HB.out); have GE274 := asT (geT hg HB.out); replace HB := hS HB hb; have NB271_274 := asT ((by rw [hg]; exact Nat.ne_of_lt (blk_lt (g := gb271) (o := .cells #[.slice (some ad273) l0_0.length c0_0] 60 (0, 0)) (bkT BK271.out)) : gb271 ≠ gb274)); have NB274_271 := asT ((by rw [hg]; exact Nat.ne_of_gt (blk_lt (g := gb271) (o := .cells #[.slice (some ad273) l0_0.length c0_0] 60 (0, 0)) (bkT BK271.out)) : gb274 ≠ gb271)); replace BK271 := bS BK271 hb; clear hb hbox hg; have hnb15 := NB274_271.out; have hnc15 := NB271_274.out; obtain ⟨hcz16_0, hcz16_1, hfz16_0, hfz16_1⟩ := bx2 BK274.out))
         go_roundg kj2
         case measure => have := HK1.out; have := HJ2.out; omega
         case rel => exact ⟨(x3_1), (wrap64 (x4_1 + 1)), rdT, rdT, H', ⟨by have := HK1.out; have := HJ2.out; omega⟩, ⟨by (with_reducible repeat (first | refine blk_drewN ?_ _ | refine blk_drew ?_ | refine blk_alloc ?_ _)); refine blk_far ?_ NB271_274.out _; (with_reducible repeat (first | refine blk_drewN ?_ _ | refine blk_drew ?_ | refine blk_alloc ?_ _)); refine blk_far ?_ NB271_274.out _; (with_reducible repeat (first | refine blk_drewN ?_ _ | refine blk_drew ?_ | refine blk_alloc ?_ _)); exact BK271.out⟩, ⟨hbT HB.out⟩⟩
        ·rw [if_neg c12] at H; have c12b0 : (((rd_T109 l0_0 x4_1).f0) == 0) = false := eB c12; have c12b1 : (((rd_T109 l0_0 x4_1).f0) != 0) = true := eD c12; by_cases c17 : ((rd_T109 l0_0 x4_1).f1) = 0
         ·rw [if_pos c17] at H; have c17b0 : (((rd_T109 l0_0 x4_1).f1) == 0) = true := eC c17; have c17b1 : (((rd_T109 l0_0 x4_1).f1) != 0) = false := eA c17; clear c17; have H' := asT H; clear H; obtain ⟨hcz18_0, hfz18_0⟩ := bx1 BK271.out; have p273 : 0 ≤ (x4_1 : Int) := dT asmT; have q273 : x4_1 < (l0_0.length : Int) := dT asmT; obtain ⟨ad273, e273, hx273_0, hx273_1⟩ := at_T109 HR0_0.out x4_1 p273 q273
          cases e273
          replace hx273_0 := hbc HB.out hx273_0; replace hx273_1 := hbc HB.out hx273_1; replace p273 := eq_true p273; replace q273 := eq_true q273
          go_wp2_with (first | ((with_reducible refine gate_dst (N := 5) rfl ?_); refine boxT (N := 5) (cs := #[.int .u8 0, .int .u8 0]) (t := 109) ?_; intro gb274 hg w19 hbox hb; have BK274 := asT (hbox); have GW274 := asT (geT hg HB.out); have GE274 := asT (geT hg HB.out); replace HB := hS HB hb; have NB271_274 := asT ((by rw [hg]; exact Nat.ne_of_lt (blk_lt (g := gb271) (o := .cells #[.slice (some ad273) l0_0.length c0_0] 60 (0, 0)) (bkT BK271.out)) : gb271 ≠ gb274)); have NB274_271 := asT ((by rw [hg]; exact Nat.ne_of_gt (blk_lt (g := gb271) (o := .cells #[.slice (some ad273) l0_0.length c0_0] 60 (0, 0)) (bkT BK271.out)) : gb274 ≠ gb271)); replace BK271 := bS BK271 hb; clear hb hbox hg; have hnb20 := NB274_271.out; have hnc20 := NB271_274.out; obtain ⟨hcz21_0, hcz21_1, hfz21_0, hfz21_1⟩ := bx2 BK274.out))
          go_roundg kj2
          case measure => have := HK1.out; have := HJ2.out; omega
          case rel => exact ⟨(x3_1), (wrap64 (x4_1 + 1)), rdT, rdT, H', ⟨by have := HK1.out; have := HJ2.out; omega⟩, ⟨by (with_reducible repeat (first | refine blk_drewN ?_ _ | refine blk_drew ?_ | refine blk_alloc ?_ _)); refine blk_far ?_ NB271_274.out _; (with_reducible repeat (first | refine blk_drewN ?_ _ | refine blk_drew ?_ | refine blk_alloc ?_ _)); refine blk_far ?_ NB271_274.out _; (with_reducible repeat (first | refine blk_drewN ?_ _ | refine blk_drew ?_ | refine blk_alloc ?_ _)); exact BK271.out⟩, ⟨hbT HB.out⟩⟩
         ·rw [if_neg c17] at H; have c17b0 : (((rd_T109 l0_0 x4_1).f1) == 0) = false := eB c17; have c17b1 : (((rd_T109 l0_0 x4_1).f1) != 0) = true := eD c17; by_cases c22 : ((rd_T109 l0_0 x4_1).f0) = ((rd_T109 l0_0 x4_1).f1)
          ·rw [if_pos c22] at H; have c22b0 : (((rd_T109 l0_0 x4_1).f0) == ((rd_T109 l0_0 x4_1).f1)) = true := eC c22; have c22b1 : (((rd_T109 l0_0 x4_1).f0) != ((rd_T109 l0_0 x4_1).f1)) = false := eA c22; clear c22; have H' := asT H; clear H; obtain ⟨hcz23_0, hfz23_0⟩ := bx1 BK271.out; have p273 : 0 ≤ (x4_1 : Int) := dT asmT; have q273 : x4_1 < (l0_0.length : Int) := dT asmT; obtain ⟨ad273, e273, hx273_0, hx273_1⟩ := at_T109 HR0_0.out x4_1 p273 q273
           cases e273
           replace hx273_0 := hbc HB.out hx273_0; replace hx273_1 := hbc HB.out hx273_1; replace p273 := eq_true p273; replace q273 := eq_true q273
           go_wp2_with (first | ((with_reducible refine gate_dst (N := 5) rfl ?_); refine boxT (N := 5) (cs := #[.int .u8 0, .int .u8 0]) (t := 109) ?_; intro gb274 hg w24 hbox hb; have BK274 := asT (hbox); have GW274 := asT (geT hg HB.out); have GE274 := asT (geT hg HB.out); replace HB := hS HB hb; have NB271_274 := asT ((by rw [hg]; exact Nat.ne_of_lt (blk_lt (g := gb271) (o := .cells #[.slice (some ad273) l0_0.length c0_0] 60 (0, 0)) (bkT BK271.out)) : gb271 ≠ gb274)); have NB274_271 := asT ((by rw [hg]; exact Nat.ne_of_gt (blk_lt (g := gb271) (o := .cells #[.slice (some ad273) l0_0.length c0_0] 60 (0, 0)) (bkT BK271.out)) : gb274 ≠ gb271)); replace BK271 := bS BK271 hb; clear hb hbox hg; have hnb25 := NB274_271.out; have hnc25 := NB271_274.out; obtain ⟨hcz26_0, hcz26_1, hfz26_0, hfz26_1⟩ := bx2 BK274.out))
           go_roundg kj2
           case measure => have := HK1.out; have := HJ2.out; omega
           case rel => exact ⟨(x3_1), (wrap64 (x4_1 + 1)), rdT, rdT, H', ⟨by have := HK1.out; have := HJ2.out; omega⟩, ⟨by (with_reducible repeat (first | refine blk_drewN ?_ _ | refine blk_drew ?_ | refine blk_alloc ?_ _)); refine blk_far ?_ NB271_274.out _; (with_reducible repeat (first | refine blk_drewN ?_ _ | refine blk_drew ?_ | refine blk_alloc ?_ _)); refine blk_far ?_ NB271_274.out _; (with_reducible repeat (first | refine blk_drewN ?_ _ | refine blk_drew ?_ | refine blk_alloc ?_ _)); exact BK271.out⟩, ⟨hbT HB.out⟩⟩
          ·rw [if_neg c22] at H; have c22b0 : (((rd_T109 l0_0 x4_1).f0) == ((rd_T109 l0_0 x4_1).f1)) = false := eB c22; have c22b1 : (((rd_T109 l0_0 x4_1).f0) != ((rd_T109 l0_0 x4_1).f1)) = true := eD c22; have H' := asT H; clear H; obtain ⟨hcz27_0, hfz27_0⟩ := bx1 BK271.out; have p273 : 0 ≤ (x4_1 : Int) := dT asmT; have q273 : x4_1 < (l0_0.length : Int) := dT asmT; obtain ⟨ad273, e273, hx273_0, hx273_1⟩ := at_T109 HR0_0.out x4_1 p273 q273
           cases e273
           replace hx273_0 := hbc HB.out hx273_0; replace hx273_1 := hbc HB.out hx273_1; replace p273 := eq_true p273; replace q273 := eq_true q273
           go_wp2_with (first | ((with_reducible refine gate_dst (N := 5) rfl ?_); refine boxT (N := 5) (cs := #[.int .u8 0, .int .u8 0]) (t := 109) ?_; intro gb274 hg w28 hbox hb; have BK274 := asT (hbox); have GW274 := asT (geT hg HB.out); have GE274 := asT (geT hg HB.out); replace HB := hS HB hb; have NB271_274 := asT ((by rw [hg]; exact Nat.ne_of_lt (blk_lt (g := gb271) (o := .cells #[.slice (some ad273) l0_0.length c0_0] 60 (0, 0)) (bkT BK271.out)) : gb271 ≠ gb274)); have NB274_271 := asT ((by rw [hg]; exact Nat.ne_of_gt (blk_lt (g := gb271) (o := .cells #[.slice (some ad273) l0_0.length c0_0] 60 (0, 0)) (bkT BK271.out)) : gb274 ≠ gb271)); replace BK271 := bS BK271 hb; clear hb hbox hg; have hnb29 := NB274_271.out; have hnc29 := NB271_274.out; obtain ⟨hcz30_0, hcz30_1, hfz30_0, hfz30_1⟩ := bx2 BK274.out))
           go_roundg kj2
           case measure => have := HK1.out; have := HJ2.out; omega
           case rel => exact ⟨(wrap64 (x3_1 + 1)), (wrap64 (x4_1 + 1)), rdT, rdT, H', ⟨by have := HK1.out; have := HJ2.out; omega⟩, ⟨by (with_reducible repeat (first | refine blk_drewN ?_ _ | refine blk_drew ?_ | refine blk_alloc ?_ _)); refine blk_far ?_ NB271_274.out _; (with_reducible repeat (first | refine blk_drewN ?_ _ | refine blk_drew ?_ | refine blk_alloc ?_ _)); refine blk_far ?_ NB271_274.out _; (with_reducible repeat (first | refine blk_drewN ?_ _ | refine blk_drew ?_ | refine blk_alloc ?_ _)); exact BK271.out⟩, ⟨hbT HB.out⟩⟩
       ·rw [if_neg c11] at H; exact absurd H (by simp)
      ·rw [if_neg c10] at H; exact absurd H (by simp)
     ·replace c9 := eE c9; subst c9; rw [if_neg nF] at H; have H1 := H; clear H; have H := H1; clear H1; obtain rfl := oI H
      go_wp2
      go_ret; exact ⟨rlT, hbT HB.out⟩
def spec_l9Kept.f (a0_0 : Int) (a0_1 : Int) : Option (Bool) := if a0_0 = 0 then (some false) else (some (a0_1 != 0))
theorem spec_l9Kept.calls (a0_0 : Int) (a0_1 : Int) (r : Bool) (w : World) (h : spec_l9Kept.f a0_0 a0_1 = some r) :
  Calls Tryz.prog 155 #[.agg #[.int .u8 a0_0, .int .u8 a0_1]] w fun e w' => e = .returned (.bool r) ∧ Below w.heap.size w w' := by
 have hu109 := Tryz.underlying109; have HB := asT (Below.refl w.heap.size w); have H := h; unfold spec_l9Kept.f at H; clear h; by_cases c2 : a0_0 = 0
 ·rw [if_pos c2] at H; have c2b0 : (a0_0 == 0) = true := eC c2; have c2b1 : (a0_0 != 0) = false := eA c2; clear c2; obtain rfl := oI H; go_enter Tryz.func155, Tryz.ntmps155
  go_wp2_with (first | ((with_reducible refine gate_dst (N := 1) rfl ?_); refine boxT (N := 1) (cs := #[.int .u8 a0_0, .int .u8 a0_1]) (t := 109) ?_; intro gb275 hg w3 hbox hb; have BK275 := asT hbox; have GW275 := asT (geT hg HB.out); have GE275 := GW275; replace HB := hS HB hb; clear hb hbox hg; obtain ⟨hcz4_0, hcz4_1, hfz4_0, hfz4_1⟩ := bx2 BK275.out))
  go_ret; exact ⟨rlT, hbT HB.out⟩
 ·rw [if_neg c2] at H; have c2b0 : (a0_0 == 0) = false := eB c2; have c2b1 : (a0_0 != 0) = true := eD c2; obtain rfl := oI H; go_enter Tryz.func155, Tryz.ntmps155
  go_wp2_with (first | ((with_reducible refine gate_dst (N := 1) rfl ?_); refine boxT (N := 1) (cs := #[.int .u8 a0_0, .int .u8 a0_1]) (t := 109) ?_; intro gb275 hg w5 hbox hb; have BK275 := asT hbox; have GW275 := asT (geT hg HB.out); have GE275 := GW275; replace HB := hS HB hb; clear hb hbox hg; obtain ⟨hcz6_0, hcz6_1, hfz6_0, hfz6_1⟩ := bx2 BK275.out))
  go_ret; exact ⟨rlT, hbT HB.out⟩
mutual
def spec_CountBreaks.l0 : Nat → Int → Int → Int → List (S109) → Option (Int)
 | 0, _, _, _, _ => none
 | k + 1, x3, x4, x5, x277000 => if x5 < (x277000.length : Int) then ((spec_IsCandidate.f k x277000).bind fun t277 => (spec_CountBreaks.j1 k x3 x4 x5 t277 x277000)) else (spec_CountBreaks.j1 k x3 x4 x5 false x277000)
def spec_CountBreaks.j1 : Nat → Int → Int → Int → Bool → List (S109) → Option (Int)
 | 0, _, _, _, _, _ => none
 | k + 1, x3, x4, x5, x16, x277000 => if x16 = true then (if 0 ≤ x5 then (if x5 < (x277000.length : Int) then ((spec_l9Kept.f ((rd_T109 x277000 x5).f0) ((rd_T109 x277000 x5).f1)).bind fun t279 => (if t279 = true then (if x3 < 0 then (spec_CountBreaks.l0 k x5 x5 (wrap64 (x5 + 1)) x277000) else (spec_CountBreaks.l0 k x3 x5 (wrap64 (x5 + 1)) x277000)) else (spec_CountBreaks.l0 k x3 x4 (wrap64 (x5 + 1)) x277000))) else (none)) else (none)) else (spec_CountBreaks.l1 k x4 0 (mx 0 x3) x277000)
def spec_CountBreaks.l1 : Nat → Int → Int → Int → List (S109) → Option (Int)
 | 0, _, _, _, _ => none
 | k + 1, x4, x6, x7, x277000 => if x7 < x4 then (if 0 ≤ x7 then (if x7 < (x277000.length : Int) then ((spec_l9Kept.f ((rd_T109 x277000 x7).f0) ((rd_T109 x277000 x7).f1)).bind fun t281 => (if t281 = true then (spec_CountBreaks.l1 k x4 x6 (wrap64 (x7 + 1)) x277000) else (spec_CountBreaks.l1 k x4 (wrap64 (x6 + 1)) (wrap64 (x7 + 1)) x277000))) else (none)) else (none)) else (some x6)
end
def spec_CountBreaks.f (k : Nat) (l0_0 : List (S109)) : Option (Int) := spec_CountBreaks.l0 k (-1) (-1) 0 l0_0
theorem spec_CountBreaks.mono_l : ∀ k, (∀ y0 y1 y2 y3, LeO (spec_CountBreaks.l0 k y0 y1 y2 y3) (spec_CountBreaks.l0 (k + 1) y0 y1 y2 y3)) ∧ (∀ y0 y1 y2 y3 y4, LeO (spec_CountBreaks.j1 k y0 y1 y2 y3 y4) (spec_CountBreaks.j1 (k + 1) y0 y1 y2 y3 y4)) ∧ (∀ y0 y1 y2 y3, LeO (spec_CountBreaks.l1 k y0 y1 y2 y3) (spec_CountBreaks.l1 (k + 1) y0 y1 y2 y3))
 | 0 => ⟨fun _ _ _ _ r h => by simp [spec_CountBreaks.l0] at h, fun _ _ _ _ _ r h => by simp [spec_CountBreaks.j1] at h, fun _ _ _ _ r h => by simp [spec_CountBreaks.l1] at h⟩
 | k + 1 => by
  obtain ⟨ih0, ih1, ih2⟩ := spec_CountBreaks.mono_l k; refine ⟨?_, ?_, ?_⟩
  ·intro y0 y1 y2 y3; unfold spec_CountBreaks.l0
   with_reducible repeat' first | exact ih0 _ _ _ _ | exact ih1 _ _ _ _ _ | exact ih2 _ _ _ _ | exact spec_IsCandidate.mono _ _ | exact LeO.refl _ | exact LeO.none _ | refine LeO.ite ?_ ?_ | refine LeO.bind ?_ (fun _ => ?_)
  ·intro y0 y1 y2 y3 y4; unfold spec_CountBreaks.j1
   with_reducible repeat' first | exact ih0 _ _ _ _ | exact ih1 _ _ _ _ _ | exact ih2 _ _ _ _ | exact spec_IsCandidate.mono _ _ | exact LeO.refl _ | exact LeO.none _ | refine LeO.ite ?_ ?_ | refine LeO.bind ?_ (fun _ => ?_)
  ·intro y0 y1 y2 y3; unfold spec_CountBreaks.l1
   with_reducible repeat' first | exact ih0 _ _ _ _ | exact ih1 _ _ _ _ _ | exact ih2 _ _ _ _ | exact spec_IsCandidate.mono _ _ | exact LeO.refl _ | exact LeO.none _ | refine LeO.ite ?_ ?_ | refine LeO.bind ?_ (fun _ => ?_)
theorem spec_CountBreaks.mono : ∀ a0 k, LeO (spec_CountBreaks.f k a0) (spec_CountBreaks.f (k + 1) a0) := by
 intro a0 k; obtain ⟨ih0, ih1, ih2⟩ := spec_CountBreaks.mono_l k; unfold spec_CountBreaks.f
 with_reducible repeat' first | exact ih0 _ _ _ _ | exact ih1 _ _ _ _ _ | exact ih2 _ _ _ _ | exact spec_IsCandidate.mono _ _ | exact LeO.refl _ | exact LeO.none _ | refine LeO.ite ?_ ?_ | refine LeO.bind ?_ (fun _ => ?_)
theorem spec_CountBreaks.calls (k : Nat) (A0_0 : Option Addr) (c0_0 : Nat) (l0_0 : List (S109)) (r : Int) (w : World) (hr0_0 : Kd.C k109 w A0_0 l0_0.length l0_0) (hc0_0 : l0_0.length ≤ c0_0) (h : spec_CountBreaks.f k l0_0 = some r) :
  Calls Tryz.prog 121 #[.agg #[.slice A0_0 l0_0.length c0_0]] w fun e w' => e = .returned (.int .i64 r) ∧ Below w.heap.size w w' := by
 have hu60 := Tryz.underlying60; have hu109 := Tryz.underlying109; have HR0_0 := asT hr0_0; have HC0_0 := asT hc0_0; clear hr0_0 hc0_0; have HB := asT (Below.refl w.heap.size w); have H := h; unfold spec_CountBreaks.f at H; clear h; have H' := asT H; clear H; go_enter Tryz.func121, Tryz.ntmps121
 go_wp2_with (first | ((with_reducible refine gate_dst (N := 1) rfl ?_); refine boxT (N := 1) (cs := #[.slice A0_0 l0_0.length c0_0]) (t := 60) ?_; intro gb276 hg w2 hbox hb; have BK276 := asT hbox; have GW276 := asT (geT hg HB.out); have GE276 := GW276; replace HB := hS HB hb; clear hb hbox hg))
 go_loopg [3, 4, 5] k (fun kq v3 v4 v5 w' => ∃ (x3_1 : Int) (x4_1 : Int) (x5_1 : Int), v3 = .int .i64 x3_1 ∧ v4 = .int .i64 x4_1 ∧ v5 = .int .i64 x5_1 ∧ Aside0 (spec_CountBreaks.l0 kq x3_1 x4_1 x5_1 l0_0 = some r) ∧ Aside0 (kq ≤ k) ∧ Aside0 (w'.heap[gb276]? = some (.cells #[(.slice A0_0 l0_0.length c0_0)] 60 (0, 0))) ∧ Aside0 (Below w.heap.size w w'))
 case atStart => exact ⟨((-1)), ((-1)), (0), rdT, rdT, rdT, H', ⟨Nat.le_refl _⟩, kpT BK276.out, ⟨hbT HB.out⟩⟩
 case round =>
  clear H'; (try clear c1 p2); obtain ⟨x3_1, x4_1, x5_1, rfl, rfl, rfl, HA, HK1, BK276, HB⟩ := hrel
  cases gk with
  | zero => exact absurd HA.out (by simp [spec_CountBreaks.l0])
  | succ k1 =>
   have H := HA.out; clear HA
   simp only [spec_CountBreaks.l0] at H
   have HC3 := asT H; clear H
   go_upto_region 4 with (fail)
   go_cut [16] (fun v16 wc => ∃ (kq : Nat) (x16_2 : Bool), v16 = .bool x16_2 ∧ Aside0 (spec_CountBreaks.j1 kq x3_1 x4_1 x5_1 x16_2 l0_0 = some r) ∧ Aside0 (kq ≤ k1) ∧ Aside0 (wc.heap[gb276]? = some (.cells #[(.slice A0_0 l0_0.length c0_0)] 60 (0, 0))) ∧ Aside0 (Below w.heap.size w wc))
   case first =>
    have H := HC3.out; clear HC3; by_cases c4 : x5_1 < (l0_0.length : Int)
    ·rw [if_pos c4] at H; have c4b0 := dt c4; clear c4
     (first | rw [c4b0] | (simp only [i64_w, i32_w]; rw [c4b0]) | skip)
     obtain ⟨t277, A5, H⟩ := be H; have H' := asT H; clear H; obtain ⟨hcz6_0, hfz6_0⟩ := bx1 BK276.out
     go_wp2_with (first | (go_at_call 78; (with_reducible refine (spec_IsCandidate.calls k1 _ _ l0_0 t277 _ ?side1 ?side2 A5.out).mono ?_); (case side1 => exact crT HR0_0.out HB.out); (case side2 => exact HC0_0.out); rintro e w7 ⟨rfl, hb⟩; replace BK276 := bS BK276 hb; replace HB := hS HB hb; (try clear hb hb2 hk hi)))
     go_meet
     case rel => exact ⟨_, (t277), rdT, H', ⟨by have := HK1.out; first | omega | exact Nat.le_refl _⟩, kpT BK276.out, ⟨hbT HB.out⟩⟩
    ·rw [if_neg c4] at H; have c4b0 := df c4; clear c4
     (first | rw [c4b0] | (simp only [i64_w, i32_w]; rw [c4b0]) | skip)
     have H' := asT H; clear H; obtain ⟨hcz8_0, hfz8_0⟩ := bx1 BK276.out
     go_wp2
     go_meet
     case rel => exact ⟨_, (false), rdT, H', ⟨by have := HK1.out; first | omega | exact Nat.le_refl _⟩, kpT BK276.out, ⟨hbT HB.out⟩⟩
   case rest =>
    clear HC3; (try clear c1 p2 c4 c4b0 hcz6_0 hcz8_0 hfz6_0 hfz8_0 p2); obtain ⟨kq, x16_2, rfl, HA, HJ2, BK276, HB⟩ := hcut
    cases kq with
    | zero => exact absurd HA.out (by simp [spec_CountBreaks.j1])
    | succ kj2 =>
     have H := HA.out; clear HA
     simp only [spec_CountBreaks.j1] at H
     by_cases c9 : x16_2 = true
     ·subst c9; rw [if_pos rfl] at H; have H1 := H; clear H; have H := H1; clear H1; by_cases c10 : 0 ≤ x5_1
      ·rw [if_pos c10] at H; have c10b0 := dt c10; clear c10; by_cases c11 : x5_1 < (l0_0.length : Int)
       ·rw [if_pos c11] at H; have c11b0 := dt c11; clear c11; obtain ⟨t279, A12, H⟩ := be H; by_cases c13 : t279 = true
        ·subst c13; rw [if_pos rfl] at H; have H1 := H; clear H; have H := H1; clear H1; by_cases c14 : x3_1 < 0
         ·rw [if_pos c14] at H; have c14b0 := dt c14; clear c14; have H' := asT H; clear H; obtain ⟨hcz15_0, hfz15_0⟩ := bx1 BK276.out; have p278 : 0 ≤ (x5_1 : Int) := dT asmT; have q278 : x5_1 < (l0_0.length : Int) := dT asmT; obtain ⟨ad278, e278, hx278_0, hx278_1⟩ := at_T109 HR0_0.out x5_1 p278 q278
          cases e278
          replace hx278_0 := hbc HB.out hx278_0; replace hx278_1 := hbc HB.out hx278_1; replace p278 := eq_true p278; replace q278 := eq_true q278
          go_wp2_with (first | ((with_reducible refine gate_callee (f := 155) rfl ?_); refine goesL_ (some 24) rfl rfl Tryz.func155 (by kernel_rfl) rfl #[.agg #[.int .u8 ((rd_T109 l0_0 x5_1).f0), .int .u8 ((rd_T109 l0_0 x5_1).f1)]] rfl eqT ?_; (with_reducible refine (spec_l9Kept.calls ((rd_T109 l0_0 x5_1).f0) ((rd_T109 l0_0 x5_1).f1) true _ A12.out).mono ?_); rintro e w16 ⟨rfl, hb⟩; refine ⟨_, rfl, ?_⟩; replace BK276 := bS BK276 hb; replace HB := hS HB hb; (try clear hb hb2 hk hi)))
          go_roundg kj2
          case measure => have := HK1.out; have := HJ2.out; omega
          case rel => exact ⟨(x5_1), (x5_1), (wrap64 (x5_1 + 1)), rdT, rdT, rdT, H', ⟨by have := HK1.out; have := HJ2.out; omega⟩, kpT BK276.out, ⟨hbT HB.out⟩⟩
         ·rw [if_neg c14] at H; have c14b0 := df c14; clear c14; have H' := asT H; clear H; obtain ⟨hcz17_0, hfz17_0⟩ := bx1 BK276.out; have p278 : 0 ≤ (x5_1 : Int) := dT asmT; have q278 : x5_1 < (l0_0.length : Int) := dT asmT; obtain ⟨ad278, e278, hx278_0, hx278_1⟩ := at_T109 HR0_0.out x5_1 p278 q278
          cases e278
          replace hx278_0 := hbc HB.out hx278_0; replace hx278_1 := hbc HB.out hx278_1; replace p278 := eq_true p278; replace q278 := eq_true q278
          go_wp2_with (first | ((with_reducible refine gate_callee (f := 155) rfl ?_); refine goesL_ (some 24) rfl rfl Tryz.func155 (by kernel_rfl) rfl #[.agg #[.int .u8 ((rd_T109 l0_0 x5_1).f0), .int .u8 ((rd_T109 l0_0 x5_1).f1)]] rfl eqT ?_; (with_reducible refine (spec_l9Kept.calls ((rd_T109 l0_0 x5_1).f0) ((rd_T109 l0_0 x5_1).f1) true _ A12.out).mono ?_); rintro e w18 ⟨rfl, hb⟩; refine ⟨_, rfl, ?_⟩; replace BK276 := bS BK276 hb; replace HB := hS HB hb; (try clear hb hb2 hk hi)))
          go_roundg kj2
          case measure => have := HK1.out; have := HJ2.out; omega
          case rel => exact ⟨(x3_1), (x5_1), (wrap64 (x5_1 + 1)), rdT, rdT, rdT, H', ⟨by have := HK1.out; have := HJ2.out; omega⟩, kpT BK276.out, ⟨hbT HB.out⟩⟩
        ·replace c13 := eE c13; subst c13; rw [if_neg nF] at H; have H' := asT H; clear H; obtain ⟨hcz19_0, hfz19_0⟩ := bx1 BK276.out; have p278 : 0 ≤ (x5_1 : Int) := dT asmT; have q278 : x5_1 < (l0_0.length : Int) := dT asmT; obtain ⟨ad278, e278, hx278_0, hx278_1⟩ := at_T109 HR0_0.out x5_1 p278 q278
         cases e278
         replace hx278_0 := hbc HB.out hx278_0; replace hx278_1 := hbc HB.out hx278_1; replace p278 := eq_true p278; replace q278 := eq_true q278
         go_wp2_with (first | ((with_reducible refine gate_callee (f := 155) rfl ?_); refine goesL_ (some 24) rfl rfl Tryz.func155 (by kernel_rfl) rfl #[.agg #[.int .u8 ((rd_T109 l0_0 x5_1).f0), .int .u8 ((rd_T109 l0_0 x5_1).f1)]] rfl eqT ?_; (with_reducible refine (spec_l9Kept.calls ((rd_T109 l0_0 x5_1).f0) ((rd_T109 l0_0 x5_1).f1) false _ A12.out).mono ?_); rintro e w20 ⟨rfl, hb⟩; refine ⟨_, rfl, ?_⟩; replace BK276 := bS BK276 hb; replace HB := hS HB hb; (try clear hb hb2 hk hi)))
         go_roundg kj2
         case measure => have := HK1.out; have := HJ2.out; omega
         case rel => exact ⟨(x3_1), (x4_1), (wrap64 (x5_1 + 1)), rdT, rdT, rdT, H', ⟨by have := HK1.out; have := HJ2.out; omega⟩, kpT BK276.out, ⟨hbT HB.out⟩⟩
       ·rw [if_neg c11] at H; exact absurd H (by simp)
      ·rw [if_neg c10] at H; exact absurd H (by simp)
     ·replace c9 := eE c9; subst c9; rw [if_neg nF] at H; obtain ⟨ji21, hji21⟩ : ∃ j_ : Int, (mx 0 x3_1) = j_ := ⟨_, rfl⟩
      replace H : (spec_CountBreaks.l1 kj2 x4_1 0 ji21 l0_0) = some r := by first | (rw [hji21] at H; exact H) | (simp only [hji21] at H ⊢; exact H)
      have hji21_ : (if 0 < x3_1 then x3_1 else 0) = ji21 := hji21; have H' := asT H; clear H
      go_wp2
      go_loopg [6, 7] kj2 (fun kq v6 v7 w' => ∃ (x6_3 : Int) (x7_3 : Int), v6 = .int .i64 x6_3 ∧ v7 = .int .i64 x7_3 ∧ Aside0 (spec_CountBreaks.l1 kq x4_1 x6_3 x7_3 l0_0 = some r) ∧ Aside0 (kq ≤ kj2) ∧ Aside0 (w'.heap[gb276]? = some (.cells #[(.slice A0_0 l0_0.length c0_0)] 60 (0, 0))) ∧ Aside0 (Below w.heap.size w w'))
      case atStart => exact ⟨(0), (ji21), rdT, (by first | rfl | (simp; done) | (simp only [← hji21] <;> (first | rfl | simp)) | (simp [*]; done)), H', ⟨Nat.le_refl _⟩, kpT BK276.out, ⟨hbT HB.out⟩⟩
      case round =>
       clear H'; (try clear c1 p2 q2 hx2 c4 c4b0 p6 c9 c10 c10b0 c11 c11b0 c12 c13 c14 c14b0 c15 hcz15_0 hcz17_0 hcz19_0 hcz6_0 hcz8_0 hfz15_0 hfz17_0 hfz19_0 hfz6_0 hfz8_0 hx278_0 hx278_1 p2 p278 q278); obtain ⟨x6_3, x7_3, rfl, rfl, HA, HK3, BK276, HB⟩ := hrel
       cases gk with
       | zero => exact absurd HA.out (by simp [spec_CountBreaks.l1])
       | succ k3 =>
        have H := HA.out; clear HA
        simp only [spec_CountBreaks.l1] at H
        by_cases c22 : x7_3 < x4_1
        ·rw [if_pos c22] at H; have c22b0 := dt c22; clear c22; by_cases c23 : 0 ≤ x7_3
         ·rw [if_pos c23] at H; have c23b0 := dt c23; clear c23; by_cases c24 : x7_3 < (l0_0.length : Int)
          ·rw [if_pos c24] at H; have c24b0 := dt c24; clear c24; obtain ⟨t281, A25, H⟩ := be H; by_cases c26 : t281 = true
           ·subst c26; rw [if_pos rfl] at H; have H' := asT H; clear H; obtain ⟨hcz27_0, hfz27_0⟩ := bx1 BK276.out; have p280 : 0 ≤ (x7_3 : Int) := dT asmT; have q280 : x7_3 < (l0_0.length : Int) := dT asmT; obtain ⟨ad280, e280, hx280_0, hx280_1⟩ := at_T109 HR0_0.out x7_3 p280 q280
            cases e280
            replace hx280_0 := hbc HB.out hx280_0; replace hx280_1 := hbc HB.out hx280_1; replace p280 := eq_true p280; replace q280 := eq_true q280
            go_wp2_with (first | ((with_reducible refine gate_callee (f := 155) rfl ?_); refine goesL_ (some 41) rfl rfl Tryz.func155 (by kernel_rfl) rfl #[.agg #[.int .u8 ((rd_T109 l0_0 x7_3).f0), .int .u8 ((rd_T109 l0_0 x7_3).f1)]] rfl eqT ?_; (with_reducible refine (spec_l9Kept.calls ((rd_T109 l0_0 x7_3).f0) ((rd_T109 l0_0 x7_3).f1) true _ A25.out).mono ?_); rintro e w28 ⟨rfl, hb⟩; refine ⟨_, rfl, ?_⟩; replace BK276 := bS BK276 hb; replace HB := hS HB hb; (try clear hb hb2 hk hi)))
            go_roundg k3
            case measure => have := HK1.out; have := HJ2.out; have := HK3.out; omega
            case rel => exact ⟨(x6_3), (wrap64 (x7_3 + 1)), rdT, rdT, H', ⟨by have := HK1.out; have := HJ2.out; have := HK3.out; omega⟩, kpT BK276.out, ⟨hbT HB.out⟩⟩
           ·replace c26 := eE c26; subst c26; rw [if_neg nF] at H; have H' := asT H; clear H; obtain ⟨hcz29_0, hfz29_0⟩ := bx1 BK276.out; have p280 : 0 ≤ (x7_3 : Int) := dT asmT; have q280 : x7_3 < (l0_0.length : Int) := dT asmT; obtain ⟨ad280, e280, hx280_0, hx280_1⟩ := at_T109 HR0_0.out x7_3 p280 q280
            cases e280
            replace hx280_0 := hbc HB.out hx280_0; replace hx280_1 := hbc HB.out hx280_1; replace p280 := eq_true p280; replace q280 := eq_true q280
            go_wp2_with (first | ((with_reducible refine gate_callee (f := 155) rfl ?_); refine goesL_ (some 41) rfl rfl Tryz.func155 (by kernel_rfl) rfl #[.agg #[.int .u8 ((rd_T109 l0_0 x7_3).f0), .int .u8 ((rd_T109 l0_0 x7_3).f1)]] rfl eqT ?_; (with_reducible refine (spec_l9Kept.calls ((rd_T109 l0_0 x7_3).f0) ((rd_T109 l0_0 x7_3).f1) false _ A25.out).mono ?_); rintro e w30 ⟨rfl, hb⟩; refine ⟨_, rfl, ?_⟩; replace BK276 := bS BK276 hb; replace HB := hS HB hb; (try clear hb hb2 hk hi)))
            go_roundg k3
            case measure => have := HK1.out; have := HJ2.out; have := HK3.out; omega
            case rel => exact ⟨(wrap64 (x6_3 + 1)), (wrap64 (x7_3 + 1)), rdT, rdT, H', ⟨by have := HK1.out; have := HJ2.out; have := HK3.out; omega⟩, kpT BK276.out, ⟨hbT HB.out⟩⟩
          ·rw [if_neg c24] at H; exact absurd H (by simp)
         ·rw [if_neg c23] at H; exact absurd H (by simp)
        ·rw [if_neg c22] at H; have c22b0 := df c22; clear c22; obtain rfl := oI H
         go_wp2
         go_ret; exact ⟨by first | rfl | (simp [errW_none, errW_some] <;> rfl) | (simp only [← hji21]; first | rfl | (simp [errW_none, errW_some] <;> rfl)) | (simp [*, errW_none, errW_some] <;> rfl), hbT HB.out⟩
def spec_ViolationsOf.f (k : Nat) (a0 : ByteArray) (l1_0 : List (S109)) : Option (Int) := (spec_IsCandidate.f k l1_0).bind fun t283 => (if t283 = true then ((spec_OutputOf.f k l1_0).bind fun t284 => (if a0.toList = ([111, 110, 115, 101, 116] : List UInt8) then ((spec_CountOnsetless.f k t284).bind fun t285 => (some t285)) else (if a0.toList = ([110, 111, 99, 111, 100, 97] : List UInt8) then ((spec_CountCodas.f k t284).bind fun t286 => (some t286)) else (if a0.toList = ([99, 108, 117, 115, 116, 101, 114] : List UInt8) then ((spec_CountClusters.f k t284).bind fun t287 => (some t287)) else (if a0.toList = ([118, 111, 105, 99, 101] : List UInt8) then ((spec_CountVoiced.f k t284).bind fun t288 => (some t288)) else (if a0.toList = ([102, 105, 110, 97, 108] : List UInt8) then ((spec_CountFinalVoiced.f k t284).bind fun t289 => (some t289)) else (if a0.toList = ([110, 97, 115, 97, 108] : List UInt8) then ((spec_CountNasalVoiceless.f k t284).bind fun t290 => (some t290)) else (if a0.toList = ([109, 97, 120] : List UInt8) then ((spec_CountDeleted.f k l1_0).bind fun t291 => (some t291)) else (if a0.toList = ([100, 101, 112] : List UInt8) then ((spec_CountInserted.f k l1_0).bind fun t292 => (some t292)) else (if a0.toList = ([105, 100, 101, 110, 116] : List UInt8) then ((spec_CountVoiceChanged.f k l1_0).bind fun t293 => (some t293)) else (if a0.toList = ([99, 111, 110, 116, 105, 103] : List UInt8) then ((spec_CountBreaks.f k l1_0).bind fun t294 => (some t294)) else (some (-1))))))))))))) else (some (-1)))
theorem spec_ViolationsOf.mono : ∀ a0 a1 k, LeO (spec_ViolationsOf.f k a0 a1) (spec_ViolationsOf.f (k + 1) a0 a1) := by
 intro a0 a1 k; unfold spec_ViolationsOf.f
 with_reducible repeat' first | exact spec_CountBreaks.mono _ _ | exact spec_CountClusters.mono _ _ | exact spec_CountCodas.mono _ _ | exact spec_CountDeleted.mono _ _ | exact spec_CountFinalVoiced.mono _ _ | exact spec_CountInserted.mono _ _ | exact spec_CountNasalVoiceless.mono _ _ | exact spec_CountOnsetless.mono _ _ | exact spec_CountVoiceChanged.mono _ _ | exact spec_CountVoiced.mono _ _ | exact spec_IsCandidate.mono _ _ | exact spec_OutputOf.mono _ _ | exact LeO.refl _ | exact LeO.none _ | refine LeO.ite ?_ ?_ | refine LeO.bind ?_ (fun _ => ?_)
theorem spec_ViolationsOf.calls (k : Nat) (a0 : ByteArray) (A1_0 : Option Addr) (c1_0 : Nat) (l1_0 : List (S109)) (r : Int) (w : World) (hr1_0 : Kd.C k109 w A1_0 l1_0.length l1_0) (hc1_0 : l1_0.length ≤ c1_0) (h : spec_ViolationsOf.f k a0 l1_0 = some r) :
  Calls Tryz.prog 79 #[.string a0, .agg #[.slice A1_0 l1_0.length c1_0]] w fun e w' => e = .returned (.int .i64 r) ∧ Below w.heap.size w w' := by
 have hu60 := Tryz.underlying60; have HR1_0 := asT hr1_0; have HC1_0 := asT hc1_0; clear hr1_0 hc1_0; have HB := asT (Below.refl w.heap.size w); have H := h; unfold spec_ViolationsOf.f at H; clear h; obtain ⟨t283, A3, H⟩ := be H; by_cases c4 : t283 = true
 ·subst c4; rw [if_pos rfl] at H; obtain ⟨t284, A5, H⟩ := be H; by_cases c6 : a0.toList = ([111, 110, 115, 101, 116] : List UInt8)
  ·rw [if_pos c6] at H; have c6b0 : (a0.toList == ([111, 110, 115, 101, 116] : List UInt8)) = true := eC c6; have c6b1 : (a0.toList != ([111, 110, 115, 101, 116] : List UInt8)) = false := eA c6; clear c6; obtain ⟨t285, A7, H⟩ := be H; obtain rfl := oI H; go_enter Tryz.func79, Tryz.ntmps79
   go_wp2_with (first | ((with_reducible refine gate_dst (N := 3) rfl ?_); refine boxT (N := 3) (cs := #[.slice A1_0 l1_0.length c1_0]) (t := 60) ?_; intro gb282 hg w8 hbox hb; have BK282 := asT hbox; have GW282 := asT (geT hg HB.out); have GE282 := GW282; replace HB := hS HB hb; clear hb hbox hg; obtain ⟨hcz9_0, hfz9_0⟩ := bx1 BK282.out) | ((with_reducible refine gate_callee (f := 78) rfl ?_); refine goesL_ (some 7) rfl rfl Tryz.func78 (by kernel_rfl) rfl #[.agg #[.slice A1_0 l1_0.length c1_0]] rfl eqT ?_; (with_reducible refine (spec_IsCandidate.calls k _ _ l1_0 true _ ?side1 ?side2 A3.out).mono ?_); (case side1 => exact crT HR1_0.out HB.out); (case side2 => exact HC1_0.out); rintro e w10 ⟨rfl, hb⟩; refine ⟨_, rfl, ?_⟩; replace BK282 := bS BK282 hb; replace HB := hS HB hb; (try clear hb hb2 hk hi); obtain ⟨hcz11_0, hfz11_0⟩ := bx1 BK282.out) | ((with_reducible refine gate_callee (f := 71) rfl ?_); refine goesL_ (some 10) rfl rfl Tryz.func71 (by kernel_rfl) rfl #[.agg #[.slice A1_0 l1_0.length c1_0]] rfl eqT ?_; (with_reducible refine (spec_OutputOf.calls k _ _ l1_0 t284 _ ?side1 ?side2 A5.out).mono ?_); (case side1 => exact crT HR1_0.out HB.out); (case side2 => exact HC1_0.out); rintro e w12 ⟨rfl, hb⟩; refine ⟨_, rfl, ?_⟩; replace BK282 := bS BK282 hb; replace HB := hS HB hb; (try clear hb hb2 hk hi)) | ((with_reducible refine gate_callee (f := 112) rfl ?_); refine goesL_ (some 15) rfl rfl Tryz.func112 (by kernel_rfl) rfl #[.string t284] rfl eqT ?_; (with_reducible refine (spec_CountOnsetless.calls k t284 t285 _ A7.out).mono ?_); rintro e w' ⟨rfl, ⟨nd, rfl⟩⟩; refine ⟨_, rfl, ?_⟩))
   go_ret; exact ⟨rlT, hbT HB.out⟩
  ·rw [if_neg c6] at H; have c6b0 : (a0.toList == ([111, 110, 115, 101, 116] : List UInt8)) = false := eB c6; have c6b1 : (a0.toList != ([111, 110, 115, 101, 116] : List UInt8)) = true := eD c6; by_cases c13 : a0.toList = ([110, 111, 99, 111, 100, 97] : List UInt8)
   ·rw [if_pos c13] at H; have c13b0 : (a0.toList == ([110, 111, 99, 111, 100, 97] : List UInt8)) = true := eC c13; have c13b1 : (a0.toList != ([110, 111, 99, 111, 100, 97] : List UInt8)) = false := eA c13; clear c13; obtain ⟨t286, A14, H⟩ := be H; obtain rfl := oI H; go_enter Tryz.func79, Tryz.ntmps79
    go_wp2_with (first | ((with_reducible refine gate_dst (N := 3) rfl ?_); refine boxT (N := 3) (cs := #[.slice A1_0 l1_0.length c1_0]) (t := 60) ?_; intro gb282 hg w15 hbox hb; have BK282 := asT hbox; have GW282 := asT (geT hg HB.out); have GE282 := GW282; replace HB := hS HB hb; clear hb hbox hg; obtain ⟨hcz16_0, hfz16_0⟩ := bx1 BK282.out) | ((with_reducible refine gate_callee (f := 78) rfl ?_); refine goesL_ (some 7) rfl rfl Tryz.func78 (by kernel_rfl) rfl #[.agg #[.slice A1_0 l1_0.length c1_0]] rfl eqT ?_; (with_reducible refine (spec_IsCandidate.calls k _ _ l1_0 true _ ?side1 ?side2 A3.out).mono ?_); (case side1 => exact crT HR1_0.out HB.out); (case side2 => exact HC1_0.out); rintro e w17 ⟨rfl, hb⟩; refine ⟨_, rfl, ?_⟩; replace BK282 := bS BK282 hb; replace HB := hS HB hb; (try clear hb hb2 hk hi); obtain ⟨hcz18_0, hfz18_0⟩ := bx1 BK282.out) | ((with_reducible refine gate_callee (f := 71) rfl ?_); refine goesL_ (some 10) rfl rfl Tryz.func71 (by kernel_rfl) rfl #[.agg #[.slice A1_0 l1_0.length c1_0]] rfl eqT ?_; (with_reducible refine (spec_OutputOf.calls k _ _ l1_0 t284 _ ?side1 ?side2 A5.out).mono ?_); (case side1 => exact crT HR1_0.out HB.out); (case side2 => exact HC1_0.out); rintro e w19 ⟨rfl, hb⟩; refine ⟨_, rfl, ?_⟩; replace BK282 := bS BK282 hb; replace HB := hS HB hb; (try clear hb hb2 hk hi)) | ((with_reducible refine gate_callee (f := 113) rfl ?_); refine goesL_ (some 19) rfl rfl Tryz.func113 (by kernel_rfl) rfl #[.string t284] rfl eqT ?_; (with_reducible refine (spec_CountCodas.calls k t284 t286 _ A14.out).mono ?_); rintro e w' ⟨rfl, ⟨nd, rfl⟩⟩; refine ⟨_, rfl, ?_⟩))
    go_ret; exact ⟨rlT, hbT HB.out⟩
   ·rw [if_neg c13] at H; have c13b0 : (a0.toList == ([110, 111, 99, 111, 100, 97] : List UInt8)) = false := eB c13; have c13b1 : (a0.toList != ([110, 111, 99, 111, 100, 97] : List UInt8)) = true := eD c13; by_cases c20 : a0.toList = ([99, 108, 117, 115, 116, 101, 114] : List UInt8)
    ·rw [if_pos c20] at H; have c20b0 : (a0.toList == ([99, 108, 117, 115, 116, 101, 114] : List UInt8)) = true := eC c20; have c20b1 : (a0.toList != ([99, 108, 117, 115, 116, 101, 114] : List UInt8)) = false := eA c20; clear c20; obtain ⟨t287, A21, H⟩ := be H; obtain rfl := oI H; go_enter Tryz.func79, Tryz.ntmps79
     go_wp2_with (first | ((with_reducible refine gate_dst (N := 3) rfl ?_); refine boxT (N := 3) (cs := #[.slice A1_0 l1_0.length c1_0]) (t := 60) ?_; intro gb282 hg w22 hbox hb; have BK282 := asT hbox; have GW282 := asT (geT hg HB.out); have GE282 := GW282; replace HB := hS HB hb; clear hb hbox hg; obtain ⟨hcz23_0, hfz23_0⟩ := bx1 BK282.out) | ((with_reducible refine gate_callee (f := 78) rfl ?_); refine goesL_ (some 7) rfl rfl Tryz.func78 (by kernel_rfl) rfl #[.agg #[.slice A1_0 l1_0.length c1_0]] rfl eqT ?_; (with_reducible refine (spec_IsCandidate.calls k _ _ l1_0 true _ ?side1 ?side2 A3.out).mono ?_); (case side1 => exact crT HR1_0.out HB.out); (case side2 => exact HC1_0.out); rintro e w24 ⟨rfl, hb⟩; refine ⟨_, rfl, ?_⟩; replace BK282 := bS BK282 hb; replace HB := hS HB hb; (try clear hb hb2 hk hi); obtain ⟨hcz25_0, hfz25_0⟩ := bx1 BK282.out) | ((with_reducible refine gate_callee (f := 71) rfl ?_); refine goesL_ (some 10) rfl rfl Tryz.func71 (by kernel_rfl) rfl #[.agg #[.slice A1_0 l1_0.length c1_0]] rfl eqT ?_; (with_reducible refine (spec_OutputOf.calls k _ _ l1_0 t284 _ ?side1 ?side2 A5.out).mono ?_); (case side1 => exact crT HR1_0.out HB.out); (case side2 => exact HC1_0.out); rintro e w26 ⟨rfl, hb⟩; refine ⟨_, rfl, ?_⟩; replace BK282 := bS BK282 hb; replace HB := hS HB hb; (try clear hb hb2 hk hi)) | ((with_reducible refine gate_callee (f := 114) rfl ?_); refine goesL_ (some 23) rfl rfl Tryz.func114 (by kernel_rfl) rfl #[.string t284] rfl eqT ?_; (with_reducible refine (spec_CountClusters.calls k t284 t287 _ A21.out).mono ?_); rintro e w' ⟨rfl, ⟨nd, rfl⟩⟩; refine ⟨_, rfl, ?_⟩))
     go_ret; exact ⟨rlT, hbT HB.out⟩
    ·rw [if_neg c20] at H; have c20b0 : (a0.toList == ([99, 108, 117, 115, 116, 101, 114] : List UInt8)) = false := eB c20; have c20b1 : (a0.toList != ([99, 108, 117, 115, 116, 101, 114] : List UInt8)) = true := eD c20; by_cases c27 : a0.toList = ([118, 111, 105, 99, 101] : List UInt8)
     ·rw [if_pos c27] at H; have c27b0 : (a0.toList == ([118, 111, 105, 99, 101] : List UInt8)) = true := eC c27; have c27b1 : (a0.toList != ([118, 111, 105, 99, 101] : List UInt8)) = false := eA c27; clear c27; obtain ⟨t288, A28, H⟩ := be H; obtain rfl := oI H; go_enter Tryz.func79, Tryz.ntmps79
      go_wp2_with (first | ((with_reducible refine gate_dst (N := 3) rfl ?_); refine boxT (N := 3) (cs := #[.slice A1_0 l1_0.length c1_0]) (t := 60) ?_; intro gb282 hg w29 hbox hb; have BK282 := asT hbox; have GW282 := asT (geT hg HB.out); have GE282 := GW282; replace HB := hS HB hb; clear hb hbox hg; obtain ⟨hcz30_0, hfz30_0⟩ := bx1 BK282.out) | ((with_reducible refine gate_callee (f := 78) rfl ?_); refine goesL_ (some 7) rfl rfl Tryz.func78 (by kernel_rfl) rfl #[.agg #[.slice A1_0 l1_0.length c1_0]] rfl eqT ?_; (with_reducible refine (spec_IsCandidate.calls k _ _ l1_0 true _ ?side1 ?side2 A3.out).mono ?_); (case side1 => exact crT HR1_0.out HB.out); (case side2 => exact HC1_0.out); rintro e w31 ⟨rfl, hb⟩; refine ⟨_, rfl, ?_⟩; replace BK282 := bS BK282 hb; replace HB := hS HB hb; (try clear hb hb2 hk hi); obtain ⟨hcz32_0, hfz32_0⟩ := bx1 BK282.out) | ((with_reducible refine gate_callee (f := 71) rfl ?_); refine goesL_ (some 10) rfl rfl Tryz.func71 (by kernel_rfl) rfl #[.agg #[.slice A1_0 l1_0.length c1_0]] rfl eqT ?_; (with_reducible refine (spec_OutputOf.calls k _ _ l1_0 t284 _ ?side1 ?side2 A5.out).mono ?_); (case side1 => exact crT HR1_0.out HB.out); (case side2 => exact HC1_0.out); rintro e w33 ⟨rfl, hb⟩; refine ⟨_, rfl, ?_⟩; replace BK282 := bS BK282 hb; replace HB := hS HB hb; (try clear hb hb2 hk hi)) | ((with_reducible refine gate_callee (f := 115) rfl ?_); refine goesL_ (some 27) rfl rfl Tryz.func115 (by kernel_rfl) rfl #[.string t284] rfl eqT ?_; (with_reducible refine (spec_CountVoiced.calls k t284 t288 _ A28.out).mono ?_); rintro e w' ⟨rfl, ⟨nd, rfl⟩⟩; refine ⟨_, rfl, ?_⟩))
      go_ret; exact ⟨rlT, hbT HB.out⟩
     ·rw [if_neg c27] at H; have c27b0 : (a0.toList == ([118, 111, 105, 99, 101] : List UInt8)) = false := eB c27; have c27b1 : (a0.toList != ([118, 111, 105, 99, 101] : List UInt8)) = true := eD c27; by_cases c34 : a0.toList = ([102, 105, 110, 97, 108] : List UInt8)
      ·rw [if_pos c34] at H; have c34b0 : (a0.toList == ([102, 105, 110, 97, 108] : List UInt8)) = true := eC c34; have c34b1 : (a0.toList != ([102, 105, 110, 97, 108] : List UInt8)) = false := eA c34; clear c34; obtain ⟨t289, A35, H⟩ := be H; obtain rfl := oI H; go_enter Tryz.func79, Tryz.ntmps79
       go_wp2_with (first | ((with_reducible refine gate_dst (N := 3) rfl ?_); refine boxT (N := 3) (cs := #[.slice A1_0 l1_0.length c1_0]) (t := 60) ?_; intro gb282 hg w36 hbox hb; have BK282 := asT hbox; have GW282 := asT (geT hg HB.out); have GE282 := GW282; replace HB := hS HB hb; clear hb hbox hg; obtain ⟨hcz37_0, hfz37_0⟩ := bx1 BK282.out) | ((with_reducible refine gate_callee (f := 78) rfl ?_); refine goesL_ (some 7) rfl rfl Tryz.func78 (by kernel_rfl) rfl #[.agg #[.slice A1_0 l1_0.length c1_0]] rfl eqT ?_; (with_reducible refine (spec_IsCandidate.calls k _ _ l1_0 true _ ?side1 ?side2 A3.out).mono ?_); (case side1 => exact crT HR1_0.out HB.out); (case side2 => exact HC1_0.out); rintro e w38 ⟨rfl, hb⟩; refine ⟨_, rfl, ?_⟩; replace BK282 := bS BK282 hb; replace HB := hS HB hb; (try clear hb hb2 hk hi); obtain ⟨hcz39_0, hfz39_0⟩ := bx1 BK282.out) | ((with_reducible refine gate_callee (f := 71) rfl ?_); refine goesL_ (some 10) rfl rfl Tryz.func71 (by kernel_rfl) rfl #[.agg #[.slice A1_0 l1_0.length c1_0]] rfl eqT ?_; (with_reducible refine (spec_OutputOf.calls k _ _ l1_0 t284 _ ?side1 ?side2 A5.out).mono ?_); (case side1 => exact crT HR1_0.out HB.out); (case side2 => exact HC1_0.out); rintro e w40 ⟨rfl, hb⟩; refine ⟨_, rfl, ?_⟩; replace BK282 := bS BK282 hb; replace HB := hS HB hb; (try clear hb hb2 hk hi)) | ((with_reducible refine gate_callee (f := 116) rfl ?_); refine goesL_ (some 31) rfl rfl Tryz.func116 (by kernel_rfl) rfl #[.string t284] rfl eqT ?_; (with_reducible refine (spec_CountFinalVoiced.calls k t284 t289 _ A35.out).mono ?_); rintro e w' ⟨rfl, ⟨nd, rfl⟩⟩; refine ⟨_, rfl, ?_⟩))
       go_ret; exact ⟨rlT, hbT HB.out⟩
      ·rw [if_neg c34] at H; have c34b0 : (a0.toList == ([102, 105, 110, 97, 108] : List UInt8)) = false := eB c34; have c34b1 : (a0.toList != ([102, 105, 110, 97, 108] : List UInt8)) = true := eD c34; by_cases c41 : a0.toList = ([110, 97, 115, 97, 108] : List UInt8)
       ·rw [if_pos c41] at H; have c41b0 : (a0.toList == ([110, 97, 115, 97, 108] : List UInt8)) = true := eC c41; have c41b1 : (a0.toList != ([110, 97, 115, 97, 108] : List UInt8)) = false := eA c41; clear c41; obtain ⟨t290, A42, H⟩ := be H; obtain rfl := oI H; go_enter Tryz.func79, Tryz.ntmps79
        go_wp2_with (first | ((with_reducible refine gate_dst (N := 3) rfl ?_); refine boxT (N := 3) (cs := #[.slice A1_0 l1_0.length c1_0]) (t := 60) ?_; intro gb282 hg w43 hbox hb; have BK282 := asT hbox; have GW282 := asT (geT hg HB.out); have GE282 := GW282; replace HB := hS HB hb; clear hb hbox hg; obtain ⟨hcz44_0, hfz44_0⟩ := bx1 BK282.out) | ((with_reducible refine gate_callee (f := 78) rfl ?_); refine goesL_ (some 7) rfl rfl Tryz.func78 (by kernel_rfl) rfl #[.agg #[.slice A1_0 l1_0.length c1_0]] rfl eqT ?_; (with_reducible refine (spec_IsCandidate.calls k _ _ l1_0 true _ ?side1 ?side2 A3.out).mono ?_); (case side1 => exact crT HR1_0.out HB.out); (case side2 => exact HC1_0.out); rintro e w45 ⟨rfl, hb⟩; refine ⟨_, rfl, ?_⟩; replace BK282 := bS BK282 hb; replace HB := hS HB hb; (try clear hb hb2 hk hi); obtain ⟨hcz46_0, hfz46_0⟩ := bx1 BK282.out) | ((with_reducible refine gate_callee (f := 71) rfl ?_); refine goesL_ (some 10) rfl rfl Tryz.func71 (by kernel_rfl) rfl #[.agg #[.slice A1_0 l1_0.length c1_0]] rfl eqT ?_; (with_reducible refine (spec_OutputOf.calls k _ _ l1_0 t284 _ ?side1 ?side2 A5.out).mono ?_); (case side1 => exact crT HR1_0.out HB.out); (case side2 => exact HC1_0.out); rintro e w47 ⟨rfl, hb⟩; refine ⟨_, rfl, ?_⟩; replace BK282 := bS BK282 hb; replace HB := hS HB hb; (try clear hb hb2 hk hi)) | ((with_reducible refine gate_callee (f := 117) rfl ?_); refine goesL_ (some 35) rfl rfl Tryz.func117 (by kernel_rfl) rfl #[.string t284] rfl eqT ?_; (with_reducible refine (spec_CountNasalVoiceless.calls k t284 t290 _ A42.out).mono ?_); rintro e w' ⟨rfl, ⟨nd, rfl⟩⟩; refine ⟨_, rfl, ?_⟩))
        go_ret; exact ⟨rlT, hbT HB.out⟩
       ·rw [if_neg c41] at H; have c41b0 : (a0.toList == ([110, 97, 115, 97, 108] : List UInt8)) = false := eB c41; have c41b1 : (a0.toList != ([110, 97, 115, 97, 108] : List UInt8)) = true := eD c41; by_cases c48 : a0.toList = ([109, 97, 120] : List UInt8)
        ·rw [if_pos c48] at H; have c48b0 : (a0.toList == ([109, 97, 120] : List UInt8)) = true := eC c48; have c48b1 : (a0.toList != ([109, 97, 120] : List UInt8)) = false := eA c48; clear c48; obtain ⟨t291, A49, H⟩ := be H; obtain rfl := oI H; go_enter Tryz.func79, Tryz.ntmps79
         go_wp2_with (first | ((with_reducible refine gate_dst (N := 3) rfl ?_); refine boxT (N := 3) (cs := #[.slice A1_0 l1_0.length c1_0]) (t := 60) ?_; intro gb282 hg w50 hbox hb; have BK282 := asT hbox; have GW282 := asT (geT hg HB.out); have GE282 := GW282; replace HB := hS HB hb; clear hb hbox hg; obtain ⟨hcz51_0, hfz51_0⟩ := bx1 BK282.out) | ((with_reducible refine gate_callee (f := 78) rfl ?_); refine goesL_ (some 7) rfl rfl Tryz.func78 (by kernel_rfl) rfl #[.agg #[.slice A1_0 l1_0.length c1_0]] rfl eqT ?_; (with_reducible refine (spec_IsCandidate.calls k _ _ l1_0 true _ ?side1 ?side2 A3.out).mono ?_); (case side1 => exact crT HR1_0.out HB.out); (case side2 => exact HC1_0.out); rintro e w52 ⟨rfl, hb⟩; refine ⟨_, rfl, ?_⟩; replace BK282 := bS BK282 hb; replace HB := hS HB hb; (try clear hb hb2 hk hi); obtain ⟨hcz53_0, hfz53_0⟩ := bx1 BK282.out) | ((with_reducible refine gate_callee (f := 71) rfl ?_); refine goesL_ (some 10) rfl rfl Tryz.func71 (by kernel_rfl) rfl #[.agg #[.slice A1_0 l1_0.length c1_0]] rfl eqT ?_; (with_reducible refine (spec_OutputOf.calls k _ _ l1_0 t284 _ ?side1 ?side2 A5.out).mono ?_); (case side1 => exact crT HR1_0.out HB.out); (case side2 => exact HC1_0.out); rintro e w54 ⟨rfl, hb⟩; refine ⟨_, rfl, ?_⟩; replace BK282 := bS BK282 hb; replace HB := hS HB hb; (try clear hb hb2 hk hi); obtain ⟨hcz55_0, hfz55_0⟩ := bx1 BK282.out) | ((with_reducible refine gate_callee (f := 118) rfl ?_); refine goesL_ (some 39) rfl rfl Tryz.func118 (by kernel_rfl) rfl #[.agg #[.slice A1_0 l1_0.length c1_0]] rfl eqT ?_; (with_reducible refine (spec_CountDeleted.calls k _ _ l1_0 t291 _ ?side1 ?side2 A49.out).mono ?_); (case side1 => exact crT HR1_0.out HB.out); (case side2 => exact HC1_0.out); rintro e w56 ⟨rfl, hb⟩; refine ⟨_, rfl, ?_⟩; replace BK282 := bS BK282 hb; replace HB := hS HB hb; (try clear hb hb2 hk hi)))
         go_ret; exact ⟨rlT, hbT HB.out⟩
        ·rw [if_neg c48] at H; have c48b0 : (a0.toList == ([109, 97, 120] : List UInt8)) = false := eB c48; have c48b1 : (a0.toList != ([109, 97, 120] : List UInt8)) = true := eD c48; by_cases c57 : a0.toList = ([100, 101, 112] : List UInt8)
         ·rw [if_pos c57] at H; have c57b0 : (a0.toList == ([100, 101, 112] : List UInt8)) = true := eC c57; have c57b1 : (a0.toList != ([100, 101, 112] : List UInt8)) = false := eA c57; clear c57; obtain ⟨t292, A58, H⟩ := be H; obtain rfl := oI H; go_enter Tryz.func79, Tryz.ntmps79
          go_wp2_with (first | ((with_reducible refine gate_dst (N := 3) rfl ?_); refine boxT (N := 3) (cs := #[.slice A1_0 l1_0.length c1_0]) (t := 60) ?_; intro gb282 hg w59 hbox hb; have BK282 := asT hbox; have GW282 := asT (geT hg HB.out); have GE282 := GW282; replace HB := hS HB hb; clear hb hbox hg; obtain ⟨hcz60_0, hfz60_0⟩ := bx1 BK282.out) | ((with_reducible refine gate_callee (f := 78) rfl ?_); refine goesL_ (some 7) rfl rfl Tryz.func78 (by kernel_rfl) rfl #[.agg #[.slice A1_0 l1_0.length c1_0]] rfl eqT ?_; (with_reducible refine (spec_IsCandidate.calls k _ _ l1_0 true _ ?side1 ?side2 A3.out).mono ?_); (case side1 => exact crT HR1_0.out HB.out); (case side2 => exact HC1_0.out); rintro e w61 ⟨rfl, hb⟩; refine ⟨_, rfl, ?_⟩; replace BK282 := bS BK282 hb; replace HB := hS HB hb; (try clear hb hb2 hk hi); obtain ⟨hcz62_0, hfz62_0⟩ := bx1 BK282.out) | ((with_reducible refine gate_callee (f := 71) rfl ?_); refine goesL_ (some 10) rfl rfl Tryz.func71 (by kernel_rfl) rfl #[.agg #[.slice A1_0 l1_0.length c1_0]] rfl eqT ?_; (with_reducible refine (spec_OutputOf.calls k _ _ l1_0 t284 _ ?side1 ?side2 A5.out).mono ?_); (case side1 => exact crT HR1_0.out HB.out); (case side2 => exact HC1_0.out); rintro e w63 ⟨rfl, hb⟩; refine ⟨_, rfl, ?_⟩; replace BK282 := bS BK282 hb; replace HB := hS HB hb; (try clear hb hb2 hk hi); obtain ⟨hcz64_0, hfz64_0⟩ := bx1 BK282.out) | ((with_reducible refine gate_callee (f := 119) rfl ?_); refine goesL_ (some 43) rfl rfl Tryz.func119 (by kernel_rfl) rfl #[.agg #[.slice A1_0 l1_0.length c1_0]] rfl eqT ?_; (with_reducible refine (spec_CountInserted.calls k _ _ l1_0 t292 _ ?side1 ?side2 A58.out).mono ?_); (case side1 => exact crT HR1_0.out HB.out); (case side2 => exact HC1_0.out); rintro e w65 ⟨rfl, hb⟩; refine ⟨_, rfl, ?_⟩; replace BK282 := bS BK282 hb; replace HB := hS HB hb; (try clear hb hb2 hk hi)))
          go_ret; exact ⟨rlT, hbT HB.out⟩
         ·rw [if_neg c57] at H; have c57b0 : (a0.toList == ([100, 101, 112] : List UInt8)) = false := eB c57; have c57b1 : (a0.toList != ([100, 101, 112] : List UInt8)) = true := eD c57; by_cases c66 : a0.toList = ([105, 100, 101, 110, 116] : List UInt8)
          ·rw [if_pos c66] at H; have c66b0 : (a0.toList == ([105, 100, 101, 110, 116] : List UInt8)) = true := eC c66; have c66b1 : (a0.toList != ([105, 100, 101, 110, 116] : List UInt8)) = false := eA c66; clear c66; obtain ⟨t293, A67, H⟩ := be H; obtain rfl := oI H; go_enter Tryz.func79, Tryz.ntmps79
           go_wp2_with (first | ((with_reducible refine gate_dst (N := 3) rfl ?_); refine boxT (N := 3) (cs := #[.slice A1_0 l1_0.length c1_0]) (t := 60) ?_; intro gb282 hg w68 hbox hb; have BK282 := asT hbox; have GW282 := asT (geT hg HB.out); have GE282 := GW282; replace HB := hS HB hb; clear hb hbox hg; obtain ⟨hcz69_0, hfz69_0⟩ := bx1 BK282.out) | ((with_reducible refine gate_callee (f := 78) rfl ?_); refine goesL_ (some 7) rfl rfl Tryz.func78 (by kernel_rfl) rfl #[.agg #[.slice A1_0 l1_0.length c1_0]] rfl eqT ?_; (with_reducible refine (spec_IsCandidate.calls k _ _ l1_0 true _ ?side1 ?side2 A3.out).mono ?_); (case side1 => exact crT HR1_0.out HB.out); (case side2 => exact HC1_0.out); rintro e w70 ⟨rfl, hb⟩; refine ⟨_, rfl, ?_⟩; replace BK282 := bS BK282 hb; replace HB := hS HB hb; (try clear hb hb2 hk hi); obtain ⟨hcz71_0, hfz71_0⟩ := bx1 BK282.out) | ((with_reducible refine gate_callee (f := 71) rfl ?_); refine goesL_ (some 10) rfl rfl Tryz.func71 (by kernel_rfl) rfl #[.agg #[.slice A1_0 l1_0.length c1_0]] rfl eqT ?_; (with_reducible refine (spec_OutputOf.calls k _ _ l1_0 t284 _ ?side1 ?side2 A5.out).mono ?_); (case side1 => exact crT HR1_0.out HB.out); (case side2 => exact HC1_0.out); rintro e w72 ⟨rfl, hb⟩; refine ⟨_, rfl, ?_⟩; replace BK282 := bS BK282 hb; replace HB := hS HB hb; (try clear hb hb2 hk hi); obtain ⟨hcz73_0, hfz73_0⟩ := bx1 BK282.out) | ((with_reducible refine gate_callee (f := 120) rfl ?_); refine goesL_ (some 47) rfl rfl Tryz.func120 (by kernel_rfl) rfl #[.agg #[.slice A1_0 l1_0.length c1_0]] rfl eqT ?_; (with_reducible refine (spec_CountVoiceChanged.calls k _ _ l1_0 t293 _ ?side1 ?side2 A67.out).mono ?_); (case side1 => exact crT HR1_0.out HB.out); (case side2 => exact HC1_0.out); rintro e w74 ⟨rfl, hb⟩; refine ⟨_, rfl, ?_⟩; replace BK282 := bS BK282 hb; replace HB := hS HB hb; (try clear hb hb2 hk hi)))
           go_ret; exact ⟨rlT, hbT HB.out⟩
          ·rw [if_neg c66] at H; have c66b0 : (a0.toList == ([105, 100, 101, 110, 116] : List UInt8)) = false := eB c66; have c66b1 : (a0.toList != ([105, 100, 101, 110, 116] : List UInt8)) = true := eD c66; by_cases c75 : a0.toList = ([99, 111, 110, 116, 105, 103] : List UInt8)
           ·rw [if_pos c75] at H; have c75b0 : (a0.toList == ([99, 111, 110, 116, 105, 103] : List UInt8)) = true := eC c75; have c75b1 : (a0.toList != ([99, 111, 110, 116, 105, 103] : List UInt8)) = false := eA c75; clear c75; obtain ⟨t294, A76, H⟩ := be H; obtain rfl := oI H; go_enter Tryz.func79, Tryz.ntmps79
            go_wp2_with (first | ((with_reducible refine gate_dst (N := 3) rfl ?_); refine boxT (N := 3) (cs := #[.slice A1_0 l1_0.length c1_0]) (t := 60) ?_; intro gb282 hg w77 hbox hb; have BK282 := asT hbox; have GW282 := asT (geT hg HB.out); have GE282 := GW282; replace HB := hS HB hb; clear hb hbox hg; obtain ⟨hcz78_0, hfz78_0⟩ := bx1 BK282.out) | ((with_reducible refine gate_callee (f := 78) rfl ?_); refine goesL_ (some 7) rfl rfl Tryz.func78 (by kernel_rfl) rfl #[.agg #[.slice A1_0 l1_0.length c1_0]] rfl eqT ?_; (with_reducible refine (spec_IsCandidate.calls k _ _ l1_0 true _ ?side1 ?side2 A3.out).mono ?_); (case side1 => exact crT HR1_0.out HB.out); (case side2 => exact HC1_0.out); rintro e w79 ⟨rfl, hb⟩; refine ⟨_, rfl, ?_⟩; replace BK282 := bS BK282 hb; replace HB := hS HB hb; (try clear hb hb2 hk hi); obtain ⟨hcz80_0, hfz80_0⟩ := bx1 BK282.out) | ((with_reducible refine gate_callee (f := 71) rfl ?_); refine goesL_ (some 10) rfl rfl Tryz.func71 (by kernel_rfl) rfl #[.agg #[.slice A1_0 l1_0.length c1_0]] rfl eqT ?_; (with_reducible refine (spec_OutputOf.calls k _ _ l1_0 t284 _ ?side1 ?side2 A5.out).mono ?_); (case side1 => exact crT HR1_0.out HB.out); (case side2 => exact HC1_0.out); rintro e w81 ⟨rfl, hb⟩; refine ⟨_, rfl, ?_⟩; replace BK282 := bS BK282 hb; replace HB := hS HB hb; (try clear hb hb2 hk hi); obtain ⟨hcz82_0, hfz82_0⟩ := bx1 BK282.out) | ((with_reducible refine gate_callee (f := 121) rfl ?_); refine goesL_ (some 51) rfl rfl Tryz.func121 (by kernel_rfl) rfl #[.agg #[.slice A1_0 l1_0.length c1_0]] rfl eqT ?_; (with_reducible refine (spec_CountBreaks.calls k _ _ l1_0 t294 _ ?side1 ?side2 A76.out).mono ?_); (case side1 => exact crT HR1_0.out HB.out); (case side2 => exact HC1_0.out); rintro e w83 ⟨rfl, hb⟩; refine ⟨_, rfl, ?_⟩; replace BK282 := bS BK282 hb; replace HB := hS HB hb; (try clear hb hb2 hk hi)))
            go_ret; exact ⟨rlT, hbT HB.out⟩
           ·rw [if_neg c75] at H; have c75b0 : (a0.toList == ([99, 111, 110, 116, 105, 103] : List UInt8)) = false := eB c75; have c75b1 : (a0.toList != ([99, 111, 110, 116, 105, 103] : List UInt8)) = true := eD c75; obtain rfl := oI H; go_enter Tryz.func79, Tryz.ntmps79
            go_wp2_with (first | ((with_reducible refine gate_dst (N := 3) rfl ?_); refine boxT (N := 3) (cs := #[.slice A1_0 l1_0.length c1_0]) (t := 60) ?_; intro gb282 hg w84 hbox hb; have BK282 := asT hbox; have GW282 := asT (geT hg HB.out); have GE282 := GW282; replace HB := hS HB hb; clear hb hbox hg; obtain ⟨hcz85_0, hfz85_0⟩ := bx1 BK282.out) | ((with_reducible refine gate_callee (f := 78) rfl ?_); refine goesL_ (some 7) rfl rfl Tryz.func78 (by kernel_rfl) rfl #[.agg #[.slice A1_0 l1_0.length c1_0]] rfl eqT ?_; (with_reducible refine (spec_IsCandidate.calls k _ _ l1_0 true _ ?side1 ?side2 A3.out).mono ?_); (case side1 => exact crT HR1_0.out HB.out); (case side2 => exact HC1_0.out); rintro e w86 ⟨rfl, hb⟩; refine ⟨_, rfl, ?_⟩; replace BK282 := bS BK282 hb; replace HB := hS HB hb; (try clear hb hb2 hk hi); obtain ⟨hcz87_0, hfz87_0⟩ := bx1 BK282.out) | ((with_reducible refine gate_callee (f := 71) rfl ?_); refine goesL_ (some 10) rfl rfl Tryz.func71 (by kernel_rfl) rfl #[.agg #[.slice A1_0 l1_0.length c1_0]] rfl eqT ?_; (with_reducible refine (spec_OutputOf.calls k _ _ l1_0 t284 _ ?side1 ?side2 A5.out).mono ?_); (case side1 => exact crT HR1_0.out HB.out); (case side2 => exact HC1_0.out); rintro e w88 ⟨rfl, hb⟩; refine ⟨_, rfl, ?_⟩; replace BK282 := bS BK282 hb; replace HB := hS HB hb; (try clear hb hb2 hk hi)))
            go_ret; exact ⟨rlT, hbT HB.out⟩
 ·replace c4 := eE c4; subst c4; rw [if_neg nF] at H; have H1 := H; clear H; have H := H1; clear H1; obtain rfl := oI H; go_enter Tryz.func79, Tryz.ntmps79
  go_wp2_with (first | ((with_reducible refine gate_dst (N := 3) rfl ?_); refine boxT (N := 3) (cs := #[.slice A1_0 l1_0.length c1_0]) (t := 60) ?_; intro gb282 hg w89 hbox hb; have BK282 := asT hbox; have GW282 := asT (geT hg HB.out); have GE282 := GW282; replace HB := hS HB hb; clear hb hbox hg; obtain ⟨hcz90_0, hfz90_0⟩ := bx1 BK282.out) | ((with_reducible refine gate_callee (f := 78) rfl ?_); refine goesL_ (some 7) rfl rfl Tryz.func78 (by kernel_rfl) rfl #[.agg #[.slice A1_0 l1_0.length c1_0]] rfl eqT ?_; (with_reducible refine (spec_IsCandidate.calls k _ _ l1_0 false _ ?side1 ?side2 A3.out).mono ?_); (case side1 => exact crT HR1_0.out HB.out); (case side2 => exact HC1_0.out); rintro e w91 ⟨rfl, hb⟩; refine ⟨_, rfl, ?_⟩; replace BK282 := bS BK282 hb; replace HB := hS HB hb; (try clear hb hb2 hk hi)))
  go_ret; exact ⟨rlT, hbT HB.out⟩
def spec_ProfileOf.l0 : Nat → List ByteArray → List Int → Int → List (S109) → Option (List Int)
 | 0, _, _, _, _ => none
 | k + 1, x0, x5, x6, x296000 => if x6 < (x0.length : Int) then ((spec_AreConstraints.f k x0).bind fun t299 => (if t299 = true then ((spec_IsCandidate.f k x296000).bind fun t300 => (if t300 = true then (if 0 ≤ x6 then ((spec_ViolationsOf.f k (rdOf ByteArray.empty x0 x6) x296000).bind fun t302 => (if x5.length < 17592186044416 then (spec_ProfileOf.l0 k x0 (x5 ++ [t302]) (wrap64 (x6 + 1)) x296000) else (none))) else (none)) else (some x5))) else (some x5))) else (some x5)
def spec_ProfileOf.f (k : Nat) (l0 : List ByteArray) (l1_0 : List (S109)) : Option (List Int) := spec_ProfileOf.l0 k l0 (([] : List Int)) 0 l1_0
theorem spec_ProfileOf.mono_l : ∀ k, (∀ y0 y1 y2 y3, LeO (spec_ProfileOf.l0 k y0 y1 y2 y3) (spec_ProfileOf.l0 (k + 1) y0 y1 y2 y3))
 | 0 => fun _ _ _ _ r h => by simp [spec_ProfileOf.l0] at h
 | k + 1 => by
  have ih0 := spec_ProfileOf.mono_l k
  ·intro y0 y1 y2 y3; unfold spec_ProfileOf.l0
   with_reducible repeat' first | exact ih0 _ _ _ _ | exact spec_AreConstraints.mono _ _ | exact spec_IsCandidate.mono _ _ | exact spec_ViolationsOf.mono _ _ _ | exact LeO.refl _ | exact LeO.none _ | refine LeO.ite ?_ ?_ | refine LeO.bind ?_ (fun _ => ?_)
theorem spec_ProfileOf.mono : ∀ a0 a1 k, LeO (spec_ProfileOf.f k a0 a1) (spec_ProfileOf.f (k + 1) a0 a1) := by
 intro a0 a1 k; have ih0 := spec_ProfileOf.mono_l k; unfold spec_ProfileOf.f
 with_reducible repeat' first | exact ih0 _ _ _ _ | exact spec_AreConstraints.mono _ _ | exact spec_IsCandidate.mono _ _ | exact spec_ViolationsOf.mono _ _ _ | exact LeO.refl _ | exact LeO.none _ | refine LeO.ite ?_ ?_ | refine LeO.bind ?_ (fun _ => ?_)
def spec_ProfileOf.T5 : Bool × List (List Nat × List Nat) := (true, [([], []), ([], []), ([], []), ([1, 2], [1, 2]), ([3], [3]), ([], []), ([4, 5], [4, 5]), ([6], [6]), ([0, 7, 6], [0, 7]), ([8, 8, 0, 1, 2, 3, 4, 5, 6, 7, 8], [0, 8])])
def spec_ProfileOf.B5 : List Nat := [0, 0, 0, 6, 14, 0, 62, 126, 255, 511]
theorem spec_ProfileOf.tab5 : rtab .any (opsOf Tryz.f38 5) = spec_ProfileOf.T5 := by kernel_rfl
theorem spec_ProfileOf.bits5 : waitsOk spec_ProfileOf.T5.2 spec_ProfileOf.B5 = true := by kernel_rfl
theorem spec_ProfileOf.calls (k : Nat) (A0 : Option Addr) (c0 : Nat) (l0 : List ByteArray) (A1_0 : Option Addr) (c1_0 : Nat) (l1_0 : List (S109)) (r : List Int) (w : World) (hr0 : Kd.C Kd.string w A0 l0.length l0) (hc0 : l0.length ≤ c0) (hr1_0 : Kd.C k109 w A1_0 l1_0.length l1_0) (hc1_0 : l1_0.length ≤ c1_0) (h : spec_ProfileOf.f k l0 l1_0 = some r) :
  Calls Tryz.prog 38 #[.slice A0 l0.length c0, .agg #[.slice A1_0 l1_0.length c1_0]] w fun e w' => ∃ v0_ : Value, e = .returned (v0_) ∧ Kd.R (Kd.int .i64) 3 w' w.heap.size (fun _ => True) v0_ r ∧ Below w.heap.size w w' := by
 have hu60 := Tryz.underlying60; have HR0 := asT hr0; have HC0 := asT hc0; clear hr0 hc0; have HR1_0 := asT hr1_0; have HC1_0 := asT hc1_0; clear hr1_0 hc1_0; have HB := asT (Below.refl w.heap.size w); have H := h; unfold spec_ProfileOf.f at H; clear h; obtain ⟨y296, hy296⟩ : ∃ y_ : List Int, y_ = (([] : List Int)) := ⟨_, rfl⟩
 replace H : (spec_ProfileOf.l0 k l0 y296 0 l1_0) = some r := by first | (rw [hy296]; with_reducible exact H) | (have H2_ := (Option.bind_some _ _).symm.trans H; rw [hy296]; with_reducible exact H2_) | (have H2_ := (Option.bind_some _ _).symm.trans H; with_reducible exact H2_) | with_reducible exact H | (rw [hy296]; exact H) | exact H
 have Ny296 := asT hy296; clear hy296; have H' := asT H; clear H; go_enter Tryz.func38, Tryz.ntmps38
 go_wp2_with (first | ((with_reducible refine gate_dst (N := 3) rfl ?_); refine boxT (N := 3) (cs := #[.slice A1_0 l1_0.length c1_0]) (t := 60) ?_; intro gb295 hg w3 hbox hb; have BK295 := asT hbox; have GW295 := asT (geT hg HB.out); have GE295 := GW295; replace HB := hS HB hb; clear hb hbox hg) | ((with_reducible refine gate_dst (N := 7) rfl ?_); refine Kd.R_lit (Kd.int .i64) _ 3 ?hg (N := 7) ?hd (xs := ([] : List Int)) (inner := []) (ok := fun _ => True) (okp := fun _ => True) ?hr ?hp (fun _ hk => hk) trivial (Below.refl _ _) (Nat.le_refl _) (by simp) ?_; (case hd => rfl); (case hg => rfl); (case hr => first | (go_simp; done) | (go_simp; rfl)); (case hp => exact (Reps.none _ _)); intro v297 w4 ho5 hb hg_ hnew_; clear hg_ hnew_; (first | rw [← Ny296.out] at ho5 | (simp only [Int.reduceToNat] at ho5; rw [← Ny296.out] at ho5)); have HO298 := asT (Kd.R_lower ho5 (below_size (hbT HB.out))); replace BK295 := bS BK295 hb; replace HB := hS HB hb; clear hb ho5))
 go_loopg [5, 6] k (fun kq v5 v6 w' => ∃ (x5_1 : List Int) (x6_1 : Int), v6 = .int .i64 x6_1 ∧ Aside0 (spec_ProfileOf.l0 kq l0 x5_1 x6_1 l1_0 = some r) ∧ Aside0 (kq ≤ k) ∧ Aside0 (Kd.R (Kd.int .i64) 3 w' w.heap.size (fun _ => True) v5 x5_1) ∧ Aside0 (w'.heap[gb295]? = some (.cells #[(.slice A1_0 l1_0.length c1_0)] 60 (0, 0))) ∧ Aside0 (Below w.heap.size w w'))
 case atStart => exact ⟨(y296), (0), rdT, H', ⟨Nat.le_refl _⟩, ⟨roT HO298.out⟩, kpT BK295.out, ⟨hbT HB.out⟩⟩
 case round =>
  clear H'; (try clear c1 p2 c3); obtain ⟨x5_1, x6_1, rfl, HA, HK1, HO_5, BK295, HB⟩ := hrel
  cases gk with
  | zero => exact absurd HA.out (by simp [spec_ProfileOf.l0])
  | succ k1 =>
   have H := HA.out; clear HA
   simp only [spec_ProfileOf.l0] at H
   by_cases c6 : x6_1 < (l0.length : Int)
   ·rw [if_pos c6] at H; have c6b0 := dt c6; clear c6; obtain ⟨t299, A7, H⟩ := be H; by_cases c8 : t299 = true
    ·subst c8; rw [if_pos rfl] at H; obtain ⟨t300, A9, H⟩ := be H; by_cases c10 : t300 = true
     ·subst c10; rw [if_pos rfl] at H; have H1 := H; clear H; have H := H1; clear H1; by_cases c11 : 0 ≤ x6_1
      ·rw [if_pos c11] at H; have c11b0 := dt c11; clear c11; obtain ⟨t302, A12, H⟩ := be H; by_cases c13 : x5_1.length < 17592186044416
       ·rw [if_pos c13] at H; have LMc13 := asT c13; clear c13; obtain ⟨y303, hy303⟩ : ∃ y_ : List Int, y_ = (x5_1 ++ [t302]) := ⟨_, rfl⟩
        replace H : (spec_ProfileOf.l0 k1 l0 y303 (wrap64 (x6_1 + 1)) l1_0) = some r := by first | (rw [hy303]; with_reducible exact H) | (have H2_ := (Option.bind_some _ _).symm.trans H; rw [hy303]; with_reducible exact H2_) | (have H2_ := (Option.bind_some _ _).symm.trans H; with_reducible exact H2_) | with_reducible exact H | (rw [hy303]; exact H) | exact H
        have Ny303 := asT hy303; clear hy303; have H' := asT H; clear H
        try go_wp2_with (first | (go_at_call 35; (with_reducible refine (spec_AreConstraints.calls k1 _ _ l0 true _ ?side1 ?side2 A7.out).mono ?_); (case side1 => exact crT HR0.out HB.out); (case side2 => exact HC0.out); rintro e w14 ⟨rfl, hb⟩; replace HO_5 := asT (Kd.R_below (roT HO_5.out) hb); replace BK295 := bS BK295 hb; replace HB := hS HB hb; (try clear hb hb2 hk hi); obtain ⟨hcz15_0, hfz15_0⟩ := bx1 BK295.out) | (go_at_call 78; (with_reducible refine (spec_IsCandidate.calls k1 _ _ l1_0 true _ ?side1 ?side2 A9.out).mono ?_); (case side1 => exact crT HR1_0.out HB.out); (case side2 => exact HC1_0.out); rintro e w16 ⟨rfl, hb⟩; replace HO_5 := asT (Kd.R_below (roT HO_5.out) hb); replace BK295 := bS BK295 hb; replace HB := hS HB hb; (try clear hb hb2 hk hi)))
        replace HO_5 := asT (Kd.R_drew HO_5.out); replace BK295 := asT (blk_drew BK295.out); replace HB := asT (below_drew1 HB.out); have p301 : 0 ≤ (x6_1 : Int) := dT asmT; have q301 : x6_1 < (l0.length : Int) := dT asmT; obtain ⟨ad301, e301, hx301_0⟩ := Kd.at_string HR0.out x6_1 p301 q301; have hw301_0 := hx301_0
        cases e301
        replace hx301_0 := hbc HB.out hx301_0; replace p301 := eq_true p301; replace q301 := eq_true q301; refine start_ (n := 10) (S := fun w' => w'.cell? ⟨gb295, 0, none⟩ = some (.slice A1_0 l1_0.length c1_0) ∧ w'.cell? (ad301.add (x6_1).toNat) = some (.string (rdOf ByteArray.empty l0 x6_1))) (ds := []) (bA 10 0) (by kernel_rfl) rfl rfl ⟨bc0 BK295.out, (hbc HB.out hw301_0 :)⟩ (fun hHeld => ?_); refine with_tabW spec_ProfileOf.tab5 spec_ProfileOf.bits5 (fun HT_ HW_ => ?_); generalize w16.drew = w17 at HO_5 BK295 HB hx301_0 hHeld ⊢; refine pA 0 22 10 1 HT_.out ?_ rfl rfl; refine pA 1 23 10 3 HT_.out ?_ rfl rfl; refine pA 2 24 10 7 HT_.out ?_ rfl rfl; refine pA 3 25 10 15 HT_.out ?_ rfl rfl; refine tA 4 26 10 31 HT_.out HW_.out hHeld ?_ rfl rfl; refine tA 5 27 10 63 HT_.out HW_.out hHeld ?_ rfl rfl; refine oA 6 28 10 127 HT_.out (fun K hK => ?_) rfl rfl; refine goes_ Tryz.func79 (by kernel_rfl) rfl #[.string (rdOf ByteArray.empty l0 x6_1), .agg #[.slice A1_0 l1_0.length c1_0]] (by rfl) rfl rfl eqT ?_
        (with_reducible refine (spec_ViolationsOf.calls k1 (rdOf ByteArray.empty l0 x6_1) _ _ l1_0 t302 _ ?side1 ?side2 A12.out).mono ?_); (case side1 => exact crT HR1_0.out HB.out); (case side2 => exact HC1_0.out); rintro e w18 ⟨rfl, hb⟩; refine ⟨_, rfl, ?_⟩; replace HO_5 := asT (Kd.R_below (roT HO_5.out) hb); replace BK295 := bS BK295 hb; replace HB := hS HB hb; (try clear hb hb2 hk hi)
        refine hK.out _ _ ⟨bc0 BK295.out, (hbc HB.out hw301_0 :)⟩ (fun hHeld => ?_); clear hK K; refine nB 28 ?_ rfl; refine oA 7 29 10 255 HT_.out (fun K hK => ?_) rfl rfl; refine value_ (w1 := ?_) (v := ?_) (by rfl) rfl ?_ ?_
        rotate_left 2
        ·go_simp
         constructor
         ·rfl
         ·rfl
        refine hK.out _ _ ⟨(blk_cell (blk_alloc BK295.out _) 0).trans rfl, (World.cell?_alloc_lt _ _ _ (World.block_lt_of_cell? _ _ (((HB.out.cell (World.block_lt_of_cell? w _ hw301_0)).trans hw301_0)))).trans (((HB.out.cell (World.block_lt_of_cell? w _ hw301_0)).trans hw301_0))⟩ (fun hHeld => ?_); clear hK K; refine nB 29 ?_ rfl; refine oA 8 30 10 511 HT_.out (fun K hK => ?_) rfl rfl; refine Kd.R_append_step (Kd.int .i64) (w0 := w) w.heap.size (by rfl) (.tmp 22) (.tmp 29) 39 3 (.int .i64 0) 8 rfl Tryz.underlying39 info3 rfl (by decide) (by omega) u5 x5_1 t302 [.int .i64 t302] (fun _ => True) (fun _ => False) rfl rfl ?aP (fun _ hk => hk.elim) ?aF ?aO ?aB ?aS ?aL ?_
        (case aP => exact rfl)
        (case aB => exact (hbT HB.out))
        (case aF => exact (fun _ _ => trivial))
        (case aO => exact (roT HO_5.out))
        (case aS => exact (below_size (hbT HB.out)))
        (case aL => have := LMc13.out; omega)
        intro v304 w19 ho hb hg hat; rw [← Ny303.out] at ho; replace BK295 := asT (blk_grown (g := gb295) (o := .cells #[.slice A1_0 l1_0.length c1_0] 60 (0, 0)) (bkT BK295.out) hg (Kd.R_ne HO_5.out BK295.out (by decide))); replace HB := asT (hb); have HO305 := asT (ho); clear HO_5 ho hb hg hat; refine hK.out _ _ ⟨bc0 BK295.out, (hbc HB.out hw301_0 :)⟩ (fun hHeld => ?_); clear hK K; refine nB 30 ?_ rfl; refine pA 9 5 10 1023 HT_.out ?_ rfl rfl; refine done_ (done_of HT_.out (by kernel_rfl)) ?_
        try go_wp2
        go_roundg k1
        case measure => have := HK1.out; omega
        case rel => exact ⟨(y303), (wrap64 (x6_1 + 1)), rdT, H', ⟨by have := HK1.out; omega⟩, ⟨roT HO305.out⟩, kpT BK295.out, ⟨hbT HB.out⟩⟩
       ·rw [if_neg c13] at H; exact absurd H (by simp)
      ·rw [if_neg c11] at H; exact absurd H (by simp)
     ·replace c10 := eE c10; subst c10; rw [if_neg nF] at H; have H1 := H; clear H; have H := H1; clear H1; obtain rfl := oI H
      go_wp2_with (first | (go_at_call 35; (with_reducible refine (spec_AreConstraints.calls k1 _ _ l0 true _ ?side1 ?side2 A7.out).mono ?_); (case side1 => exact crT HR0.out HB.out); (case side2 => exact HC0.out); rintro e w20 ⟨rfl, hb⟩; replace HO_5 := asT (Kd.R_below (roT HO_5.out) hb); replace BK295 := bS BK295 hb; replace HB := hS HB hb; (try clear hb hb2 hk hi); obtain ⟨hcz21_0, hfz21_0⟩ := bx1 BK295.out) | (go_at_call 78; (with_reducible refine (spec_IsCandidate.calls k1 _ _ l1_0 false _ ?side1 ?side2 A9.out).mono ?_); (case side1 => exact crT HR1_0.out HB.out); (case side2 => exact HC1_0.out); rintro e w22 ⟨rfl, hb⟩; replace HO_5 := asT (Kd.R_below (roT HO_5.out) hb); replace BK295 := bS BK295 hb; replace HB := hS HB hb; (try clear hb hb2 hk hi)))
      go_ret; exact ⟨_, rlT, roT HO_5.out, hbT HB.out⟩
    ·replace c8 := eE c8; subst c8; rw [if_neg nF] at H; have H1 := H; clear H; have H := H1; clear H1; obtain rfl := oI H
     go_wp2_with (first | (go_at_call 35; (with_reducible refine (spec_AreConstraints.calls k1 _ _ l0 false _ ?side1 ?side2 A7.out).mono ?_); (case side1 => exact crT HR0.out HB.out); (case side2 => exact HC0.out); rintro e w23 ⟨rfl, hb⟩; replace HO_5 := asT (Kd.R_below (roT HO_5.out) hb); replace BK295 := bS BK295 hb; replace HB := hS HB hb; (try clear hb hb2 hk hi)))
     go_ret; exact ⟨_, rlT, roT HO_5.out, hbT HB.out⟩
   ·rw [if_neg c6] at H; have c6b0 := df c6; clear c6; obtain rfl := oI H
    go_wp2
    go_ret; exact ⟨_, rlT, roT HO_5.out, hbT HB.out⟩
def spec_l5Same.l0 : Nat → List Int → List Int → Int → Option (Bool)
 | 0, _, _, _ => none
 | k + 1, x0, x1, x5 => if x5 < (x0.length : Int) then (if 0 ≤ x5 then (if x5 < (x1.length : Int) then (if (rd x0 x5) = (rd x1 x5) then (spec_l5Same.l0 k x0 x1 (wrap64 (x5 + 1))) else (some false)) else (none)) else (none)) else (some true)
def spec_l5Same.f (k : Nat) (l0 : List Int) (l1 : List Int) : Option (Bool) := if (l0.length : Int) = (l1.length : Int) then (spec_l5Same.l0 k l0 l1 0) else (some false)
theorem spec_l5Same.mono_l : ∀ k, (∀ y0 y1 y2, LeO (spec_l5Same.l0 k y0 y1 y2) (spec_l5Same.l0 (k + 1) y0 y1 y2))
 | 0 => fun _ _ _ r h => by simp [spec_l5Same.l0] at h
 | k + 1 => by
  have ih0 := spec_l5Same.mono_l k
  ·intro y0 y1 y2; unfold spec_l5Same.l0
   with_reducible repeat' first | exact ih0 _ _ _ | exact LeO.refl _ | exact LeO.none _ | refine LeO.ite ?_ ?_ | refine LeO.bind ?_ (fun _ => ?_)
theorem spec_l5Same.mono : ∀ a0 a1 k, LeO (spec_l5Same.f k a0 a1) (spec_l5Same.f (k + 1) a0 a1) := by
 intro a0 a1 k; have ih0 := spec_l5Same.mono_l k; unfold spec_l5Same.f
 with_reducible repeat' first | exact ih0 _ _ _ | exact LeO.refl _ | exact LeO.none _ | refine LeO.ite ?_ ?_ | refine LeO.bind ?_ (fun _ => ?_)
theorem spec_l5Same.calls (k : Nat) (A0 : Option Addr) (c0 : Nat) (l0 : List Int) (A1 : Option Addr) (c1 : Nat) (l1 : List Int) (r : Bool) (w : World) (hr0 : Kd.C (Kd.int .i64) w A0 l0.length l0) (hc0 : l0.length ≤ c0) (hr1 : Kd.C (Kd.int .i64) w A1 l1.length l1) (hc1 : l1.length ≤ c1) (h : spec_l5Same.f k l0 l1 = some r) :
  Calls Tryz.prog 93 #[.slice A0 l0.length c0, .slice A1 l1.length c1] w fun e w' => e = .returned (.bool r) ∧ Drawn0 w w' := by
 have HR0 := asT hr0; have HC0 := asT hc0; clear hr0 hc0; have HR1 := asT hr1; have HC1 := asT hc1; clear hr1 hc1; have H := h; unfold spec_l5Same.f at H; clear h; by_cases c3 : (l0.length : Int) = (l1.length : Int)
 ·rw [if_pos c3] at H; have c3b0 : ((l0.length : Int) == (l1.length : Int)) = true := eC c3; have c3b1 : ((l0.length : Int) != (l1.length : Int)) = false := eA c3
  have c3b2 : (l0.length == l1.length) = true := by first | simpa using c3 | (simp at c3 ⊢; omega)
  clear c3; have H' := asT H; clear H; go_enter Tryz.func93, Tryz.ntmps93
  go_wp2
  repeat (go_quiet (fail); try go_wp2)
  go_loopg [5] k (fun kq v5 w' => ∃ (x5_1 : Int), v5 = .int .i64 x5_1 ∧ Aside0 (spec_l5Same.l0 kq l0 l1 x5_1 = some r) ∧ Aside0 (kq ≤ k) ∧ Drawn0 w w')
  case atStart => exact ⟨(0), rdT, H', ⟨Nat.le_refl _⟩, drT⟩
  case round =>
   clear H'; (try clear c1 p2 c3 c3b0 c3b1 c3b2); obtain ⟨x5_1, rfl, HA, HK1, ⟨m1, rfl⟩⟩ := hrel
   cases gk with
   | zero => exact absurd HA.out (by simp [spec_l5Same.l0])
   | succ k1 =>
    have H := HA.out; clear HA
    simp only [spec_l5Same.l0] at H
    by_cases c4 : x5_1 < (l0.length : Int)
    ·rw [if_pos c4] at H; have c4b0 := dt c4; clear c4; by_cases c5 : 0 ≤ x5_1
     ·rw [if_pos c5] at H; have c5b0 := dt c5; clear c5; by_cases c6 : x5_1 < (l1.length : Int)
      ·rw [if_pos c6] at H; have c6b0 := dt c6; clear c6; by_cases c7 : (rd l0 x5_1) = (rd l1 x5_1)
       ·rw [if_pos c7] at H; have c7b0 : ((rd l0 x5_1) == (rd l1 x5_1)) = true := eC c7; have c7b1 : ((rd l0 x5_1) != (rd l1 x5_1)) = false := eA c7; clear c7; have H' := asT H; clear H; have p306 : 0 ≤ (x5_1 : Int) := dT asmT; have q306 : x5_1 < (l0.length : Int) := dT asmT; obtain ⟨ad306, e306, hx306_0⟩ := Kd.at_int HR0.out x5_1 p306 q306
        cases e306
        replace p306 := eq_true p306; replace q306 := eq_true q306; have p307 : 0 ≤ (x5_1 : Int) := dT asmT; have q307 : x5_1 < (l1.length : Int) := dT asmT; obtain ⟨ad307, e307, hx307_0⟩ := Kd.at_int HR1.out x5_1 p307 q307
        cases e307
        replace p307 := eq_true p307; replace q307 := eq_true q307
        go_wp2
        repeat (go_quiet (fail); try go_wp2)
        go_roundg k1
        case measure => have := HK1.out; omega
        case rel => exact ⟨(wrap64 (x5_1 + 1)), rdT, H', ⟨by have := HK1.out; omega⟩, drT⟩
       ·rw [if_neg c7] at H; have c7b0 : ((rd l0 x5_1) == (rd l1 x5_1)) = false := eB c7; have c7b1 : ((rd l0 x5_1) != (rd l1 x5_1)) = true := eD c7; obtain rfl := oI H; have p306 : 0 ≤ (x5_1 : Int) := dT asmT; have q306 : x5_1 < (l0.length : Int) := dT asmT; obtain ⟨ad306, e306, hx306_0⟩ := Kd.at_int HR0.out x5_1 p306 q306
        cases e306
        replace p306 := eq_true p306; replace q306 := eq_true q306; have p307 : 0 ≤ (x5_1 : Int) := dT asmT; have q307 : x5_1 < (l1.length : Int) := dT asmT; obtain ⟨ad307, e307, hx307_0⟩ := Kd.at_int HR1.out x5_1 p307 q307
        cases e307
        replace p307 := eq_true p307; replace q307 := eq_true q307
        go_wp2
        repeat (go_quiet (fail); try go_wp2)
        go_ret; exact ⟨rdT, drT⟩
      ·rw [if_neg c6] at H; exact absurd H (by simp)
     ·rw [if_neg c5] at H; exact absurd H (by simp)
    ·rw [if_neg c4] at H; have c4b0 := df c4; clear c4; obtain rfl := oI H
     go_wp2
     repeat (go_quiet (fail); try go_wp2)
     go_ret; exact ⟨rdT, drT⟩
 ·rw [if_neg c3] at H; have c3b0 : ((l0.length : Int) == (l1.length : Int)) = false := eB c3; have c3b1 : ((l0.length : Int) != (l1.length : Int)) = true := eD c3
  have c3b2 : (l0.length == l1.length) = false := by first | simpa using c3 | (simp at c3 ⊢; omega)
  obtain rfl := oI H; go_enter Tryz.func93, Tryz.ntmps93
  go_wp2
  repeat (go_quiet (fail); try go_wp2)
  go_ret; exact ⟨rdT, drT⟩
def spec_l11Same.f (k : Nat) (l0 : List Int) (l1 : List Int) : Option (Bool) := (spec_l5Same.f k l0 l1).bind fun t308 => (some t308)
theorem spec_l11Same.mono : ∀ a0 a1 k, LeO (spec_l11Same.f k a0 a1) (spec_l11Same.f (k + 1) a0 a1) := by
 intro a0 a1 k; unfold spec_l11Same.f
 with_reducible repeat' first | exact spec_l5Same.mono _ _ _ | exact LeO.refl _ | exact LeO.none _ | refine LeO.ite ?_ ?_ | refine LeO.bind ?_ (fun _ => ?_)
theorem spec_l11Same.calls (k : Nat) (A0 : Option Addr) (c0 : Nat) (l0 : List Int) (A1 : Option Addr) (c1 : Nat) (l1 : List Int) (r : Bool) (w : World) (hr0 : Kd.C (Kd.int .i64) w A0 l0.length l0) (hc0 : l0.length ≤ c0) (hr1 : Kd.C (Kd.int .i64) w A1 l1.length l1) (hc1 : l1.length ≤ c1) (h : spec_l11Same.f k l0 l1 = some r) :
  Calls Tryz.prog 54 #[.slice A0 l0.length c0, .slice A1 l1.length c1] w fun e w' => e = .returned (.bool r) ∧ Drawn0 w w' := by
 have HR0 := asT hr0; have HC0 := asT hc0; clear hr0 hc0; have HR1 := asT hr1; have HC1 := asT hc1; clear hr1 hc1; have H := h; unfold spec_l11Same.f at H; clear h; obtain ⟨t308, A3, H⟩ := be H; obtain rfl := oI H; go_enter Tryz.func54, Tryz.ntmps54
 go_wp2_with (first | ((with_reducible refine gate_callee (f := 93) rfl ?_); refine goesL_ (some 7) rfl rfl Tryz.func93 (by kernel_rfl) rfl #[.slice A0 l0.length c0, .slice A1 l1.length c1] rfl eqT ?_; (with_reducible refine (spec_l5Same.calls k _ _ l0 _ _ l1 t308 _ ?side1 ?side2 ?side3 ?side4 A3.out).mono ?_); (case side1 => exact caT HR0.out); (case side2 => exact HC0.out); (case side3 => exact caT HR1.out); (case side4 => exact HC1.out); rintro e w' ⟨rfl, ⟨nd, rfl⟩⟩; refine ⟨_, rfl, ?_⟩))
 go_ret; exact ⟨rdT, drT⟩
def spec_InputOf.f (k : Nat) (l0_0 : List (S109)) : Option (ByteArray) := (spec_IsCandidate.f k l0_0).bind fun t310 => (if t310 = true then ((spec_l6In.f k l0_0).bind fun t311 => (some t311)) else (some (⟨#[]⟩ : ByteArray)))
theorem spec_InputOf.mono : ∀ a0 k, LeO (spec_InputOf.f k a0) (spec_InputOf.f (k + 1) a0) := by
 intro a0 k; unfold spec_InputOf.f
 with_reducible repeat' first | exact spec_IsCandidate.mono _ _ | exact spec_l6In.mono _ _ | exact LeO.refl _ | exact LeO.none _ | refine LeO.ite ?_ ?_ | refine LeO.bind ?_ (fun _ => ?_)
theorem spec_InputOf.calls (k : Nat) (A0_0 : Option Addr) (c0_0 : Nat) (l0_0 : List (S109)) (r : ByteArray) (w : World) (hr0_0 : Kd.C k109 w A0_0 l0_0.length l0_0) (hc0_0 : l0_0.length ≤ c0_0) (h : spec_InputOf.f k l0_0 = some r) :
  Calls Tryz.prog 92 #[.agg #[.slice A0_0 l0_0.length c0_0]] w fun e w' => e = .returned (.string r) ∧ Below w.heap.size w w' := by
 have hu60 := Tryz.underlying60; have HR0_0 := asT hr0_0; have HC0_0 := asT hc0_0; clear hr0_0 hc0_0; have HB := asT (Below.refl w.heap.size w); have H := h; unfold spec_InputOf.f at H; clear h; obtain ⟨t310, A2, H⟩ := be H; by_cases c3 : t310 = true
 ·subst c3; rw [if_pos rfl] at H; obtain ⟨t311, A4, H⟩ := be H; obtain rfl := oI H; go_enter Tryz.func92, Tryz.ntmps92
  go_wp2_with (first | ((with_reducible refine gate_dst (N := 1) rfl ?_); refine boxT (N := 1) (cs := #[.slice A0_0 l0_0.length c0_0]) (t := 60) ?_; intro gb309 hg w5 hbox hb; have BK309 := asT hbox; have GW309 := asT (geT hg HB.out); have GE309 := GW309; replace HB := hS HB hb; clear hb hbox hg; obtain ⟨hcz6_0, hfz6_0⟩ := bx1 BK309.out) | ((with_reducible refine gate_callee (f := 78) rfl ?_); refine goesL_ (some 4) rfl rfl Tryz.func78 (by kernel_rfl) rfl #[.agg #[.slice A0_0 l0_0.length c0_0]] rfl eqT ?_; (with_reducible refine (spec_IsCandidate.calls k _ _ l0_0 true _ ?side1 ?side2 A2.out).mono ?_); (case side1 => exact crT HR0_0.out HB.out); (case side2 => exact HC0_0.out); rintro e w7 ⟨rfl, hb⟩; refine ⟨_, rfl, ?_⟩; replace BK309 := bS BK309 hb; replace HB := hS HB hb; (try clear hb hb2 hk hi); obtain ⟨hcz8_0, hfz8_0⟩ := bx1 BK309.out) | ((with_reducible refine gate_callee (f := 111) rfl ?_); refine goesL_ (some 7) rfl rfl Tryz.func111 (by kernel_rfl) rfl #[.agg #[.slice A0_0 l0_0.length c0_0]] rfl eqT ?_; (with_reducible refine (spec_l6In.calls k _ _ l0_0 t311 _ ?side1 ?side2 A4.out).mono ?_); (case side1 => exact crT HR0_0.out HB.out); (case side2 => exact HC0_0.out); rintro e w9 ⟨rfl, hb⟩; refine ⟨_, rfl, ?_⟩; replace BK309 := bS BK309 hb; replace HB := hS HB hb; (try clear hb hb2 hk hi)))
  go_ret; exact ⟨rlT, hbT HB.out⟩
 ·replace c3 := eE c3; subst c3; rw [if_neg nF] at H; have H1 := H; clear H; have H := H1; clear H1; obtain rfl := oI H; go_enter Tryz.func92, Tryz.ntmps92
  go_wp2_with (first | ((with_reducible refine gate_dst (N := 1) rfl ?_); refine boxT (N := 1) (cs := #[.slice A0_0 l0_0.length c0_0]) (t := 60) ?_; intro gb309 hg w10 hbox hb; have BK309 := asT hbox; have GW309 := asT (geT hg HB.out); have GE309 := GW309; replace HB := hS HB hb; clear hb hbox hg; obtain ⟨hcz11_0, hfz11_0⟩ := bx1 BK309.out) | ((with_reducible refine gate_callee (f := 78) rfl ?_); refine goesL_ (some 4) rfl rfl Tryz.func78 (by kernel_rfl) rfl #[.agg #[.slice A0_0 l0_0.length c0_0]] rfl eqT ?_; (with_reducible refine (spec_IsCandidate.calls k _ _ l0_0 false _ ?side1 ?side2 A2.out).mono ?_); (case side1 => exact crT HR0_0.out HB.out); (case side2 => exact HC0_0.out); rintro e w12 ⟨rfl, hb⟩; refine ⟨_, rfl, ?_⟩; replace BK309 := bS BK309 hb; replace HB := hS HB hb; (try clear hb hb2 hk hi)))
  go_ret; exact ⟨rlT, hbT HB.out⟩
end Go.Proofs.YtlmfpkiaikjlbaaGreat.PFnExactRowsFor
