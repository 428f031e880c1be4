-- Made by gen.py (a program of this session) out of the translation; Lean checks it.
import Derived.Test.YtmfhaplhgaehhabGreatPFnExactFatalMarkx0
import Derived.Test.YtmfhaplhgaehhabGreatPFnExactFatalMarkx3
namespace Go.Proofs.YtmfhaplhgaehhabGreat.PFnExactFatalMark
open Go.RowKit Go.Proofs.YtmfhaplhgaehhabGreatB Go.Proofs.YtmfhaplhgaehhabGreatW.PrintWords Go.Proofs.YtmfhaplhgaehhabGreatW.PrintLast Go.Proofs.YtmfhaplhgaehhabGreatW.PrintMore
attribute [local go_sem] max2_int min2_int max_two min_two max_three min_three max_four min_four   -- for this text's walks alone
set_option linter.unusedVariables false
set_option linter.unusedSimpArgs false
mutual
def spec_IsCandidate.l0 : Nat → Int → List (S103) → Option (Bool)
 | 0, _, _ => none
 | k + 1, x3, x226000 => if x3 < (x226000.length : Int) then (if 0 ≤ x3 then ((spec_SwapVoice.f ((rd_T103 x226000 x3).f0)).bind fun bt228 => (if ((rd_T103 x226000 x3).f0) = 0 then (if ((rd_T103 x226000 x3).f1) = 0 then (spec_IsCandidate.j1 k x3 bt228.1 bt228.2 (((rd_T103 x226000 x3).f1) == 0) x226000 ((rd_T103 x226000 x3).f0) ((rd_T103 x226000 x3).f1)) else ((spec_IsSound.f k ((rd_T103 x226000 x3).f1)).bind fun t230 => (if t230 = true then (spec_IsCandidate.j1 k x3 bt228.1 bt228.2 (((rd_T103 x226000 x3).f1) == 0) x226000 ((rd_T103 x226000 x3).f0) ((rd_T103 x226000 x3).f1)) else (spec_IsCandidate.j1 k x3 bt228.1 bt228.2 true x226000 ((rd_T103 x226000 x3).f0) ((rd_T103 x226000 x3).f1))))) else ((spec_IsSound.f k ((rd_T103 x226000 x3).f0)).bind fun t231 => (if t231 = true then (if ((rd_T103 x226000 x3).f1) = 0 then (spec_IsCandidate.j1 k x3 bt228.1 bt228.2 false x226000 ((rd_T103 x226000 x3).f0) ((rd_T103 x226000 x3).f1)) else ((spec_IsSound.f k ((rd_T103 x226000 x3).f1)).bind fun t232 => (if t232 = true then (spec_IsCandidate.j1 k x3 bt228.1 bt228.2 false x226000 ((rd_T103 x226000 x3).f0) ((rd_T103 x226000 x3).f1)) else (spec_IsCandidate.j1 k x3 bt228.1 bt228.2 true x226000 ((rd_T103 x226000 x3).f0) ((rd_T103 x226000 x3).f1))))) else (spec_IsCandidate.j1 k x3 bt228.1 bt228.2 true x226000 ((rd_T103 x226000 x3).f0) ((rd_T103 x226000 x3).f1)))))) else (none)) else (if (x226000.length : Int) ≤ 16 then ((spec_l6In.f k x226000).bind fun t233 => ((spec_IsForm.f k t233).bind fun t234 => (if t234 = true then ((spec_l6Out.f k x226000).bind fun t235 => ((spec_IsForm.f k t235).bind fun t236 => (some t236))) else (some false)))) else (some false))
def spec_IsCandidate.j1 : Nat → Int → Int → Bool → Bool → List (S103) → Int → Int → Option (Bool)
 | 0, _, _, _, _, _, _, _ => none
 | k + 1, x3, x5, x6, x54, x226000, x228000, x228001 => if x54 = true then (some false) else (if x228000 = 0 then (spec_IsCandidate.l0 k (wrap64 (x3 + 1)) x226000) else (if x228001 = 0 then (spec_IsCandidate.l0 k (wrap64 (x3 + 1)) x226000) else (if x228000 = x228001 then (spec_IsCandidate.l0 k (wrap64 (x3 + 1)) x226000) else (if x6 = true then (if x5 = x228001 then (spec_IsCandidate.l0 k (wrap64 (x3 + 1)) x226000) else (some false)) else (some false)))))
end
def spec_IsCandidate.f (k : Nat) (l0_0 : List (S103)) : Option (Bool) := spec_IsCandidate.l0 k 0 l0_0
theorem spec_IsCandidate.mono_l : ∀ k, (∀ y0 y1, LeO (spec_IsCandidate.l0 k y0 y1) (spec_IsCandidate.l0 (k + 1) y0 y1)) ∧ (∀ y0 y1 y2 y3 y4 y5 y6, LeO (spec_IsCandidate.j1 k y0 y1 y2 y3 y4 y5 y6) (spec_IsCandidate.j1 (k + 1) y0 y1 y2 y3 y4 y5 y6))
 | 0 => ⟨fun _ _ r h => by simp [spec_IsCandidate.l0] at h, fun _ _ _ _ _ _ _ r h => by simp [spec_IsCandidate.j1] at h⟩
 | k + 1 => by
  obtain ⟨ih0, ih1⟩ := spec_IsCandidate.mono_l k; refine ⟨?_, ?_⟩
  ·intro y0 y1
   unfold spec_IsCandidate.l0
   with_reducible repeat' first | exact ih0 _ _ | exact ih1 _ _ _ _ _ _ _ | exact spec_IsForm.mono _ _ | exact spec_IsSound.mono _ _ | exact spec_l6In.mono _ _ | exact spec_l6Out.mono _ _ | exact LeO.refl _ | exact LeO.none _ | refine LeO.ite ?_ ?_ | refine LeO.bind ?_ (fun _ => ?_)
  ·intro y0 y1 y2 y3 y4 y5 y6
   unfold spec_IsCandidate.j1
   with_reducible repeat' first | exact ih0 _ _ | exact ih1 _ _ _ _ _ _ _ | exact spec_IsForm.mono _ _ | exact spec_IsSound.mono _ _ | exact spec_l6In.mono _ _ | exact spec_l6Out.mono _ _ | exact LeO.refl _ | exact LeO.none _ | refine LeO.ite ?_ ?_ | refine LeO.bind ?_ (fun _ => ?_)
theorem spec_IsCandidate.mono : ∀ a0 k, LeO (spec_IsCandidate.f k a0) (spec_IsCandidate.f (k + 1) a0) := by
 intro a0 k
 obtain ⟨ih0, ih1⟩ := spec_IsCandidate.mono_l k
 unfold spec_IsCandidate.f
 with_reducible repeat' first | exact ih0 _ _ | exact ih1 _ _ _ _ _ _ _ | exact spec_IsForm.mono _ _ | exact spec_IsSound.mono _ _ | exact spec_l6In.mono _ _ | exact spec_l6Out.mono _ _ | exact LeO.refl _ | exact LeO.none _ | refine LeO.ite ?_ ?_ | refine LeO.bind ?_ (fun _ => ?_)
set_option maxHeartbeats 8000000 in
set_option maxRecDepth 100000 in
theorem spec_IsCandidate.calls (k : Nat) (A0_0 : Option Addr) (c0_0 : Nat) (l0_0 : List (S103)) (r : Bool) (w : World) (hr0_0 : Kd.C k103 w A0_0 l0_0.length l0_0) (hc0_0 : l0_0.length ≤ c0_0) (h : spec_IsCandidate.f k l0_0 = some r) :
  Calls Tryz.prog 69 #[.agg #[.slice A0_0 l0_0.length c0_0]] w fun e w' => e = .returned (.bool r) ∧ Below w.heap.size w w' := by
 have hu77 := Tryz.underlying77; have hu103 := Tryz.underlying103; have HR0_0 := Aside0.mk hr0_0; have HC0_0 := Aside0.mk hc0_0; clear hr0_0 hc0_0; have HB := asT (Below.refl w.heap.size w); have H := h; unfold spec_IsCandidate.f at H; clear h; have H' := Aside0.mk H; clear H
 go_enter Tryz.func69, Tryz.ntmps69
 go_wp2_with (first | ((with_reducible refine gate_dst (N := 1) rfl ?_); refine boxT (N := 1) (cs := #[.slice A0_0 l0_0.length c0_0]) (t := 77) ?_; intro gb225 hg w2 hbox hb; have BK225 := asT hbox; have GW225 := asT (geT hg HB.out); have GE225 := GW225; replace HB := hS HB hb; clear hb hbox hg))
 go_loopg [3] k (fun kq v3 w' => ∃ (x3_1 : Int), v3 = .int .i64 x3_1 ∧ Aside0 (spec_IsCandidate.l0 kq x3_1 l0_0 = some r) ∧ Aside0 (kq ≤ k) ∧ Aside0 (w'.heap[gb225]? = some (.cells #[(.slice A0_0 l0_0.length c0_0)] 77 (0, 0))) ∧ Aside0 (Below w.heap.size w w'))
 case atStart => exact ⟨(0), rdT, H', ⟨Nat.le_refl _⟩, ⟨by (with_reducible repeat (first | refine blk_drewN ?_ _ | refine blk_drew ?_ | refine blk_alloc ?_ _)); exact BK225.out⟩, ⟨hbT HB.out⟩⟩
 case round =>
  clear H'; (try clear p2); obtain ⟨x3_1, rfl, HA, HK1, BK225, HB⟩ := hrel
  cases gk with
  | zero => exact absurd HA.out (by simp [spec_IsCandidate.l0])
  | succ k1 =>
   have H := HA.out; clear HA
   simp only [spec_IsCandidate.l0] at H
   by_cases c3 : x3_1 < (l0_0.length : Int)
   ·rw [if_pos c3] at H
    have c3b0 : decide (x3_1 < (l0_0.length : Int)) = true := decide_eq_true c3
    clear c3
    by_cases c4 : 0 ≤ x3_1
    ·rw [if_pos c4] at H
     have c4b0 : decide (0 ≤ x3_1) = true := decide_eq_true c4
     clear c4; replace H := Option.bind_eq_some_iff.mp H; obtain ⟨⟨t228, t229⟩, A50, H⟩ := H; replace H : (if ((rd_T103 l0_0 x3_1).f0) = 0 then (if ((rd_T103 l0_0 x3_1).f1) = 0 then (spec_IsCandidate.j1 k1 x3_1 t228 t229 (((rd_T103 l0_0 x3_1).f1) == 0) l0_0 ((rd_T103 l0_0 x3_1).f0) ((rd_T103 l0_0 x3_1).f1)) else ((spec_IsSound.f k1 ((rd_T103 l0_0 x3_1).f1)).bind fun t230 => (if t230 = true then (spec_IsCandidate.j1 k1 x3_1 t228 t229 (((rd_T103 l0_0 x3_1).f1) == 0) l0_0 ((rd_T103 l0_0 x3_1).f0) ((rd_T103 l0_0 x3_1).f1)) else (spec_IsCandidate.j1 k1 x3_1 t228 t229 true l0_0 ((rd_T103 l0_0 x3_1).f0) ((rd_T103 l0_0 x3_1).f1))))) else ((spec_IsSound.f k1 ((rd_T103 l0_0 x3_1).f0)).bind fun t231 => (if t231 = true then (if ((rd_T103 l0_0 x3_1).f1) = 0 then (spec_IsCandidate.j1 k1 x3_1 t228 t229 false l0_0 ((rd_T103 l0_0 x3_1).f0) ((rd_T103 l0_0 x3_1).f1)) else ((spec_IsSound.f k1 ((rd_T103 l0_0 x3_1).f1)).bind fun t232 => (if t232 = true then (spec_IsCandidate.j1 k1 x3_1 t228 t229 false l0_0 ((rd_T103 l0_0 x3_1).f0) ((rd_T103 l0_0 x3_1).f1)) else (spec_IsCandidate.j1 k1 x3_1 t228 t229 true l0_0 ((rd_T103 l0_0 x3_1).f0) ((rd_T103 l0_0 x3_1).f1))))) else (spec_IsCandidate.j1 k1 x3_1 t228 t229 true l0_0 ((rd_T103 l0_0 x3_1).f0) ((rd_T103 l0_0 x3_1).f1))))) = some r := H; have A5 := Aside0.mk A50; clear A50; have HC6 := Aside0.mk H; clear H
     have hcz7_0 := bc0 BK225.out
     have hfz7_0 := blk_frozen BK225.out 0
     have p226 : 0 ≤ (x3_1 : Int) := of_decide_eq_true asmT
     have q226 : x3_1 < (l0_0.length : Int) := of_decide_eq_true asmT
     obtain ⟨ad226, e226, hx226_0, hx226_1⟩ := at_T103 HR0_0.out x3_1 p226 q226
     cases e226
     replace hx226_0 := hbc HB.out hx226_0; replace hx226_1 := hbc HB.out hx226_1; replace p226 := eq_true p226; replace q226 := eq_true q226
     go_upto_region 6 with (first | ((with_reducible refine gate_dst (N := 4) rfl ?_); refine boxT (N := 4) (cs := #[.int .u8 0, .int .u8 0]) (t := 103) ?_; intro gb227 hg w8 hbox hb; have BK227 := asT (hbox); have GW227 := asT (geT hg HB.out); have GE227 := asT (geT hg HB.out); replace HB := hS HB hb; have NB225_227 := asT ((by rw [hg]; exact Nat.ne_of_lt (blk_lt (g := gb225) (o := .cells #[.slice (some ad226) l0_0.length c0_0] 77 (0, 0)) (bkT BK225.out)) : gb225 ≠ gb227)); have NB227_225 := asT ((by rw [hg]; exact Nat.ne_of_gt (blk_lt (g := gb225) (o := .cells #[.slice (some ad226) l0_0.length c0_0] 77 (0, 0)) (bkT BK225.out)) : gb227 ≠ gb225)); replace BK225 := bS BK225 hb; clear hb hbox hg; have hnb9 := NB227_225.out; have hnc9 := NB225_227.out; obtain ⟨hcz10_0, hcz10_1, hfz10_0, hfz10_1⟩ := bx2 BK227.out) | ((with_reducible refine gate_callee (f := 96) rfl ?_); refine goesL_ (some 22) rfl rfl Tryz.func96 (by kernel_rfl) rfl #[.int .u8 ((rd_T103 l0_0 x3_1).f0)] rfl eqT ?_; (with_reducible refine (spec_SwapVoice.calls ((rd_T103 l0_0 x3_1).f0) t228 t229 _ A5.out).mono ?_); rintro e w' ⟨rfl, ⟨nd, rfl⟩⟩; refine ⟨_, rfl, ?_⟩))
     (try simp only [Act.put, sA, sZ, sS])
     go_cut [54] (fun v54 wc => ∃ (kq : Nat) (x54_5 : Bool), v54 = .bool x54_5 ∧ Aside0 (spec_IsCandidate.j1 kq x3_1 t228 t229 x54_5 l0_0 ((rd_T103 l0_0 x3_1).f0) ((rd_T103 l0_0 x3_1).f1) = some r) ∧ Aside0 (kq ≤ k1) ∧ Aside0 (wc.heap[gb225]? = some (.cells #[(.slice (some ad226) l0_0.length c0_0)] 77 (0, 0))) ∧ Aside0 (wc.heap[gb227]? = some (.cells #[.int .u8 ((rd_T103 l0_0 x3_1).f0), .int .u8 ((rd_T103 l0_0 x3_1).f1)] 103 (0, 0))) ∧ Aside0 (Below w.heap.size w wc))
     case first =>
      have H := HC6.out; clear HC6
      by_cases c11 : ((rd_T103 l0_0 x3_1).f0) = 0
      ·rw [if_pos c11] at H
       have c11b0 : (((rd_T103 l0_0 x3_1).f0) == 0) = true := beq_iff_eq.mpr c11
       have c11b1 : (((rd_T103 l0_0 x3_1).f0) != 0) = false := bne_eq_false_iff_eq.mpr c11
       clear c11
       (first | rw [c11b0] | (simp only [i64_w, i32_w]; rw [c11b0]) | skip)
       by_cases c12 : ((rd_T103 l0_0 x3_1).f1) = 0
       ·rw [if_pos c12] at H
        have c12b0 : (((rd_T103 l0_0 x3_1).f1) == 0) = true := beq_iff_eq.mpr c12
        have c12b1 : (((rd_T103 l0_0 x3_1).f1) != 0) = false := bne_eq_false_iff_eq.mpr c12
        clear c12; have H' := Aside0.mk H; clear H; have hnb13 := NB227_225.out; have hnc13 := NB225_227.out
        have hcz14_0 := bc0 BK227.out
        have hcz14_1 := bc1 BK227.out
        have hfz14_0 := blk_frozen BK227.out 0; have hfz14_1 := blk_frozen BK227.out 1
        go_wp2
        go_meet
        case rel => exact ⟨_, ((((rd_T103 l0_0 x3_1).f1) == 0)), rdT, H', ⟨by have := HK1.out; first | omega | exact Nat.le_refl _⟩, ⟨by (with_reducible repeat (first | refine blk_drewN ?_ _ | refine blk_drew ?_ | refine blk_alloc ?_ _)); refine blk_far ?_ NB225_227.out _; (with_reducible repeat (first | refine blk_drewN ?_ _ | refine blk_drew ?_ | refine blk_alloc ?_ _)); refine blk_far ?_ NB225_227.out _; (with_reducible repeat (first | refine blk_drewN ?_ _ | refine blk_drew ?_ | refine blk_alloc ?_ _)); exact BK225.out⟩, ⟨by (with_reducible repeat (first | refine blk_drewN ?_ _ | refine blk_drew ?_ | refine blk_alloc ?_ _)); refine blk_put (cs := #[.int .u8 ((rd_T103 l0_0 x3_1).f0), .int .u8 0]) ?_ 1 _ rfl; (with_reducible repeat (first | refine blk_drewN ?_ _ | refine blk_drew ?_ | refine blk_alloc ?_ _)); refine blk_put (cs := #[.int .u8 0, .int .u8 0]) ?_ 0 _ rfl; (with_reducible repeat (first | refine blk_drewN ?_ _ | refine blk_drew ?_ | refine blk_alloc ?_ _)); exact BK227.out⟩, ⟨hbT HB.out⟩⟩
       ·rw [if_neg c12] at H
        have c12b0 : (((rd_T103 l0_0 x3_1).f1) == 0) = false := beq_eq_false_iff_ne.mpr c12
        have c12b1 : (((rd_T103 l0_0 x3_1).f1) != 0) = true := bne_iff_ne.mpr c12
        obtain ⟨t230, A15, H⟩ := be H
        by_cases c16 : t230 = true
        ·subst c16
         rw [if_pos rfl] at H; have H' := Aside0.mk H; clear H; have hnb17 := NB227_225.out; have hnc17 := NB225_227.out
         have hcz18_0 := bc0 BK227.out
         have hcz18_1 := bc1 BK227.out
         have hfz18_0 := blk_frozen BK227.out 0; have hfz18_1 := blk_frozen BK227.out 1
         go_wp2_with (first | (go_at_call 97; (with_reducible refine (spec_IsSound.calls k1 ((rd_T103 l0_0 x3_1).f1) true _ A15.out).mono ?_); rintro e w' ⟨rfl, ⟨nd, rfl⟩⟩))
         go_meet
         case rel => exact ⟨_, ((((rd_T103 l0_0 x3_1).f1) == 0)), rdT, H', ⟨by have := HK1.out; first | omega | exact Nat.le_refl _⟩, ⟨by (with_reducible repeat (first | refine blk_drewN ?_ _ | refine blk_drew ?_ | refine blk_alloc ?_ _)); refine blk_far ?_ NB225_227.out _; (with_reducible repeat (first | refine blk_drewN ?_ _ | refine blk_drew ?_ | refine blk_alloc ?_ _)); refine blk_far ?_ NB225_227.out _; (with_reducible repeat (first | refine blk_drewN ?_ _ | refine blk_drew ?_ | refine blk_alloc ?_ _)); exact BK225.out⟩, ⟨by (with_reducible repeat (first | refine blk_drewN ?_ _ | refine blk_drew ?_ | refine blk_alloc ?_ _)); refine blk_put (cs := #[.int .u8 ((rd_T103 l0_0 x3_1).f0), .int .u8 0]) ?_ 1 _ rfl; (with_reducible repeat (first | refine blk_drewN ?_ _ | refine blk_drew ?_ | refine blk_alloc ?_ _)); refine blk_put (cs := #[.int .u8 0, .int .u8 0]) ?_ 0 _ rfl; (with_reducible repeat (first | refine blk_drewN ?_ _ | refine blk_drew ?_ | refine blk_alloc ?_ _)); exact BK227.out⟩, ⟨hbT HB.out⟩⟩
        ·replace c16 := Bool.eq_false_iff.mpr c16
         subst c16; rw [if_neg nF] at H; have H' := Aside0.mk H; clear H; have hnb19 := NB227_225.out; have hnc19 := NB225_227.out
         have hcz20_0 := bc0 BK227.out
         have hcz20_1 := bc1 BK227.out
         have hfz20_0 := blk_frozen BK227.out 0; have hfz20_1 := blk_frozen BK227.out 1
         go_wp2_with (first | (go_at_call 97; (with_reducible refine (spec_IsSound.calls k1 ((rd_T103 l0_0 x3_1).f1) false _ A15.out).mono ?_); rintro e w' ⟨rfl, ⟨nd, rfl⟩⟩))
         go_meet
         case rel => exact ⟨_, (true), rdT, H', ⟨by have := HK1.out; first | omega | exact Nat.le_refl _⟩, ⟨by (with_reducible repeat (first | refine blk_drewN ?_ _ | refine blk_drew ?_ | refine blk_alloc ?_ _)); refine blk_far ?_ NB225_227.out _; (with_reducible repeat (first | refine blk_drewN ?_ _ | refine blk_drew ?_ | refine blk_alloc ?_ _)); refine blk_far ?_ NB225_227.out _; (with_reducible repeat (first | refine blk_drewN ?_ _ | refine blk_drew ?_ | refine blk_alloc ?_ _)); exact BK225.out⟩, ⟨by (with_reducible repeat (first | refine blk_drewN ?_ _ | refine blk_drew ?_ | refine blk_alloc ?_ _)); refine blk_put (cs := #[.int .u8 ((rd_T103 l0_0 x3_1).f0), .int .u8 0]) ?_ 1 _ rfl; (with_reducible repeat (first | refine blk_drewN ?_ _ | refine blk_drew ?_ | refine blk_alloc ?_ _)); refine blk_put (cs := #[.int .u8 0, .int .u8 0]) ?_ 0 _ rfl; (with_reducible repeat (first | refine blk_drewN ?_ _ | refine blk_drew ?_ | refine blk_alloc ?_ _)); exact BK227.out⟩, ⟨hbT HB.out⟩⟩
      ·rw [if_neg c11] at H
       have c11b0 : (((rd_T103 l0_0 x3_1).f0) == 0) = false := beq_eq_false_iff_ne.mpr c11
       have c11b1 : (((rd_T103 l0_0 x3_1).f0) != 0) = true := bne_iff_ne.mpr c11
       (first | rw [c11b0] | (simp only [i64_w, i32_w]; rw [c11b0]) | skip)
       obtain ⟨t231, A21, H⟩ := be H
       by_cases c22 : t231 = true
       ·subst c22
        rw [if_pos rfl] at H; have H1 := H; clear H; have H := H1; clear H1
        by_cases c23 : ((rd_T103 l0_0 x3_1).f1) = 0
        ·rw [if_pos c23] at H
         have c23b0 : (((rd_T103 l0_0 x3_1).f1) == 0) = true := beq_iff_eq.mpr c23
         have c23b1 : (((rd_T103 l0_0 x3_1).f1) != 0) = false := bne_eq_false_iff_eq.mpr c23
         clear c23; have H' := Aside0.mk H; clear H; have hnb24 := NB227_225.out; have hnc24 := NB225_227.out
         have hcz25_0 := bc0 BK227.out
         have hcz25_1 := bc1 BK227.out
         have hfz25_0 := blk_frozen BK227.out 0; have hfz25_1 := blk_frozen BK227.out 1
         go_wp2_with (first | (go_at_call 97; (with_reducible refine (spec_IsSound.calls k1 ((rd_T103 l0_0 x3_1).f0) true _ A21.out).mono ?_); rintro e w' ⟨rfl, ⟨nd, rfl⟩⟩))
         go_meet
         case rel => exact ⟨_, (false), rdT, H', ⟨by have := HK1.out; first | omega | exact Nat.le_refl _⟩, ⟨by (with_reducible repeat (first | refine blk_drewN ?_ _ | refine blk_drew ?_ | refine blk_alloc ?_ _)); refine blk_far ?_ NB225_227.out _; (with_reducible repeat (first | refine blk_drewN ?_ _ | refine blk_drew ?_ | refine blk_alloc ?_ _)); refine blk_far ?_ NB225_227.out _; (with_reducible repeat (first | refine blk_drewN ?_ _ | refine blk_drew ?_ | refine blk_alloc ?_ _)); exact BK225.out⟩, ⟨by (with_reducible repeat (first | refine blk_drewN ?_ _ | refine blk_drew ?_ | refine blk_alloc ?_ _)); refine blk_put (cs := #[.int .u8 ((rd_T103 l0_0 x3_1).f0), .int .u8 0]) ?_ 1 _ rfl; (with_reducible repeat (first | refine blk_drewN ?_ _ | refine blk_drew ?_ | refine blk_alloc ?_ _)); refine blk_put (cs := #[.int .u8 0, .int .u8 0]) ?_ 0 _ rfl; (with_reducible repeat (first | refine blk_drewN ?_ _ | refine blk_drew ?_ | refine blk_alloc ?_ _)); exact BK227.out⟩, ⟨hbT HB.out⟩⟩
        ·rw [if_neg c23] at H
         have c23b0 : (((rd_T103 l0_0 x3_1).f1) == 0) = false := beq_eq_false_iff_ne.mpr c23
         have c23b1 : (((rd_T103 l0_0 x3_1).f1) != 0) = true := bne_iff_ne.mpr c23
         obtain ⟨t232, A26, H⟩ := be H
         by_cases c27 : t232 = true
         ·subst c27
          rw [if_pos rfl] at H; have H' := Aside0.mk H; clear H; have hnb28 := NB227_225.out; have hnc28 := NB225_227.out
          have hcz29_0 := bc0 BK227.out
          have hcz29_1 := bc1 BK227.out
          have hfz29_0 := blk_frozen BK227.out 0; have hfz29_1 := blk_frozen BK227.out 1
          go_wp2_with (first | (go_at_call 97; (with_reducible refine (spec_IsSound.calls k1 ((rd_T103 l0_0 x3_1).f0) true _ A21.out).mono ?_); rintro e w' ⟨rfl, ⟨nd, rfl⟩⟩) | (go_at_call 97; (with_reducible refine (spec_IsSound.calls k1 ((rd_T103 l0_0 x3_1).f1) true _ A26.out).mono ?_); rintro e w' ⟨rfl, ⟨nd, rfl⟩⟩))
          go_meet
          case rel => exact ⟨_, (false), rdT, H', ⟨by have := HK1.out; first | omega | exact Nat.le_refl _⟩, ⟨by (with_reducible repeat (first | refine blk_drewN ?_ _ | refine blk_drew ?_ | refine blk_alloc ?_ _)); refine blk_far ?_ NB225_227.out _; (with_reducible repeat (first | refine blk_drewN ?_ _ | refine blk_drew ?_ | refine blk_alloc ?_ _)); refine blk_far ?_ NB225_227.out _; (with_reducible repeat (first | refine blk_drewN ?_ _ | refine blk_drew ?_ | refine blk_alloc ?_ _)); exact BK225.out⟩, ⟨by (with_reducible repeat (first | refine blk_drewN ?_ _ | refine blk_drew ?_ | refine blk_alloc ?_ _)); refine blk_put (cs := #[.int .u8 ((rd_T103 l0_0 x3_1).f0), .int .u8 0]) ?_ 1 _ rfl; (with_reducible repeat (first | refine blk_drewN ?_ _ | refine blk_drew ?_ | refine blk_alloc ?_ _)); refine blk_put (cs := #[.int .u8 0, .int .u8 0]) ?_ 0 _ rfl; (with_reducible repeat (first | refine blk_drewN ?_ _ | refine blk_drew ?_ | refine blk_alloc ?_ _)); exact BK227.out⟩, ⟨hbT HB.out⟩⟩
         ·replace c27 := Bool.eq_false_iff.mpr c27
          subst c27; rw [if_neg nF] at H; have H' := Aside0.mk H; clear H; have hnb30 := NB227_225.out; have hnc30 := NB225_227.out
          have hcz31_0 := bc0 BK227.out
          have hcz31_1 := bc1 BK227.out
          have hfz31_0 := blk_frozen BK227.out 0; have hfz31_1 := blk_frozen BK227.out 1
          go_wp2_with (first | (go_at_call 97; (with_reducible refine (spec_IsSound.calls k1 ((rd_T103 l0_0 x3_1).f0) true _ A21.out).mono ?_); rintro e w' ⟨rfl, ⟨nd, rfl⟩⟩) | (go_at_call 97; (with_reducible refine (spec_IsSound.calls k1 ((rd_T103 l0_0 x3_1).f1) false _ A26.out).mono ?_); rintro e w' ⟨rfl, ⟨nd, rfl⟩⟩))
          go_meet
          case rel => exact ⟨_, (true), rdT, H', ⟨by have := HK1.out; first | omega | exact Nat.le_refl _⟩, ⟨by (with_reducible repeat (first | refine blk_drewN ?_ _ | refine blk_drew ?_ | refine blk_alloc ?_ _)); refine blk_far ?_ NB225_227.out _; (with_reducible repeat (first | refine blk_drewN ?_ _ | refine blk_drew ?_ | refine blk_alloc ?_ _)); refine blk_far ?_ NB225_227.out _; (with_reducible repeat (first | refine blk_drewN ?_ _ | refine blk_drew ?_ | refine blk_alloc ?_ _)); exact BK225.out⟩, ⟨by (with_reducible repeat (first | refine blk_drewN ?_ _ | refine blk_drew ?_ | refine blk_alloc ?_ _)); refine blk_put (cs := #[.int .u8 ((rd_T103 l0_0 x3_1).f0), .int .u8 0]) ?_ 1 _ rfl; (with_reducible repeat (first | refine blk_drewN ?_ _ | refine blk_drew ?_ | refine blk_alloc ?_ _)); refine blk_put (cs := #[.int .u8 0, .int .u8 0]) ?_ 0 _ rfl; (with_reducible repeat (first | refine blk_drewN ?_ _ | refine blk_drew ?_ | refine blk_alloc ?_ _)); exact BK227.out⟩, ⟨hbT HB.out⟩⟩
       ·replace c22 := Bool.eq_false_iff.mpr c22
        subst c22; rw [if_neg nF] at H; have H' := Aside0.mk H; clear H; have hnb32 := NB227_225.out; have hnc32 := NB225_227.out
        have hcz33_0 := bc0 BK227.out
        have hcz33_1 := bc1 BK227.out
        have hfz33_0 := blk_frozen BK227.out 0; have hfz33_1 := blk_frozen BK227.out 1
        go_wp2_with (first | (go_at_call 97; (with_reducible refine (spec_IsSound.calls k1 ((rd_T103 l0_0 x3_1).f0) false _ A21.out).mono ?_); rintro e w' ⟨rfl, ⟨nd, rfl⟩⟩))
        go_meet
        case rel => exact ⟨_, (true), rdT, H', ⟨by have := HK1.out; first | omega | exact Nat.le_refl _⟩, ⟨by (with_reducible repeat (first | refine blk_drewN ?_ _ | refine blk_drew ?_ | refine blk_alloc ?_ _)); refine blk_far ?_ NB225_227.out _; (with_reducible repeat (first | refine blk_drewN ?_ _ | refine blk_drew ?_ | refine blk_alloc ?_ _)); refine blk_far ?_ NB225_227.out _; (with_reducible repeat (first | refine blk_drewN ?_ _ | refine blk_drew ?_ | refine blk_alloc ?_ _)); exact BK225.out⟩, ⟨by (with_reducible repeat (first | refine blk_drewN ?_ _ | refine blk_drew ?_ | refine blk_alloc ?_ _)); refine blk_put (cs := #[.int .u8 ((rd_T103 l0_0 x3_1).f0), .int .u8 0]) ?_ 1 _ rfl; (with_reducible repeat (first | refine blk_drewN ?_ _ | refine blk_drew ?_ | refine blk_alloc ?_ _)); refine blk_put (cs := #[.int .u8 0, .int .u8 0]) ?_ 0 _ rfl; (with_reducible repeat (first | refine blk_drewN ?_ _ | refine blk_drew ?_ | refine blk_alloc ?_ _)); exact BK227.out⟩, ⟨hbT HB.out⟩⟩
     case rest =>
      clear HC6; (try clear c1 c2 p2 q2 hx2 c3 c3b0 c4 c4b0 c6 c9 c11 c11b0 c11b1 c12 c12b0 c12b1 c13 c16 c17 c19 c22 p22 q22 hx22 c23 c23b0 c23b1 c24 c27 c28 c30 c32 hcz10_0 hcz10_1 hcz14_0 hcz14_1 hcz18_0 hcz18_1 hcz20_0 hcz20_1 hcz25_0 hcz25_1 hcz29_0 hcz29_1 hcz31_0 hcz31_1 hcz33_0 hcz33_1 hcz7_0 hfz10_0 hfz10_1 hfz14_0 hfz14_1 hfz18_0 hfz18_1 hfz20_0 hfz20_1 hfz25_0 hfz25_1 hfz29_0 hfz29_1 hfz31_0 hfz31_1 hfz33_0 hfz33_1 hfz7_0 hx226_0 hx226_1 p2 p226 q226); obtain ⟨kq, x54_5, rfl, HA, HJ5, BK225, BK227, HB⟩ := hcut
      cases kq with
      | zero => exact absurd HA.out (by simp [spec_IsCandidate.j1])
      | succ kj5 =>
       have H := HA.out; clear HA
       simp only [spec_IsCandidate.j1] at H
       by_cases c34 : x54_5 = true
       ·subst c34
        rw [if_pos rfl] at H; have H1 := H; clear H; have H := H1; clear H1
        obtain rfl := Option.some.inj H
        go_wp2
        go_ret
        exact ⟨rlT, hbT HB.out⟩
       ·replace c34 := Bool.eq_false_iff.mpr c34
        subst c34; rw [if_neg nF] at H; have H1 := H; clear H; have H := H1; clear H1
        by_cases c35 : ((rd_T103 l0_0 x3_1).f0) = 0
        ·rw [if_pos c35] at H
         have c35b0 : (((rd_T103 l0_0 x3_1).f0) == 0) = true := beq_iff_eq.mpr c35
         have c35b1 : (((rd_T103 l0_0 x3_1).f0) != 0) = false := bne_eq_false_iff_eq.mpr c35
         clear c35; have H' := Aside0.mk H; clear H; have hnb36 := NB227_225.out; have hnc36 := NB225_227.out
         have hcz37_0 := bc0 BK227.out
         have hcz37_1 := bc1 BK227.out
         have hfz37_0 := blk_frozen BK227.out 0; have hfz37_1 := blk_frozen BK227.out 1
         go_wp2
         go_roundg kj5
         case measure => have := HK1.out; have := HJ5.out; omega
         case rel => exact ⟨(wrap64 (x3_1 + 1)), rdT, H', ⟨by have := HK1.out; have := HJ5.out; omega⟩, ⟨by (with_reducible repeat (first | refine blk_drewN ?_ _ | refine blk_drew ?_ | refine blk_alloc ?_ _)); exact BK225.out⟩, ⟨hbT HB.out⟩⟩
        ·rw [if_neg c35] at H
         have c35b0 : (((rd_T103 l0_0 x3_1).f0) == 0) = false := beq_eq_false_iff_ne.mpr c35
         have c35b1 : (((rd_T103 l0_0 x3_1).f0) != 0) = true := bne_iff_ne.mpr c35
         by_cases c38 : ((rd_T103 l0_0 x3_1).f1) = 0
         ·rw [if_pos c38] at H
          have c38b0 : (((rd_T103 l0_0 x3_1).f1) == 0) = true := beq_iff_eq.mpr c38
          have c38b1 : (((rd_T103 l0_0 x3_1).f1) != 0) = false := bne_eq_false_iff_eq.mpr c38
          clear c38; have H' := Aside0.mk H; clear H; have hnb39 := NB227_225.out; have hnc39 := NB225_227.out
          have hcz40_0 := bc0 BK227.out
          have hcz40_1 := bc1 BK227.out
          have hfz40_0 := blk_frozen BK227.out 0; have hfz40_1 := blk_frozen BK227.out 1
          go_wp2
          go_roundg kj5
          case measure => have := HK1.out; have := HJ5.out; omega
          case rel => exact ⟨(wrap64 (x3_1 + 1)), rdT, H', ⟨by have := HK1.out; have := HJ5.out; omega⟩, ⟨by (with_reducible repeat (first | refine blk_drewN ?_ _ | refine blk_drew ?_ | refine blk_alloc ?_ _)); exact BK225.out⟩, ⟨hbT HB.out⟩⟩
         ·rw [if_neg c38] at H
          have c38b0 : (((rd_T103 l0_0 x3_1).f1) == 0) = false := beq_eq_false_iff_ne.mpr c38
          have c38b1 : (((rd_T103 l0_0 x3_1).f1) != 0) = true := bne_iff_ne.mpr c38
          by_cases c41 : ((rd_T103 l0_0 x3_1).f0) = ((rd_T103 l0_0 x3_1).f1)
          ·rw [if_pos c41] at H
           have c41b0 : (((rd_T103 l0_0 x3_1).f0) == ((rd_T103 l0_0 x3_1).f1)) = true := beq_iff_eq.mpr c41
           have c41b1 : (((rd_T103 l0_0 x3_1).f0) != ((rd_T103 l0_0 x3_1).f1)) = false := bne_eq_false_iff_eq.mpr c41
           clear c41; have H' := Aside0.mk H; clear H; have hnb42 := NB227_225.out; have hnc42 := NB225_227.out
           have hcz43_0 := bc0 BK227.out
           have hcz43_1 := bc1 BK227.out
           have hfz43_0 := blk_frozen BK227.out 0; have hfz43_1 := blk_frozen BK227.out 1
           go_wp2
           go_roundg kj5
           case measure => have := HK1.out; have := HJ5.out; omega
           case rel => exact ⟨(wrap64 (x3_1 + 1)), rdT, H', ⟨by have := HK1.out; have := HJ5.out; omega⟩, ⟨by (with_reducible repeat (first | refine blk_drewN ?_ _ | refine blk_drew ?_ | refine blk_alloc ?_ _)); exact BK225.out⟩, ⟨hbT HB.out⟩⟩
          ·rw [if_neg c41] at H
           have c41b0 : (((rd_T103 l0_0 x3_1).f0) == ((rd_T103 l0_0 x3_1).f1)) = false := beq_eq_false_iff_ne.mpr c41
           have c41b1 : (((rd_T103 l0_0 x3_1).f0) != ((rd_T103 l0_0 x3_1).f1)) = true := bne_iff_ne.mpr c41
           by_cases c44 : t229 = true
           ·subst c44
            rw [if_pos rfl] at H; have H1 := H; clear H; have H := H1; clear H1
            by_cases c45 : t228 = ((rd_T103 l0_0 x3_1).f1)
            ·rw [if_pos c45] at H
             have c45b0 : (t228 == ((rd_T103 l0_0 x3_1).f1)) = true := beq_iff_eq.mpr c45
             have c45b1 : (t228 != ((rd_T103 l0_0 x3_1).f1)) = false := bne_eq_false_iff_eq.mpr c45
             clear c45; have H' := Aside0.mk H; clear H; have hnb46 := NB227_225.out; have hnc46 := NB225_227.out
             have hcz47_0 := bc0 BK227.out
             have hcz47_1 := bc1 BK227.out
             have hfz47_0 := blk_frozen BK227.out 0; have hfz47_1 := blk_frozen BK227.out 1
             go_wp2
             go_roundg kj5
             case measure => have := HK1.out; have := HJ5.out; omega
             case rel => exact ⟨(wrap64 (x3_1 + 1)), rdT, H', ⟨by have := HK1.out; have := HJ5.out; omega⟩, ⟨by (with_reducible repeat (first | refine blk_drewN ?_ _ | refine blk_drew ?_ | refine blk_alloc ?_ _)); exact BK225.out⟩, ⟨hbT HB.out⟩⟩
            ·rw [if_neg c45] at H
             have c45b0 : (t228 == ((rd_T103 l0_0 x3_1).f1)) = false := beq_eq_false_iff_ne.mpr c45
             have c45b1 : (t228 != ((rd_T103 l0_0 x3_1).f1)) = true := bne_iff_ne.mpr c45
             obtain rfl := Option.some.inj H
             have hnb48 := NB227_225.out; have hnc48 := NB225_227.out
             have hcz49_0 := bc0 BK227.out
             have hcz49_1 := bc1 BK227.out
             have hfz49_0 := blk_frozen BK227.out 0; have hfz49_1 := blk_frozen BK227.out 1
             go_wp2
             go_ret
             exact ⟨rlT, hbT HB.out⟩
           ·replace c44 := Bool.eq_false_iff.mpr c44
            subst c44; rw [if_neg nF] at H; have H1 := H; clear H; have H := H1; clear H1
            obtain rfl := Option.some.inj H
            have hnb50 := NB227_225.out; have hnc50 := NB225_227.out
            have hcz51_0 := bc0 BK227.out
            have hcz51_1 := bc1 BK227.out
            have hfz51_0 := blk_frozen BK227.out 0; have hfz51_1 := blk_frozen BK227.out 1
            go_wp2
            go_ret
            exact ⟨rlT, hbT HB.out⟩
    ·rw [if_neg c4] at H
     exact absurd H (by simp)
   ·rw [if_neg c3] at H
    have c3b0 : decide (x3_1 < (l0_0.length : Int)) = false := decide_eq_false c3
    clear c3
    by_cases c52 : (l0_0.length : Int) ≤ 16
    ·rw [if_pos c52] at H
     have c52b0 : decide ((l0_0.length : Int) ≤ 16) = true := decide_eq_true c52
     have c52b1 : decide (l0_0.length ≤ 16) = true := decide_eq_true (by omega)
     clear c52; obtain ⟨t233, A53, H⟩ := be H; obtain ⟨t234, A54, H⟩ := be H
     by_cases c55 : t234 = true
     ·subst c55
      rw [if_pos rfl] at H; obtain ⟨t235, A56, H⟩ := be H; obtain ⟨t236, A57, H⟩ := be H
      obtain rfl := Option.some.inj H
      have hcz58_0 := bc0 BK225.out
      have hfz58_0 := blk_frozen BK225.out 0
      go_wp2_with (first | (go_at_call 95; (with_reducible refine (spec_l6In.calls k1 _ _ l0_0 t233 _ ?side1 ?side2 A53.out).mono ?_); (case side1 => exact crT HR0_0.out HB.out); (case side2 => exact HC0_0.out); rintro e w59 ⟨rfl, hb⟩; replace BK225 := bS BK225 hb; replace HB := hS HB hb; (try clear hb hb2 hk hi)) | (go_at_call 66; (with_reducible refine (spec_IsForm.calls k1 t233 true _ A54.out).mono ?_); rintro e w' ⟨rfl, ⟨nd, rfl⟩⟩; obtain ⟨hcz60_0, hfz60_0⟩ := bx1 BK225.out) | (go_at_call 89; (with_reducible refine (spec_l6Out.calls k1 _ _ l0_0 t235 _ ?side1 ?side2 A56.out).mono ?_); (case side1 => exact crT HR0_0.out (hbT HB.out)); (case side2 => exact HC0_0.out); rintro e w61 ⟨rfl, hb⟩; replace BK225 := bS BK225 hb; replace HB := hS HB hb; (try clear hb hb2 hk hi)) | (go_at_call 66; (with_reducible refine (spec_IsForm.calls k1 t235 t236 _ A57.out).mono ?_); rintro e w' ⟨rfl, ⟨nd, rfl⟩⟩))
      go_ret
      exact ⟨rlT, hbT HB.out⟩
     ·replace c55 := Bool.eq_false_iff.mpr c55
      subst c55; rw [if_neg nF] at H; have H1 := H; clear H; have H := H1; clear H1
      obtain rfl := Option.some.inj H
      have hcz62_0 := bc0 BK225.out
      have hfz62_0 := blk_frozen BK225.out 0
      go_wp2_with (first | (go_at_call 95; (with_reducible refine (spec_l6In.calls k1 _ _ l0_0 t233 _ ?side1 ?side2 A53.out).mono ?_); (case side1 => exact crT HR0_0.out HB.out); (case side2 => exact HC0_0.out); rintro e w63 ⟨rfl, hb⟩; replace BK225 := bS BK225 hb; replace HB := hS HB hb; (try clear hb hb2 hk hi)) | (go_at_call 66; (with_reducible refine (spec_IsForm.calls k1 t233 false _ A54.out).mono ?_); rintro e w' ⟨rfl, ⟨nd, rfl⟩⟩))
      go_ret
      exact ⟨rlT, hbT HB.out⟩
    ·rw [if_neg c52] at H
     have c52b0 : decide ((l0_0.length : Int) ≤ 16) = false := decide_eq_false c52
     have c52b1 : decide (l0_0.length ≤ 16) = false := decide_eq_false (by omega)
     clear c52
     obtain rfl := Option.some.inj H
     have hcz64_0 := bc0 BK225.out
     have hfz64_0 := blk_frozen BK225.out 0
     go_wp2
     go_ret
     exact ⟨rlT, hbT HB.out⟩
def spec_InputOf.f (k : Nat) (l0_0 : List (S103)) : Option (ByteArray) := (spec_IsCandidate.f k l0_0).bind fun t238 => (if t238 = true then ((spec_l6In.f k l0_0).bind fun t239 => (some t239)) else (some (⟨#[]⟩ : ByteArray)))
theorem spec_InputOf.mono : ∀ a0 k, LeO (spec_InputOf.f k a0) (spec_InputOf.f (k + 1) a0) := by
 intro a0 k
 unfold spec_InputOf.f
 with_reducible repeat' first | exact spec_IsCandidate.mono _ _ | exact spec_l6In.mono _ _ | exact LeO.refl _ | exact LeO.none _ | refine LeO.ite ?_ ?_ | refine LeO.bind ?_ (fun _ => ?_)
set_option maxHeartbeats 8000000 in
set_option maxRecDepth 100000 in
theorem spec_InputOf.calls (k : Nat) (A0_0 : Option Addr) (c0_0 : Nat) (l0_0 : List (S103)) (r : ByteArray) (w : World) (hr0_0 : Kd.C k103 w A0_0 l0_0.length l0_0) (hc0_0 : l0_0.length ≤ c0_0) (h : spec_InputOf.f k l0_0 = some r) :
  Calls Tryz.prog 68 #[.agg #[.slice A0_0 l0_0.length c0_0]] w fun e w' => e = .returned (.string r) ∧ Below w.heap.size w w' := by
 have hu77 := Tryz.underlying77; have HR0_0 := Aside0.mk hr0_0; have HC0_0 := Aside0.mk hc0_0; clear hr0_0 hc0_0; have HB := asT (Below.refl w.heap.size w); have H := h; unfold spec_InputOf.f at H; clear h; obtain ⟨t238, A2, H⟩ := be H
 by_cases c3 : t238 = true
 ·subst c3
  rw [if_pos rfl] at H; obtain ⟨t239, A4, H⟩ := be H
  obtain rfl := Option.some.inj H
  go_enter Tryz.func68, Tryz.ntmps68
  go_wp2_with (first | ((with_reducible refine gate_dst (N := 1) rfl ?_); refine boxT (N := 1) (cs := #[.slice A0_0 l0_0.length c0_0]) (t := 77) ?_; intro gb237 hg w5 hbox hb; have BK237 := asT hbox; have GW237 := asT (geT hg HB.out); have GE237 := GW237; replace HB := hS HB hb; clear hb hbox hg; obtain ⟨hcz6_0, hfz6_0⟩ := bx1 BK237.out) | ((with_reducible refine gate_callee (f := 69) rfl ?_); refine goesL_ (some 4) rfl rfl Tryz.func69 (by kernel_rfl) rfl #[.agg #[.slice A0_0 l0_0.length c0_0]] rfl eqT ?_; (with_reducible refine (spec_IsCandidate.calls k _ _ l0_0 true _ ?side1 ?side2 A2.out).mono ?_); (case side1 => exact crT HR0_0.out HB.out); (case side2 => exact HC0_0.out); rintro e w7 ⟨rfl, hb⟩; refine ⟨_, rfl, ?_⟩; replace BK237 := bS BK237 hb; replace HB := hS HB hb; (try clear hb hb2 hk hi); obtain ⟨hcz8_0, hfz8_0⟩ := bx1 BK237.out) | ((with_reducible refine gate_callee (f := 95) rfl ?_); refine goesL_ (some 7) rfl rfl Tryz.func95 (by kernel_rfl) rfl #[.agg #[.slice A0_0 l0_0.length c0_0]] rfl eqT ?_; (with_reducible refine (spec_l6In.calls k _ _ l0_0 t239 _ ?side1 ?side2 A4.out).mono ?_); (case side1 => exact crT HR0_0.out HB.out); (case side2 => exact HC0_0.out); rintro e w9 ⟨rfl, hb⟩; refine ⟨_, rfl, ?_⟩; replace BK237 := bS BK237 hb; replace HB := hS HB hb; (try clear hb hb2 hk hi)))
  go_ret
  exact ⟨rlT, hbT HB.out⟩
 ·replace c3 := Bool.eq_false_iff.mpr c3
  subst c3; rw [if_neg nF] at H; have H1 := H; clear H; have H := H1; clear H1
  obtain rfl := Option.some.inj H
  go_enter Tryz.func68, Tryz.ntmps68
  go_wp2_with (first | ((with_reducible refine gate_dst (N := 1) rfl ?_); refine boxT (N := 1) (cs := #[.slice A0_0 l0_0.length c0_0]) (t := 77) ?_; intro gb237 hg w10 hbox hb; have BK237 := asT hbox; have GW237 := asT (geT hg HB.out); have GE237 := GW237; replace HB := hS HB hb; clear hb hbox hg; obtain ⟨hcz11_0, hfz11_0⟩ := bx1 BK237.out) | ((with_reducible refine gate_callee (f := 69) rfl ?_); refine goesL_ (some 4) rfl rfl Tryz.func69 (by kernel_rfl) rfl #[.agg #[.slice A0_0 l0_0.length c0_0]] rfl eqT ?_; (with_reducible refine (spec_IsCandidate.calls k _ _ l0_0 false _ ?side1 ?side2 A2.out).mono ?_); (case side1 => exact crT HR0_0.out HB.out); (case side2 => exact HC0_0.out); rintro e w12 ⟨rfl, hb⟩; refine ⟨_, rfl, ?_⟩; replace BK237 := bS BK237 hb; replace HB := hS HB hb; (try clear hb hb2 hk hi)))
  go_ret
  exact ⟨rlT, hbT HB.out⟩
def spec_OutputOf.f (k : Nat) (l0_0 : List (S103)) : Option (ByteArray) := (spec_IsCandidate.f k l0_0).bind fun t241 => (if t241 = true then ((spec_l6Out.f k l0_0).bind fun t242 => (some t242)) else (some (⟨#[]⟩ : ByteArray)))
theorem spec_OutputOf.mono : ∀ a0 k, LeO (spec_OutputOf.f k a0) (spec_OutputOf.f (k + 1) a0) := by
 intro a0 k
 unfold spec_OutputOf.f
 with_reducible repeat' first | exact spec_IsCandidate.mono _ _ | exact spec_l6Out.mono _ _ | exact LeO.refl _ | exact LeO.none _ | refine LeO.ite ?_ ?_ | refine LeO.bind ?_ (fun _ => ?_)
set_option maxHeartbeats 8000000 in
set_option maxRecDepth 100000 in
theorem spec_OutputOf.calls (k : Nat) (A0_0 : Option Addr) (c0_0 : Nat) (l0_0 : List (S103)) (r : ByteArray) (w : World) (hr0_0 : Kd.C k103 w A0_0 l0_0.length l0_0) (hc0_0 : l0_0.length ≤ c0_0) (h : spec_OutputOf.f k l0_0 = some r) :
  Calls Tryz.prog 59 #[.agg #[.slice A0_0 l0_0.length c0_0]] w fun e w' => e = .returned (.string r) ∧ Below w.heap.size w w' := by
 have hu77 := Tryz.underlying77; have HR0_0 := Aside0.mk hr0_0; have HC0_0 := Aside0.mk hc0_0; clear hr0_0 hc0_0; have HB := asT (Below.refl w.heap.size w); have H := h; unfold spec_OutputOf.f at H; clear h; obtain ⟨t241, A2, H⟩ := be H
 by_cases c3 : t241 = true
 ·subst c3
  rw [if_pos rfl] at H; obtain ⟨t242, A4, H⟩ := be H
  obtain rfl := Option.some.inj H
  go_enter Tryz.func59, Tryz.ntmps59
  go_wp2_with (first | ((with_reducible refine gate_dst (N := 1) rfl ?_); refine boxT (N := 1) (cs := #[.slice A0_0 l0_0.length c0_0]) (t := 77) ?_; intro gb240 hg w5 hbox hb; have BK240 := asT hbox; have GW240 := asT (geT hg HB.out); have GE240 := GW240; replace HB := hS HB hb; clear hb hbox hg; obtain ⟨hcz6_0, hfz6_0⟩ := bx1 BK240.out) | ((with_reducible refine gate_callee (f := 69) rfl ?_); refine goesL_ (some 4) rfl rfl Tryz.func69 (by kernel_rfl) rfl #[.agg #[.slice A0_0 l0_0.length c0_0]] rfl eqT ?_; (with_reducible refine (spec_IsCandidate.calls k _ _ l0_0 true _ ?side1 ?side2 A2.out).mono ?_); (case side1 => exact crT HR0_0.out HB.out); (case side2 => exact HC0_0.out); rintro e w7 ⟨rfl, hb⟩; refine ⟨_, rfl, ?_⟩; replace BK240 := bS BK240 hb; replace HB := hS HB hb; (try clear hb hb2 hk hi); obtain ⟨hcz8_0, hfz8_0⟩ := bx1 BK240.out) | ((with_reducible refine gate_callee (f := 89) rfl ?_); refine goesL_ (some 7) rfl rfl Tryz.func89 (by kernel_rfl) rfl #[.agg #[.slice A0_0 l0_0.length c0_0]] rfl eqT ?_; (with_reducible refine (spec_l6Out.calls k _ _ l0_0 t242 _ ?side1 ?side2 A4.out).mono ?_); (case side1 => exact crT HR0_0.out HB.out); (case side2 => exact HC0_0.out); rintro e w9 ⟨rfl, hb⟩; refine ⟨_, rfl, ?_⟩; replace BK240 := bS BK240 hb; replace HB := hS HB hb; (try clear hb hb2 hk hi)))
  go_ret
  exact ⟨rlT, hbT HB.out⟩
 ·replace c3 := Bool.eq_false_iff.mpr c3
  subst c3; rw [if_neg nF] at H; have H1 := H; clear H; have H := H1; clear H1
  obtain rfl := Option.some.inj H
  go_enter Tryz.func59, Tryz.ntmps59
  go_wp2_with (first | ((with_reducible refine gate_dst (N := 1) rfl ?_); refine boxT (N := 1) (cs := #[.slice A0_0 l0_0.length c0_0]) (t := 77) ?_; intro gb240 hg w10 hbox hb; have BK240 := asT hbox; have GW240 := asT (geT hg HB.out); have GE240 := GW240; replace HB := hS HB hb; clear hb hbox hg; obtain ⟨hcz11_0, hfz11_0⟩ := bx1 BK240.out) | ((with_reducible refine gate_callee (f := 69) rfl ?_); refine goesL_ (some 4) rfl rfl Tryz.func69 (by kernel_rfl) rfl #[.agg #[.slice A0_0 l0_0.length c0_0]] rfl eqT ?_; (with_reducible refine (spec_IsCandidate.calls k _ _ l0_0 false _ ?side1 ?side2 A2.out).mono ?_); (case side1 => exact crT HR0_0.out HB.out); (case side2 => exact HC0_0.out); rintro e w12 ⟨rfl, hb⟩; refine ⟨_, rfl, ?_⟩; replace BK240 := bS BK240 hb; replace HB := hS HB hb; (try clear hb hb2 hk hi)))
  go_ret
  exact ⟨rlT, hbT HB.out⟩
def spec_HasFeature.f (a0 : Int) (a1 : Int) : Option (Bool) := if a1 = 0 then (if a0 = 97 then (some true) else (some (a0 == 105))) else (if a1 = 1 then (if a0 = 98 then (some true) else (if a0 = 100 then (some true) else (if a0 = 110 then (some true) else (if a0 = 97 then (some true) else (some (a0 == 105)))))) else (if a1 = 2 then (some (a0 == 110)) else (if a1 = 3 then (if a0 = 112 then (some true) else (some (a0 == 98))) else (if a1 = 4 then (some (a0 == 105)) else (some false)))))
set_option maxHeartbeats 8000000 in
set_option maxRecDepth 100000 in
theorem spec_HasFeature.calls (a0 : Int) (a1 : Int) (r : Bool) (w : World) (h : spec_HasFeature.f a0 a1 = some r) :
  Calls Tryz.prog 148 #[.int .u8 a0, .int .i64 a1] w fun e w' => e = .returned (.bool r) ∧ Drawn0 w w' := by
 have H := h; unfold spec_HasFeature.f at H; clear h
 by_cases c3 : a1 = 0
 ·rw [if_pos c3] at H
  have c3b0 : (a1 == 0) = true := beq_iff_eq.mpr c3
  have c3b1 : (a1 != 0) = false := bne_eq_false_iff_eq.mpr c3
  clear c3
  by_cases c4 : a0 = 97
  ·rw [if_pos c4] at H
   have c4b0 : (a0 == 97) = true := beq_iff_eq.mpr c4
   have c4b1 : (a0 != 97) = false := bne_eq_false_iff_eq.mpr c4
   clear c4
   obtain rfl := Option.some.inj H
   go_enter Tryz.func148, Tryz.ntmps148
   go_wp2
   go_ret
   exact ⟨rdT, drT⟩
  ·rw [if_neg c4] at H
   have c4b0 : (a0 == 97) = false := beq_eq_false_iff_ne.mpr c4
   have c4b1 : (a0 != 97) = true := bne_iff_ne.mpr c4
   obtain rfl := Option.some.inj H
   go_enter Tryz.func148, Tryz.ntmps148
   go_wp2
   go_ret
   exact ⟨rdT, drT⟩
 ·rw [if_neg c3] at H
  have c3b0 : (a1 == 0) = false := beq_eq_false_iff_ne.mpr c3
  have c3b1 : (a1 != 0) = true := bne_iff_ne.mpr c3
  by_cases c5 : a1 = 1
  ·rw [if_pos c5] at H
   have c5b0 : (a1 == 1) = true := beq_iff_eq.mpr c5
   have c5b1 : (a1 != 1) = false := bne_eq_false_iff_eq.mpr c5
   clear c5
   by_cases c6 : a0 = 98
   ·rw [if_pos c6] at H
    have c6b0 : (a0 == 98) = true := beq_iff_eq.mpr c6
    have c6b1 : (a0 != 98) = false := bne_eq_false_iff_eq.mpr c6
    clear c6
    obtain rfl := Option.some.inj H
    go_enter Tryz.func148, Tryz.ntmps148
    go_wp2
    go_ret
    exact ⟨rdT, drT⟩
   ·rw [if_neg c6] at H
    have c6b0 : (a0 == 98) = false := beq_eq_false_iff_ne.mpr c6
    have c6b1 : (a0 != 98) = true := bne_iff_ne.mpr c6
    by_cases c7 : a0 = 100
    ·rw [if_pos c7] at H
     have c7b0 : (a0 == 100) = true := beq_iff_eq.mpr c7
     have c7b1 : (a0 != 100) = false := bne_eq_false_iff_eq.mpr c7
     clear c7
     obtain rfl := Option.some.inj H
     go_enter Tryz.func148, Tryz.ntmps148
     go_wp2
     go_ret
     exact ⟨rdT, drT⟩
    ·rw [if_neg c7] at H
     have c7b0 : (a0 == 100) = false := beq_eq_false_iff_ne.mpr c7
     have c7b1 : (a0 != 100) = true := bne_iff_ne.mpr c7
     by_cases c8 : a0 = 110
     ·rw [if_pos c8] at H
      have c8b0 : (a0 == 110) = true := beq_iff_eq.mpr c8
      have c8b1 : (a0 != 110) = false := bne_eq_false_iff_eq.mpr c8
      clear c8
      obtain rfl := Option.some.inj H
      go_enter Tryz.func148, Tryz.ntmps148
      go_wp2
      go_ret
      exact ⟨rdT, drT⟩
     ·rw [if_neg c8] at H
      have c8b0 : (a0 == 110) = false := beq_eq_false_iff_ne.mpr c8
      have c8b1 : (a0 != 110) = true := bne_iff_ne.mpr c8
      by_cases c9 : a0 = 97
      ·rw [if_pos c9] at H
       have c9b0 : (a0 == 97) = true := beq_iff_eq.mpr c9
       have c9b1 : (a0 != 97) = false := bne_eq_false_iff_eq.mpr c9
       clear c9
       obtain rfl := Option.some.inj H
       go_enter Tryz.func148, Tryz.ntmps148
       go_wp2
       go_ret
       exact ⟨rdT, drT⟩
      ·rw [if_neg c9] at H
       have c9b0 : (a0 == 97) = false := beq_eq_false_iff_ne.mpr c9
       have c9b1 : (a0 != 97) = true := bne_iff_ne.mpr c9
       obtain rfl := Option.some.inj H
       go_enter Tryz.func148, Tryz.ntmps148
       go_wp2
       go_ret
       exact ⟨rdT, drT⟩
  ·rw [if_neg c5] at H
   have c5b0 : (a1 == 1) = false := beq_eq_false_iff_ne.mpr c5
   have c5b1 : (a1 != 1) = true := bne_iff_ne.mpr c5
   by_cases c10 : a1 = 2
   ·rw [if_pos c10] at H
    have c10b0 : (a1 == 2) = true := beq_iff_eq.mpr c10
    have c10b1 : (a1 != 2) = false := bne_eq_false_iff_eq.mpr c10
    clear c10
    obtain rfl := Option.some.inj H
    go_enter Tryz.func148, Tryz.ntmps148
    go_wp2
    go_ret
    exact ⟨rdT, drT⟩
   ·rw [if_neg c10] at H
    have c10b0 : (a1 == 2) = false := beq_eq_false_iff_ne.mpr c10
    have c10b1 : (a1 != 2) = true := bne_iff_ne.mpr c10
    by_cases c11 : a1 = 3
    ·rw [if_pos c11] at H
     have c11b0 : (a1 == 3) = true := beq_iff_eq.mpr c11
     have c11b1 : (a1 != 3) = false := bne_eq_false_iff_eq.mpr c11
     clear c11
     by_cases c12 : a0 = 112
     ·rw [if_pos c12] at H
      have c12b0 : (a0 == 112) = true := beq_iff_eq.mpr c12
      have c12b1 : (a0 != 112) = false := bne_eq_false_iff_eq.mpr c12
      clear c12
      obtain rfl := Option.some.inj H
      go_enter Tryz.func148, Tryz.ntmps148
      go_wp2
      go_ret
      exact ⟨rdT, drT⟩
     ·rw [if_neg c12] at H
      have c12b0 : (a0 == 112) = false := beq_eq_false_iff_ne.mpr c12
      have c12b1 : (a0 != 112) = true := bne_iff_ne.mpr c12
      obtain rfl := Option.some.inj H
      go_enter Tryz.func148, Tryz.ntmps148
      go_wp2
      go_ret
      exact ⟨rdT, drT⟩
    ·rw [if_neg c11] at H
     have c11b0 : (a1 == 3) = false := beq_eq_false_iff_ne.mpr c11
     have c11b1 : (a1 != 3) = true := bne_iff_ne.mpr c11
     by_cases c13 : a1 = 4
     ·rw [if_pos c13] at H
      have c13b0 : (a1 == 4) = true := beq_iff_eq.mpr c13
      have c13b1 : (a1 != 4) = false := bne_eq_false_iff_eq.mpr c13
      clear c13
      obtain rfl := Option.some.inj H
      go_enter Tryz.func148, Tryz.ntmps148
      go_wp2
      go_ret
      exact ⟨rdT, drT⟩
     ·rw [if_neg c13] at H
      have c13b0 : (a1 == 4) = false := beq_eq_false_iff_ne.mpr c13
      have c13b1 : (a1 != 4) = true := bne_iff_ne.mpr c13
      obtain rfl := Option.some.inj H
      go_enter Tryz.func148, Tryz.ntmps148
      go_wp2
      go_ret
      exact ⟨rdT, drT⟩
def spec_IsVowelAt.f (a0 : ByteArray) (a1 : Int) : Option (Bool) := if a1 ≥ 0 then (if a1 < (a0.size : Int) then (if 0 ≤ a1 then ((spec_HasFeature.f (bt a0 a1) 0).bind fun t243 => (some t243)) else (none)) else (some false)) else (some false)
set_option maxHeartbeats 8000000 in
set_option maxRecDepth 100000 in
theorem spec_IsVowelAt.calls (a0 : ByteArray) (a1 : Int) (r : Bool) (w : World) (h : spec_IsVowelAt.f a0 a1 = some r) :
  Calls Tryz.prog 146 #[.string a0, .int .i64 a1] w fun e w' => e = .returned (.bool r) ∧ Drawn0 w w' := by
 have H := h; unfold spec_IsVowelAt.f at H; clear h
 by_cases c3 : a1 ≥ 0
 ·rw [if_pos c3] at H
  have c3b0 : decide (0 ≤ a1) = true := decide_eq_true c3
  clear c3
  by_cases c4 : a1 < (a0.size : Int)
  ·rw [if_pos c4] at H
   have c4b0 : decide (a1 < (a0.size : Int)) = true := decide_eq_true c4
   clear c4
   by_cases c5 : 0 ≤ a1
   ·rw [if_pos c5] at H
    have c5b0 : decide (0 ≤ a1) = true := decide_eq_true c5
    clear c5; obtain ⟨t243, A7, H⟩ := be H
    obtain rfl := Option.some.inj H
    have p6 : 0 ≤ (a1 : Int) := of_decide_eq_true asmT
    have q6 : a1 < (a0.size : Int) := of_decide_eq_true asmT
    have hx6 := bt_at a0 a1; replace p6 := eq_true p6; replace q6 := eq_true q6
    go_enter Tryz.func146, Tryz.ntmps146
    go_wp2_with (first | (go_at_call 148; (with_reducible refine (spec_HasFeature.calls (bt a0 a1) 0 t243 _ A7.out).mono ?_); rintro e w' ⟨rfl, ⟨nd, rfl⟩⟩))
    go_ret
    exact ⟨rdT, drT⟩
   ·rw [if_neg c5] at H
    exact absurd H (by simp)
  ·rw [if_neg c4] at H
   have c4b0 : decide (a1 < (a0.size : Int)) = false := decide_eq_false c4
   clear c4
   obtain rfl := Option.some.inj H
   go_enter Tryz.func146, Tryz.ntmps146
   go_wp2
   go_ret
   exact ⟨rdT, drT⟩
 ·rw [if_neg c3] at H
  have c3b0 : decide (0 ≤ a1) = false := decide_eq_false c3
  clear c3
  obtain rfl := Option.some.inj H
  go_enter Tryz.func146, Tryz.ntmps146
  go_wp2
  go_ret
  exact ⟨rdT, drT⟩
mutual
def spec_CountOnsetless.l0 : Nat → ByteArray → Int → Int → Option (Int)
 | 0, _, _, _ => none
 | k + 1, x0, x3, x4 => if x4 < (x0.size : Int) then ((spec_IsForm.f k x0).bind fun t244 => (spec_CountOnsetless.j1 k x0 x3 x4 t244)) else (spec_CountOnsetless.j1 k x0 x3 x4 false)
def spec_CountOnsetless.j1 : Nat → ByteArray → Int → Int → Bool → Option (Int)
 | 0, _, _, _, _ => none
 | k + 1, x0, x3, x4, x12 => if x12 = true then ((spec_IsVowelAt.f x0 x4).bind fun t245 => (if t245 = true then (if x4 = 0 then (spec_CountOnsetless.l0 k x0 (wrap64 (x3 + 1)) (wrap64 (x4 + 1))) else ((spec_IsVowelAt.f x0 (wrap64 (x4 - 1))).bind fun t246 => (if t246 = true then (spec_CountOnsetless.l0 k x0 (wrap64 (x3 + 1)) (wrap64 (x4 + 1))) else (spec_CountOnsetless.l0 k x0 x3 (wrap64 (x4 + 1)))))) else (spec_CountOnsetless.l0 k x0 x3 (wrap64 (x4 + 1))))) else (some x3)
end
def spec_CountOnsetless.f (k : Nat) (a0 : ByteArray) : Option (Int) := spec_CountOnsetless.l0 k a0 0 0
theorem spec_CountOnsetless.mono_l : ∀ k, (∀ y0 y1 y2, LeO (spec_CountOnsetless.l0 k y0 y1 y2) (spec_CountOnsetless.l0 (k + 1) y0 y1 y2)) ∧ (∀ y0 y1 y2 y3, LeO (spec_CountOnsetless.j1 k y0 y1 y2 y3) (spec_CountOnsetless.j1 (k + 1) y0 y1 y2 y3))
 | 0 => ⟨fun _ _ _ r h => by simp [spec_CountOnsetless.l0] at h, fun _ _ _ _ r h => by simp [spec_CountOnsetless.j1] at h⟩
 | k + 1 => by
  obtain ⟨ih0, ih1⟩ := spec_CountOnsetless.mono_l k; refine ⟨?_, ?_⟩
  ·intro y0 y1 y2
   unfold spec_CountOnsetless.l0
   with_reducible repeat' first | exact ih0 _ _ _ | exact ih1 _ _ _ _ | exact spec_IsForm.mono _ _ | exact LeO.refl _ | exact LeO.none _ | refine LeO.ite ?_ ?_ | refine LeO.bind ?_ (fun _ => ?_)
  ·intro y0 y1 y2 y3
   unfold spec_CountOnsetless.j1
   with_reducible repeat' first | exact ih0 _ _ _ | exact ih1 _ _ _ _ | exact spec_IsForm.mono _ _ | exact LeO.refl _ | exact LeO.none _ | refine LeO.ite ?_ ?_ | refine LeO.bind ?_ (fun _ => ?_)
theorem spec_CountOnsetless.mono : ∀ a0 k, LeO (spec_CountOnsetless.f k a0) (spec_CountOnsetless.f (k + 1) a0) := by
 intro a0 k
 obtain ⟨ih0, ih1⟩ := spec_CountOnsetless.mono_l k
 unfold spec_CountOnsetless.f
 with_reducible repeat' first | exact ih0 _ _ _ | exact ih1 _ _ _ _ | exact spec_IsForm.mono _ _ | exact LeO.refl _ | exact LeO.none _ | refine LeO.ite ?_ ?_ | refine LeO.bind ?_ (fun _ => ?_)
set_option maxHeartbeats 8000000 in
set_option maxRecDepth 100000 in
theorem spec_CountOnsetless.calls (k : Nat) (a0 : ByteArray) (r : Int) (w : World) (h : spec_CountOnsetless.f k a0 = some r) :
  Calls Tryz.prog 115 #[.string a0] w fun e w' => e = .returned (.int .i64 r) ∧ Drawn0 w w' := by
 have H := h; unfold spec_CountOnsetless.f at H; clear h; have H' := Aside0.mk H; clear H
 go_enter Tryz.func115, Tryz.ntmps115
 go_wp2
 go_loopg [3, 4] k (fun kq v3 v4 w' => ∃ (x3_1 : Int) (x4_1 : Int), v3 = .int .i64 x3_1 ∧ v4 = .int .i64 x4_1 ∧ Aside0 (spec_CountOnsetless.l0 kq a0 x3_1 x4_1 = some r) ∧ Aside0 (kq ≤ k) ∧ Drawn0 w w')
 case atStart => exact ⟨(0), (0), rdT, rdT, H', ⟨Nat.le_refl _⟩, drT⟩
 case round =>
  clear H'; (try clear c1); obtain ⟨x3_1, x4_1, rfl, rfl, HA, HK1, ⟨m1, rfl⟩⟩ := hrel
  cases gk with
  | zero => exact absurd HA.out (by simp [spec_CountOnsetless.l0])
  | succ k1 =>
   have H := HA.out; clear HA
   simp only [spec_CountOnsetless.l0] at H
   have HC2 := Aside0.mk H; clear H
   go_upto_region 3 with (fail)
   go_cut [12] (fun v12 wc => ∃ (kq : Nat) (x12_1 : Bool), v12 = .bool x12_1 ∧ Aside0 (spec_CountOnsetless.j1 kq a0 x3_1 x4_1 x12_1 = some r) ∧ Aside0 (kq ≤ k1) ∧ Drawn0 w wc)
   case first =>
    have H := HC2.out; clear HC2
    by_cases c3 : x4_1 < (a0.size : Int)
    ·rw [if_pos c3] at H
     have c3b0 : decide (x4_1 < (a0.size : Int)) = true := decide_eq_true c3
     clear c3
     (first | rw [c3b0] | (simp only [i64_w, i32_w]; rw [c3b0]) | skip)
     obtain ⟨t244, A4, H⟩ := be H; have H' := Aside0.mk H; clear H
     go_wp2_with (first | (go_at_call 66; (with_reducible refine (spec_IsForm.calls k1 a0 t244 _ A4.out).mono ?_); rintro e w' ⟨rfl, ⟨nd, rfl⟩⟩))
     go_meet
     case rel => exact ⟨_, (t244), rdT, H', ⟨by have := HK1.out; first | omega | exact Nat.le_refl _⟩, drT⟩
    ·rw [if_neg c3] at H
     have c3b0 : decide (x4_1 < (a0.size : Int)) = false := decide_eq_false c3
     clear c3
     (first | rw [c3b0] | (simp only [i64_w, i32_w]; rw [c3b0]) | skip)
     have H' := Aside0.mk H; clear H
     go_wp2
     go_meet
     case rel => exact ⟨_, (false), rdT, H', ⟨by have := HK1.out; first | omega | exact Nat.le_refl _⟩, drT⟩
   case rest =>
    clear HC2; (try clear c1 p2 c3 c3b0); obtain ⟨kq, x12_1, rfl, HA, HJ1, ⟨mc1, rfl⟩⟩ := hcut
    cases kq with
    | zero => exact absurd HA.out (by simp [spec_CountOnsetless.j1])
    | succ kj1 =>
     have H := HA.out; clear HA
     simp only [spec_CountOnsetless.j1] at H
     by_cases c5 : x12_1 = true
     ·subst c5
      rw [if_pos rfl] at H; obtain ⟨t245, A6, H⟩ := be H
      by_cases c7 : t245 = true
      ·subst c7
       rw [if_pos rfl] at H; have H1 := H; clear H; have H := H1; clear H1
       by_cases c8 : x4_1 = 0
       ·rw [if_pos c8] at H
        have c8b0 : (x4_1 == 0) = true := beq_iff_eq.mpr c8
        have c8b1 : (x4_1 != 0) = false := bne_eq_false_iff_eq.mpr c8
        clear c8; have H' := Aside0.mk H; clear H
        go_wp2_with (first | ((with_reducible refine gate_callee (f := 146) rfl ?_); refine goesL_ (some 17) rfl rfl Tryz.func146 (by kernel_rfl) rfl #[.string a0, .int .i64 x4_1] rfl eqT ?_; (with_reducible refine (spec_IsVowelAt.calls a0 x4_1 true _ A6.out).mono ?_); rintro e w' ⟨rfl, ⟨nd, rfl⟩⟩; refine ⟨_, rfl, ?_⟩))
        go_roundg kj1
        case measure => have := HK1.out; have := HJ1.out; omega
        case rel => exact ⟨(wrap64 (x3_1 + 1)), (wrap64 (x4_1 + 1)), rdT, rdT, H', ⟨by have := HK1.out; have := HJ1.out; omega⟩, drT⟩
       ·rw [if_neg c8] at H
        have c8b0 : (x4_1 == 0) = false := beq_eq_false_iff_ne.mpr c8
        have c8b1 : (x4_1 != 0) = true := bne_iff_ne.mpr c8
        obtain ⟨t246, A9, H⟩ := be H
        by_cases c10 : t246 = true
        ·subst c10
         rw [if_pos rfl] at H; have H' := Aside0.mk H; clear H
         go_wp2_with (first | ((with_reducible refine gate_callee (f := 146) rfl ?_); refine goesL_ (some 17) rfl rfl Tryz.func146 (by kernel_rfl) rfl #[.string a0, .int .i64 x4_1] rfl eqT ?_; (with_reducible refine (spec_IsVowelAt.calls a0 x4_1 true _ A6.out).mono ?_); rintro e w' ⟨rfl, ⟨nd, rfl⟩⟩; refine ⟨_, rfl, ?_⟩) | (go_at_call 146; (with_reducible refine (spec_IsVowelAt.calls a0 (wrap64 (x4_1 - 1)) true _ A9.out).mono ?_); rintro e w' ⟨rfl, ⟨nd, rfl⟩⟩))
         go_roundg kj1
         case measure => have := HK1.out; have := HJ1.out; omega
         case rel => exact ⟨(wrap64 (x3_1 + 1)), (wrap64 (x4_1 + 1)), rdT, rdT, H', ⟨by have := HK1.out; have := HJ1.out; omega⟩, drT⟩
        ·replace c10 := Bool.eq_false_iff.mpr c10
         subst c10; rw [if_neg nF] at H; have H' := Aside0.mk H; clear H
         go_wp2_with (first | ((with_reducible refine gate_callee (f := 146) rfl ?_); refine goesL_ (some 17) rfl rfl Tryz.func146 (by kernel_rfl) rfl #[.string a0, .int .i64 x4_1] rfl eqT ?_; (with_reducible refine (spec_IsVowelAt.calls a0 x4_1 true _ A6.out).mono ?_); rintro e w' ⟨rfl, ⟨nd, rfl⟩⟩; refine ⟨_, rfl, ?_⟩) | (go_at_call 146; (with_reducible refine (spec_IsVowelAt.calls a0 (wrap64 (x4_1 - 1)) false _ A9.out).mono ?_); rintro e w' ⟨rfl, ⟨nd, rfl⟩⟩))
         go_roundg kj1
         case measure => have := HK1.out; have := HJ1.out; omega
         case rel => exact ⟨(x3_1), (wrap64 (x4_1 + 1)), rdT, rdT, H', ⟨by have := HK1.out; have := HJ1.out; omega⟩, drT⟩
      ·replace c7 := Bool.eq_false_iff.mpr c7
       subst c7; rw [if_neg nF] at H; have H' := Aside0.mk H; clear H
       go_wp2_with (first | ((with_reducible refine gate_callee (f := 146) rfl ?_); refine goesL_ (some 17) rfl rfl Tryz.func146 (by kernel_rfl) rfl #[.string a0, .int .i64 x4_1] rfl eqT ?_; (with_reducible refine (spec_IsVowelAt.calls a0 x4_1 false _ A6.out).mono ?_); rintro e w' ⟨rfl, ⟨nd, rfl⟩⟩; refine ⟨_, rfl, ?_⟩))
       go_roundg kj1
       case measure => have := HK1.out; have := HJ1.out; omega
       case rel => exact ⟨(x3_1), (wrap64 (x4_1 + 1)), rdT, rdT, H', ⟨by have := HK1.out; have := HJ1.out; omega⟩, drT⟩
     ·replace c5 := Bool.eq_false_iff.mpr c5
      subst c5; rw [if_neg nF] at H; have H1 := H; clear H; have H := H1; clear H1
      obtain rfl := Option.some.inj H
      go_wp2
      go_ret
      exact ⟨rdT, drT⟩
mutual
def spec_CountCodas.l0 : Nat → ByteArray → Int → Int → Option (Int)
 | 0, _, _, _ => none
 | k + 1, x0, x3, x4 => if x4 < (x0.size : Int) then ((spec_IsForm.f k x0).bind fun t247 => (spec_CountCodas.j1 k x0 x3 x4 t247)) else (spec_CountCodas.j1 k x0 x3 x4 false)
def spec_CountCodas.j1 : Nat → ByteArray → Int → Int → Bool → Option (Int)
 | 0, _, _, _, _ => none
 | k + 1, x0, x3, x4, x12 => if x12 = true then ((spec_IsVowelAt.f x0 x4).bind fun t248 => (if t248 = true then (spec_CountCodas.l0 k x0 x3 (wrap64 (x4 + 1))) else ((spec_IsVowelAt.f x0 (wrap64 (x4 + 1))).bind fun t249 => (if t249 = true then (spec_CountCodas.l0 k x0 x3 (wrap64 (x4 + 1))) else (spec_CountCodas.l0 k x0 (wrap64 (x3 + 1)) (wrap64 (x4 + 1))))))) else (some x3)
end
def spec_CountCodas.f (k : Nat) (a0 : ByteArray) : Option (Int) := spec_CountCodas.l0 k a0 0 0
theorem spec_CountCodas.mono_l : ∀ k, (∀ y0 y1 y2, LeO (spec_CountCodas.l0 k y0 y1 y2) (spec_CountCodas.l0 (k + 1) y0 y1 y2)) ∧ (∀ y0 y1 y2 y3, LeO (spec_CountCodas.j1 k y0 y1 y2 y3) (spec_CountCodas.j1 (k + 1) y0 y1 y2 y3))
 | 0 => ⟨fun _ _ _ r h => by simp [spec_CountCodas.l0] at h, fun _ _ _ _ r h => by simp [spec_CountCodas.j1] at h⟩
 | k + 1 => by
  obtain ⟨ih0, ih1⟩ := spec_CountCodas.mono_l k; refine ⟨?_, ?_⟩
  ·intro y0 y1 y2
   unfold spec_CountCodas.l0
   with_reducible repeat' first | exact ih0 _ _ _ | exact ih1 _ _ _ _ | exact spec_IsForm.mono _ _ | exact LeO.refl _ | exact LeO.none _ | refine LeO.ite ?_ ?_ | refine LeO.bind ?_ (fun _ => ?_)
  ·intro y0 y1 y2 y3
   unfold spec_CountCodas.j1
   with_reducible repeat' first | exact ih0 _ _ _ | exact ih1 _ _ _ _ | exact spec_IsForm.mono _ _ | exact LeO.refl _ | exact LeO.none _ | refine LeO.ite ?_ ?_ | refine LeO.bind ?_ (fun _ => ?_)
theorem spec_CountCodas.mono : ∀ a0 k, LeO (spec_CountCodas.f k a0) (spec_CountCodas.f (k + 1) a0) := by
 intro a0 k
 obtain ⟨ih0, ih1⟩ := spec_CountCodas.mono_l k
 unfold spec_CountCodas.f
 with_reducible repeat' first | exact ih0 _ _ _ | exact ih1 _ _ _ _ | exact spec_IsForm.mono _ _ | exact LeO.refl _ | exact LeO.none _ | refine LeO.ite ?_ ?_ | refine LeO.bind ?_ (fun _ => ?_)
set_option maxHeartbeats 8000000 in
set_option maxRecDepth 100000 in
theorem spec_CountCodas.calls (k : Nat) (a0 : ByteArray) (r : Int) (w : World) (h : spec_CountCodas.f k a0 = some r) :
  Calls Tryz.prog 116 #[.string a0] w fun e w' => e = .returned (.int .i64 r) ∧ Drawn0 w w' := by
 have H := h; unfold spec_CountCodas.f at H; clear h; have H' := Aside0.mk H; clear H
 go_enter Tryz.func116, Tryz.ntmps116
 go_wp2
 go_loopg [3, 4] k (fun kq v3 v4 w' => ∃ (x3_1 : Int) (x4_1 : Int), v3 = .int .i64 x3_1 ∧ v4 = .int .i64 x4_1 ∧ Aside0 (spec_CountCodas.l0 kq a0 x3_1 x4_1 = some r) ∧ Aside0 (kq ≤ k) ∧ Drawn0 w w')
 case atStart => exact ⟨(0), (0), rdT, rdT, H', ⟨Nat.le_refl _⟩, drT⟩
 case round =>
  clear H'; (try clear c1); obtain ⟨x3_1, x4_1, rfl, rfl, HA, HK1, ⟨m1, rfl⟩⟩ := hrel
  cases gk with
  | zero => exact absurd HA.out (by simp [spec_CountCodas.l0])
  | succ k1 =>
   have H := HA.out; clear HA
   simp only [spec_CountCodas.l0] at H
   have HC2 := Aside0.mk H; clear H
   go_upto_region 3 with (fail)
   go_cut [12] (fun v12 wc => ∃ (kq : Nat) (x12_1 : Bool), v12 = .bool x12_1 ∧ Aside0 (spec_CountCodas.j1 kq a0 x3_1 x4_1 x12_1 = some r) ∧ Aside0 (kq ≤ k1) ∧ Drawn0 w wc)
   case first =>
    have H := HC2.out; clear HC2
    by_cases c3 : x4_1 < (a0.size : Int)
    ·rw [if_pos c3] at H
     have c3b0 : decide (x4_1 < (a0.size : Int)) = true := decide_eq_true c3
     clear c3
     (first | rw [c3b0] | (simp only [i64_w, i32_w]; rw [c3b0]) | skip)
     obtain ⟨t247, A4, H⟩ := be H; have H' := Aside0.mk H; clear H
     go_wp2_with (first | (go_at_call 66; (with_reducible refine (spec_IsForm.calls k1 a0 t247 _ A4.out).mono ?_); rintro e w' ⟨rfl, ⟨nd, rfl⟩⟩))
     go_meet
     case rel => exact ⟨_, (t247), rdT, H', ⟨by have := HK1.out; first | omega | exact Nat.le_refl _⟩, drT⟩
    ·rw [if_neg c3] at H
     have c3b0 : decide (x4_1 < (a0.size : Int)) = false := decide_eq_false c3
     clear c3
     (first | rw [c3b0] | (simp only [i64_w, i32_w]; rw [c3b0]) | skip)
     have H' := Aside0.mk H; clear H
     go_wp2
     go_meet
     case rel => exact ⟨_, (false), rdT, H', ⟨by have := HK1.out; first | omega | exact Nat.le_refl _⟩, drT⟩
   case rest =>
    clear HC2; (try clear c1 p2 c3 c3b0); obtain ⟨kq, x12_1, rfl, HA, HJ1, ⟨mc1, rfl⟩⟩ := hcut
    cases kq with
    | zero => exact absurd HA.out (by simp [spec_CountCodas.j1])
    | succ kj1 =>
     have H := HA.out; clear HA
     simp only [spec_CountCodas.j1] at H
     by_cases c5 : x12_1 = true
     ·subst c5
      rw [if_pos rfl] at H; obtain ⟨t248, A6, H⟩ := be H
      by_cases c7 : t248 = true
      ·subst c7
       rw [if_pos rfl] at H; have H' := Aside0.mk H; clear H
       go_wp2_with (first | ((with_reducible refine gate_callee (f := 146) rfl ?_); refine goesL_ (some 17) rfl rfl Tryz.func146 (by kernel_rfl) rfl #[.string a0, .int .i64 x4_1] rfl eqT ?_; (with_reducible refine (spec_IsVowelAt.calls a0 x4_1 true _ A6.out).mono ?_); rintro e w' ⟨rfl, ⟨nd, rfl⟩⟩; refine ⟨_, rfl, ?_⟩))
       go_roundg kj1
       case measure => have := HK1.out; have := HJ1.out; omega
       case rel => exact ⟨(x3_1), (wrap64 (x4_1 + 1)), rdT, rdT, H', ⟨by have := HK1.out; have := HJ1.out; omega⟩, drT⟩
      ·replace c7 := Bool.eq_false_iff.mpr c7
       subst c7; rw [if_neg nF] at H; obtain ⟨t249, A8, H⟩ := be H
       by_cases c9 : t249 = true
       ·subst c9
        rw [if_pos rfl] at H; have H' := Aside0.mk H; clear H
        go_wp2_with (first | ((with_reducible refine gate_callee (f := 146) rfl ?_); refine goesL_ (some 17) rfl rfl Tryz.func146 (by kernel_rfl) rfl #[.string a0, .int .i64 x4_1] rfl eqT ?_; (with_reducible refine (spec_IsVowelAt.calls a0 x4_1 false _ A6.out).mono ?_); rintro e w' ⟨rfl, ⟨nd, rfl⟩⟩; refine ⟨_, rfl, ?_⟩) | (go_at_call 146; (with_reducible refine (spec_IsVowelAt.calls a0 (wrap64 (x4_1 + 1)) true _ A8.out).mono ?_); rintro e w' ⟨rfl, ⟨nd, rfl⟩⟩))
        go_roundg kj1
        case measure => have := HK1.out; have := HJ1.out; omega
        case rel => exact ⟨(x3_1), (wrap64 (x4_1 + 1)), rdT, rdT, H', ⟨by have := HK1.out; have := HJ1.out; omega⟩, drT⟩
       ·replace c9 := Bool.eq_false_iff.mpr c9
        subst c9; rw [if_neg nF] at H; have H' := Aside0.mk H; clear H
        go_wp2_with (first | ((with_reducible refine gate_callee (f := 146) rfl ?_); refine goesL_ (some 17) rfl rfl Tryz.func146 (by kernel_rfl) rfl #[.string a0, .int .i64 x4_1] rfl eqT ?_; (with_reducible refine (spec_IsVowelAt.calls a0 x4_1 false _ A6.out).mono ?_); rintro e w' ⟨rfl, ⟨nd, rfl⟩⟩; refine ⟨_, rfl, ?_⟩) | (go_at_call 146; (with_reducible refine (spec_IsVowelAt.calls a0 (wrap64 (x4_1 + 1)) false _ A8.out).mono ?_); rintro e w' ⟨rfl, ⟨nd, rfl⟩⟩))
        go_roundg kj1
        case measure => have := HK1.out; have := HJ1.out; omega
        case rel => exact ⟨(wrap64 (x3_1 + 1)), (wrap64 (x4_1 + 1)), rdT, rdT, H', ⟨by have := HK1.out; have := HJ1.out; omega⟩, drT⟩
     ·replace c5 := Bool.eq_false_iff.mpr c5
      subst c5; rw [if_neg nF] at H; have H1 := H; clear H; have H := H1; clear H1
      obtain rfl := Option.some.inj H
      go_wp2
      go_ret
      exact ⟨rdT, drT⟩
mutual
def spec_CountClusters.l0 : Nat → ByteArray → Int → Int → Option (Int)
 | 0, _, _, _ => none
 | k + 1, x0, x3, x4 => if x4 < (x0.size : Int) then ((spec_IsForm.f k x0).bind fun t250 => (spec_CountClusters.j1 k x0 x3 x4 t250)) else (spec_CountClusters.j1 k x0 x3 x4 false)
def spec_CountClusters.j1 : Nat → ByteArray → Int → Int → Bool → Option (Int)
 | 0, _, _, _, _ => none
 | k + 1, x0, x3, x4, x12 => if x12 = true then ((spec_IsVowelAt.f x0 (wrap64 (x4 - 1))).bind fun t251 => (if t251 = true then (spec_CountClusters.l0 k x0 x3 (wrap64 (x4 + 1))) else ((spec_IsVowelAt.f x0 x4).bind fun t252 => (if t252 = true then (spec_CountClusters.l0 k x0 x3 (wrap64 (x4 + 1))) else (spec_CountClusters.l0 k x0 (wrap64 (x3 + 1)) (wrap64 (x4 + 1))))))) else (some x3)
end
def spec_CountClusters.f (k : Nat) (a0 : ByteArray) : Option (Int) := spec_CountClusters.l0 k a0 0 1
theorem spec_CountClusters.mono_l : ∀ k, (∀ y0 y1 y2, LeO (spec_CountClusters.l0 k y0 y1 y2) (spec_CountClusters.l0 (k + 1) y0 y1 y2)) ∧ (∀ y0 y1 y2 y3, LeO (spec_CountClusters.j1 k y0 y1 y2 y3) (spec_CountClusters.j1 (k + 1) y0 y1 y2 y3))
 | 0 => ⟨fun _ _ _ r h => by simp [spec_CountClusters.l0] at h, fun _ _ _ _ r h => by simp [spec_CountClusters.j1] at h⟩
 | k + 1 => by
  obtain ⟨ih0, ih1⟩ := spec_CountClusters.mono_l k; refine ⟨?_, ?_⟩
  ·intro y0 y1 y2
   unfold spec_CountClusters.l0
   with_reducible repeat' first | exact ih0 _ _ _ | exact ih1 _ _ _ _ | exact spec_IsForm.mono _ _ | exact LeO.refl _ | exact LeO.none _ | refine LeO.ite ?_ ?_ | refine LeO.bind ?_ (fun _ => ?_)
  ·intro y0 y1 y2 y3
   unfold spec_CountClusters.j1
   with_reducible repeat' first | exact ih0 _ _ _ | exact ih1 _ _ _ _ | exact spec_IsForm.mono _ _ | exact LeO.refl _ | exact LeO.none _ | refine LeO.ite ?_ ?_ | refine LeO.bind ?_ (fun _ => ?_)
theorem spec_CountClusters.mono : ∀ a0 k, LeO (spec_CountClusters.f k a0) (spec_CountClusters.f (k + 1) a0) := by
 intro a0 k
 obtain ⟨ih0, ih1⟩ := spec_CountClusters.mono_l k
 unfold spec_CountClusters.f
 with_reducible repeat' first | exact ih0 _ _ _ | exact ih1 _ _ _ _ | exact spec_IsForm.mono _ _ | exact LeO.refl _ | exact LeO.none _ | refine LeO.ite ?_ ?_ | refine LeO.bind ?_ (fun _ => ?_)
set_option maxHeartbeats 8000000 in
set_option maxRecDepth 100000 in
theorem spec_CountClusters.calls (k : Nat) (a0 : ByteArray) (r : Int) (w : World) (h : spec_CountClusters.f k a0 = some r) :
  Calls Tryz.prog 117 #[.string a0] w fun e w' => e = .returned (.int .i64 r) ∧ Drawn0 w w' := by
 have H := h; unfold spec_CountClusters.f at H; clear h; have H' := Aside0.mk H; clear H
 go_enter Tryz.func117, Tryz.ntmps117
 go_wp2
 go_loopg [3, 4] k (fun kq v3 v4 w' => ∃ (x3_1 : Int) (x4_1 : Int), v3 = .int .i64 x3_1 ∧ v4 = .int .i64 x4_1 ∧ Aside0 (spec_CountClusters.l0 kq a0 x3_1 x4_1 = some r) ∧ Aside0 (kq ≤ k) ∧ Drawn0 w w')
 case atStart => exact ⟨(0), (1), rdT, rdT, H', ⟨Nat.le_refl _⟩, drT⟩
 case round =>
  clear H'; (try clear c1); obtain ⟨x3_1, x4_1, rfl, rfl, HA, HK1, ⟨m1, rfl⟩⟩ := hrel
  cases gk with
  | zero => exact absurd HA.out (by simp [spec_CountClusters.l0])
  | succ k1 =>
   have H := HA.out; clear HA
   simp only [spec_CountClusters.l0] at H
   have HC2 := Aside0.mk H; clear H
   go_upto_region 3 with (fail)
   go_cut [12] (fun v12 wc => ∃ (kq : Nat) (x12_1 : Bool), v12 = .bool x12_1 ∧ Aside0 (spec_CountClusters.j1 kq a0 x3_1 x4_1 x12_1 = some r) ∧ Aside0 (kq ≤ k1) ∧ Drawn0 w wc)
   case first =>
    have H := HC2.out; clear HC2
    by_cases c3 : x4_1 < (a0.size : Int)
    ·rw [if_pos c3] at H
     have c3b0 : decide (x4_1 < (a0.size : Int)) = true := decide_eq_true c3
     clear c3
     (first | rw [c3b0] | (simp only [i64_w, i32_w]; rw [c3b0]) | skip)
     obtain ⟨t250, A4, H⟩ := be H; have H' := Aside0.mk H; clear H
     go_wp2_with (first | (go_at_call 66; (with_reducible refine (spec_IsForm.calls k1 a0 t250 _ A4.out).mono ?_); rintro e w' ⟨rfl, ⟨nd, rfl⟩⟩))
     go_meet
     case rel => exact ⟨_, (t250), rdT, H', ⟨by have := HK1.out; first | omega | exact Nat.le_refl _⟩, drT⟩
    ·rw [if_neg c3] at H
     have c3b0 : decide (x4_1 < (a0.size : Int)) = false := decide_eq_false c3
     clear c3
     (first | rw [c3b0] | (simp only [i64_w, i32_w]; rw [c3b0]) | skip)
     have H' := Aside0.mk H; clear H
     go_wp2
     go_meet
     case rel => exact ⟨_, (false), rdT, H', ⟨by have := HK1.out; first | omega | exact Nat.le_refl _⟩, drT⟩
   case rest =>
    clear HC2; (try clear c1 p2 c3 c3b0); obtain ⟨kq, x12_1, rfl, HA, HJ1, ⟨mc1, rfl⟩⟩ := hcut
    cases kq with
    | zero => exact absurd HA.out (by simp [spec_CountClusters.j1])
    | succ kj1 =>
     have H := HA.out; clear HA
     simp only [spec_CountClusters.j1] at H
     by_cases c5 : x12_1 = true
     ·subst c5
      rw [if_pos rfl] at H; obtain ⟨t251, A6, H⟩ := be H
      by_cases c7 : t251 = true
      ·subst c7
       rw [if_pos rfl] at H; have H' := Aside0.mk H; clear H
       go_wp2_with (first | ((with_reducible refine gate_callee (f := 146) rfl ?_); refine goesL_ (some 18) rfl rfl Tryz.func146 (by kernel_rfl) rfl #[.string a0, .int .i64 (wrap64 (x4_1 - 1))] rfl eqT ?_; (with_reducible refine (spec_IsVowelAt.calls a0 (wrap64 (x4_1 - 1)) true _ A6.out).mono ?_); rintro e w' ⟨rfl, ⟨nd, rfl⟩⟩; refine ⟨_, rfl, ?_⟩))
       go_roundg kj1
       case measure => have := HK1.out; have := HJ1.out; omega
       case rel => exact ⟨(x3_1), (wrap64 (x4_1 + 1)), rdT, rdT, H', ⟨by have := HK1.out; have := HJ1.out; omega⟩, drT⟩
      ·replace c7 := Bool.eq_false_iff.mpr c7
       subst c7; rw [if_neg nF] at H; obtain ⟨t252, A8, H⟩ := be H
       by_cases c9 : t252 = true
       ·subst c9
        rw [if_pos rfl] at H; have H' := Aside0.mk H; clear H
        go_wp2_with (first | ((with_reducible refine gate_callee (f := 146) rfl ?_); refine goesL_ (some 18) rfl rfl Tryz.func146 (by kernel_rfl) rfl #[.string a0, .int .i64 (wrap64 (x4_1 - 1))] rfl eqT ?_; (with_reducible refine (spec_IsVowelAt.calls a0 (wrap64 (x4_1 - 1)) false _ A6.out).mono ?_); rintro e w' ⟨rfl, ⟨nd, rfl⟩⟩; refine ⟨_, rfl, ?_⟩) | (go_at_call 146; (with_reducible refine (spec_IsVowelAt.calls a0 x4_1 true _ A8.out).mono ?_); rintro e w' ⟨rfl, ⟨nd, rfl⟩⟩))
        go_roundg kj1
        case measure => have := HK1.out; have := HJ1.out; omega
        case rel => exact ⟨(x3_1), (wrap64 (x4_1 + 1)), rdT, rdT, H', ⟨by have := HK1.out; have := HJ1.out; omega⟩, drT⟩
       ·replace c9 := Bool.eq_false_iff.mpr c9
        subst c9; rw [if_neg nF] at H; have H' := Aside0.mk H; clear H
        go_wp2_with (first | ((with_reducible refine gate_callee (f := 146) rfl ?_); refine goesL_ (some 18) rfl rfl Tryz.func146 (by kernel_rfl) rfl #[.string a0, .int .i64 (wrap64 (x4_1 - 1))] rfl eqT ?_; (with_reducible refine (spec_IsVowelAt.calls a0 (wrap64 (x4_1 - 1)) false _ A6.out).mono ?_); rintro e w' ⟨rfl, ⟨nd, rfl⟩⟩; refine ⟨_, rfl, ?_⟩) | (go_at_call 146; (with_reducible refine (spec_IsVowelAt.calls a0 x4_1 false _ A8.out).mono ?_); rintro e w' ⟨rfl, ⟨nd, rfl⟩⟩))
        go_roundg kj1
        case measure => have := HK1.out; have := HJ1.out; omega
        case rel => exact ⟨(wrap64 (x3_1 + 1)), (wrap64 (x4_1 + 1)), rdT, rdT, H', ⟨by have := HK1.out; have := HJ1.out; omega⟩, drT⟩
     ·replace c5 := Bool.eq_false_iff.mpr c5
      subst c5; rw [if_neg nF] at H; have H1 := H; clear H; have H := H1; clear H1
      obtain rfl := Option.some.inj H
      go_wp2
      go_ret
      exact ⟨rdT, drT⟩
def spec_IsObstruent.f (a0 : Int) : Option (Bool) := if a0 = 112 then (some true) else (if a0 = 116 then (some true) else (if a0 = 98 then (some true) else (some (a0 == 100))))
set_option maxHeartbeats 8000000 in
set_option maxRecDepth 100000 in
theorem spec_IsObstruent.calls (a0 : Int) (r : Bool) (w : World) (h : spec_IsObstruent.f a0 = some r) :
  Calls Tryz.prog 149 #[.int .u8 a0] w fun e w' => e = .returned (.bool r) ∧ Drawn0 w w' := by
 have H := h; unfold spec_IsObstruent.f at H; clear h
 by_cases c2 : a0 = 112
 ·rw [if_pos c2] at H
  have c2b0 : (a0 == 112) = true := beq_iff_eq.mpr c2
  have c2b1 : (a0 != 112) = false := bne_eq_false_iff_eq.mpr c2
  clear c2
  obtain rfl := Option.some.inj H
  go_enter Tryz.func149, Tryz.ntmps149
  go_wp2
  go_ret
  exact ⟨rdT, drT⟩
 ·rw [if_neg c2] at H
  have c2b0 : (a0 == 112) = false := beq_eq_false_iff_ne.mpr c2
  have c2b1 : (a0 != 112) = true := bne_iff_ne.mpr c2
  by_cases c3 : a0 = 116
  ·rw [if_pos c3] at H
   have c3b0 : (a0 == 116) = true := beq_iff_eq.mpr c3
   have c3b1 : (a0 != 116) = false := bne_eq_false_iff_eq.mpr c3
   clear c3
   obtain rfl := Option.some.inj H
   go_enter Tryz.func149, Tryz.ntmps149
   go_wp2
   go_ret
   exact ⟨rdT, drT⟩
  ·rw [if_neg c3] at H
   have c3b0 : (a0 == 116) = false := beq_eq_false_iff_ne.mpr c3
   have c3b1 : (a0 != 116) = true := bne_iff_ne.mpr c3
   by_cases c4 : a0 = 98
   ·rw [if_pos c4] at H
    have c4b0 : (a0 == 98) = true := beq_iff_eq.mpr c4
    have c4b1 : (a0 != 98) = false := bne_eq_false_iff_eq.mpr c4
    clear c4
    obtain rfl := Option.some.inj H
    go_enter Tryz.func149, Tryz.ntmps149
    go_wp2
    go_ret
    exact ⟨rdT, drT⟩
   ·rw [if_neg c4] at H
    have c4b0 : (a0 == 98) = false := beq_eq_false_iff_ne.mpr c4
    have c4b1 : (a0 != 98) = true := bne_iff_ne.mpr c4
    obtain rfl := Option.some.inj H
    go_enter Tryz.func149, Tryz.ntmps149
    go_wp2
    go_ret
    exact ⟨rdT, drT⟩
end Go.Proofs.YtmfhaplhgaehhabGreat.PFnExactFatalMark
