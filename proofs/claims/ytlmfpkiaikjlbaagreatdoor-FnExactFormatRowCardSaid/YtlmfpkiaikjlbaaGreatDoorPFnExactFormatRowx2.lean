-- Made by gen.py (a program of this session) out of the translation; Lean checks it.
import Derived.Test.YtlmfpkiaikjlbaaGreatDoorPFnExactFormatRowx0
import Derived.Test.YtlmfpkiaikjlbaaGreatDoorPFnExactFormatRowx1
namespace Go.Proofs.YtlmfpkiaikjlbaaGreatDoor.PFnExactFormatRow
open Go.RowKit Go.Proofs.YtlmfpkiaikjlbaaGreatDoorB Go.Proofs.YtlmfpkiaikjlbaaGreatDoorW.PrintWords Go.Proofs.YtlmfpkiaikjlbaaGreatDoorW.PrintLast Go.Proofs.YtlmfpkiaikjlbaaGreatDoorW.PrintMore
attribute [local go_sem] max2_int min2_int max_two min_two max_three min_three max_four min_four   -- for this text's walks alone
set_option linter.unusedVariables false
set_option maxHeartbeats 8000000
set_option maxRecDepth 100000
set_option linter.unusedSimpArgs false
mutual
def spec_IsCandidate.l0 : Nat → Int → List (S90) → Option (Bool)
 | 0, _, _ => none
 | k + 1, x3, x133000 => if x3 < (x133000.length : Int) then (if 0 ≤ x3 then ((spec_SwapVoice.f ((rd_T90 x133000 x3).f0)).bind fun bt135 => (if ((rd_T90 x133000 x3).f0) = 0 then (if ((rd_T90 x133000 x3).f1) = 0 then (spec_IsCandidate.j1 k x3 bt135.1 bt135.2 (((rd_T90 x133000 x3).f1) == 0) x133000 ((rd_T90 x133000 x3).f0) ((rd_T90 x133000 x3).f1)) else ((spec_IsSound.f k ((rd_T90 x133000 x3).f1)).bind fun t137 => (if t137 = true then (spec_IsCandidate.j1 k x3 bt135.1 bt135.2 (((rd_T90 x133000 x3).f1) == 0) x133000 ((rd_T90 x133000 x3).f0) ((rd_T90 x133000 x3).f1)) else (spec_IsCandidate.j1 k x3 bt135.1 bt135.2 true x133000 ((rd_T90 x133000 x3).f0) ((rd_T90 x133000 x3).f1))))) else ((spec_IsSound.f k ((rd_T90 x133000 x3).f0)).bind fun t138 => (if t138 = true then (if ((rd_T90 x133000 x3).f1) = 0 then (spec_IsCandidate.j1 k x3 bt135.1 bt135.2 false x133000 ((rd_T90 x133000 x3).f0) ((rd_T90 x133000 x3).f1)) else ((spec_IsSound.f k ((rd_T90 x133000 x3).f1)).bind fun t139 => (if t139 = true then (spec_IsCandidate.j1 k x3 bt135.1 bt135.2 false x133000 ((rd_T90 x133000 x3).f0) ((rd_T90 x133000 x3).f1)) else (spec_IsCandidate.j1 k x3 bt135.1 bt135.2 true x133000 ((rd_T90 x133000 x3).f0) ((rd_T90 x133000 x3).f1))))) else (spec_IsCandidate.j1 k x3 bt135.1 bt135.2 true x133000 ((rd_T90 x133000 x3).f0) ((rd_T90 x133000 x3).f1)))))) else (none)) else (if (x133000.length : Int) ≤ 16 then ((spec_l6In.f k x133000).bind fun t140 => ((spec_IsForm.f k t140).bind fun t141 => (if t141 = true then ((spec_l6Out.f k x133000).bind fun t142 => ((spec_IsForm.f k t142).bind fun t143 => (some t143))) else (some false)))) else (some false))
def spec_IsCandidate.j1 : Nat → Int → Int → Bool → Bool → List (S90) → Int → Int → Option (Bool)
 | 0, _, _, _, _, _, _, _ => none
 | k + 1, x3, x5, x6, x54, x133000, x135000, x135001 => if x54 = true then (some false) else (if x135000 = 0 then (spec_IsCandidate.l0 k (wrap64 (x3 + 1)) x133000) else (if x135001 = 0 then (spec_IsCandidate.l0 k (wrap64 (x3 + 1)) x133000) else (if x135000 = x135001 then (spec_IsCandidate.l0 k (wrap64 (x3 + 1)) x133000) else (if x6 = true then (if x5 = x135001 then (spec_IsCandidate.l0 k (wrap64 (x3 + 1)) x133000) else (some false)) else (some false)))))
end
def spec_IsCandidate.f (k : Nat) (l0_0 : List (S90)) : Option (Bool) := spec_IsCandidate.l0 k 0 l0_0
theorem spec_IsCandidate.mono_l : ∀ k, (∀ y0 y1, LeO (spec_IsCandidate.l0 k y0 y1) (spec_IsCandidate.l0 (k + 1) y0 y1)) ∧ (∀ y0 y1 y2 y3 y4 y5 y6, LeO (spec_IsCandidate.j1 k y0 y1 y2 y3 y4 y5 y6) (spec_IsCandidate.j1 (k + 1) y0 y1 y2 y3 y4 y5 y6))
 | 0 => ⟨fun _ _ r h => by simp [spec_IsCandidate.l0] at h, fun _ _ _ _ _ _ _ r h => by simp [spec_IsCandidate.j1] at h⟩
 | k + 1 => by
  obtain ⟨ih0, ih1⟩ := spec_IsCandidate.mono_l k; refine ⟨?_, ?_⟩
  ·intro y0 y1; unfold spec_IsCandidate.l0
   with_reducible repeat' first | exact ih0 _ _ | exact ih1 _ _ _ _ _ _ _ | exact spec_IsForm.mono _ _ | exact spec_IsSound.mono _ _ | exact spec_l6In.mono _ _ | exact spec_l6Out.mono _ _ | exact LeO.refl _ | exact LeO.none _ | refine LeO.ite ?_ ?_ | refine LeO.bind ?_ (fun _ => ?_)
  ·intro y0 y1 y2 y3 y4 y5 y6; unfold spec_IsCandidate.j1
   with_reducible repeat' first | exact ih0 _ _ | exact ih1 _ _ _ _ _ _ _ | exact spec_IsForm.mono _ _ | exact spec_IsSound.mono _ _ | exact spec_l6In.mono _ _ | exact spec_l6Out.mono _ _ | exact LeO.refl _ | exact LeO.none _ | refine LeO.ite ?_ ?_ | refine LeO.bind ?_ (fun _ => ?_)
theorem spec_IsCandidate.mono : ∀ a0 k, LeO (spec_IsCandidate.f k a0) (spec_IsCandidate.f (k + 1) a0) := by
 intro a0 k; obtain ⟨ih0, ih1⟩ := spec_IsCandidate.mono_l k; unfold spec_IsCandidate.f
 with_reducible repeat' first | exact ih0 _ _ | exact ih1 _ _ _ _ _ _ _ | exact spec_IsForm.mono _ _ | exact spec_IsSound.mono _ _ | exact spec_l6In.mono _ _ | exact spec_l6Out.mono _ _ | exact LeO.refl _ | exact LeO.none _ | refine LeO.ite ?_ ?_ | refine LeO.bind ?_ (fun _ => ?_)
theorem spec_IsCandidate.calls (k : Nat) (A0_0 : Option Addr) (c0_0 : Nat) (l0_0 : List (S90)) (r : Bool) (w : World) (hr0_0 : Kd.C k90 w A0_0 l0_0.length l0_0) (hc0_0 : l0_0.length ≤ c0_0) (h : spec_IsCandidate.f k l0_0 = some r) :
  Calls Tryz.prog 110 #[.agg #[.slice A0_0 l0_0.length c0_0]] w fun e w' => e = .returned (.bool r) ∧ Below w.heap.size w w' := by
 have hu42 := Tryz.underlying42; have hu90 := Tryz.underlying90; have HR0_0 := asT hr0_0; have HC0_0 := asT hc0_0; clear hr0_0 hc0_0; have HB := asT (Below.refl w.heap.size w); have H := h; unfold spec_IsCandidate.f at H; clear h; have H' := asT H; clear H; go_enter Tryz.func110, Tryz.ntmps110
 go_wp2_with (first | ((with_reducible refine gate_dst (N := 1) rfl ?_); refine boxT (N := 1) (cs := #[.slice A0_0 l0_0.length c0_0]) (t := 42) ?_; intro gb132 hg w2 hbox hb; have BK132 := asT hbox; have GW132 := asT (geT hg HB.out); have GE132 := GW132; replace HB := hS HB hb; clear hb hbox hg))
 go_loopg [3] k (fun kq v3 w' => ∃ (x3_1 : Int), v3 = .int .i64 x3_1 ∧ Aside0 (spec_IsCandidate.l0 kq x3_1 l0_0 = some r) ∧ Aside0 (kq ≤ k) ∧ Aside0 (w'.heap[gb132]? = some (.cells #[(.slice A0_0 l0_0.length c0_0)] 42 (0, 0))) ∧ Aside0 (Below w.heap.size w w'))
 case atStart => exact ⟨(0), rdT, H', ⟨Nat.le_refl _⟩, kpT BK132.out, ⟨hbT HB.out⟩⟩
 case round =>
  clear H'; (try clear c1 p2); obtain ⟨x3_1, rfl, HA, HK1, BK132, HB⟩ := hrel
  cases gk with
  | zero => exact absurd HA.out (by simp [spec_IsCandidate.l0])
  | succ k1 =>
   have H := HA.out; clear HA
   simp only [spec_IsCandidate.l0] at H
   by_cases c3 : x3_1 < (l0_0.length : Int)
   ·rw [if_pos c3] at H; have c3b0 := dt c3; clear c3; by_cases c4 : 0 ≤ x3_1
    ·rw [if_pos c4] at H; have c4b0 := dt c4; clear c4; replace H := Option.bind_eq_some_iff.mp H; obtain ⟨⟨t135, t136⟩, A50, H⟩ := H; replace H : (if ((rd_T90 l0_0 x3_1).f0) = 0 then (if ((rd_T90 l0_0 x3_1).f1) = 0 then (spec_IsCandidate.j1 k1 x3_1 t135 t136 (((rd_T90 l0_0 x3_1).f1) == 0) l0_0 ((rd_T90 l0_0 x3_1).f0) ((rd_T90 l0_0 x3_1).f1)) else ((spec_IsSound.f k1 ((rd_T90 l0_0 x3_1).f1)).bind fun t137 => (if t137 = true then (spec_IsCandidate.j1 k1 x3_1 t135 t136 (((rd_T90 l0_0 x3_1).f1) == 0) l0_0 ((rd_T90 l0_0 x3_1).f0) ((rd_T90 l0_0 x3_1).f1)) else (spec_IsCandidate.j1 k1 x3_1 t135 t136 true l0_0 ((rd_T90 l0_0 x3_1).f0) ((rd_T90 l0_0 x3_1).f1))))) else ((spec_IsSound.f k1 ((rd_T90 l0_0 x3_1).f0)).bind fun t138 => (if t138 = true then (if ((rd_T90 l0_0 x3_1).f1) = 0 then (spec_IsCandidate.j1 k1 x3_1 t135 t136 false l0_0 ((rd_T90 l0_0 x3_1).f0) ((rd_T90 l0_0 x3_1).f1)) else ((spec_IsSound.f k1 ((rd_T90 l0_0 x3_1).f1)).bind fun t139 => (if t139 = true then (spec_IsCandidate.j1 k1 x3_1 t135 t136 false l0_0 ((rd_T90 l0_0 x3_1).f0) ((rd_T90 l0_0 x3_1).f1)) else (spec_IsCandidate.j1 k1 x3_1 t135 t136 true l0_0 ((rd_T90 l0_0 x3_1).f0) ((rd_T90 l0_0 x3_1).f1))))) else (spec_IsCandidate.j1 k1 x3_1 t135 t136 true l0_0 ((rd_T90 l0_0 x3_1).f0) ((rd_T90 l0_0 x3_1).f1))))) = some r := H; have A5 := asT A50; clear A50; have HC6 := asT H; clear H; obtain ⟨hcz7_0, hfz7_0⟩ := bx1 BK132.out; have p133 : 0 ≤ (x3_1 : Int) := dT asmT; have q133 : x3_1 < (l0_0.length : Int) := dT asmT; obtain ⟨ad133, e133, hx133_0, hx133_1⟩ := at_T90 HR0_0.out x3_1 p133 q133
     cases e133
     replace hx133_0 := hbc HB.out hx133_0; replace hx133_1 := hbc HB.out hx133_1; replace p133 := eq_true p133; replace q133 := eq_true q133
     go_upto_region 6 with (first | ((with_reducible refine gate_dst (N := 4) rfl ?_); refine boxT (N := 4) (cs := #[.int .u8 0, .int .u8 0]) (t := 90) ?_; intro gb134 hg w8 hbox hb; have BK134 := asT (hbox); have GW134 := asT (geT hg HB.out); have GE134 := asT (geT hg HB.out); replace HB := hS HB hb; have NB132_134 := asT ((by rw [hg]; exact Nat.ne_of_lt (blk_lt (g := gb132) (o := .cells #[.slice (some ad133) l0_0.length c0_0] 42 (0, 0)) (bkT BK132.out)) : gb132 ≠ gb134)); have NB134_132 := asT ((by rw [hg]; exact Nat.ne_of_gt (blk_lt (g := gb132) (o := .cells #[.slice (some ad133) l0_0.length c0_0] 42 (0, 0)) (bkT BK132.out)) : gb134 ≠ gb132)); replace BK132 := bS BK132 hb; clear hb hbox hg; have hnb9 := NB134_132.out; have hnc9 := NB132_134.out; obtain ⟨hcz10_0, hcz10_1, hfz10_0, hfz10_1⟩ := bx2 BK134.out) | ((with_reducible refine gate_callee (f := 146) rfl ?_); refine goesL_ (some 22) rfl rfl Tryz.func146 (by kernel_rfl) rfl #[.int .u8 ((rd_T90 l0_0 x3_1).f0)] rfl eqT ?_; (with_reducible refine (spec_SwapVoice.calls ((rd_T90 l0_0 x3_1).f0) t135 t136 _ A5.out).mono ?_); rintro e w' ⟨rfl, ⟨nd, rfl⟩⟩; refine ⟨_, rfl, ?_⟩))
     (try simp only [Act.put, sA, sZ, sS])
     go_cut [54] (fun v54 wc => ∃ (kq : Nat) (x54_5 : Bool), v54 = .bool x54_5 ∧ Aside0 (spec_IsCandidate.j1 kq x3_1 t135 t136 x54_5 l0_0 ((rd_T90 l0_0 x3_1).f0) ((rd_T90 l0_0 x3_1).f1) = some r) ∧ Aside0 (kq ≤ k1) ∧ Aside0 (wc.heap[gb132]? = some (.cells #[(.slice (some ad133) l0_0.length c0_0)] 42 (0, 0))) ∧ Aside0 (wc.heap[gb134]? = some (.cells #[.int .u8 ((rd_T90 l0_0 x3_1).f0), .int .u8 ((rd_T90 l0_0 x3_1).f1)] 90 (0, 0))) ∧ Aside0 (Below w.heap.size w wc))
     case first =>
      have H := HC6.out; clear HC6; by_cases c11 : ((rd_T90 l0_0 x3_1).f0) = 0
      ·rw [if_pos c11] at H; have c11b0 : (((rd_T90 l0_0 x3_1).f0) == 0) = true := eC c11; have c11b1 : (((rd_T90 l0_0 x3_1).f0) != 0) = false := eA c11; clear c11
       (first | rw [c11b0] | (simp only [i64_w, i32_w]; rw [c11b0]) | skip)
       by_cases c12 : ((rd_T90 l0_0 x3_1).f1) = 0
       ·rw [if_pos c12] at H; have c12b0 : (((rd_T90 l0_0 x3_1).f1) == 0) = true := eC c12; have c12b1 : (((rd_T90 l0_0 x3_1).f1) != 0) = false := eA c12; clear c12; have H' := asT H; clear H; have hnb13 := NB134_132.out; have hnc13 := NB132_134.out; obtain ⟨hcz14_0, hcz14_1, hfz14_0, hfz14_1⟩ := bx2 BK134.out
        go_wp2
        go_meet
        case rel => exact ⟨_, ((((rd_T90 l0_0 x3_1).f1) == 0)), rdT, H', ⟨by have := HK1.out; first | omega | exact Nat.le_refl _⟩, ⟨by (with_reducible repeat (first | refine blk_drewN ?_ _ | refine blk_drew ?_ | refine blk_alloc ?_ _)); refine blk_far ?_ NB132_134.out _; (with_reducible repeat (first | refine blk_drewN ?_ _ | refine blk_drew ?_ | refine blk_alloc ?_ _)); refine blk_far ?_ NB132_134.out _; (with_reducible repeat (first | refine blk_drewN ?_ _ | refine blk_drew ?_ | refine blk_alloc ?_ _)); exact BK132.out⟩, ⟨by (with_reducible repeat (first | refine blk_drewN ?_ _ | refine blk_drew ?_ | refine blk_alloc ?_ _)); refine blk_put (cs := #[.int .u8 ((rd_T90 l0_0 x3_1).f0), .int .u8 0]) ?_ 1 _ rfl; (with_reducible repeat (first | refine blk_drewN ?_ _ | refine blk_drew ?_ | refine blk_alloc ?_ _)); refine blk_put (cs := #[.int .u8 0, .int .u8 0]) ?_ 0 _ rfl; (with_reducible repeat (first | refine blk_drewN ?_ _ | refine blk_drew ?_ | refine blk_alloc ?_ _)); exact BK134.out⟩, ⟨hbT HB.out⟩⟩
       ·rw [if_neg c12] at H; have c12b0 : (((rd_T90 l0_0 x3_1).f1) == 0) = false := eB c12; have c12b1 : (((rd_T90 l0_0 x3_1).f1) != 0) = true := eD c12; obtain ⟨t137, A15, H⟩ := be H; by_cases c16 : t137 = true
        ·subst c16; rw [if_pos rfl] at H; have H' := asT H; clear H; have hnb17 := NB134_132.out; have hnc17 := NB132_134.out; obtain ⟨hcz18_0, hcz18_1, hfz18_0, hfz18_1⟩ := bx2 BK134.out
         go_wp2_with (first | (go_at_call 150; (with_reducible refine (spec_IsSound.calls k1 ((rd_T90 l0_0 x3_1).f1) true _ A15.out).mono ?_); rintro e w' ⟨rfl, ⟨nd, rfl⟩⟩))
         go_meet
         case rel => exact ⟨_, ((((rd_T90 l0_0 x3_1).f1) == 0)), rdT, H', ⟨by have := HK1.out; first | omega | exact Nat.le_refl _⟩, ⟨by (with_reducible repeat (first | refine blk_drewN ?_ _ | refine blk_drew ?_ | refine blk_alloc ?_ _)); refine blk_far ?_ NB132_134.out _; (with_reducible repeat (first | refine blk_drewN ?_ _ | refine blk_drew ?_ | refine blk_alloc ?_ _)); refine blk_far ?_ NB132_134.out _; (with_reducible repeat (first | refine blk_drewN ?_ _ | refine blk_drew ?_ | refine blk_alloc ?_ _)); exact BK132.out⟩, ⟨by (with_reducible repeat (first | refine blk_drewN ?_ _ | refine blk_drew ?_ | refine blk_alloc ?_ _)); refine blk_put (cs := #[.int .u8 ((rd_T90 l0_0 x3_1).f0), .int .u8 0]) ?_ 1 _ rfl; (with_reducible repeat (first | refine blk_drewN ?_ _ | refine blk_drew ?_ | refine blk_alloc ?_ _)); refine blk_put (cs := #[.int .u8 0, .int .u8 0]) ?_ 0 _ rfl; (with_reducible repeat (first | refine blk_drewN ?_ _ | refine blk_drew ?_ | refine blk_alloc ?_ _)); exact BK134.out⟩, ⟨hbT HB.out⟩⟩
        ·replace c16 := eE c16; subst c16; rw [if_neg nF] at H; have H' := asT H; clear H; have hnb19 := NB134_132.out; have hnc19 := NB132_134.out; obtain ⟨hcz20_0, hcz20_1, hfz20_0, hfz20_1⟩ := bx2 BK134.out
         go_wp2_with (first | (go_at_call 150; (with_reducible refine (spec_IsSound.calls k1 ((rd_T90 l0_0 x3_1).f1) false _ A15.out).mono ?_); rintro e w' ⟨rfl, ⟨nd, rfl⟩⟩))
         go_meet
         case rel => exact ⟨_, (true), rdT, H', ⟨by have := HK1.out; first | omega | exact Nat.le_refl _⟩, ⟨by (with_reducible repeat (first | refine blk_drewN ?_ _ | refine blk_drew ?_ | refine blk_alloc ?_ _)); refine blk_far ?_ NB132_134.out _; (with_reducible repeat (first | refine blk_drewN ?_ _ | refine blk_drew ?_ | refine blk_alloc ?_ _)); refine blk_far ?_ NB132_134.out _; (with_reducible repeat (first | refine blk_drewN ?_ _ | refine blk_drew ?_ | refine blk_alloc ?_ _)); exact BK132.out⟩, ⟨by (with_reducible repeat (first | refine blk_drewN ?_ _ | refine blk_drew ?_ | refine blk_alloc ?_ _)); refine blk_put (cs := #[.int .u8 ((rd_T90 l0_0 x3_1).f0), .int .u8 0]) ?_ 1 _ rfl; (with_reducible repeat (first | refine blk_drewN ?_ _ | refine blk_drew ?_ | refine blk_alloc ?_ _)); refine blk_put (cs := #[.int .u8 0, .int .u8 0]) ?_ 0 _ rfl; (with_reducible repeat (first | refine blk_drewN ?_ _ | refine blk_drew ?_ | refine blk_alloc ?_ _)); exact BK134.out⟩, ⟨hbT HB.out⟩⟩
      ·rw [if_neg c11] at H; have c11b0 : (((rd_T90 l0_0 x3_1).f0) == 0) = false := eB c11; have c11b1 : (((rd_T90 l0_0 x3_1).f0) != 0) = true := eD c11
       (first | rw [c11b0] | (simp only [i64_w, i32_w]; rw [c11b0]) | skip)
       obtain ⟨t138, A21, H⟩ := be H; by_cases c22 : t138 = true
       ·subst c22; rw [if_pos rfl] at H; have H1 := H; clear H; have H := H1; clear H1; by_cases c23 : ((rd_T90 l0_0 x3_1).f1) = 0
        ·rw [if_pos c23] at H; have c23b0 : (((rd_T90 l0_0 x3_1).f1) == 0) = true := eC c23; have c23b1 : (((rd_T90 l0_0 x3_1).f1) != 0) = false := eA c23; clear c23; have H' := asT H; clear H; have hnb24 := NB134_132.out; have hnc24 := NB132_134.out; obtain ⟨hcz25_0, hcz25_1, hfz25_0, hfz25_1⟩ := bx2 BK134.out
         go_wp2_with (first | (go_at_call 150; (with_reducible refine (spec_IsSound.calls k1 ((rd_T90 l0_0 x3_1).f0) true _ A21.out).mono ?_); rintro e w' ⟨rfl, ⟨nd, rfl⟩⟩))
         go_meet
         case rel => exact ⟨_, (false), rdT, H', ⟨by have := HK1.out; first | omega | exact Nat.le_refl _⟩, ⟨by (with_reducible repeat (first | refine blk_drewN ?_ _ | refine blk_drew ?_ | refine blk_alloc ?_ _)); refine blk_far ?_ NB132_134.out _; (with_reducible repeat (first | refine blk_drewN ?_ _ | refine blk_drew ?_ | refine blk_alloc ?_ _)); refine blk_far ?_ NB132_134.out _; (with_reducible repeat (first | refine blk_drewN ?_ _ | refine blk_drew ?_ | refine blk_alloc ?_ _)); exact BK132.out⟩, ⟨by (with_reducible repeat (first | refine blk_drewN ?_ _ | refine blk_drew ?_ | refine blk_alloc ?_ _)); refine blk_put (cs := #[.int .u8 ((rd_T90 l0_0 x3_1).f0), .int .u8 0]) ?_ 1 _ rfl; (with_reducible repeat (first | refine blk_drewN ?_ _ | refine blk_drew ?_ | refine blk_alloc ?_ _)); refine blk_put (cs := #[.int .u8 0, .int .u8 0]) ?_ 0 _ rfl; (with_reducible repeat (first | refine blk_drewN ?_ _ | refine blk_drew ?_ | refine blk_alloc ?_ _)); exact BK134.out⟩, ⟨hbT HB.out⟩⟩
        ·rw [if_neg c23] at H; have c23b0 : (((rd_T90 l0_0 x3_1).f1) == 0) = false := eB c23; have c23b1 : (((rd_T90 l0_0 x3_1).f1) != 0) = true := eD c23; obtain ⟨t139, A26, H⟩ := be H; by_cases c27 : t139 = true
         ·subst c27; rw [if_pos rfl] at H; have H' := asT H; clear H; have hnb28 := NB134_132.out; have hnc28 := NB132_134.out; obtain ⟨hcz29_0, hcz29_1, hfz29_0, hfz29_1⟩ := bx2 BK134.out
          go_wp2_with (first | (go_at_call 150; (with_reducible refine (spec_IsSound.calls k1 ((rd_T90 l0_0 x3_1).f0) true _ A21.out).mono ?_); rintro e w' ⟨rfl, ⟨nd, rfl⟩⟩) | (go_at_call 150; (with_reducible refine (spec_IsSound.calls k1 ((rd_T90 l0_0 x3_1).f1) true _ A26.out).mono ?_); rintro e w' ⟨rfl, ⟨nd, rfl⟩⟩))
          go_meet
          case rel => exact ⟨_, (false), rdT, H', ⟨by have := HK1.out; first | omega | exact Nat.le_refl _⟩, ⟨by (with_reducible repeat (first | refine blk_drewN ?_ _ | refine blk_drew ?_ | refine blk_alloc ?_ _)); refine blk_far ?_ NB132_134.out _; (with_reducible repeat (first | refine blk_drewN ?_ _ | refine blk_drew ?_ | refine blk_alloc ?_ _)); refine blk_far ?_ NB132_134.out _; (with_reducible repeat (first | refine blk_drewN ?_ _ | refine blk_drew ?_ | refine blk_alloc ?_ _)); exact BK132.out⟩, ⟨by (with_reducible repeat (first | refine blk_drewN ?_ _ | refine blk_drew ?_ | refine blk_alloc ?_ _)); refine blk_put (cs := #[.int .u8 ((rd_T90 l0_0 x3_1).f0), .int .u8 0]) ?_ 1 _ rfl; (with_reducible repeat (first | refine blk_drewN ?_ _ | refine blk_drew ?_ | refine blk_alloc ?_ _)); refine blk_put (cs := #[.int .u8 0, .int .u8 0]) ?_ 0 _ rfl; (with_reducible repeat (first | refine blk_drewN ?_ _ | refine blk_drew ?_ | refine blk_alloc ?_ _)); exact BK134.out⟩, ⟨hbT HB.out⟩⟩
         ·replace c27 := eE c27; subst c27; rw [if_neg nF] at H; have H' := asT H; clear H; have hnb30 := NB134_132.out; have hnc30 := NB132_134.out; obtain ⟨hcz31_0, hcz31_1, hfz31_0, hfz31_1⟩ := bx2 BK134.out
          go_wp2_with (first | (go_at_call 150; (with_reducible refine (spec_IsSound.calls k1 ((rd_T90 l0_0 x3_1).f0) true _ A21.out).mono ?_); rintro e w' ⟨rfl, ⟨nd, rfl⟩⟩) | (go_at_call 150; (with_reducible refine (spec_IsSound.calls k1 ((rd_T90 l0_0 x3_1).f1) false _ A26.out).mono ?_); rintro e w' ⟨rfl, ⟨nd, rfl⟩⟩))
          go_meet
          case rel => exact ⟨_, (true), rdT, H', ⟨by have := HK1.out; first | omega | exact Nat.le_refl _⟩, ⟨by (with_reducible repeat (first | refine blk_drewN ?_ _ | refine blk_drew ?_ | refine blk_alloc ?_ _)); refine blk_far ?_ NB132_134.out _; (with_reducible repeat (first | refine blk_drewN ?_ _ | refine blk_drew ?_ | refine blk_alloc ?_ _)); refine blk_far ?_ NB132_134.out _; (with_reducible repeat (first | refine blk_drewN ?_ _ | refine blk_drew ?_ | refine blk_alloc ?_ _)); exact BK132.out⟩, ⟨by (with_reducible repeat (first | refine blk_drewN ?_ _ | refine blk_drew ?_ | refine blk_alloc ?_ _)); refine blk_put (cs := #[.int .u8 ((rd_T90 l0_0 x3_1).f0), .int .u8 0]) ?_ 1 _ rfl; (with_reducible repeat (first | refine blk_drewN ?_ _ | refine blk_drew ?_ | refine blk_alloc ?_ _)); refine blk_put (cs := #[.int .u8 0, .int .u8 0]) ?_ 0 _ rfl; (with_reducible repeat (first | refine blk_drewN ?_ _ | refine blk_drew ?_ | refine blk_alloc ?_ _)); exact BK134.out⟩, ⟨hbT HB.out⟩⟩
       ·replace c22 := eE c22; subst c22; rw [if_neg nF] at H; have H' := asT H; clear H; have hnb32 := NB134_132.out; have hnc32 := NB132_134.out; obtain ⟨hcz33_0, hcz33_1, hfz33_0, hfz33_1⟩ := bx2 BK134.out
        go_wp2_with (first | (go_at_call 150; (with_reducible refine (spec_IsSound.calls k1 ((rd_T90 l0_0 x3_1).f0) false _ A21.out).mono ?_); rintro e w' ⟨rfl, ⟨nd, rfl⟩⟩))
        go_meet
        case rel => exact ⟨_, (true), rdT, H', ⟨by have := HK1.out; first | omega | exact Nat.le_refl _⟩, ⟨by (with_reducible repeat (first | refine blk_drewN ?_ _ | refine blk_drew ?_ | refine blk_alloc ?_ _)); refine blk_far ?_ NB132_134.out _; (with_reducible repeat (first | refine blk_drewN ?_ _ | refine blk_drew ?_ | refine blk_alloc ?_ _)); refine blk_far ?_ NB132_134.out _; (with_reducible repeat (first | refine blk_drewN ?_ _ | refine blk_drew ?_ | refine blk_alloc ?_ _)); exact BK132.out⟩, ⟨by (with_reducible repeat (first | refine blk_drewN ?_ _ | refine blk_drew ?_ | refine blk_alloc ?_ _)); refine blk_put (cs := #[.int .u8 ((rd_T90 l0_0 x3_1).f0), .int .u8 0]) ?_ 1 _ rfl; (with_reducible repeat (first | refine blk_drewN ?_ _ | refine blk_drew ?_ | refine blk_alloc ?_ _)); refine blk_put (cs := #[.int .u8 0, .int .u8 0]) ?_ 0 _ rfl; (with_reducible repeat (first | refine blk_drewN ?_ _ | refine blk_drew ?_ | refine blk_alloc ?_ _)); exact BK134.out⟩, ⟨hbT HB.out⟩⟩
     case rest =>
      clear HC6; (try clear c1 p1 q1 hx1 c2 p2 c3 c3b0 c4 c4b0 c9 c11 c11b0 c11b1 c12 c12b0 c12b1 c13 p13 q13 hx13 c14 c16 c17 c19 c22 c23 c23b0 c23b1 c24 c27 c28 c30 c32 hcz10_0 hcz10_1 hcz14_0 hcz14_1 hcz18_0 hcz18_1 hcz20_0 hcz20_1 hcz25_0 hcz25_1 hcz29_0 hcz29_1 hcz31_0 hcz31_1 hcz33_0 hcz33_1 hcz7_0 hfz10_0 hfz10_1 hfz14_0 hfz14_1 hfz18_0 hfz18_1 hfz20_0 hfz20_1 hfz25_0 hfz25_1 hfz29_0 hfz29_1 hfz31_0 hfz31_1 hfz33_0 hfz33_1 hfz7_0 hx133_0 hx133_1 p133 p2 q133); obtain ⟨kq, x54_5, rfl, HA, HJ5, BK132, BK134, HB⟩ := hcut
      cases kq with
      | zero => exact absurd HA.out (by simp [spec_IsCandidate.j1])
      | succ kj5 =>
       have H := HA.out; clear HA
       simp only [spec_IsCandidate.j1] at H
       by_cases c34 : x54_5 = true
       ·subst c34; rw [if_pos rfl] at H; have H1 := H; clear H; have H := H1; clear H1; obtain rfl := oI H
        go_wp2
        go_ret; exact ⟨rlT, hbT HB.out⟩
       ·replace c34 := eE c34; subst c34; rw [if_neg nF] at H; have H1 := H; clear H; have H := H1; clear H1; by_cases c35 : ((rd_T90 l0_0 x3_1).f0) = 0
        ·rw [if_pos c35] at H; have c35b0 : (((rd_T90 l0_0 x3_1).f0) == 0) = true := eC c35; have c35b1 : (((rd_T90 l0_0 x3_1).f0) != 0) = false := eA c35; clear c35; have H' := asT H; clear H; have hnb36 := NB134_132.out; have hnc36 := NB132_134.out; obtain ⟨hcz37_0, hcz37_1, hfz37_0, hfz37_1⟩ := bx2 BK134.out
         go_wp2
         go_roundg kj5
         case measure => have := HK1.out; have := HJ5.out; omega
         case rel => exact ⟨(wrap64 (x3_1 + 1)), rdT, H', ⟨by have := HK1.out; have := HJ5.out; omega⟩, kpT BK132.out, ⟨hbT HB.out⟩⟩
        ·rw [if_neg c35] at H; have c35b0 : (((rd_T90 l0_0 x3_1).f0) == 0) = false := eB c35; have c35b1 : (((rd_T90 l0_0 x3_1).f0) != 0) = true := eD c35; by_cases c38 : ((rd_T90 l0_0 x3_1).f1) = 0
         ·rw [if_pos c38] at H; have c38b0 : (((rd_T90 l0_0 x3_1).f1) == 0) = true := eC c38; have c38b1 : (((rd_T90 l0_0 x3_1).f1) != 0) = false := eA c38; clear c38; have H' := asT H; clear H; have hnb39 := NB134_132.out; have hnc39 := NB132_134.out; obtain ⟨hcz40_0, hcz40_1, hfz40_0, hfz40_1⟩ := bx2 BK134.out
          go_wp2
          go_roundg kj5
          case measure => have := HK1.out; have := HJ5.out; omega
          case rel => exact ⟨(wrap64 (x3_1 + 1)), rdT, H', ⟨by have := HK1.out; have := HJ5.out; omega⟩, kpT BK132.out, ⟨hbT HB.out⟩⟩
         ·rw [if_neg c38] at H; have c38b0 : (((rd_T90 l0_0 x3_1).f1) == 0) = false := eB c38; have c38b1 : (((rd_T90 l0_0 x3_1).f1) != 0) = true := eD c38; by_cases c41 : ((rd_T90 l0_0 x3_1).f0) = ((rd_T90 l0_0 x3_1).f1)
          ·rw [if_pos c41] at H; have c41b0 : (((rd_T90 l0_0 x3_1).f0) == ((rd_T90 l0_0 x3_1).f1)) = true := eC c41; have c41b1 : (((rd_T90 l0_0 x3_1).f0) != ((rd_T90 l0_0 x3_1).f1)) = false := eA c41; clear c41; have H' := asT H; clear H; have hnb42 := NB134_132.out; have hnc42 := NB132_134.out; obtain ⟨hcz43_0, hcz43_1, hfz43_0, hfz43_1⟩ := bx2 BK134.out
           go_wp2
           go_roundg kj5
           case measure => have := HK1.out; have := HJ5.out; omega
           case rel => exact ⟨(wrap64 (x3_1 + 1)), rdT, H', ⟨by have := HK1.out; have := HJ5.out; omega⟩, kpT BK132.out, ⟨hbT HB.out⟩⟩
          ·rw [if_neg c41] at H; have c41b0 : (((rd_T90 l0_0 x3_1).f0) == ((rd_T90 l0_0 x3_1).f1)) = false := eB c41; have c41b1 : (((rd_T90 l0_0 x3_1).f0) != ((rd_T90 l0_0 x3_1).f1)) = true := eD c41; by_cases c44 : t136 = true
           ·subst c44; rw [if_pos rfl] at H; have H1 := H; clear H; have H := H1; clear H1; by_cases c45 : t135 = ((rd_T90 l0_0 x3_1).f1)
            ·rw [if_pos c45] at H; have c45b0 : (t135 == ((rd_T90 l0_0 x3_1).f1)) = true := eC c45; have c45b1 : (t135 != ((rd_T90 l0_0 x3_1).f1)) = false := eA c45; clear c45; have H' := asT H; clear H; have hnb46 := NB134_132.out; have hnc46 := NB132_134.out; obtain ⟨hcz47_0, hcz47_1, hfz47_0, hfz47_1⟩ := bx2 BK134.out
             go_wp2
             go_roundg kj5
             case measure => have := HK1.out; have := HJ5.out; omega
             case rel => exact ⟨(wrap64 (x3_1 + 1)), rdT, H', ⟨by have := HK1.out; have := HJ5.out; omega⟩, kpT BK132.out, ⟨hbT HB.out⟩⟩
            ·rw [if_neg c45] at H; have c45b0 : (t135 == ((rd_T90 l0_0 x3_1).f1)) = false := eB c45; have c45b1 : (t135 != ((rd_T90 l0_0 x3_1).f1)) = true := eD c45; obtain rfl := oI H; have hnb48 := NB134_132.out; have hnc48 := NB132_134.out; obtain ⟨hcz49_0, hcz49_1, hfz49_0, hfz49_1⟩ := bx2 BK134.out
             go_wp2
             go_ret; exact ⟨rlT, hbT HB.out⟩
           ·replace c44 := eE c44; subst c44; rw [if_neg nF] at H; have H1 := H; clear H; have H := H1; clear H1; obtain rfl := oI H; have hnb50 := NB134_132.out; have hnc50 := NB132_134.out; obtain ⟨hcz51_0, hcz51_1, hfz51_0, hfz51_1⟩ := bx2 BK134.out
            go_wp2
            go_ret; exact ⟨rlT, hbT HB.out⟩
    ·rw [if_neg c4] at H; exact absurd H (by simp)
   ·rw [if_neg c3] at H; have c3b0 := df c3; clear c3; by_cases c52 : (l0_0.length : Int) ≤ 16
    ·rw [if_pos c52] at H; have c52b0 := dt c52; have c52b1 : decide (l0_0.length ≤ 16) = true := dt (by omega); clear c52; obtain ⟨t140, A53, H⟩ := be H; obtain ⟨t141, A54, H⟩ := be H; by_cases c55 : t141 = true
     ·subst c55; rw [if_pos rfl] at H; obtain ⟨t142, A56, H⟩ := be H; obtain ⟨t143, A57, H⟩ := be H; obtain rfl := oI H; obtain ⟨hcz58_0, hfz58_0⟩ := bx1 BK132.out
      go_wp2_with (first | (go_at_call 112; (with_reducible refine (spec_l6In.calls k1 _ _ l0_0 t140 _ ?side1 ?side2 A53.out).mono ?_); (case side1 => exact crT HR0_0.out HB.out); (case side2 => exact HC0_0.out); rintro e w59 ⟨rfl, hb⟩; replace BK132 := bS BK132 hb; replace HB := hS HB hb; (try clear hb hb2 hk hi)) | (go_at_call 88; (with_reducible refine (spec_IsForm.calls k1 t140 true _ A54.out).mono ?_); rintro e w' ⟨rfl, ⟨nd, rfl⟩⟩; obtain ⟨hcz60_0, hfz60_0⟩ := bx1 BK132.out) | (go_at_call 104; (with_reducible refine (spec_l6Out.calls k1 _ _ l0_0 t142 _ ?side1 ?side2 A56.out).mono ?_); (case side1 => exact crT HR0_0.out (hbT HB.out)); (case side2 => exact HC0_0.out); rintro e w61 ⟨rfl, hb⟩; replace BK132 := bS BK132 hb; replace HB := hS HB hb; (try clear hb hb2 hk hi)) | (go_at_call 88; (with_reducible refine (spec_IsForm.calls k1 t142 t143 _ A57.out).mono ?_); rintro e w' ⟨rfl, ⟨nd, rfl⟩⟩))
      go_ret; exact ⟨rlT, hbT HB.out⟩
     ·replace c55 := eE c55; subst c55; rw [if_neg nF] at H; have H1 := H; clear H; have H := H1; clear H1; obtain rfl := oI H; obtain ⟨hcz62_0, hfz62_0⟩ := bx1 BK132.out
      go_wp2_with (first | (go_at_call 112; (with_reducible refine (spec_l6In.calls k1 _ _ l0_0 t140 _ ?side1 ?side2 A53.out).mono ?_); (case side1 => exact crT HR0_0.out HB.out); (case side2 => exact HC0_0.out); rintro e w63 ⟨rfl, hb⟩; replace BK132 := bS BK132 hb; replace HB := hS HB hb; (try clear hb hb2 hk hi)) | (go_at_call 88; (with_reducible refine (spec_IsForm.calls k1 t140 false _ A54.out).mono ?_); rintro e w' ⟨rfl, ⟨nd, rfl⟩⟩))
      go_ret; exact ⟨rlT, hbT HB.out⟩
    ·rw [if_neg c52] at H; have c52b0 := df c52; have c52b1 : decide (l0_0.length ≤ 16) = false := df (by omega); clear c52; obtain rfl := oI H; obtain ⟨hcz64_0, hfz64_0⟩ := bx1 BK132.out
     go_wp2
     go_ret; exact ⟨rlT, hbT HB.out⟩
def spec_InputOf.f (k : Nat) (l0_0 : List (S90)) : Option (ByteArray) := (spec_IsCandidate.f k l0_0).bind fun t145 => (if t145 = true then ((spec_l6In.f k l0_0).bind fun t146 => (some t146)) else (some (⟨#[]⟩ : ByteArray)))
theorem spec_InputOf.mono : ∀ a0 k, LeO (spec_InputOf.f k a0) (spec_InputOf.f (k + 1) a0) := by
 intro a0 k; unfold spec_InputOf.f
 with_reducible repeat' first | exact spec_IsCandidate.mono _ _ | exact spec_l6In.mono _ _ | exact LeO.refl _ | exact LeO.none _ | refine LeO.ite ?_ ?_ | refine LeO.bind ?_ (fun _ => ?_)
theorem spec_InputOf.calls (k : Nat) (A0_0 : Option Addr) (c0_0 : Nat) (l0_0 : List (S90)) (r : ByteArray) (w : World) (hr0_0 : Kd.C k90 w A0_0 l0_0.length l0_0) (hc0_0 : l0_0.length ≤ c0_0) (h : spec_InputOf.f k l0_0 = some r) :
  Calls Tryz.prog 31 #[.agg #[.slice A0_0 l0_0.length c0_0]] w fun e w' => e = .returned (.string r) ∧ Below w.heap.size w w' := by
 have hu42 := Tryz.underlying42; have HR0_0 := asT hr0_0; have HC0_0 := asT hc0_0; clear hr0_0 hc0_0; have HB := asT (Below.refl w.heap.size w); have H := h; unfold spec_InputOf.f at H; clear h; obtain ⟨t145, A2, H⟩ := be H; by_cases c3 : t145 = true
 ·subst c3; rw [if_pos rfl] at H; obtain ⟨t146, A4, H⟩ := be H; obtain rfl := oI H; go_enter Tryz.func31, Tryz.ntmps31
  go_wp2_with (first | ((with_reducible refine gate_dst (N := 1) rfl ?_); refine boxT (N := 1) (cs := #[.slice A0_0 l0_0.length c0_0]) (t := 42) ?_; intro gb144 hg w5 hbox hb; have BK144 := asT hbox; have GW144 := asT (geT hg HB.out); have GE144 := GW144; replace HB := hS HB hb; clear hb hbox hg; obtain ⟨hcz6_0, hfz6_0⟩ := bx1 BK144.out) | ((with_reducible refine gate_callee (f := 110) rfl ?_); refine goesL_ (some 4) rfl rfl Tryz.func110 (by kernel_rfl) rfl #[.agg #[.slice A0_0 l0_0.length c0_0]] rfl eqT ?_; (with_reducible refine (spec_IsCandidate.calls k _ _ l0_0 true _ ?side1 ?side2 A2.out).mono ?_); (case side1 => exact crT HR0_0.out HB.out); (case side2 => exact HC0_0.out); rintro e w7 ⟨rfl, hb⟩; refine ⟨_, rfl, ?_⟩; replace BK144 := bS BK144 hb; replace HB := hS HB hb; (try clear hb hb2 hk hi); obtain ⟨hcz8_0, hfz8_0⟩ := bx1 BK144.out) | ((with_reducible refine gate_callee (f := 112) rfl ?_); refine goesL_ (some 7) rfl rfl Tryz.func112 (by kernel_rfl) rfl #[.agg #[.slice A0_0 l0_0.length c0_0]] rfl eqT ?_; (with_reducible refine (spec_l6In.calls k _ _ l0_0 t146 _ ?side1 ?side2 A4.out).mono ?_); (case side1 => exact crT HR0_0.out HB.out); (case side2 => exact HC0_0.out); rintro e w9 ⟨rfl, hb⟩; refine ⟨_, rfl, ?_⟩; replace BK144 := bS BK144 hb; replace HB := hS HB hb; (try clear hb hb2 hk hi)))
  go_ret; exact ⟨rlT, hbT HB.out⟩
 ·replace c3 := eE c3; subst c3; rw [if_neg nF] at H; have H1 := H; clear H; have H := H1; clear H1; obtain rfl := oI H; go_enter Tryz.func31, Tryz.ntmps31
  go_wp2_with (first | ((with_reducible refine gate_dst (N := 1) rfl ?_); refine boxT (N := 1) (cs := #[.slice A0_0 l0_0.length c0_0]) (t := 42) ?_; intro gb144 hg w10 hbox hb; have BK144 := asT hbox; have GW144 := asT (geT hg HB.out); have GE144 := GW144; replace HB := hS HB hb; clear hb hbox hg; obtain ⟨hcz11_0, hfz11_0⟩ := bx1 BK144.out) | ((with_reducible refine gate_callee (f := 110) rfl ?_); refine goesL_ (some 4) rfl rfl Tryz.func110 (by kernel_rfl) rfl #[.agg #[.slice A0_0 l0_0.length c0_0]] rfl eqT ?_; (with_reducible refine (spec_IsCandidate.calls k _ _ l0_0 false _ ?side1 ?side2 A2.out).mono ?_); (case side1 => exact crT HR0_0.out HB.out); (case side2 => exact HC0_0.out); rintro e w12 ⟨rfl, hb⟩; refine ⟨_, rfl, ?_⟩; replace BK144 := bS BK144 hb; replace HB := hS HB hb; (try clear hb hb2 hk hi)))
  go_ret; exact ⟨rlT, hbT HB.out⟩
def spec_HasFeature.f (a0 : Int) (a1 : Int) : Option (Bool) := if a1 = 0 then (if a0 = 97 then (some true) else (some (a0 == 105))) else (if a1 = 1 then (if a0 = 98 then (some true) else (if a0 = 100 then (some true) else (if a0 = 110 then (some true) else (if a0 = 97 then (some true) else (some (a0 == 105)))))) else (if a1 = 2 then (some (a0 == 110)) else (if a1 = 3 then (if a0 = 112 then (some true) else (some (a0 == 98))) else (if a1 = 4 then (some (a0 == 105)) else (some false)))))
theorem spec_HasFeature.calls (a0 : Int) (a1 : Int) (r : Bool) (w : World) (h : spec_HasFeature.f a0 a1 = some r) :
  Calls Tryz.prog 99 #[.int .u8 a0, .int .i64 a1] w fun e w' => e = .returned (.bool r) ∧ Drawn0 w w' := by
 have H := h; unfold spec_HasFeature.f at H; clear h; by_cases c3 : a1 = 0
 ·rw [if_pos c3] at H; have c3b0 : (a1 == 0) = true := eC c3; have c3b1 : (a1 != 0) = false := eA c3; clear c3; by_cases c4 : a0 = 97
  ·rw [if_pos c4] at H; have c4b0 : (a0 == 97) = true := eC c4; have c4b1 : (a0 != 97) = false := eA c4; clear c4; obtain rfl := oI H; go_enter Tryz.func99, Tryz.ntmps99
   go_wp2
   go_ret; exact ⟨rdT, drT⟩
  ·rw [if_neg c4] at H; have c4b0 : (a0 == 97) = false := eB c4; have c4b1 : (a0 != 97) = true := eD c4; obtain rfl := oI H; go_enter Tryz.func99, Tryz.ntmps99
   go_wp2
   go_ret; exact ⟨rdT, drT⟩
 ·rw [if_neg c3] at H; have c3b0 : (a1 == 0) = false := eB c3; have c3b1 : (a1 != 0) = true := eD c3; by_cases c5 : a1 = 1
  ·rw [if_pos c5] at H; have c5b0 : (a1 == 1) = true := eC c5; have c5b1 : (a1 != 1) = false := eA c5; clear c5; by_cases c6 : a0 = 98
   ·rw [if_pos c6] at H; have c6b0 : (a0 == 98) = true := eC c6; have c6b1 : (a0 != 98) = false := eA c6; clear c6; obtain rfl := oI H; go_enter Tryz.func99, Tryz.ntmps99
    go_wp2
    go_ret; exact ⟨rdT, drT⟩
   ·rw [if_neg c6] at H; have c6b0 : (a0 == 98) = false := eB c6; have c6b1 : (a0 != 98) = true := eD c6; by_cases c7 : a0 = 100
    ·rw [if_pos c7] at H; have c7b0 : (a0 == 100) = true := eC c7; have c7b1 : (a0 != 100) = false := eA c7; clear c7; obtain rfl := oI H; go_enter Tryz.func99, Tryz.ntmps99
     go_wp2
     go_ret; exact ⟨rdT, drT⟩
    ·rw [if_neg c7] at H; have c7b0 : (a0 == 100) = false := eB c7; have c7b1 : (a0 != 100) = true := eD c7; by_cases c8 : a0 = 110
     ·rw [if_pos c8] at H; have c8b0 : (a0 == 110) = true := eC c8; have c8b1 : (a0 != 110) = false := eA c8; clear c8; obtain rfl := oI H; go_enter Tryz.func99, Tryz.ntmps99
      go_wp2
      go_ret; exact ⟨rdT, drT⟩
     ·rw [if_neg c8] at H; have c8b0 : (a0 == 110) = false := eB c8; have c8b1 : (a0 != 110) = true := eD c8; by_cases c9 : a0 = 97
      ·rw [if_pos c9] at H; have c9b0 : (a0 == 97) = true := eC c9; have c9b1 : (a0 != 97) = false := eA c9; clear c9; obtain rfl := oI H; go_enter Tryz.func99, Tryz.ntmps99
       go_wp2
       go_ret; exact ⟨rdT, drT⟩
      ·rw [if_neg c9] at H; have c9b0 : (a0 == 97) = false := eB c9; have c9b1 : (a0 != 97) = true := eD c9; obtain rfl := oI H; go_enter Tryz.func99, Tryz.ntmps99
       go_wp2
       go_ret; exact ⟨rdT, drT⟩
  ·rw [if_neg c5] at H; have c5b0 : (a1 == 1) = false := eB c5; have c5b1 : (a1 != 1) = true := eD c5; by_cases c10 : a1 = 2
   ·rw [if_pos c10] at H; have c10b0 : (a1 == 2) = true := eC c10; have c10b1 : (a1 != 2) = false := eA c10; clear c10; obtain rfl := oI H; go_enter Tryz.func99, Tryz.ntmps99
    go_wp2
    go_ret; exact ⟨rdT, drT⟩
   ·rw [if_neg c10] at H; have c10b0 : (a1 == 2) = false := eB c10; have c10b1 : (a1 != 2) = true := eD c10; by_cases c11 : a1 = 3
    ·rw [if_pos c11] at H; have c11b0 : (a1 == 3) = true := eC c11; have c11b1 : (a1 != 3) = false := eA c11; clear c11; by_cases c12 : a0 = 112
     ·rw [if_pos c12] at H; have c12b0 : (a0 == 112) = true := eC c12; have c12b1 : (a0 != 112) = false := eA c12; clear c12; obtain rfl := oI H; go_enter Tryz.func99, Tryz.ntmps99
      go_wp2
      go_ret; exact ⟨rdT, drT⟩
     ·rw [if_neg c12] at H; have c12b0 : (a0 == 112) = false := eB c12; have c12b1 : (a0 != 112) = true := eD c12; obtain rfl := oI H; go_enter Tryz.func99, Tryz.ntmps99
      go_wp2
      go_ret; exact ⟨rdT, drT⟩
    ·rw [if_neg c11] at H; have c11b0 : (a1 == 3) = false := eB c11; have c11b1 : (a1 != 3) = true := eD c11; by_cases c13 : a1 = 4
     ·rw [if_pos c13] at H; have c13b0 : (a1 == 4) = true := eC c13; have c13b1 : (a1 != 4) = false := eA c13; clear c13; obtain rfl := oI H; go_enter Tryz.func99, Tryz.ntmps99
      go_wp2
      go_ret; exact ⟨rdT, drT⟩
     ·rw [if_neg c13] at H; have c13b0 : (a1 == 4) = false := eB c13; have c13b1 : (a1 != 4) = true := eD c13; obtain rfl := oI H; go_enter Tryz.func99, Tryz.ntmps99
      go_wp2
      go_ret; exact ⟨rdT, drT⟩
def spec_IsVowelAt.f (a0 : ByteArray) (a1 : Int) : Option (Bool) := if a1 ≥ 0 then (if a1 < (a0.size : Int) then (if 0 ≤ a1 then ((spec_HasFeature.f (bt a0 a1) 0).bind fun t147 => (some t147)) else (none)) else (some false)) else (some false)
theorem spec_IsVowelAt.calls (a0 : ByteArray) (a1 : Int) (r : Bool) (w : World) (h : spec_IsVowelAt.f a0 a1 = some r) :
  Calls Tryz.prog 89 #[.string a0, .int .i64 a1] w fun e w' => e = .returned (.bool r) ∧ Drawn0 w w' := by
 have H := h; unfold spec_IsVowelAt.f at H; clear h; by_cases c3 : a1 ≥ 0
 ·rw [if_pos c3] at H; have c3b0 : decide (0 ≤ a1) = true := dt c3; clear c3; by_cases c4 : a1 < (a0.size : Int)
  ·rw [if_pos c4] at H; have c4b0 := dt c4; clear c4; by_cases c5 : 0 ≤ a1
   ·rw [if_pos c5] at H; have c5b0 := dt c5; clear c5; obtain ⟨t147, A7, H⟩ := be H; obtain rfl := oI H; have p6 : 0 ≤ (a1 : Int) := dT asmT; have q6 : a1 < (a0.size : Int) := dT asmT; have hx6 := bt_at a0 a1; replace p6 := eq_true p6; replace q6 := eq_true q6; go_enter Tryz.func89, Tryz.ntmps89
    go_wp2_with (first | (go_at_call 99; (with_reducible refine (spec_HasFeature.calls (bt a0 a1) 0 t147 _ A7.out).mono ?_); rintro e w' ⟨rfl, ⟨nd, rfl⟩⟩))
    go_ret; exact ⟨rdT, drT⟩
   ·rw [if_neg c5] at H; exact absurd H (by simp)
  ·rw [if_neg c4] at H; have c4b0 := df c4; clear c4; obtain rfl := oI H; go_enter Tryz.func89, Tryz.ntmps89
   go_wp2
   go_ret; exact ⟨rdT, drT⟩
 ·rw [if_neg c3] at H; have c3b0 : decide (0 ≤ a1) = false := df c3; clear c3; obtain rfl := oI H; go_enter Tryz.func89, Tryz.ntmps89
  go_wp2
  go_ret; exact ⟨rdT, drT⟩
mutual
def spec_CountOnsetless.l0 : Nat → ByteArray → Int → Int → Option (Int)
 | 0, _, _, _ => none
 | k + 1, x0, x3, x4 => if x4 < (x0.size : Int) then ((spec_IsForm.f k x0).bind fun t148 => (spec_CountOnsetless.j1 k x0 x3 x4 t148)) else (spec_CountOnsetless.j1 k x0 x3 x4 false)
def spec_CountOnsetless.j1 : Nat → ByteArray → Int → Int → Bool → Option (Int)
 | 0, _, _, _, _ => none
 | k + 1, x0, x3, x4, x12 => if x12 = true then ((spec_IsVowelAt.f x0 x4).bind fun t149 => (if t149 = true then (if x4 = 0 then (spec_CountOnsetless.l0 k x0 (wrap64 (x3 + 1)) (wrap64 (x4 + 1))) else ((spec_IsVowelAt.f x0 (wrap64 (x4 - 1))).bind fun t150 => (if t150 = true then (spec_CountOnsetless.l0 k x0 (wrap64 (x3 + 1)) (wrap64 (x4 + 1))) else (spec_CountOnsetless.l0 k x0 x3 (wrap64 (x4 + 1)))))) else (spec_CountOnsetless.l0 k x0 x3 (wrap64 (x4 + 1))))) else (some x3)
end
def spec_CountOnsetless.f (k : Nat) (a0 : ByteArray) : Option (Int) := spec_CountOnsetless.l0 k a0 0 0
theorem spec_CountOnsetless.mono_l : ∀ k, (∀ y0 y1 y2, LeO (spec_CountOnsetless.l0 k y0 y1 y2) (spec_CountOnsetless.l0 (k + 1) y0 y1 y2)) ∧ (∀ y0 y1 y2 y3, LeO (spec_CountOnsetless.j1 k y0 y1 y2 y3) (spec_CountOnsetless.j1 (k + 1) y0 y1 y2 y3))
 | 0 => ⟨fun _ _ _ r h => by simp [spec_CountOnsetless.l0] at h, fun _ _ _ _ r h => by simp [spec_CountOnsetless.j1] at h⟩
 | k + 1 => by
  obtain ⟨ih0, ih1⟩ := spec_CountOnsetless.mono_l k; refine ⟨?_, ?_⟩
  ·intro y0 y1 y2; unfold spec_CountOnsetless.l0
   with_reducible repeat' first | exact ih0 _ _ _ | exact ih1 _ _ _ _ | exact spec_IsForm.mono _ _ | exact LeO.refl _ | exact LeO.none _ | refine LeO.ite ?_ ?_ | refine LeO.bind ?_ (fun _ => ?_)
  ·intro y0 y1 y2 y3; unfold spec_CountOnsetless.j1
   with_reducible repeat' first | exact ih0 _ _ _ | exact ih1 _ _ _ _ | exact spec_IsForm.mono _ _ | exact LeO.refl _ | exact LeO.none _ | refine LeO.ite ?_ ?_ | refine LeO.bind ?_ (fun _ => ?_)
theorem spec_CountOnsetless.mono : ∀ a0 k, LeO (spec_CountOnsetless.f k a0) (spec_CountOnsetless.f (k + 1) a0) := by
 intro a0 k; obtain ⟨ih0, ih1⟩ := spec_CountOnsetless.mono_l k; unfold spec_CountOnsetless.f
 with_reducible repeat' first | exact ih0 _ _ _ | exact ih1 _ _ _ _ | exact spec_IsForm.mono _ _ | exact LeO.refl _ | exact LeO.none _ | refine LeO.ite ?_ ?_ | refine LeO.bind ?_ (fun _ => ?_)
theorem spec_CountOnsetless.calls (k : Nat) (a0 : ByteArray) (r : Int) (w : World) (h : spec_CountOnsetless.f k a0 = some r) :
  Calls Tryz.prog 13 #[.string a0] w fun e w' => e = .returned (.int .i64 r) ∧ Drawn0 w w' := by
 have H := h; unfold spec_CountOnsetless.f at H; clear h; have H' := asT H; clear H; go_enter Tryz.func13, Tryz.ntmps13
 go_wp2
 go_loopg [3, 4] k (fun kq v3 v4 w' => ∃ (x3_1 : Int) (x4_1 : Int), v3 = .int .i64 x3_1 ∧ v4 = .int .i64 x4_1 ∧ Aside0 (spec_CountOnsetless.l0 kq a0 x3_1 x4_1 = some r) ∧ Aside0 (kq ≤ k) ∧ Drawn0 w w')
 case atStart => exact ⟨(0), (0), rdT, rdT, H', ⟨Nat.le_refl _⟩, drT⟩
 case round =>
  clear H'; (try clear c1); obtain ⟨x3_1, x4_1, rfl, rfl, HA, HK1, ⟨m1, rfl⟩⟩ := hrel
  cases gk with
  | zero => exact absurd HA.out (by simp [spec_CountOnsetless.l0])
  | succ k1 =>
   have H := HA.out; clear HA
   simp only [spec_CountOnsetless.l0] at H
   have HC2 := asT H; clear H
   go_upto_region 3 with (fail)
   go_cut [12] (fun v12 wc => ∃ (kq : Nat) (x12_1 : Bool), v12 = .bool x12_1 ∧ Aside0 (spec_CountOnsetless.j1 kq a0 x3_1 x4_1 x12_1 = some r) ∧ Aside0 (kq ≤ k1) ∧ Drawn0 w wc)
   case first =>
    have H := HC2.out; clear HC2; by_cases c3 : x4_1 < (a0.size : Int)
    ·rw [if_pos c3] at H; have c3b0 := dt c3; clear c3
     (first | rw [c3b0] | (simp only [i64_w, i32_w]; rw [c3b0]) | skip)
     obtain ⟨t148, A4, H⟩ := be H; have H' := asT H; clear H
     go_wp2_with (first | (go_at_call 88; (with_reducible refine (spec_IsForm.calls k1 a0 t148 _ A4.out).mono ?_); rintro e w' ⟨rfl, ⟨nd, rfl⟩⟩))
     go_meet
     case rel => exact ⟨_, (t148), rdT, H', ⟨by have := HK1.out; first | omega | exact Nat.le_refl _⟩, drT⟩
    ·rw [if_neg c3] at H; have c3b0 := df c3; clear c3
     (first | rw [c3b0] | (simp only [i64_w, i32_w]; rw [c3b0]) | skip)
     have H' := asT H; clear H
     go_wp2
     go_meet
     case rel => exact ⟨_, (false), rdT, H', ⟨by have := HK1.out; first | omega | exact Nat.le_refl _⟩, drT⟩
   case rest =>
    clear HC2; (try clear c1 p2 c3 c3b0); obtain ⟨kq, x12_1, rfl, HA, HJ1, ⟨mc1, rfl⟩⟩ := hcut
    cases kq with
    | zero => exact absurd HA.out (by simp [spec_CountOnsetless.j1])
    | succ kj1 =>
     have H := HA.out; clear HA
     simp only [spec_CountOnsetless.j1] at H
     by_cases c5 : x12_1 = true
     ·subst c5; rw [if_pos rfl] at H; obtain ⟨t149, A6, H⟩ := be H; by_cases c7 : t149 = true
      ·subst c7; rw [if_pos rfl] at H; have H1 := H; clear H; have H := H1; clear H1; by_cases c8 : x4_1 = 0
       ·rw [if_pos c8] at H; have c8b0 : (x4_1 == 0) = true := eC c8; have c8b1 : (x4_1 != 0) = false := eA c8; clear c8; have H' := asT H; clear H
        go_wp2_with (first | ((with_reducible refine gate_callee (f := 89) rfl ?_); refine goesL_ (some 17) rfl rfl Tryz.func89 (by kernel_rfl) rfl #[.string a0, .int .i64 x4_1] rfl eqT ?_; (with_reducible refine (spec_IsVowelAt.calls a0 x4_1 true _ A6.out).mono ?_); rintro e w' ⟨rfl, ⟨nd, rfl⟩⟩; refine ⟨_, rfl, ?_⟩))
        go_roundg kj1
        case measure => have := HK1.out; have := HJ1.out; omega
        case rel => exact ⟨(wrap64 (x3_1 + 1)), (wrap64 (x4_1 + 1)), rdT, rdT, H', ⟨by have := HK1.out; have := HJ1.out; omega⟩, drT⟩
       ·rw [if_neg c8] at H; have c8b0 : (x4_1 == 0) = false := eB c8; have c8b1 : (x4_1 != 0) = true := eD c8; obtain ⟨t150, A9, H⟩ := be H; by_cases c10 : t150 = true
        ·subst c10; rw [if_pos rfl] at H; have H' := asT H; clear H
         go_wp2_with (first | ((with_reducible refine gate_callee (f := 89) rfl ?_); refine goesL_ (some 17) rfl rfl Tryz.func89 (by kernel_rfl) rfl #[.string a0, .int .i64 x4_1] rfl eqT ?_; (with_reducible refine (spec_IsVowelAt.calls a0 x4_1 true _ A6.out).mono ?_); rintro e w' ⟨rfl, ⟨nd, rfl⟩⟩; refine ⟨_, rfl, ?_⟩) | (go_at_call 89; (with_reducible refine (spec_IsVowelAt.calls a0 (wrap64 (x4_1 - 1)) true _ A9.out).mono ?_); rintro e w' ⟨rfl, ⟨nd, rfl⟩⟩))
         go_roundg kj1
         case measure => have := HK1.out; have := HJ1.out; omega
         case rel => exact ⟨(wrap64 (x3_1 + 1)), (wrap64 (x4_1 + 1)), rdT, rdT, H', ⟨by have := HK1.out; have := HJ1.out; omega⟩, drT⟩
        ·replace c10 := eE c10; subst c10; rw [if_neg nF] at H; have H' := asT H; clear H
         go_wp2_with (first | ((with_reducible refine gate_callee (f := 89) rfl ?_); refine goesL_ (some 17) rfl rfl Tryz.func89 (by kernel_rfl) rfl #[.string a0, .int .i64 x4_1] rfl eqT ?_; (with_reducible refine (spec_IsVowelAt.calls a0 x4_1 true _ A6.out).mono ?_); rintro e w' ⟨rfl, ⟨nd, rfl⟩⟩; refine ⟨_, rfl, ?_⟩) | (go_at_call 89; (with_reducible refine (spec_IsVowelAt.calls a0 (wrap64 (x4_1 - 1)) false _ A9.out).mono ?_); rintro e w' ⟨rfl, ⟨nd, rfl⟩⟩))
         go_roundg kj1
         case measure => have := HK1.out; have := HJ1.out; omega
         case rel => exact ⟨(x3_1), (wrap64 (x4_1 + 1)), rdT, rdT, H', ⟨by have := HK1.out; have := HJ1.out; omega⟩, drT⟩
      ·replace c7 := eE c7; subst c7; rw [if_neg nF] at H; have H' := asT H; clear H
       go_wp2_with (first | ((with_reducible refine gate_callee (f := 89) rfl ?_); refine goesL_ (some 17) rfl rfl Tryz.func89 (by kernel_rfl) rfl #[.string a0, .int .i64 x4_1] rfl eqT ?_; (with_reducible refine (spec_IsVowelAt.calls a0 x4_1 false _ A6.out).mono ?_); rintro e w' ⟨rfl, ⟨nd, rfl⟩⟩; refine ⟨_, rfl, ?_⟩))
       go_roundg kj1
       case measure => have := HK1.out; have := HJ1.out; omega
       case rel => exact ⟨(x3_1), (wrap64 (x4_1 + 1)), rdT, rdT, H', ⟨by have := HK1.out; have := HJ1.out; omega⟩, drT⟩
     ·replace c5 := eE c5; subst c5; rw [if_neg nF] at H; have H1 := H; clear H; have H := H1; clear H1; obtain rfl := oI H
      go_wp2
      go_ret; exact ⟨rdT, drT⟩
mutual
def spec_CountCodas.l0 : Nat → ByteArray → Int → Int → Option (Int)
 | 0, _, _, _ => none
 | k + 1, x0, x3, x4 => if x4 < (x0.size : Int) then ((spec_IsForm.f k x0).bind fun t151 => (spec_CountCodas.j1 k x0 x3 x4 t151)) else (spec_CountCodas.j1 k x0 x3 x4 false)
def spec_CountCodas.j1 : Nat → ByteArray → Int → Int → Bool → Option (Int)
 | 0, _, _, _, _ => none
 | k + 1, x0, x3, x4, x12 => if x12 = true then ((spec_IsVowelAt.f x0 x4).bind fun t152 => (if t152 = true then (spec_CountCodas.l0 k x0 x3 (wrap64 (x4 + 1))) else ((spec_IsVowelAt.f x0 (wrap64 (x4 + 1))).bind fun t153 => (if t153 = true then (spec_CountCodas.l0 k x0 x3 (wrap64 (x4 + 1))) else (spec_CountCodas.l0 k x0 (wrap64 (x3 + 1)) (wrap64 (x4 + 1))))))) else (some x3)
end
def spec_CountCodas.f (k : Nat) (a0 : ByteArray) : Option (Int) := spec_CountCodas.l0 k a0 0 0
theorem spec_CountCodas.mono_l : ∀ k, (∀ y0 y1 y2, LeO (spec_CountCodas.l0 k y0 y1 y2) (spec_CountCodas.l0 (k + 1) y0 y1 y2)) ∧ (∀ y0 y1 y2 y3, LeO (spec_CountCodas.j1 k y0 y1 y2 y3) (spec_CountCodas.j1 (k + 1) y0 y1 y2 y3))
 | 0 => ⟨fun _ _ _ r h => by simp [spec_CountCodas.l0] at h, fun _ _ _ _ r h => by simp [spec_CountCodas.j1] at h⟩
 | k + 1 => by
  obtain ⟨ih0, ih1⟩ := spec_CountCodas.mono_l k; refine ⟨?_, ?_⟩
  ·intro y0 y1 y2; unfold spec_CountCodas.l0
   with_reducible repeat' first | exact ih0 _ _ _ | exact ih1 _ _ _ _ | exact spec_IsForm.mono _ _ | exact LeO.refl _ | exact LeO.none _ | refine LeO.ite ?_ ?_ | refine LeO.bind ?_ (fun _ => ?_)
  ·intro y0 y1 y2 y3; unfold spec_CountCodas.j1
   with_reducible repeat' first | exact ih0 _ _ _ | exact ih1 _ _ _ _ | exact spec_IsForm.mono _ _ | exact LeO.refl _ | exact LeO.none _ | refine LeO.ite ?_ ?_ | refine LeO.bind ?_ (fun _ => ?_)
theorem spec_CountCodas.mono : ∀ a0 k, LeO (spec_CountCodas.f k a0) (spec_CountCodas.f (k + 1) a0) := by
 intro a0 k; obtain ⟨ih0, ih1⟩ := spec_CountCodas.mono_l k; unfold spec_CountCodas.f
 with_reducible repeat' first | exact ih0 _ _ _ | exact ih1 _ _ _ _ | exact spec_IsForm.mono _ _ | exact LeO.refl _ | exact LeO.none _ | refine LeO.ite ?_ ?_ | refine LeO.bind ?_ (fun _ => ?_)
theorem spec_CountCodas.calls (k : Nat) (a0 : ByteArray) (r : Int) (w : World) (h : spec_CountCodas.f k a0 = some r) :
  Calls Tryz.prog 15 #[.string a0] w fun e w' => e = .returned (.int .i64 r) ∧ Drawn0 w w' := by
 have H := h; unfold spec_CountCodas.f at H; clear h; have H' := asT H; clear H; go_enter Tryz.func15, Tryz.ntmps15
 go_wp2
 go_loopg [3, 4] k (fun kq v3 v4 w' => ∃ (x3_1 : Int) (x4_1 : Int), v3 = .int .i64 x3_1 ∧ v4 = .int .i64 x4_1 ∧ Aside0 (spec_CountCodas.l0 kq a0 x3_1 x4_1 = some r) ∧ Aside0 (kq ≤ k) ∧ Drawn0 w w')
 case atStart => exact ⟨(0), (0), rdT, rdT, H', ⟨Nat.le_refl _⟩, drT⟩
 case round =>
  clear H'; (try clear c1); obtain ⟨x3_1, x4_1, rfl, rfl, HA, HK1, ⟨m1, rfl⟩⟩ := hrel
  cases gk with
  | zero => exact absurd HA.out (by simp [spec_CountCodas.l0])
  | succ k1 =>
   have H := HA.out; clear HA
   simp only [spec_CountCodas.l0] at H
   have HC2 := asT H; clear H
   go_upto_region 3 with (fail)
   go_cut [12] (fun v12 wc => ∃ (kq : Nat) (x12_1 : Bool), v12 = .bool x12_1 ∧ Aside0 (spec_CountCodas.j1 kq a0 x3_1 x4_1 x12_1 = some r) ∧ Aside0 (kq ≤ k1) ∧ Drawn0 w wc)
   case first =>
    have H := HC2.out; clear HC2; by_cases c3 : x4_1 < (a0.size : Int)
    ·rw [if_pos c3] at H; have c3b0 := dt c3; clear c3
     (first | rw [c3b0] | (simp only [i64_w, i32_w]; rw [c3b0]) | skip)
     obtain ⟨t151, A4, H⟩ := be H; have H' := asT H; clear H
     go_wp2_with (first | (go_at_call 88; (with_reducible refine (spec_IsForm.calls k1 a0 t151 _ A4.out).mono ?_); rintro e w' ⟨rfl, ⟨nd, rfl⟩⟩))
     go_meet
     case rel => exact ⟨_, (t151), rdT, H', ⟨by have := HK1.out; first | omega | exact Nat.le_refl _⟩, drT⟩
    ·rw [if_neg c3] at H; have c3b0 := df c3; clear c3
     (first | rw [c3b0] | (simp only [i64_w, i32_w]; rw [c3b0]) | skip)
     have H' := asT H; clear H
     go_wp2
     go_meet
     case rel => exact ⟨_, (false), rdT, H', ⟨by have := HK1.out; first | omega | exact Nat.le_refl _⟩, drT⟩
   case rest =>
    clear HC2; (try clear c1 p2 c3 c3b0); obtain ⟨kq, x12_1, rfl, HA, HJ1, ⟨mc1, rfl⟩⟩ := hcut
    cases kq with
    | zero => exact absurd HA.out (by simp [spec_CountCodas.j1])
    | succ kj1 =>
     have H := HA.out; clear HA
     simp only [spec_CountCodas.j1] at H
     by_cases c5 : x12_1 = true
     ·subst c5; rw [if_pos rfl] at H; obtain ⟨t152, A6, H⟩ := be H; by_cases c7 : t152 = true
      ·subst c7; rw [if_pos rfl] at H; have H' := asT H; clear H
       go_wp2_with (first | ((with_reducible refine gate_callee (f := 89) rfl ?_); refine goesL_ (some 17) rfl rfl Tryz.func89 (by kernel_rfl) rfl #[.string a0, .int .i64 x4_1] rfl eqT ?_; (with_reducible refine (spec_IsVowelAt.calls a0 x4_1 true _ A6.out).mono ?_); rintro e w' ⟨rfl, ⟨nd, rfl⟩⟩; refine ⟨_, rfl, ?_⟩))
       go_roundg kj1
       case measure => have := HK1.out; have := HJ1.out; omega
       case rel => exact ⟨(x3_1), (wrap64 (x4_1 + 1)), rdT, rdT, H', ⟨by have := HK1.out; have := HJ1.out; omega⟩, drT⟩
      ·replace c7 := eE c7; subst c7; rw [if_neg nF] at H; obtain ⟨t153, A8, H⟩ := be H; by_cases c9 : t153 = true
       ·subst c9; rw [if_pos rfl] at H; have H' := asT H; clear H
        go_wp2_with (first | ((with_reducible refine gate_callee (f := 89) rfl ?_); refine goesL_ (some 17) rfl rfl Tryz.func89 (by kernel_rfl) rfl #[.string a0, .int .i64 x4_1] rfl eqT ?_; (with_reducible refine (spec_IsVowelAt.calls a0 x4_1 false _ A6.out).mono ?_); rintro e w' ⟨rfl, ⟨nd, rfl⟩⟩; refine ⟨_, rfl, ?_⟩) | (go_at_call 89; (with_reducible refine (spec_IsVowelAt.calls a0 (wrap64 (x4_1 + 1)) true _ A8.out).mono ?_); rintro e w' ⟨rfl, ⟨nd, rfl⟩⟩))
        go_roundg kj1
        case measure => have := HK1.out; have := HJ1.out; omega
        case rel => exact ⟨(x3_1), (wrap64 (x4_1 + 1)), rdT, rdT, H', ⟨by have := HK1.out; have := HJ1.out; omega⟩, drT⟩
       ·replace c9 := eE c9; subst c9; rw [if_neg nF] at H; have H' := asT H; clear H
        go_wp2_with (first | ((with_reducible refine gate_callee (f := 89) rfl ?_); refine goesL_ (some 17) rfl rfl Tryz.func89 (by kernel_rfl) rfl #[.string a0, .int .i64 x4_1] rfl eqT ?_; (with_reducible refine (spec_IsVowelAt.calls a0 x4_1 false _ A6.out).mono ?_); rintro e w' ⟨rfl, ⟨nd, rfl⟩⟩; refine ⟨_, rfl, ?_⟩) | (go_at_call 89; (with_reducible refine (spec_IsVowelAt.calls a0 (wrap64 (x4_1 + 1)) false _ A8.out).mono ?_); rintro e w' ⟨rfl, ⟨nd, rfl⟩⟩))
        go_roundg kj1
        case measure => have := HK1.out; have := HJ1.out; omega
        case rel => exact ⟨(wrap64 (x3_1 + 1)), (wrap64 (x4_1 + 1)), rdT, rdT, H', ⟨by have := HK1.out; have := HJ1.out; omega⟩, drT⟩
     ·replace c5 := eE c5; subst c5; rw [if_neg nF] at H; have H1 := H; clear H; have H := H1; clear H1; obtain rfl := oI H
      go_wp2
      go_ret; exact ⟨rdT, drT⟩
mutual
def spec_CountClusters.l0 : Nat → ByteArray → Int → Int → Option (Int)
 | 0, _, _, _ => none
 | k + 1, x0, x3, x4 => if x4 < (x0.size : Int) then ((spec_IsForm.f k x0).bind fun t154 => (spec_CountClusters.j1 k x0 x3 x4 t154)) else (spec_CountClusters.j1 k x0 x3 x4 false)
def spec_CountClusters.j1 : Nat → ByteArray → Int → Int → Bool → Option (Int)
 | 0, _, _, _, _ => none
 | k + 1, x0, x3, x4, x12 => if x12 = true then ((spec_IsVowelAt.f x0 (wrap64 (x4 - 1))).bind fun t155 => (if t155 = true then (spec_CountClusters.l0 k x0 x3 (wrap64 (x4 + 1))) else ((spec_IsVowelAt.f x0 x4).bind fun t156 => (if t156 = true then (spec_CountClusters.l0 k x0 x3 (wrap64 (x4 + 1))) else (spec_CountClusters.l0 k x0 (wrap64 (x3 + 1)) (wrap64 (x4 + 1))))))) else (some x3)
end
def spec_CountClusters.f (k : Nat) (a0 : ByteArray) : Option (Int) := spec_CountClusters.l0 k a0 0 1
theorem spec_CountClusters.mono_l : ∀ k, (∀ y0 y1 y2, LeO (spec_CountClusters.l0 k y0 y1 y2) (spec_CountClusters.l0 (k + 1) y0 y1 y2)) ∧ (∀ y0 y1 y2 y3, LeO (spec_CountClusters.j1 k y0 y1 y2 y3) (spec_CountClusters.j1 (k + 1) y0 y1 y2 y3))
 | 0 => ⟨fun _ _ _ r h => by simp [spec_CountClusters.l0] at h, fun _ _ _ _ r h => by simp [spec_CountClusters.j1] at h⟩
 | k + 1 => by
  obtain ⟨ih0, ih1⟩ := spec_CountClusters.mono_l k; refine ⟨?_, ?_⟩
  ·intro y0 y1 y2; unfold spec_CountClusters.l0
   with_reducible repeat' first | exact ih0 _ _ _ | exact ih1 _ _ _ _ | exact spec_IsForm.mono _ _ | exact LeO.refl _ | exact LeO.none _ | refine LeO.ite ?_ ?_ | refine LeO.bind ?_ (fun _ => ?_)
  ·intro y0 y1 y2 y3; unfold spec_CountClusters.j1
   with_reducible repeat' first | exact ih0 _ _ _ | exact ih1 _ _ _ _ | exact spec_IsForm.mono _ _ | exact LeO.refl _ | exact LeO.none _ | refine LeO.ite ?_ ?_ | refine LeO.bind ?_ (fun _ => ?_)
theorem spec_CountClusters.mono : ∀ a0 k, LeO (spec_CountClusters.f k a0) (spec_CountClusters.f (k + 1) a0) := by
 intro a0 k; obtain ⟨ih0, ih1⟩ := spec_CountClusters.mono_l k; unfold spec_CountClusters.f
 with_reducible repeat' first | exact ih0 _ _ _ | exact ih1 _ _ _ _ | exact spec_IsForm.mono _ _ | exact LeO.refl _ | exact LeO.none _ | refine LeO.ite ?_ ?_ | refine LeO.bind ?_ (fun _ => ?_)
theorem spec_CountClusters.calls (k : Nat) (a0 : ByteArray) (r : Int) (w : World) (h : spec_CountClusters.f k a0 = some r) :
  Calls Tryz.prog 17 #[.string a0] w fun e w' => e = .returned (.int .i64 r) ∧ Drawn0 w w' := by
 have H := h; unfold spec_CountClusters.f at H; clear h; have H' := asT H; clear H; go_enter Tryz.func17, Tryz.ntmps17
 go_wp2
 go_loopg [3, 4] k (fun kq v3 v4 w' => ∃ (x3_1 : Int) (x4_1 : Int), v3 = .int .i64 x3_1 ∧ v4 = .int .i64 x4_1 ∧ Aside0 (spec_CountClusters.l0 kq a0 x3_1 x4_1 = some r) ∧ Aside0 (kq ≤ k) ∧ Drawn0 w w')
 case atStart => exact ⟨(0), (1), rdT, rdT, H', ⟨Nat.le_refl _⟩, drT⟩
 case round =>
  clear H'; (try clear c1); obtain ⟨x3_1, x4_1, rfl, rfl, HA, HK1, ⟨m1, rfl⟩⟩ := hrel
  cases gk with
  | zero => exact absurd HA.out (by simp [spec_CountClusters.l0])
  | succ k1 =>
   have H := HA.out; clear HA
   simp only [spec_CountClusters.l0] at H
   have HC2 := asT H; clear H
   go_upto_region 3 with (fail)
   go_cut [12] (fun v12 wc => ∃ (kq : Nat) (x12_1 : Bool), v12 = .bool x12_1 ∧ Aside0 (spec_CountClusters.j1 kq a0 x3_1 x4_1 x12_1 = some r) ∧ Aside0 (kq ≤ k1) ∧ Drawn0 w wc)
   case first =>
    have H := HC2.out; clear HC2; by_cases c3 : x4_1 < (a0.size : Int)
    ·rw [if_pos c3] at H; have c3b0 := dt c3; clear c3
     (first | rw [c3b0] | (simp only [i64_w, i32_w]; rw [c3b0]) | skip)
     obtain ⟨t154, A4, H⟩ := be H; have H' := asT H; clear H
     go_wp2_with (first | (go_at_call 88; (with_reducible refine (spec_IsForm.calls k1 a0 t154 _ A4.out).mono ?_); rintro e w' ⟨rfl, ⟨nd, rfl⟩⟩))
     go_meet
     case rel => exact ⟨_, (t154), rdT, H', ⟨by have := HK1.out; first | omega | exact Nat.le_refl _⟩, drT⟩
    ·rw [if_neg c3] at H; have c3b0 := df c3; clear c3
     (first | rw [c3b0] | (simp only [i64_w, i32_w]; rw [c3b0]) | skip)
     have H' := asT H; clear H
     go_wp2
     go_meet
     case rel => exact ⟨_, (false), rdT, H', ⟨by have := HK1.out; first | omega | exact Nat.le_refl _⟩, drT⟩
   case rest =>
    clear HC2; (try clear c1 p2 c3 c3b0); obtain ⟨kq, x12_1, rfl, HA, HJ1, ⟨mc1, rfl⟩⟩ := hcut
    cases kq with
    | zero => exact absurd HA.out (by simp [spec_CountClusters.j1])
    | succ kj1 =>
     have H := HA.out; clear HA
     simp only [spec_CountClusters.j1] at H
     by_cases c5 : x12_1 = true
     ·subst c5; rw [if_pos rfl] at H; obtain ⟨t155, A6, H⟩ := be H; by_cases c7 : t155 = true
      ·subst c7; rw [if_pos rfl] at H; have H' := asT H; clear H
       go_wp2_with (first | ((with_reducible refine gate_callee (f := 89) rfl ?_); refine goesL_ (some 18) rfl rfl Tryz.func89 (by kernel_rfl) rfl #[.string a0, .int .i64 (wrap64 (x4_1 - 1))] rfl eqT ?_; (with_reducible refine (spec_IsVowelAt.calls a0 (wrap64 (x4_1 - 1)) true _ A6.out).mono ?_); rintro e w' ⟨rfl, ⟨nd, rfl⟩⟩; refine ⟨_, rfl, ?_⟩))
       go_roundg kj1
       case measure => have := HK1.out; have := HJ1.out; omega
       case rel => exact ⟨(x3_1), (wrap64 (x4_1 + 1)), rdT, rdT, H', ⟨by have := HK1.out; have := HJ1.out; omega⟩, drT⟩
      ·replace c7 := eE c7; subst c7; rw [if_neg nF] at H; obtain ⟨t156, A8, H⟩ := be H; by_cases c9 : t156 = true
       ·subst c9; rw [if_pos rfl] at H; have H' := asT H; clear H
        go_wp2_with (first | ((with_reducible refine gate_callee (f := 89) rfl ?_); refine goesL_ (some 18) rfl rfl Tryz.func89 (by kernel_rfl) rfl #[.string a0, .int .i64 (wrap64 (x4_1 - 1))] rfl eqT ?_; (with_reducible refine (spec_IsVowelAt.calls a0 (wrap64 (x4_1 - 1)) false _ A6.out).mono ?_); rintro e w' ⟨rfl, ⟨nd, rfl⟩⟩; refine ⟨_, rfl, ?_⟩) | (go_at_call 89; (with_reducible refine (spec_IsVowelAt.calls a0 x4_1 true _ A8.out).mono ?_); rintro e w' ⟨rfl, ⟨nd, rfl⟩⟩))
        go_roundg kj1
        case measure => have := HK1.out; have := HJ1.out; omega
        case rel => exact ⟨(x3_1), (wrap64 (x4_1 + 1)), rdT, rdT, H', ⟨by have := HK1.out; have := HJ1.out; omega⟩, drT⟩
       ·replace c9 := eE c9; subst c9; rw [if_neg nF] at H; have H' := asT H; clear H
        go_wp2_with (first | ((with_reducible refine gate_callee (f := 89) rfl ?_); refine goesL_ (some 18) rfl rfl Tryz.func89 (by kernel_rfl) rfl #[.string a0, .int .i64 (wrap64 (x4_1 - 1))] rfl eqT ?_; (with_reducible refine (spec_IsVowelAt.calls a0 (wrap64 (x4_1 - 1)) false _ A6.out).mono ?_); rintro e w' ⟨rfl, ⟨nd, rfl⟩⟩; refine ⟨_, rfl, ?_⟩) | (go_at_call 89; (with_reducible refine (spec_IsVowelAt.calls a0 x4_1 false _ A8.out).mono ?_); rintro e w' ⟨rfl, ⟨nd, rfl⟩⟩))
        go_roundg kj1
        case measure => have := HK1.out; have := HJ1.out; omega
        case rel => exact ⟨(wrap64 (x3_1 + 1)), (wrap64 (x4_1 + 1)), rdT, rdT, H', ⟨by have := HK1.out; have := HJ1.out; omega⟩, drT⟩
     ·replace c5 := eE c5; subst c5; rw [if_neg nF] at H; have H1 := H; clear H; have H := H1; clear H1; obtain rfl := oI H
      go_wp2
      go_ret; exact ⟨rdT, drT⟩
def spec_IsObstruent.f (a0 : Int) : Option (Bool) := if a0 = 112 then (some true) else (if a0 = 116 then (some true) else (if a0 = 98 then (some true) else (some (a0 == 100))))
theorem spec_IsObstruent.calls (a0 : Int) (r : Bool) (w : World) (h : spec_IsObstruent.f a0 = some r) :
  Calls Tryz.prog 100 #[.int .u8 a0] w fun e w' => e = .returned (.bool r) ∧ Drawn0 w w' := by
 have H := h; unfold spec_IsObstruent.f at H; clear h; by_cases c2 : a0 = 112
 ·rw [if_pos c2] at H; have c2b0 : (a0 == 112) = true := eC c2; have c2b1 : (a0 != 112) = false := eA c2; clear c2; obtain rfl := oI H; go_enter Tryz.func100, Tryz.ntmps100
  go_wp2
  go_ret; exact ⟨rdT, drT⟩
 ·rw [if_neg c2] at H; have c2b0 : (a0 == 112) = false := eB c2; have c2b1 : (a0 != 112) = true := eD c2; by_cases c3 : a0 = 116
  ·rw [if_pos c3] at H; have c3b0 : (a0 == 116) = true := eC c3; have c3b1 : (a0 != 116) = false := eA c3; clear c3; obtain rfl := oI H; go_enter Tryz.func100, Tryz.ntmps100
   go_wp2
   go_ret; exact ⟨rdT, drT⟩
  ·rw [if_neg c3] at H; have c3b0 : (a0 == 116) = false := eB c3; have c3b1 : (a0 != 116) = true := eD c3; by_cases c4 : a0 = 98
   ·rw [if_pos c4] at H; have c4b0 : (a0 == 98) = true := eC c4; have c4b1 : (a0 != 98) = false := eA c4; clear c4; obtain rfl := oI H; go_enter Tryz.func100, Tryz.ntmps100
    go_wp2
    go_ret; exact ⟨rdT, drT⟩
   ·rw [if_neg c4] at H; have c4b0 : (a0 == 98) = false := eB c4; have c4b1 : (a0 != 98) = true := eD c4; obtain rfl := oI H; go_enter Tryz.func100, Tryz.ntmps100
    go_wp2
    go_ret; exact ⟨rdT, drT⟩
def spec_l8Voiced.f (a0 : Int) : Option (Bool) := (spec_IsObstruent.f a0).bind fun t157 => (if t157 = true then ((spec_HasFeature.f a0 1).bind fun t158 => (some t158)) else (some false))
theorem spec_l8Voiced.calls (a0 : Int) (r : Bool) (w : World) (h : spec_l8Voiced.f a0 = some r) :
  Calls Tryz.prog 94 #[.int .u8 a0] w fun e w' => e = .returned (.bool r) ∧ Drawn0 w w' := by
 have H := h; unfold spec_l8Voiced.f at H; clear h; obtain ⟨t157, A2, H⟩ := be H; by_cases c3 : t157 = true
 ·subst c3; rw [if_pos rfl] at H; obtain ⟨t158, A4, H⟩ := be H; obtain rfl := oI H; go_enter Tryz.func94, Tryz.ntmps94
  go_wp2_with (first | ((with_reducible refine gate_callee (f := 100) rfl ?_); refine goesL_ (some 4) rfl rfl Tryz.func100 (by kernel_rfl) rfl #[.int .u8 a0] rfl eqT ?_; (with_reducible refine (spec_IsObstruent.calls a0 true _ A2.out).mono ?_); rintro e w' ⟨rfl, ⟨nd, rfl⟩⟩; refine ⟨_, rfl, ?_⟩) | (go_at_call 99; (with_reducible refine (spec_HasFeature.calls a0 1 t158 _ A4.out).mono ?_); rintro e w' ⟨rfl, ⟨nd, rfl⟩⟩))
  go_ret; exact ⟨rdT, drT⟩
 ·replace c3 := eE c3; subst c3; rw [if_neg nF] at H; have H1 := H; clear H; have H := H1; clear H1; obtain rfl := oI H; go_enter Tryz.func94, Tryz.ntmps94
  go_wp2_with (first | ((with_reducible refine gate_callee (f := 100) rfl ?_); refine goesL_ (some 4) rfl rfl Tryz.func100 (by kernel_rfl) rfl #[.int .u8 a0] rfl eqT ?_; (with_reducible refine (spec_IsObstruent.calls a0 false _ A2.out).mono ?_); rintro e w' ⟨rfl, ⟨nd, rfl⟩⟩; refine ⟨_, rfl, ?_⟩))
  go_ret; exact ⟨rdT, drT⟩
end Go.Proofs.YtlmfpkiaikjlbaaGreatDoor.PFnExactFormatRow
