-- Made by gen.py (a program of this session) out of the translation; Lean checks it.
import Derived.Test.YtdamagcfmhimfadPFnExactProfileOfx0
import Derived.Test.YtdamagcfmhimfadPFnExactProfileOfx2
namespace Go.Proofs.Ytdamagcfmhimfad.PFnExactProfileOf
open Go.RowKit Go.Proofs.YtdamagcfmhimfadB Go.Proofs.YtdamagcfmhimfadW.PrintWords Go.Proofs.YtdamagcfmhimfadW.PrintLast Go.Proofs.YtdamagcfmhimfadW.PrintMore
attribute [local go_sem] max2_int min2_int max_two min_two max_three min_three max_four min_four   -- for this text's walks alone
set_option linter.unusedVariables false
set_option linter.unusedSimpArgs false

/-! ### spec_IsCandidate: function 42 -/
mutual
def spec_IsCandidate.l0 : Nat → Int → List (S83) → Option (Bool)
 | 0, _, _ => none
 | k + 1, x3, x158000 => if x3 < (x158000.length : Int) then (if 0 ≤ x3 then ((spec_SwapVoice.f ((rd_T83 x158000 x3).f0)).bind fun bt160 => (if ((rd_T83 x158000 x3).f0) = 0 then (if ((rd_T83 x158000 x3).f1) = 0 then (spec_IsCandidate.j1 k x3 bt160.1 bt160.2 (((rd_T83 x158000 x3).f1) == 0) x158000 ((rd_T83 x158000 x3).f0) ((rd_T83 x158000 x3).f1)) else ((spec_IsSound.f k ((rd_T83 x158000 x3).f1)).bind fun t162 => (if t162 = true then (spec_IsCandidate.j1 k x3 bt160.1 bt160.2 (((rd_T83 x158000 x3).f1) == 0) x158000 ((rd_T83 x158000 x3).f0) ((rd_T83 x158000 x3).f1)) else (spec_IsCandidate.j1 k x3 bt160.1 bt160.2 true x158000 ((rd_T83 x158000 x3).f0) ((rd_T83 x158000 x3).f1))))) else ((spec_IsSound.f k ((rd_T83 x158000 x3).f0)).bind fun t163 => (if t163 = true then (if ((rd_T83 x158000 x3).f1) = 0 then (spec_IsCandidate.j1 k x3 bt160.1 bt160.2 false x158000 ((rd_T83 x158000 x3).f0) ((rd_T83 x158000 x3).f1)) else ((spec_IsSound.f k ((rd_T83 x158000 x3).f1)).bind fun t164 => (if t164 = true then (spec_IsCandidate.j1 k x3 bt160.1 bt160.2 false x158000 ((rd_T83 x158000 x3).f0) ((rd_T83 x158000 x3).f1)) else (spec_IsCandidate.j1 k x3 bt160.1 bt160.2 true x158000 ((rd_T83 x158000 x3).f0) ((rd_T83 x158000 x3).f1))))) else (spec_IsCandidate.j1 k x3 bt160.1 bt160.2 true x158000 ((rd_T83 x158000 x3).f0) ((rd_T83 x158000 x3).f1)))))) else (none)) else (if (x158000.length : Int) ≤ 16 then ((spec_l6In.f k x158000).bind fun t165 => ((spec_IsForm.f k t165).bind fun t166 => (if t166 = true then ((spec_l6Out.f k x158000).bind fun t167 => ((spec_IsForm.f k t167).bind fun t168 => (some t168))) else (some false)))) else (some false))
def spec_IsCandidate.j1 : Nat → Int → Int → Bool → Bool → List (S83) → Int → Int → Option (Bool)
 | 0, _, _, _, _, _, _, _ => none
 | k + 1, x3, x5, x6, x54, x158000, x160000, x160001 => if x54 = true then (some false) else (if x160000 = 0 then (spec_IsCandidate.l0 k (wrap64 (x3 + 1)) x158000) else (if x160001 = 0 then (spec_IsCandidate.l0 k (wrap64 (x3 + 1)) x158000) else (if x160000 = x160001 then (spec_IsCandidate.l0 k (wrap64 (x3 + 1)) x158000) else (if x6 = true then (if x5 = x160001 then (spec_IsCandidate.l0 k (wrap64 (x3 + 1)) x158000) else (some false)) else (some false)))))
end
def spec_IsCandidate.f (k : Nat) (l0_0 : List (S83)) : Option (Bool) := spec_IsCandidate.l0 k 0 l0_0
theorem spec_IsCandidate.mono_l : ∀ k, (∀ y0 y1, LeO (spec_IsCandidate.l0 k y0 y1) (spec_IsCandidate.l0 (k + 1) y0 y1)) ∧ (∀ y0 y1 y2 y3 y4 y5 y6, LeO (spec_IsCandidate.j1 k y0 y1 y2 y3 y4 y5 y6) (spec_IsCandidate.j1 (k + 1) y0 y1 y2 y3 y4 y5 y6))
 | 0 => ⟨fun _ _ r h => by simp [spec_IsCandidate.l0] at h, fun _ _ _ _ _ _ _ r h => by simp [spec_IsCandidate.j1] at h⟩
 | k + 1 => by
  obtain ⟨ih0, ih1⟩ := spec_IsCandidate.mono_l k; refine ⟨?_, ?_⟩
  ·intro y0 y1
   unfold spec_IsCandidate.l0
   repeat' first
   | (with_reducible exact ih0 _ _)
   | (with_reducible exact ih1 _ _ _ _ _ _ _)
   | (with_reducible exact spec_IsForm.mono _ _)
   | (with_reducible exact spec_IsSound.mono _ _)
   | (with_reducible exact spec_l6In.mono _ _)
   | (with_reducible exact spec_l6Out.mono _ _)
   | (with_reducible exact LeO.refl _)
   | (with_reducible exact LeO.none _)
   | (with_reducible refine LeO.ite ?_ ?_)
   | (with_reducible refine LeO.bind ?_ (fun _ => ?_))
   | exact ih0 _ _
   | exact ih1 _ _ _ _ _ _ _
   | exact spec_IsForm.mono _ _
   | exact spec_IsSound.mono _ _
   | exact spec_l6In.mono _ _
   | exact spec_l6Out.mono _ _
   | exact LeO.none _
   | refine LeO.ite ?_ ?_
   | refine LeO.bind ?_ (fun _ => ?_)
  ·intro y0 y1 y2 y3 y4 y5 y6
   unfold spec_IsCandidate.j1
   repeat' first
   | (with_reducible exact ih0 _ _)
   | (with_reducible exact ih1 _ _ _ _ _ _ _)
   | (with_reducible exact spec_IsForm.mono _ _)
   | (with_reducible exact spec_IsSound.mono _ _)
   | (with_reducible exact spec_l6In.mono _ _)
   | (with_reducible exact spec_l6Out.mono _ _)
   | (with_reducible exact LeO.refl _)
   | (with_reducible exact LeO.none _)
   | (with_reducible refine LeO.ite ?_ ?_)
   | (with_reducible refine LeO.bind ?_ (fun _ => ?_))
   | exact ih0 _ _
   | exact ih1 _ _ _ _ _ _ _
   | exact spec_IsForm.mono _ _
   | exact spec_IsSound.mono _ _
   | exact spec_l6In.mono _ _
   | exact spec_l6Out.mono _ _
   | exact LeO.none _
   | refine LeO.ite ?_ ?_
   | refine LeO.bind ?_ (fun _ => ?_)
theorem spec_IsCandidate.mono : ∀ a0 k, LeO (spec_IsCandidate.f k a0) (spec_IsCandidate.f (k + 1) a0) := by
 intro a0 k
 obtain ⟨ih0, ih1⟩ := spec_IsCandidate.mono_l k
 unfold spec_IsCandidate.f
 repeat' first
   | (with_reducible exact ih0 _ _)
   | (with_reducible exact ih1 _ _ _ _ _ _ _)
   | (with_reducible exact spec_IsForm.mono _ _)
   | (with_reducible exact spec_IsSound.mono _ _)
   | (with_reducible exact spec_l6In.mono _ _)
   | (with_reducible exact spec_l6Out.mono _ _)
   | (with_reducible exact LeO.refl _)
   | (with_reducible exact LeO.none _)
   | (with_reducible refine LeO.ite ?_ ?_)
   | (with_reducible refine LeO.bind ?_ (fun _ => ?_))
   | exact ih0 _ _
   | exact ih1 _ _ _ _ _ _ _
   | exact spec_IsForm.mono _ _
   | exact spec_IsSound.mono _ _
   | exact spec_l6In.mono _ _
   | exact spec_l6Out.mono _ _
   | exact LeO.none _
   | refine LeO.ite ?_ ?_
   | refine LeO.bind ?_ (fun _ => ?_)
set_option maxHeartbeats 8000000 in
set_option maxRecDepth 100000 in
theorem spec_IsCandidate.calls (k : Nat) (A0_0 : Option Addr) (c0_0 : Nat) (l0_0 : List (S83)) (r : Bool) (w : World) (hr0_0 : Kd.C k83 w A0_0 l0_0.length l0_0) (hc0_0 : l0_0.length ≤ c0_0) (h : spec_IsCandidate.f k l0_0 = some r) :
  Calls Try.prog 42 #[.agg #[.slice A0_0 l0_0.length c0_0]] w fun e w' => e = .returned (.bool r) ∧ Below w.heap.size w w' := by
 have hu34 := Try.underlying34; have hu83 := Try.underlying83; have HR0_0 := Aside0.mk hr0_0; have HC0_0 := Aside0.mk hc0_0; clear hr0_0 hc0_0; have HB := asT (Below.refl w.heap.size w)
 have H : (spec_IsCandidate.l0 k 0 l0_0) = some r := h
 clear h; have H' := Aside0.mk H; clear H
 go_enter Try.func42, Try.ntmps42
 go_wp2_with (first | ((with_reducible refine gate_dst (N := 1) rfl ?_); refine boxT (N := 1) (cs := #[.slice A0_0 l0_0.length c0_0]) (t := 34) ?_; intro gb157 hg w2 hbox hb; have n0_ := asT (below_step (hbT HB.out) hb); have n1_ := asT (hbox); have n2_ := asT (geT hg HB.out); have n3_ := asT (geT hg HB.out); clear HB; have HB := n0_; have BK157 := n1_; have GW157 := n2_; have GE157 := n3_; clear n0_ n1_ n2_ n3_ hb hbox hg))
 go_loopg [3] k (fun kq v3 w' => ∃ (x3_1 : Int), v3 = .int .i64 x3_1 ∧ Aside0 (spec_IsCandidate.l0 kq x3_1 l0_0 = some r) ∧ Aside0 (kq ≤ k) ∧ Aside0 (w'.heap[gb157]? = some (.cells #[(.slice A0_0 l0_0.length c0_0)] 34 (0, 0))) ∧ Aside0 (Below w.heap.size w w'))
 case atStart => exact ⟨(0), rdT, H', ⟨Nat.le_refl _⟩, ⟨by (with_reducible repeat (first | refine blk_drewN ?_ _ | refine blk_drew ?_ | refine blk_alloc ?_ _)); exact BK157.out⟩, ⟨hbT HB.out⟩⟩
 case round =>
  clear H'; (try clear p2); obtain ⟨x3_1, rfl, HA, HK1, BK157, HB⟩ := hrel
  cases gk with
  | zero => exact absurd HA.out (by simp [spec_IsCandidate.l0])
  | succ k1 =>
   have H := HA.out; clear HA
   simp only [spec_IsCandidate.l0] at H
   by_cases c3 : x3_1 < (l0_0.length : Int)
   ·rw [if_pos c3] at H
    have c3b0 : decide (x3_1 < (l0_0.length : Int)) = true := decide_eq_true c3
    clear c3
    by_cases c4 : 0 ≤ x3_1
    ·rw [if_pos c4] at H
     have c4b0 : decide (0 ≤ x3_1) = true := decide_eq_true c4
     clear c4; replace H := Option.bind_eq_some_iff.mp H; obtain ⟨⟨t160, t161⟩, A50, H⟩ := H; replace H : (if ((rd_T83 l0_0 x3_1).f0) = 0 then (if ((rd_T83 l0_0 x3_1).f1) = 0 then (spec_IsCandidate.j1 k1 x3_1 t160 t161 (((rd_T83 l0_0 x3_1).f1) == 0) l0_0 ((rd_T83 l0_0 x3_1).f0) ((rd_T83 l0_0 x3_1).f1)) else ((spec_IsSound.f k1 ((rd_T83 l0_0 x3_1).f1)).bind fun t162 => (if t162 = true then (spec_IsCandidate.j1 k1 x3_1 t160 t161 (((rd_T83 l0_0 x3_1).f1) == 0) l0_0 ((rd_T83 l0_0 x3_1).f0) ((rd_T83 l0_0 x3_1).f1)) else (spec_IsCandidate.j1 k1 x3_1 t160 t161 true l0_0 ((rd_T83 l0_0 x3_1).f0) ((rd_T83 l0_0 x3_1).f1))))) else ((spec_IsSound.f k1 ((rd_T83 l0_0 x3_1).f0)).bind fun t163 => (if t163 = true then (if ((rd_T83 l0_0 x3_1).f1) = 0 then (spec_IsCandidate.j1 k1 x3_1 t160 t161 false l0_0 ((rd_T83 l0_0 x3_1).f0) ((rd_T83 l0_0 x3_1).f1)) else ((spec_IsSound.f k1 ((rd_T83 l0_0 x3_1).f1)).bind fun t164 => (if t164 = true then (spec_IsCandidate.j1 k1 x3_1 t160 t161 false l0_0 ((rd_T83 l0_0 x3_1).f0) ((rd_T83 l0_0 x3_1).f1)) else (spec_IsCandidate.j1 k1 x3_1 t160 t161 true l0_0 ((rd_T83 l0_0 x3_1).f0) ((rd_T83 l0_0 x3_1).f1))))) else (spec_IsCandidate.j1 k1 x3_1 t160 t161 true l0_0 ((rd_T83 l0_0 x3_1).f0) ((rd_T83 l0_0 x3_1).f1))))) = some r := H; have A5 := Aside0.mk A50; clear A50; have HC6 := Aside0.mk H; clear H
     have hcz7_0 : wr.cell? ⟨gb157, 0, none⟩ = some (.slice A0_0 l0_0.length c0_0) := (blk_cell BK157.out 0).trans rfl
     have hfz7_0 := blk_frozen BK157.out 0
     have p158 : 0 ≤ (x3_1 : Int) := of_decide_eq_true asmT
     have q158 : x3_1 < (l0_0.length : Int) := of_decide_eq_true asmT
     obtain ⟨ad158, e158, hx158_0, hx158_1⟩ := at_T83 HR0_0.out x3_1 p158 q158
     cases e158
     replace hx158_0 := (HB.out.cell (World.block_lt_of_cell? w _ hx158_0)).trans hx158_0; replace hx158_1 := (HB.out.cell (World.block_lt_of_cell? w _ hx158_1)).trans hx158_1; replace p158 := eq_true p158; replace q158 := eq_true q158
     go_upto_region 6 with (first | ((with_reducible refine gate_dst (N := 4) rfl ?_); refine boxT (N := 4) (cs := #[.int .u8 0, .int .u8 0]) (t := 83) ?_; intro gb159 hg w8 hbox hb; have n0_ := asT (blk_below (g := gb157) (o := .cells #[.slice (some ad158) l0_0.length c0_0] 34 (0, 0)) (bkT BK157.out) hb); have n1_ := asT (below_step (hbT HB.out) hb); have n2_ := asT (hbox); have n3_ := asT (geT hg HB.out); have n4_ := asT (geT hg HB.out); have n5_ := asT ((by rw [hg]; exact Nat.ne_of_lt (blk_lt (g := gb157) (o := .cells #[.slice (some ad158) l0_0.length c0_0] 34 (0, 0)) (bkT BK157.out)) : gb157 ≠ gb159)); have n6_ := asT ((by rw [hg]; exact Nat.ne_of_gt (blk_lt (g := gb157) (o := .cells #[.slice (some ad158) l0_0.length c0_0] 34 (0, 0)) (bkT BK157.out)) : gb159 ≠ gb157)); clear BK157 HB; have BK157 := n0_; have HB := n1_; have BK159 := n2_; have GW159 := n3_; have GE159 := n4_; have NB157_159 := n5_; have NB159_157 := n6_; clear n0_ n1_ n2_ n3_ n4_ n5_ n6_ hb hbox hg; have hnb9 := NB159_157.out; have hnc9 := NB157_159.out; have hcz10_0 : w8.cell? ⟨gb159, 0, none⟩ = some (.int .u8 0) := (blk_cell BK159.out 0).trans rfl; have hcz10_1 : w8.cell? ⟨gb159, 1, none⟩ = some (.int .u8 0) := (blk_cell BK159.out 1).trans rfl; have hfz10_0 := blk_frozen BK159.out 0; have hfz10_1 := blk_frozen BK159.out 1) | ((with_reducible refine gate_callee (f := 82) rfl ?_); refine goesL_ (some 22) rfl rfl Try.func82 (by kernel_rfl) rfl #[.int .u8 ((rd_T83 l0_0 x3_1).f0)] rfl eqT ?_; (with_reducible refine (spec_SwapVoice.calls ((rd_T83 l0_0 x3_1).f0) t160 t161 _ A5.out).mono ?_); rintro e w' ⟨rfl, ⟨nd, rfl⟩⟩; refine ⟨_, rfl, ?_⟩))
     (try simp only [Act.put, List.setIfInBounds_toArray, List.set_cons_zero, List.set_cons_succ])
     go_cut [54] (fun v54 wc => ∃ (kq : Nat) (x54_5 : Bool), v54 = .bool x54_5 ∧ Aside0 (spec_IsCandidate.j1 kq x3_1 t160 t161 x54_5 l0_0 ((rd_T83 l0_0 x3_1).f0) ((rd_T83 l0_0 x3_1).f1) = some r) ∧ Aside0 (kq ≤ k1) ∧ Aside0 (wc.heap[gb157]? = some (.cells #[(.slice (some ad158) l0_0.length c0_0)] 34 (0, 0))) ∧ Aside0 (wc.heap[gb159]? = some (.cells #[.int .u8 ((rd_T83 l0_0 x3_1).f0), .int .u8 ((rd_T83 l0_0 x3_1).f1)] 83 (0, 0))) ∧ Aside0 (Below w.heap.size w wc))
     case first =>
      have H := HC6.out; clear HC6
      by_cases c11 : ((rd_T83 l0_0 x3_1).f0) = 0
      ·rw [if_pos c11] at H
       have c11b0 : (((rd_T83 l0_0 x3_1).f0) == 0) = true := beq_iff_eq.mpr c11
       have c11b1 : (((rd_T83 l0_0 x3_1).f0) != 0) = false := bne_eq_false_iff_eq.mpr c11
       clear c11
       (first | rw [c11b0] | (simp only [i64_w, i32_w]; rw [c11b0]) | skip)
       by_cases c12 : ((rd_T83 l0_0 x3_1).f1) = 0
       ·rw [if_pos c12] at H
        have c12b0 : (((rd_T83 l0_0 x3_1).f1) == 0) = true := beq_iff_eq.mpr c12
        have c12b1 : (((rd_T83 l0_0 x3_1).f1) != 0) = false := bne_eq_false_iff_eq.mpr c12
        clear c12; have H' := Aside0.mk H; clear H; have hnb13 := NB159_157.out; have hnc13 := NB157_159.out
        have hcz14_0 : w8.cell? ⟨gb159, 0, none⟩ = some (.int .u8 0) := (blk_cell BK159.out 0).trans rfl
        have hcz14_1 : w8.cell? ⟨gb159, 1, none⟩ = some (.int .u8 0) := (blk_cell BK159.out 1).trans rfl
        have hfz14_0 := blk_frozen BK159.out 0; have hfz14_1 := blk_frozen BK159.out 1
        go_wp2
        go_meet
        case rel => exact ⟨_, ((((rd_T83 l0_0 x3_1).f1) == 0)), rdT, H', ⟨by have := HK1.out; first | omega | exact Nat.le_refl _⟩, ⟨by (with_reducible repeat (first | refine blk_drewN ?_ _ | refine blk_drew ?_ | refine blk_alloc ?_ _)); refine blk_far ?_ NB157_159.out _; (with_reducible repeat (first | refine blk_drewN ?_ _ | refine blk_drew ?_ | refine blk_alloc ?_ _)); refine blk_far ?_ NB157_159.out _; (with_reducible repeat (first | refine blk_drewN ?_ _ | refine blk_drew ?_ | refine blk_alloc ?_ _)); exact BK157.out⟩, ⟨by (with_reducible repeat (first | refine blk_drewN ?_ _ | refine blk_drew ?_ | refine blk_alloc ?_ _)); refine blk_put (cs := #[.int .u8 ((rd_T83 l0_0 x3_1).f0), .int .u8 0]) ?_ 1 _ rfl; (with_reducible repeat (first | refine blk_drewN ?_ _ | refine blk_drew ?_ | refine blk_alloc ?_ _)); refine blk_put (cs := #[.int .u8 0, .int .u8 0]) ?_ 0 _ rfl; (with_reducible repeat (first | refine blk_drewN ?_ _ | refine blk_drew ?_ | refine blk_alloc ?_ _)); exact BK159.out⟩, ⟨hbT HB.out⟩⟩
       ·rw [if_neg c12] at H
        have c12b0 : (((rd_T83 l0_0 x3_1).f1) == 0) = false := beq_eq_false_iff_ne.mpr c12
        have c12b1 : (((rd_T83 l0_0 x3_1).f1) != 0) = true := bne_iff_ne.mpr c12
        replace H := Option.bind_eq_some_iff.mp H; obtain ⟨t162, A150, H⟩ := H; replace H : (if t162 = true then (spec_IsCandidate.j1 k1 x3_1 t160 t161 (((rd_T83 l0_0 x3_1).f1) == 0) l0_0 ((rd_T83 l0_0 x3_1).f0) ((rd_T83 l0_0 x3_1).f1)) else (spec_IsCandidate.j1 k1 x3_1 t160 t161 true l0_0 ((rd_T83 l0_0 x3_1).f0) ((rd_T83 l0_0 x3_1).f1))) = some r := H; have A15 := Aside0.mk A150; clear A150
        by_cases c16 : t162 = true
        ·subst c16
         have H1 : (spec_IsCandidate.j1 k1 x3_1 t160 t161 (((rd_T83 l0_0 x3_1).f1) == 0) l0_0 ((rd_T83 l0_0 x3_1).f0) ((rd_T83 l0_0 x3_1).f1)) = some r := by rw [if_pos rfl] at H; exact H
         clear H; have H := H1; clear H1; have H' := Aside0.mk H; clear H; have hnb17 := NB159_157.out; have hnc17 := NB157_159.out
         have hcz18_0 : w8.cell? ⟨gb159, 0, none⟩ = some (.int .u8 0) := (blk_cell BK159.out 0).trans rfl
         have hcz18_1 : w8.cell? ⟨gb159, 1, none⟩ = some (.int .u8 0) := (blk_cell BK159.out 1).trans rfl
         have hfz18_0 := blk_frozen BK159.out 0; have hfz18_1 := blk_frozen BK159.out 1
         go_wp2_with (first | (go_at_call 83; (with_reducible refine (spec_IsSound.calls k1 ((rd_T83 l0_0 x3_1).f1) true _ A15.out).mono ?_); rintro e w' ⟨rfl, ⟨nd, rfl⟩⟩))
         go_meet
         case rel => exact ⟨_, ((((rd_T83 l0_0 x3_1).f1) == 0)), rdT, H', ⟨by have := HK1.out; first | omega | exact Nat.le_refl _⟩, ⟨by (with_reducible repeat (first | refine blk_drewN ?_ _ | refine blk_drew ?_ | refine blk_alloc ?_ _)); refine blk_far ?_ NB157_159.out _; (with_reducible repeat (first | refine blk_drewN ?_ _ | refine blk_drew ?_ | refine blk_alloc ?_ _)); refine blk_far ?_ NB157_159.out _; (with_reducible repeat (first | refine blk_drewN ?_ _ | refine blk_drew ?_ | refine blk_alloc ?_ _)); exact BK157.out⟩, ⟨by (with_reducible repeat (first | refine blk_drewN ?_ _ | refine blk_drew ?_ | refine blk_alloc ?_ _)); refine blk_put (cs := #[.int .u8 ((rd_T83 l0_0 x3_1).f0), .int .u8 0]) ?_ 1 _ rfl; (with_reducible repeat (first | refine blk_drewN ?_ _ | refine blk_drew ?_ | refine blk_alloc ?_ _)); refine blk_put (cs := #[.int .u8 0, .int .u8 0]) ?_ 0 _ rfl; (with_reducible repeat (first | refine blk_drewN ?_ _ | refine blk_drew ?_ | refine blk_alloc ?_ _)); exact BK159.out⟩, ⟨hbT HB.out⟩⟩
        ·replace c16 := Bool.eq_false_iff.mpr c16
         subst c16
         have H1 : (spec_IsCandidate.j1 k1 x3_1 t160 t161 true l0_0 ((rd_T83 l0_0 x3_1).f0) ((rd_T83 l0_0 x3_1).f1)) = some r := by rw [if_neg (show ¬ (false = true) by decide)] at H; exact H
         clear H; have H := H1; clear H1; have H' := Aside0.mk H; clear H; have hnb19 := NB159_157.out; have hnc19 := NB157_159.out
         have hcz20_0 : w8.cell? ⟨gb159, 0, none⟩ = some (.int .u8 0) := (blk_cell BK159.out 0).trans rfl
         have hcz20_1 : w8.cell? ⟨gb159, 1, none⟩ = some (.int .u8 0) := (blk_cell BK159.out 1).trans rfl
         have hfz20_0 := blk_frozen BK159.out 0; have hfz20_1 := blk_frozen BK159.out 1
         go_wp2_with (first | (go_at_call 83; (with_reducible refine (spec_IsSound.calls k1 ((rd_T83 l0_0 x3_1).f1) false _ A15.out).mono ?_); rintro e w' ⟨rfl, ⟨nd, rfl⟩⟩))
         go_meet
         case rel => exact ⟨_, (true), rdT, H', ⟨by have := HK1.out; first | omega | exact Nat.le_refl _⟩, ⟨by (with_reducible repeat (first | refine blk_drewN ?_ _ | refine blk_drew ?_ | refine blk_alloc ?_ _)); refine blk_far ?_ NB157_159.out _; (with_reducible repeat (first | refine blk_drewN ?_ _ | refine blk_drew ?_ | refine blk_alloc ?_ _)); refine blk_far ?_ NB157_159.out _; (with_reducible repeat (first | refine blk_drewN ?_ _ | refine blk_drew ?_ | refine blk_alloc ?_ _)); exact BK157.out⟩, ⟨by (with_reducible repeat (first | refine blk_drewN ?_ _ | refine blk_drew ?_ | refine blk_alloc ?_ _)); refine blk_put (cs := #[.int .u8 ((rd_T83 l0_0 x3_1).f0), .int .u8 0]) ?_ 1 _ rfl; (with_reducible repeat (first | refine blk_drewN ?_ _ | refine blk_drew ?_ | refine blk_alloc ?_ _)); refine blk_put (cs := #[.int .u8 0, .int .u8 0]) ?_ 0 _ rfl; (with_reducible repeat (first | refine blk_drewN ?_ _ | refine blk_drew ?_ | refine blk_alloc ?_ _)); exact BK159.out⟩, ⟨hbT HB.out⟩⟩
      ·rw [if_neg c11] at H
       have c11b0 : (((rd_T83 l0_0 x3_1).f0) == 0) = false := beq_eq_false_iff_ne.mpr c11
       have c11b1 : (((rd_T83 l0_0 x3_1).f0) != 0) = true := bne_iff_ne.mpr c11
       (first | rw [c11b0] | (simp only [i64_w, i32_w]; rw [c11b0]) | skip)
       replace H := Option.bind_eq_some_iff.mp H; obtain ⟨t163, A210, H⟩ := H; replace H : (if t163 = true then (if ((rd_T83 l0_0 x3_1).f1) = 0 then (spec_IsCandidate.j1 k1 x3_1 t160 t161 false l0_0 ((rd_T83 l0_0 x3_1).f0) ((rd_T83 l0_0 x3_1).f1)) else ((spec_IsSound.f k1 ((rd_T83 l0_0 x3_1).f1)).bind fun t164 => (if t164 = true then (spec_IsCandidate.j1 k1 x3_1 t160 t161 false l0_0 ((rd_T83 l0_0 x3_1).f0) ((rd_T83 l0_0 x3_1).f1)) else (spec_IsCandidate.j1 k1 x3_1 t160 t161 true l0_0 ((rd_T83 l0_0 x3_1).f0) ((rd_T83 l0_0 x3_1).f1))))) else (spec_IsCandidate.j1 k1 x3_1 t160 t161 true l0_0 ((rd_T83 l0_0 x3_1).f0) ((rd_T83 l0_0 x3_1).f1))) = some r := H; have A21 := Aside0.mk A210; clear A210
       by_cases c22 : t163 = true
       ·subst c22
        have H1 : (if ((rd_T83 l0_0 x3_1).f1) = 0 then (spec_IsCandidate.j1 k1 x3_1 t160 t161 false l0_0 ((rd_T83 l0_0 x3_1).f0) ((rd_T83 l0_0 x3_1).f1)) else ((spec_IsSound.f k1 ((rd_T83 l0_0 x3_1).f1)).bind fun t164 => (if t164 = true then (spec_IsCandidate.j1 k1 x3_1 t160 t161 false l0_0 ((rd_T83 l0_0 x3_1).f0) ((rd_T83 l0_0 x3_1).f1)) else (spec_IsCandidate.j1 k1 x3_1 t160 t161 true l0_0 ((rd_T83 l0_0 x3_1).f0) ((rd_T83 l0_0 x3_1).f1))))) = some r := by rw [if_pos rfl] at H; exact H
        clear H; have H := H1; clear H1
        by_cases c23 : ((rd_T83 l0_0 x3_1).f1) = 0
        ·rw [if_pos c23] at H
         have c23b0 : (((rd_T83 l0_0 x3_1).f1) == 0) = true := beq_iff_eq.mpr c23
         have c23b1 : (((rd_T83 l0_0 x3_1).f1) != 0) = false := bne_eq_false_iff_eq.mpr c23
         clear c23; have H' := Aside0.mk H; clear H; have hnb24 := NB159_157.out; have hnc24 := NB157_159.out
         have hcz25_0 : w8.cell? ⟨gb159, 0, none⟩ = some (.int .u8 0) := (blk_cell BK159.out 0).trans rfl
         have hcz25_1 : w8.cell? ⟨gb159, 1, none⟩ = some (.int .u8 0) := (blk_cell BK159.out 1).trans rfl
         have hfz25_0 := blk_frozen BK159.out 0; have hfz25_1 := blk_frozen BK159.out 1
         go_wp2_with (first | (go_at_call 83; (with_reducible refine (spec_IsSound.calls k1 ((rd_T83 l0_0 x3_1).f0) true _ A21.out).mono ?_); rintro e w' ⟨rfl, ⟨nd, rfl⟩⟩))
         go_meet
         case rel => exact ⟨_, (false), rdT, H', ⟨by have := HK1.out; first | omega | exact Nat.le_refl _⟩, ⟨by (with_reducible repeat (first | refine blk_drewN ?_ _ | refine blk_drew ?_ | refine blk_alloc ?_ _)); refine blk_far ?_ NB157_159.out _; (with_reducible repeat (first | refine blk_drewN ?_ _ | refine blk_drew ?_ | refine blk_alloc ?_ _)); refine blk_far ?_ NB157_159.out _; (with_reducible repeat (first | refine blk_drewN ?_ _ | refine blk_drew ?_ | refine blk_alloc ?_ _)); exact BK157.out⟩, ⟨by (with_reducible repeat (first | refine blk_drewN ?_ _ | refine blk_drew ?_ | refine blk_alloc ?_ _)); refine blk_put (cs := #[.int .u8 ((rd_T83 l0_0 x3_1).f0), .int .u8 0]) ?_ 1 _ rfl; (with_reducible repeat (first | refine blk_drewN ?_ _ | refine blk_drew ?_ | refine blk_alloc ?_ _)); refine blk_put (cs := #[.int .u8 0, .int .u8 0]) ?_ 0 _ rfl; (with_reducible repeat (first | refine blk_drewN ?_ _ | refine blk_drew ?_ | refine blk_alloc ?_ _)); exact BK159.out⟩, ⟨hbT HB.out⟩⟩
        ·rw [if_neg c23] at H
         have c23b0 : (((rd_T83 l0_0 x3_1).f1) == 0) = false := beq_eq_false_iff_ne.mpr c23
         have c23b1 : (((rd_T83 l0_0 x3_1).f1) != 0) = true := bne_iff_ne.mpr c23
         replace H := Option.bind_eq_some_iff.mp H; obtain ⟨t164, A260, H⟩ := H; replace H : (if t164 = true then (spec_IsCandidate.j1 k1 x3_1 t160 t161 false l0_0 ((rd_T83 l0_0 x3_1).f0) ((rd_T83 l0_0 x3_1).f1)) else (spec_IsCandidate.j1 k1 x3_1 t160 t161 true l0_0 ((rd_T83 l0_0 x3_1).f0) ((rd_T83 l0_0 x3_1).f1))) = some r := H; have A26 := Aside0.mk A260; clear A260
         by_cases c27 : t164 = true
         ·subst c27
          have H1 : (spec_IsCandidate.j1 k1 x3_1 t160 t161 false l0_0 ((rd_T83 l0_0 x3_1).f0) ((rd_T83 l0_0 x3_1).f1)) = some r := by rw [if_pos rfl] at H; exact H
          clear H; have H := H1; clear H1; have H' := Aside0.mk H; clear H; have hnb28 := NB159_157.out; have hnc28 := NB157_159.out
          have hcz29_0 : w8.cell? ⟨gb159, 0, none⟩ = some (.int .u8 0) := (blk_cell BK159.out 0).trans rfl
          have hcz29_1 : w8.cell? ⟨gb159, 1, none⟩ = some (.int .u8 0) := (blk_cell BK159.out 1).trans rfl
          have hfz29_0 := blk_frozen BK159.out 0; have hfz29_1 := blk_frozen BK159.out 1
          go_wp2_with (first | (go_at_call 83; (with_reducible refine (spec_IsSound.calls k1 ((rd_T83 l0_0 x3_1).f0) true _ A21.out).mono ?_); rintro e w' ⟨rfl, ⟨nd, rfl⟩⟩) | (go_at_call 83; (with_reducible refine (spec_IsSound.calls k1 ((rd_T83 l0_0 x3_1).f1) true _ A26.out).mono ?_); rintro e w' ⟨rfl, ⟨nd, rfl⟩⟩))
          go_meet
          case rel => exact ⟨_, (false), rdT, H', ⟨by have := HK1.out; first | omega | exact Nat.le_refl _⟩, ⟨by (with_reducible repeat (first | refine blk_drewN ?_ _ | refine blk_drew ?_ | refine blk_alloc ?_ _)); refine blk_far ?_ NB157_159.out _; (with_reducible repeat (first | refine blk_drewN ?_ _ | refine blk_drew ?_ | refine blk_alloc ?_ _)); refine blk_far ?_ NB157_159.out _; (with_reducible repeat (first | refine blk_drewN ?_ _ | refine blk_drew ?_ | refine blk_alloc ?_ _)); exact BK157.out⟩, ⟨by (with_reducible repeat (first | refine blk_drewN ?_ _ | refine blk_drew ?_ | refine blk_alloc ?_ _)); refine blk_put (cs := #[.int .u8 ((rd_T83 l0_0 x3_1).f0), .int .u8 0]) ?_ 1 _ rfl; (with_reducible repeat (first | refine blk_drewN ?_ _ | refine blk_drew ?_ | refine blk_alloc ?_ _)); refine blk_put (cs := #[.int .u8 0, .int .u8 0]) ?_ 0 _ rfl; (with_reducible repeat (first | refine blk_drewN ?_ _ | refine blk_drew ?_ | refine blk_alloc ?_ _)); exact BK159.out⟩, ⟨hbT HB.out⟩⟩
         ·replace c27 := Bool.eq_false_iff.mpr c27
          subst c27
          have H1 : (spec_IsCandidate.j1 k1 x3_1 t160 t161 true l0_0 ((rd_T83 l0_0 x3_1).f0) ((rd_T83 l0_0 x3_1).f1)) = some r := by rw [if_neg (show ¬ (false = true) by decide)] at H; exact H
          clear H; have H := H1; clear H1; have H' := Aside0.mk H; clear H; have hnb30 := NB159_157.out; have hnc30 := NB157_159.out
          have hcz31_0 : w8.cell? ⟨gb159, 0, none⟩ = some (.int .u8 0) := (blk_cell BK159.out 0).trans rfl
          have hcz31_1 : w8.cell? ⟨gb159, 1, none⟩ = some (.int .u8 0) := (blk_cell BK159.out 1).trans rfl
          have hfz31_0 := blk_frozen BK159.out 0; have hfz31_1 := blk_frozen BK159.out 1
          go_wp2_with (first | (go_at_call 83; (with_reducible refine (spec_IsSound.calls k1 ((rd_T83 l0_0 x3_1).f0) true _ A21.out).mono ?_); rintro e w' ⟨rfl, ⟨nd, rfl⟩⟩) | (go_at_call 83; (with_reducible refine (spec_IsSound.calls k1 ((rd_T83 l0_0 x3_1).f1) false _ A26.out).mono ?_); rintro e w' ⟨rfl, ⟨nd, rfl⟩⟩))
          go_meet
          case rel => exact ⟨_, (true), rdT, H', ⟨by have := HK1.out; first | omega | exact Nat.le_refl _⟩, ⟨by (with_reducible repeat (first | refine blk_drewN ?_ _ | refine blk_drew ?_ | refine blk_alloc ?_ _)); refine blk_far ?_ NB157_159.out _; (with_reducible repeat (first | refine blk_drewN ?_ _ | refine blk_drew ?_ | refine blk_alloc ?_ _)); refine blk_far ?_ NB157_159.out _; (with_reducible repeat (first | refine blk_drewN ?_ _ | refine blk_drew ?_ | refine blk_alloc ?_ _)); exact BK157.out⟩, ⟨by (with_reducible repeat (first | refine blk_drewN ?_ _ | refine blk_drew ?_ | refine blk_alloc ?_ _)); refine blk_put (cs := #[.int .u8 ((rd_T83 l0_0 x3_1).f0), .int .u8 0]) ?_ 1 _ rfl; (with_reducible repeat (first | refine blk_drewN ?_ _ | refine blk_drew ?_ | refine blk_alloc ?_ _)); refine blk_put (cs := #[.int .u8 0, .int .u8 0]) ?_ 0 _ rfl; (with_reducible repeat (first | refine blk_drewN ?_ _ | refine blk_drew ?_ | refine blk_alloc ?_ _)); exact BK159.out⟩, ⟨hbT HB.out⟩⟩
       ·replace c22 := Bool.eq_false_iff.mpr c22
        subst c22
        have H1 : (spec_IsCandidate.j1 k1 x3_1 t160 t161 true l0_0 ((rd_T83 l0_0 x3_1).f0) ((rd_T83 l0_0 x3_1).f1)) = some r := by rw [if_neg (show ¬ (false = true) by decide)] at H; exact H
        clear H; have H := H1; clear H1; have H' := Aside0.mk H; clear H; have hnb32 := NB159_157.out; have hnc32 := NB157_159.out
        have hcz33_0 : w8.cell? ⟨gb159, 0, none⟩ = some (.int .u8 0) := (blk_cell BK159.out 0).trans rfl
        have hcz33_1 : w8.cell? ⟨gb159, 1, none⟩ = some (.int .u8 0) := (blk_cell BK159.out 1).trans rfl
        have hfz33_0 := blk_frozen BK159.out 0; have hfz33_1 := blk_frozen BK159.out 1
        go_wp2_with (first | (go_at_call 83; (with_reducible refine (spec_IsSound.calls k1 ((rd_T83 l0_0 x3_1).f0) false _ A21.out).mono ?_); rintro e w' ⟨rfl, ⟨nd, rfl⟩⟩))
        go_meet
        case rel => exact ⟨_, (true), rdT, H', ⟨by have := HK1.out; first | omega | exact Nat.le_refl _⟩, ⟨by (with_reducible repeat (first | refine blk_drewN ?_ _ | refine blk_drew ?_ | refine blk_alloc ?_ _)); refine blk_far ?_ NB157_159.out _; (with_reducible repeat (first | refine blk_drewN ?_ _ | refine blk_drew ?_ | refine blk_alloc ?_ _)); refine blk_far ?_ NB157_159.out _; (with_reducible repeat (first | refine blk_drewN ?_ _ | refine blk_drew ?_ | refine blk_alloc ?_ _)); exact BK157.out⟩, ⟨by (with_reducible repeat (first | refine blk_drewN ?_ _ | refine blk_drew ?_ | refine blk_alloc ?_ _)); refine blk_put (cs := #[.int .u8 ((rd_T83 l0_0 x3_1).f0), .int .u8 0]) ?_ 1 _ rfl; (with_reducible repeat (first | refine blk_drewN ?_ _ | refine blk_drew ?_ | refine blk_alloc ?_ _)); refine blk_put (cs := #[.int .u8 0, .int .u8 0]) ?_ 0 _ rfl; (with_reducible repeat (first | refine blk_drewN ?_ _ | refine blk_drew ?_ | refine blk_alloc ?_ _)); exact BK159.out⟩, ⟨hbT HB.out⟩⟩
     case rest =>
      clear HC6; (try clear c1); (try clear p1); (try clear q1); (try clear hx1); (try clear c2); (try clear p2); (try clear c3); (try clear c3b0); (try clear c4); (try clear c4b0); (try clear c8); (try clear c9); (try clear c11); (try clear c11b0); (try clear c11b1); (try clear c12); (try clear c12b0); (try clear c12b1); (try clear c13); (try clear p15); (try clear q15); (try clear hx15); (try clear c16); (try clear c17); (try clear c19); (try clear c22); (try clear c23); (try clear c23b0); (try clear c23b1); (try clear c24); (try clear c27); (try clear c28); (try clear c30); (try clear c32); (try clear hcz10_0); (try clear hcz10_1); (try clear hcz14_0); (try clear hcz14_1); (try clear hcz18_0); (try clear hcz18_1); (try clear hcz20_0); (try clear hcz20_1); (try clear hcz25_0); (try clear hcz25_1); (try clear hcz29_0); (try clear hcz29_1); (try clear hcz31_0); (try clear hcz31_1); (try clear hcz33_0); (try clear hcz33_1); (try clear hcz7_0); (try clear hfz10_0); (try clear hfz10_1); (try clear hfz14_0); (try clear hfz14_1); (try clear hfz18_0); (try clear hfz18_1); (try clear hfz20_0); (try clear hfz20_1); (try clear hfz25_0); (try clear hfz25_1); (try clear hfz29_0); (try clear hfz29_1); (try clear hfz31_0); (try clear hfz31_1); (try clear hfz33_0); (try clear hfz33_1); (try clear hfz7_0); (try clear hx158_0); (try clear hx158_1); (try clear p158); (try clear p2); (try clear q158); obtain ⟨kq, x54_5, rfl, HA, HJ5, BK157, BK159, HB⟩ := hcut
      cases kq with
      | zero => exact absurd HA.out (by simp [spec_IsCandidate.j1])
      | succ kj5 =>
       have H := HA.out; clear HA
       simp only [spec_IsCandidate.j1] at H
       by_cases c34 : x54_5 = true
       ·subst c34
        have H1 : (some false) = some r := by rw [if_pos rfl] at H; exact H
        clear H; have H := H1; clear H1
        obtain rfl := Option.some.inj H
        go_wp2
        go_ret
        exact ⟨rlT, hbT HB.out⟩
       ·replace c34 := Bool.eq_false_iff.mpr c34
        subst c34
        have H1 : (if ((rd_T83 l0_0 x3_1).f0) = 0 then (spec_IsCandidate.l0 kj5 (wrap64 (x3_1 + 1)) l0_0) else (if ((rd_T83 l0_0 x3_1).f1) = 0 then (spec_IsCandidate.l0 kj5 (wrap64 (x3_1 + 1)) l0_0) else (if ((rd_T83 l0_0 x3_1).f0) = ((rd_T83 l0_0 x3_1).f1) then (spec_IsCandidate.l0 kj5 (wrap64 (x3_1 + 1)) l0_0) else (if t161 = true then (if t160 = ((rd_T83 l0_0 x3_1).f1) then (spec_IsCandidate.l0 kj5 (wrap64 (x3_1 + 1)) l0_0) else (some false)) else (some false))))) = some r := by rw [if_neg (show ¬ (false = true) by decide)] at H; exact H
        clear H; have H := H1; clear H1
        by_cases c35 : ((rd_T83 l0_0 x3_1).f0) = 0
        ·rw [if_pos c35] at H
         have c35b0 : (((rd_T83 l0_0 x3_1).f0) == 0) = true := beq_iff_eq.mpr c35
         have c35b1 : (((rd_T83 l0_0 x3_1).f0) != 0) = false := bne_eq_false_iff_eq.mpr c35
         clear c35; have H' := Aside0.mk H; clear H; have hnb36 := NB159_157.out; have hnc36 := NB157_159.out
         have hcz37_0 : wc.cell? ⟨gb159, 0, none⟩ = some (.int .u8 ((rd_T83 l0_0 x3_1).f0)) := (blk_cell BK159.out 0).trans rfl
         have hcz37_1 : wc.cell? ⟨gb159, 1, none⟩ = some (.int .u8 ((rd_T83 l0_0 x3_1).f1)) := (blk_cell BK159.out 1).trans rfl
         have hfz37_0 := blk_frozen BK159.out 0; have hfz37_1 := blk_frozen BK159.out 1
         go_wp2
         go_roundg kj5
         case measure => have := HK1.out; have := HJ5.out; omega
         case rel => exact ⟨(wrap64 (x3_1 + 1)), rdT, H', ⟨by have := HK1.out; have := HJ5.out; omega⟩, ⟨by (with_reducible repeat (first | refine blk_drewN ?_ _ | refine blk_drew ?_ | refine blk_alloc ?_ _)); exact BK157.out⟩, ⟨hbT HB.out⟩⟩
        ·rw [if_neg c35] at H
         have c35b0 : (((rd_T83 l0_0 x3_1).f0) == 0) = false := beq_eq_false_iff_ne.mpr c35
         have c35b1 : (((rd_T83 l0_0 x3_1).f0) != 0) = true := bne_iff_ne.mpr c35
         by_cases c38 : ((rd_T83 l0_0 x3_1).f1) = 0
         ·rw [if_pos c38] at H
          have c38b0 : (((rd_T83 l0_0 x3_1).f1) == 0) = true := beq_iff_eq.mpr c38
          have c38b1 : (((rd_T83 l0_0 x3_1).f1) != 0) = false := bne_eq_false_iff_eq.mpr c38
          clear c38; have H' := Aside0.mk H; clear H; have hnb39 := NB159_157.out; have hnc39 := NB157_159.out
          have hcz40_0 : wc.cell? ⟨gb159, 0, none⟩ = some (.int .u8 ((rd_T83 l0_0 x3_1).f0)) := (blk_cell BK159.out 0).trans rfl
          have hcz40_1 : wc.cell? ⟨gb159, 1, none⟩ = some (.int .u8 ((rd_T83 l0_0 x3_1).f1)) := (blk_cell BK159.out 1).trans rfl
          have hfz40_0 := blk_frozen BK159.out 0; have hfz40_1 := blk_frozen BK159.out 1
          go_wp2
          go_roundg kj5
          case measure => have := HK1.out; have := HJ5.out; omega
          case rel => exact ⟨(wrap64 (x3_1 + 1)), rdT, H', ⟨by have := HK1.out; have := HJ5.out; omega⟩, ⟨by (with_reducible repeat (first | refine blk_drewN ?_ _ | refine blk_drew ?_ | refine blk_alloc ?_ _)); exact BK157.out⟩, ⟨hbT HB.out⟩⟩
         ·rw [if_neg c38] at H
          have c38b0 : (((rd_T83 l0_0 x3_1).f1) == 0) = false := beq_eq_false_iff_ne.mpr c38
          have c38b1 : (((rd_T83 l0_0 x3_1).f1) != 0) = true := bne_iff_ne.mpr c38
          by_cases c41 : ((rd_T83 l0_0 x3_1).f0) = ((rd_T83 l0_0 x3_1).f1)
          ·rw [if_pos c41] at H
           have c41b0 : (((rd_T83 l0_0 x3_1).f0) == ((rd_T83 l0_0 x3_1).f1)) = true := beq_iff_eq.mpr c41
           have c41b1 : (((rd_T83 l0_0 x3_1).f0) != ((rd_T83 l0_0 x3_1).f1)) = false := bne_eq_false_iff_eq.mpr c41
           clear c41; have H' := Aside0.mk H; clear H; have hnb42 := NB159_157.out; have hnc42 := NB157_159.out
           have hcz43_0 : wc.cell? ⟨gb159, 0, none⟩ = some (.int .u8 ((rd_T83 l0_0 x3_1).f0)) := (blk_cell BK159.out 0).trans rfl
           have hcz43_1 : wc.cell? ⟨gb159, 1, none⟩ = some (.int .u8 ((rd_T83 l0_0 x3_1).f1)) := (blk_cell BK159.out 1).trans rfl
           have hfz43_0 := blk_frozen BK159.out 0; have hfz43_1 := blk_frozen BK159.out 1
           go_wp2
           go_roundg kj5
           case measure => have := HK1.out; have := HJ5.out; omega
           case rel => exact ⟨(wrap64 (x3_1 + 1)), rdT, H', ⟨by have := HK1.out; have := HJ5.out; omega⟩, ⟨by (with_reducible repeat (first | refine blk_drewN ?_ _ | refine blk_drew ?_ | refine blk_alloc ?_ _)); exact BK157.out⟩, ⟨hbT HB.out⟩⟩
          ·rw [if_neg c41] at H
           have c41b0 : (((rd_T83 l0_0 x3_1).f0) == ((rd_T83 l0_0 x3_1).f1)) = false := beq_eq_false_iff_ne.mpr c41
           have c41b1 : (((rd_T83 l0_0 x3_1).f0) != ((rd_T83 l0_0 x3_1).f1)) = true := bne_iff_ne.mpr c41
           by_cases c44 : t161 = true
           ·subst c44
            have H1 : (if t160 = ((rd_T83 l0_0 x3_1).f1) then (spec_IsCandidate.l0 kj5 (wrap64 (x3_1 + 1)) l0_0) else (some false)) = some r := by rw [if_pos rfl] at H; exact H
            clear H; have H := H1; clear H1
            by_cases c45 : t160 = ((rd_T83 l0_0 x3_1).f1)
            ·rw [if_pos c45] at H
             have c45b0 : (t160 == ((rd_T83 l0_0 x3_1).f1)) = true := beq_iff_eq.mpr c45
             have c45b1 : (t160 != ((rd_T83 l0_0 x3_1).f1)) = false := bne_eq_false_iff_eq.mpr c45
             clear c45; have H' := Aside0.mk H; clear H; have hnb46 := NB159_157.out; have hnc46 := NB157_159.out
             have hcz47_0 : wc.cell? ⟨gb159, 0, none⟩ = some (.int .u8 ((rd_T83 l0_0 x3_1).f0)) := (blk_cell BK159.out 0).trans rfl
             have hcz47_1 : wc.cell? ⟨gb159, 1, none⟩ = some (.int .u8 ((rd_T83 l0_0 x3_1).f1)) := (blk_cell BK159.out 1).trans rfl
             have hfz47_0 := blk_frozen BK159.out 0; have hfz47_1 := blk_frozen BK159.out 1
             go_wp2
             go_roundg kj5
             case measure => have := HK1.out; have := HJ5.out; omega
             case rel => exact ⟨(wrap64 (x3_1 + 1)), rdT, H', ⟨by have := HK1.out; have := HJ5.out; omega⟩, ⟨by (with_reducible repeat (first | refine blk_drewN ?_ _ | refine blk_drew ?_ | refine blk_alloc ?_ _)); exact BK157.out⟩, ⟨hbT HB.out⟩⟩
            ·rw [if_neg c45] at H
             have c45b0 : (t160 == ((rd_T83 l0_0 x3_1).f1)) = false := beq_eq_false_iff_ne.mpr c45
             have c45b1 : (t160 != ((rd_T83 l0_0 x3_1).f1)) = true := bne_iff_ne.mpr c45
             obtain rfl := Option.some.inj H
             have hnb48 := NB159_157.out; have hnc48 := NB157_159.out
             have hcz49_0 : wc.cell? ⟨gb159, 0, none⟩ = some (.int .u8 ((rd_T83 l0_0 x3_1).f0)) := (blk_cell BK159.out 0).trans rfl
             have hcz49_1 : wc.cell? ⟨gb159, 1, none⟩ = some (.int .u8 ((rd_T83 l0_0 x3_1).f1)) := (blk_cell BK159.out 1).trans rfl
             have hfz49_0 := blk_frozen BK159.out 0; have hfz49_1 := blk_frozen BK159.out 1
             go_wp2
             go_ret
             exact ⟨rlT, hbT HB.out⟩
           ·replace c44 := Bool.eq_false_iff.mpr c44
            subst c44
            have H1 : (some false) = some r := by rw [if_neg (show ¬ (false = true) by decide)] at H; exact H
            clear H; have H := H1; clear H1
            obtain rfl := Option.some.inj H
            have hnb50 := NB159_157.out; have hnc50 := NB157_159.out
            have hcz51_0 : wc.cell? ⟨gb159, 0, none⟩ = some (.int .u8 ((rd_T83 l0_0 x3_1).f0)) := (blk_cell BK159.out 0).trans rfl
            have hcz51_1 : wc.cell? ⟨gb159, 1, none⟩ = some (.int .u8 ((rd_T83 l0_0 x3_1).f1)) := (blk_cell BK159.out 1).trans rfl
            have hfz51_0 := blk_frozen BK159.out 0; have hfz51_1 := blk_frozen BK159.out 1
            go_wp2
            go_ret
            exact ⟨rlT, hbT HB.out⟩
    ·rw [if_neg c4] at H
     exact absurd H (by simp)
   ·rw [if_neg c3] at H
    have c3b0 : decide (x3_1 < (l0_0.length : Int)) = false := decide_eq_false c3
    clear c3
    by_cases c52 : (l0_0.length : Int) ≤ 16
    ·rw [if_pos c52] at H
     have c52b0 : decide ((l0_0.length : Int) ≤ 16) = true := decide_eq_true c52
     have c52b1 : decide (l0_0.length ≤ 16) = true := decide_eq_true (by omega)
     clear c52; replace H := Option.bind_eq_some_iff.mp H; obtain ⟨t165, A530, H⟩ := H; replace H : ((spec_IsForm.f k1 t165).bind fun t166 => (if t166 = true then ((spec_l6Out.f k1 l0_0).bind fun t167 => ((spec_IsForm.f k1 t167).bind fun t168 => (some t168))) else (some false))) = some r := H; have A53 := Aside0.mk A530; clear A530; replace H := Option.bind_eq_some_iff.mp H; obtain ⟨t166, A540, H⟩ := H; replace H : (if t166 = true then ((spec_l6Out.f k1 l0_0).bind fun t167 => ((spec_IsForm.f k1 t167).bind fun t168 => (some t168))) else (some false)) = some r := H; have A54 := Aside0.mk A540; clear A540
     by_cases c55 : t166 = true
     ·subst c55
      have H1 : ((spec_l6Out.f k1 l0_0).bind fun t167 => ((spec_IsForm.f k1 t167).bind fun t168 => (some t168))) = some r := by rw [if_pos rfl] at H; exact H
      clear H; have H := H1; clear H1; replace H := Option.bind_eq_some_iff.mp H; obtain ⟨t167, A560, H⟩ := H; replace H : ((spec_IsForm.f k1 t167).bind fun t168 => (some t168)) = some r := H; have A56 := Aside0.mk A560; clear A560; replace H := Option.bind_eq_some_iff.mp H; obtain ⟨t168, A570, H⟩ := H; replace H : (some t168) = some r := H; have A57 := Aside0.mk A570; clear A570
      obtain rfl := Option.some.inj H
      have hcz58_0 : wr.cell? ⟨gb157, 0, none⟩ = some (.slice A0_0 l0_0.length c0_0) := (blk_cell BK157.out 0).trans rfl
      have hfz58_0 := blk_frozen BK157.out 0
      go_wp2_with (first | (go_at_call 85; (with_reducible refine (spec_l6In.calls k1 _ _ l0_0 t165 _ ?side1 ?side2 A53.out).mono ?_); (case side1 => exact crT HR0_0.out HB.out); (case side2 => exact HC0_0.out); rintro e w59 ⟨rfl, hb⟩; have n0_ := asT (blk_below (bkT BK157.out) hb); have n1_ := asT (below_step (hbT HB.out) hb); clear BK157 HB; have BK157 := n0_; have HB := n1_; clear n0_ n1_; (try clear hb); (try clear hb2); (try clear hk); (try clear hi)) | (go_at_call 84; (with_reducible refine (spec_IsForm.calls k1 t165 true _ A54.out).mono ?_); rintro e w' ⟨rfl, ⟨nd, rfl⟩⟩; have hcz60_0 : w59.cell? ⟨gb157, 0, none⟩ = some (.slice A0_0 l0_0.length c0_0) := (blk_cell BK157.out 0).trans rfl; have hfz60_0 := blk_frozen BK157.out 0) | (go_at_call 86; (with_reducible refine (spec_l6Out.calls k1 _ _ l0_0 t167 _ ?side1 ?side2 A56.out).mono ?_); (case side1 => exact crT HR0_0.out (hbT HB.out)); (case side2 => exact HC0_0.out); rintro e w61 ⟨rfl, hb⟩; have n0_ := asT (blk_below (bkT BK157.out) hb); have n1_ := asT (below_step (hbT HB.out) hb); clear BK157 HB; have BK157 := n0_; have HB := n1_; clear n0_ n1_; (try clear hb); (try clear hb2); (try clear hk); (try clear hi)) | (go_at_call 84; (with_reducible refine (spec_IsForm.calls k1 t167 t168 _ A57.out).mono ?_); rintro e w' ⟨rfl, ⟨nd, rfl⟩⟩))
      go_ret
      exact ⟨rlT, hbT HB.out⟩
     ·replace c55 := Bool.eq_false_iff.mpr c55
      subst c55
      have H1 : (some false) = some r := by rw [if_neg (show ¬ (false = true) by decide)] at H; exact H
      clear H; have H := H1; clear H1
      obtain rfl := Option.some.inj H
      have hcz62_0 : wr.cell? ⟨gb157, 0, none⟩ = some (.slice A0_0 l0_0.length c0_0) := (blk_cell BK157.out 0).trans rfl
      have hfz62_0 := blk_frozen BK157.out 0
      go_wp2_with (first | (go_at_call 85; (with_reducible refine (spec_l6In.calls k1 _ _ l0_0 t165 _ ?side1 ?side2 A53.out).mono ?_); (case side1 => exact crT HR0_0.out HB.out); (case side2 => exact HC0_0.out); rintro e w63 ⟨rfl, hb⟩; have n0_ := asT (blk_below (bkT BK157.out) hb); have n1_ := asT (below_step (hbT HB.out) hb); clear BK157 HB; have BK157 := n0_; have HB := n1_; clear n0_ n1_; (try clear hb); (try clear hb2); (try clear hk); (try clear hi)) | (go_at_call 84; (with_reducible refine (spec_IsForm.calls k1 t165 false _ A54.out).mono ?_); rintro e w' ⟨rfl, ⟨nd, rfl⟩⟩))
      go_ret
      exact ⟨rlT, hbT HB.out⟩
    ·rw [if_neg c52] at H
     have c52b0 : decide ((l0_0.length : Int) ≤ 16) = false := decide_eq_false c52
     have c52b1 : decide (l0_0.length ≤ 16) = false := decide_eq_false (by omega)
     clear c52
     obtain rfl := Option.some.inj H
     have hcz64_0 : wr.cell? ⟨gb157, 0, none⟩ = some (.slice A0_0 l0_0.length c0_0) := (blk_cell BK157.out 0).trans rfl
     have hfz64_0 := blk_frozen BK157.out 0
     go_wp2
     go_ret
     exact ⟨rlT, hbT HB.out⟩

/-! ### spec_OutputOf: function 43 -/
def spec_OutputOf.f (k : Nat) (l0_0 : List (S83)) : Option (ByteArray) := (spec_IsCandidate.f k l0_0).bind fun t170 => (if t170 = true then ((spec_l6Out.f k l0_0).bind fun t171 => (some t171)) else (some (⟨#[]⟩ : ByteArray)))
theorem spec_OutputOf.mono : ∀ a0 k, LeO (spec_OutputOf.f k a0) (spec_OutputOf.f (k + 1) a0) := by
 intro a0 k
 unfold spec_OutputOf.f
 repeat' first
   | (with_reducible exact spec_IsCandidate.mono _ _)
   | (with_reducible exact spec_l6Out.mono _ _)
   | (with_reducible exact LeO.refl _)
   | (with_reducible exact LeO.none _)
   | (with_reducible refine LeO.ite ?_ ?_)
   | (with_reducible refine LeO.bind ?_ (fun _ => ?_))
   | exact spec_IsCandidate.mono _ _
   | exact spec_l6Out.mono _ _
   | exact LeO.none _
   | refine LeO.ite ?_ ?_
   | refine LeO.bind ?_ (fun _ => ?_)
set_option maxHeartbeats 8000000 in
set_option maxRecDepth 100000 in
theorem spec_OutputOf.calls (k : Nat) (A0_0 : Option Addr) (c0_0 : Nat) (l0_0 : List (S83)) (r : ByteArray) (w : World) (hr0_0 : Kd.C k83 w A0_0 l0_0.length l0_0) (hc0_0 : l0_0.length ≤ c0_0) (h : spec_OutputOf.f k l0_0 = some r) :
  Calls Try.prog 43 #[.agg #[.slice A0_0 l0_0.length c0_0]] w fun e w' => e = .returned (.string r) ∧ Below w.heap.size w w' := by
 have hu34 := Try.underlying34; have HR0_0 := Aside0.mk hr0_0; have HC0_0 := Aside0.mk hc0_0; clear hr0_0 hc0_0; have HB := asT (Below.refl w.heap.size w)
 have H : ((spec_IsCandidate.f k l0_0).bind fun t170 => (if t170 = true then ((spec_l6Out.f k l0_0).bind fun t171 => (some t171)) else (some (⟨#[]⟩ : ByteArray)))) = some r := h
 clear h; replace H := Option.bind_eq_some_iff.mp H; obtain ⟨t170, A20, H⟩ := H; replace H : (if t170 = true then ((spec_l6Out.f k l0_0).bind fun t171 => (some t171)) else (some (⟨#[]⟩ : ByteArray))) = some r := H; have A2 := Aside0.mk A20; clear A20
 by_cases c3 : t170 = true
 ·subst c3
  have H1 : ((spec_l6Out.f k l0_0).bind fun t171 => (some t171)) = some r := by rw [if_pos rfl] at H; exact H
  clear H; have H := H1; clear H1; replace H := Option.bind_eq_some_iff.mp H; obtain ⟨t171, A40, H⟩ := H; replace H : (some t171) = some r := H; have A4 := Aside0.mk A40; clear A40
  obtain rfl := Option.some.inj H
  go_enter Try.func43, Try.ntmps43
  go_wp2_with (first | ((with_reducible refine gate_dst (N := 1) rfl ?_); refine boxT (N := 1) (cs := #[.slice A0_0 l0_0.length c0_0]) (t := 34) ?_; intro gb169 hg w5 hbox hb; have n0_ := asT (below_step (hbT HB.out) hb); have n1_ := asT (hbox); have n2_ := asT (geT hg HB.out); have n3_ := asT (geT hg HB.out); clear HB; have HB := n0_; have BK169 := n1_; have GW169 := n2_; have GE169 := n3_; clear n0_ n1_ n2_ n3_ hb hbox hg; have hcz6_0 : w5.cell? ⟨gb169, 0, none⟩ = some (.slice A0_0 l0_0.length c0_0) := (blk_cell BK169.out 0).trans rfl; have hfz6_0 := blk_frozen BK169.out 0) | ((with_reducible refine gate_callee (f := 42) rfl ?_); refine goesL_ (some 4) rfl rfl Try.func42 (by kernel_rfl) rfl #[.agg #[.slice A0_0 l0_0.length c0_0]] rfl eqT ?_; (with_reducible refine (spec_IsCandidate.calls k _ _ l0_0 true _ ?side1 ?side2 A2.out).mono ?_); (case side1 => exact crT HR0_0.out HB.out); (case side2 => exact HC0_0.out); rintro e w7 ⟨rfl, hb⟩; refine ⟨_, rfl, ?_⟩; have n0_ := asT (blk_below (bkT BK169.out) hb); have n1_ := asT (below_step (hbT HB.out) hb); clear BK169 HB; have BK169 := n0_; have HB := n1_; clear n0_ n1_; (try clear hb); (try clear hb2); (try clear hk); (try clear hi); have hcz8_0 : w7.cell? ⟨gb169, 0, none⟩ = some (.slice A0_0 l0_0.length c0_0) := (blk_cell BK169.out 0).trans rfl; have hfz8_0 := blk_frozen BK169.out 0) | ((with_reducible refine gate_callee (f := 86) rfl ?_); refine goesL_ (some 7) rfl rfl Try.func86 (by kernel_rfl) rfl #[.agg #[.slice A0_0 l0_0.length c0_0]] rfl eqT ?_; (with_reducible refine (spec_l6Out.calls k _ _ l0_0 t171 _ ?side1 ?side2 A4.out).mono ?_); (case side1 => exact crT HR0_0.out HB.out); (case side2 => exact HC0_0.out); rintro e w9 ⟨rfl, hb⟩; refine ⟨_, rfl, ?_⟩; have n0_ := asT (blk_below (bkT BK169.out) hb); have n1_ := asT (below_step (hbT HB.out) hb); clear BK169 HB; have BK169 := n0_; have HB := n1_; clear n0_ n1_; (try clear hb); (try clear hb2); (try clear hk); (try clear hi)))
  go_ret
  exact ⟨rlT, hbT HB.out⟩
 ·replace c3 := Bool.eq_false_iff.mpr c3
  subst c3
  have H1 : (some (⟨#[]⟩ : ByteArray)) = some r := by rw [if_neg (show ¬ (false = true) by decide)] at H; exact H
  clear H; have H := H1; clear H1
  obtain rfl := Option.some.inj H
  go_enter Try.func43, Try.ntmps43
  go_wp2_with (first | ((with_reducible refine gate_dst (N := 1) rfl ?_); refine boxT (N := 1) (cs := #[.slice A0_0 l0_0.length c0_0]) (t := 34) ?_; intro gb169 hg w10 hbox hb; have n0_ := asT (below_step (hbT HB.out) hb); have n1_ := asT (hbox); have n2_ := asT (geT hg HB.out); have n3_ := asT (geT hg HB.out); clear HB; have HB := n0_; have BK169 := n1_; have GW169 := n2_; have GE169 := n3_; clear n0_ n1_ n2_ n3_ hb hbox hg; have hcz11_0 : w10.cell? ⟨gb169, 0, none⟩ = some (.slice A0_0 l0_0.length c0_0) := (blk_cell BK169.out 0).trans rfl; have hfz11_0 := blk_frozen BK169.out 0) | ((with_reducible refine gate_callee (f := 42) rfl ?_); refine goesL_ (some 4) rfl rfl Try.func42 (by kernel_rfl) rfl #[.agg #[.slice A0_0 l0_0.length c0_0]] rfl eqT ?_; (with_reducible refine (spec_IsCandidate.calls k _ _ l0_0 false _ ?side1 ?side2 A2.out).mono ?_); (case side1 => exact crT HR0_0.out HB.out); (case side2 => exact HC0_0.out); rintro e w12 ⟨rfl, hb⟩; refine ⟨_, rfl, ?_⟩; have n0_ := asT (blk_below (bkT BK169.out) hb); have n1_ := asT (below_step (hbT HB.out) hb); clear BK169 HB; have BK169 := n0_; have HB := n1_; clear n0_ n1_; (try clear hb); (try clear hb2); (try clear hk); (try clear hi)))
  go_ret
  exact ⟨rlT, hbT HB.out⟩

/-! ### spec_HasFeature: function 89 -/
def spec_HasFeature.f (a0 : Int) (a1 : Int) : Option (Bool) := if a1 = 0 then (if a0 = 97 then (some true) else (some (a0 == 105))) else (if a1 = 1 then (if a0 = 98 then (some true) else (if a0 = 100 then (some true) else (if a0 = 110 then (some true) else (if a0 = 97 then (some true) else (some (a0 == 105)))))) else (if a1 = 2 then (some (a0 == 110)) else (if a1 = 3 then (if a0 = 112 then (some true) else (some (a0 == 98))) else (if a1 = 4 then (some (a0 == 105)) else (some false)))))
set_option maxHeartbeats 8000000 in
set_option maxRecDepth 100000 in
theorem spec_HasFeature.calls (a0 : Int) (a1 : Int) (r : Bool) (w : World) (h : spec_HasFeature.f a0 a1 = some r) :
  Calls Try.prog 89 #[.int .u8 a0, .int .i64 a1] w fun e w' => e = .returned (.bool r) ∧ Drawn0 w w' := by
 have H : (if a1 = 0 then (if a0 = 97 then (some true) else (some (a0 == 105))) else (if a1 = 1 then (if a0 = 98 then (some true) else (if a0 = 100 then (some true) else (if a0 = 110 then (some true) else (if a0 = 97 then (some true) else (some (a0 == 105)))))) else (if a1 = 2 then (some (a0 == 110)) else (if a1 = 3 then (if a0 = 112 then (some true) else (some (a0 == 98))) else (if a1 = 4 then (some (a0 == 105)) else (some false)))))) = some r := h
 clear h
 by_cases c3 : a1 = 0
 ·rw [if_pos c3] at H
  have c3b0 : (a1 == 0) = true := beq_iff_eq.mpr c3
  have c3b1 : (a1 != 0) = false := bne_eq_false_iff_eq.mpr c3
  clear c3
  by_cases c4 : a0 = 97
  ·rw [if_pos c4] at H
   have c4b0 : (a0 == 97) = true := beq_iff_eq.mpr c4
   have c4b1 : (a0 != 97) = false := bne_eq_false_iff_eq.mpr c4
   clear c4
   obtain rfl := Option.some.inj H
   go_enter Try.func89, Try.ntmps89
   go_wp2
   go_ret
   exact ⟨rdT, drT⟩
  ·rw [if_neg c4] at H
   have c4b0 : (a0 == 97) = false := beq_eq_false_iff_ne.mpr c4
   have c4b1 : (a0 != 97) = true := bne_iff_ne.mpr c4
   obtain rfl := Option.some.inj H
   go_enter Try.func89, Try.ntmps89
   go_wp2
   go_ret
   exact ⟨rdT, drT⟩
 ·rw [if_neg c3] at H
  have c3b0 : (a1 == 0) = false := beq_eq_false_iff_ne.mpr c3
  have c3b1 : (a1 != 0) = true := bne_iff_ne.mpr c3
  by_cases c5 : a1 = 1
  ·rw [if_pos c5] at H
   have c5b0 : (a1 == 1) = true := beq_iff_eq.mpr c5
   have c5b1 : (a1 != 1) = false := bne_eq_false_iff_eq.mpr c5
   clear c5
   by_cases c6 : a0 = 98
   ·rw [if_pos c6] at H
    have c6b0 : (a0 == 98) = true := beq_iff_eq.mpr c6
    have c6b1 : (a0 != 98) = false := bne_eq_false_iff_eq.mpr c6
    clear c6
    obtain rfl := Option.some.inj H
    go_enter Try.func89, Try.ntmps89
    go_wp2
    go_ret
    exact ⟨rdT, drT⟩
   ·rw [if_neg c6] at H
    have c6b0 : (a0 == 98) = false := beq_eq_false_iff_ne.mpr c6
    have c6b1 : (a0 != 98) = true := bne_iff_ne.mpr c6
    by_cases c7 : a0 = 100
    ·rw [if_pos c7] at H
     have c7b0 : (a0 == 100) = true := beq_iff_eq.mpr c7
     have c7b1 : (a0 != 100) = false := bne_eq_false_iff_eq.mpr c7
     clear c7
     obtain rfl := Option.some.inj H
     go_enter Try.func89, Try.ntmps89
     go_wp2
     go_ret
     exact ⟨rdT, drT⟩
    ·rw [if_neg c7] at H
     have c7b0 : (a0 == 100) = false := beq_eq_false_iff_ne.mpr c7
     have c7b1 : (a0 != 100) = true := bne_iff_ne.mpr c7
     by_cases c8 : a0 = 110
     ·rw [if_pos c8] at H
      have c8b0 : (a0 == 110) = true := beq_iff_eq.mpr c8
      have c8b1 : (a0 != 110) = false := bne_eq_false_iff_eq.mpr c8
      clear c8
      obtain rfl := Option.some.inj H
      go_enter Try.func89, Try.ntmps89
      go_wp2
      go_ret
      exact ⟨rdT, drT⟩
     ·rw [if_neg c8] at H
      have c8b0 : (a0 == 110) = false := beq_eq_false_iff_ne.mpr c8
      have c8b1 : (a0 != 110) = true := bne_iff_ne.mpr c8
      by_cases c9 : a0 = 97
      ·rw [if_pos c9] at H
       have c9b0 : (a0 == 97) = true := beq_iff_eq.mpr c9
       have c9b1 : (a0 != 97) = false := bne_eq_false_iff_eq.mpr c9
       clear c9
       obtain rfl := Option.some.inj H
       go_enter Try.func89, Try.ntmps89
       go_wp2
       go_ret
       exact ⟨rdT, drT⟩
      ·rw [if_neg c9] at H
       have c9b0 : (a0 == 97) = false := beq_eq_false_iff_ne.mpr c9
       have c9b1 : (a0 != 97) = true := bne_iff_ne.mpr c9
       obtain rfl := Option.some.inj H
       go_enter Try.func89, Try.ntmps89
       go_wp2
       go_ret
       exact ⟨rdT, drT⟩
  ·rw [if_neg c5] at H
   have c5b0 : (a1 == 1) = false := beq_eq_false_iff_ne.mpr c5
   have c5b1 : (a1 != 1) = true := bne_iff_ne.mpr c5
   by_cases c10 : a1 = 2
   ·rw [if_pos c10] at H
    have c10b0 : (a1 == 2) = true := beq_iff_eq.mpr c10
    have c10b1 : (a1 != 2) = false := bne_eq_false_iff_eq.mpr c10
    clear c10
    obtain rfl := Option.some.inj H
    go_enter Try.func89, Try.ntmps89
    go_wp2
    go_ret
    exact ⟨rdT, drT⟩
   ·rw [if_neg c10] at H
    have c10b0 : (a1 == 2) = false := beq_eq_false_iff_ne.mpr c10
    have c10b1 : (a1 != 2) = true := bne_iff_ne.mpr c10
    by_cases c11 : a1 = 3
    ·rw [if_pos c11] at H
     have c11b0 : (a1 == 3) = true := beq_iff_eq.mpr c11
     have c11b1 : (a1 != 3) = false := bne_eq_false_iff_eq.mpr c11
     clear c11
     by_cases c12 : a0 = 112
     ·rw [if_pos c12] at H
      have c12b0 : (a0 == 112) = true := beq_iff_eq.mpr c12
      have c12b1 : (a0 != 112) = false := bne_eq_false_iff_eq.mpr c12
      clear c12
      obtain rfl := Option.some.inj H
      go_enter Try.func89, Try.ntmps89
      go_wp2
      go_ret
      exact ⟨rdT, drT⟩
     ·rw [if_neg c12] at H
      have c12b0 : (a0 == 112) = false := beq_eq_false_iff_ne.mpr c12
      have c12b1 : (a0 != 112) = true := bne_iff_ne.mpr c12
      obtain rfl := Option.some.inj H
      go_enter Try.func89, Try.ntmps89
      go_wp2
      go_ret
      exact ⟨rdT, drT⟩
    ·rw [if_neg c11] at H
     have c11b0 : (a1 == 3) = false := beq_eq_false_iff_ne.mpr c11
     have c11b1 : (a1 != 3) = true := bne_iff_ne.mpr c11
     by_cases c13 : a1 = 4
     ·rw [if_pos c13] at H
      have c13b0 : (a1 == 4) = true := beq_iff_eq.mpr c13
      have c13b1 : (a1 != 4) = false := bne_eq_false_iff_eq.mpr c13
      clear c13
      obtain rfl := Option.some.inj H
      go_enter Try.func89, Try.ntmps89
      go_wp2
      go_ret
      exact ⟨rdT, drT⟩
     ·rw [if_neg c13] at H
      have c13b0 : (a1 == 4) = false := beq_eq_false_iff_ne.mpr c13
      have c13b1 : (a1 != 4) = true := bne_iff_ne.mpr c13
      obtain rfl := Option.some.inj H
      go_enter Try.func89, Try.ntmps89
      go_wp2
      go_ret
      exact ⟨rdT, drT⟩

/-! ### spec_IsVowelAt: function 87 -/
def spec_IsVowelAt.f (a0 : ByteArray) (a1 : Int) : Option (Bool) := if a1 ≥ 0 then (if a1 < (a0.size : Int) then (if 0 ≤ a1 then ((spec_HasFeature.f (bt a0 a1) 0).bind fun t172 => (some t172)) else (none)) else (some false)) else (some false)
set_option maxHeartbeats 8000000 in
set_option maxRecDepth 100000 in
theorem spec_IsVowelAt.calls (a0 : ByteArray) (a1 : Int) (r : Bool) (w : World) (h : spec_IsVowelAt.f a0 a1 = some r) :
  Calls Try.prog 87 #[.string a0, .int .i64 a1] w fun e w' => e = .returned (.bool r) ∧ Drawn0 w w' := by
 have H : (if a1 ≥ 0 then (if a1 < (a0.size : Int) then (if 0 ≤ a1 then ((spec_HasFeature.f (bt a0 a1) 0).bind fun t172 => (some t172)) else (none)) else (some false)) else (some false)) = some r := h
 clear h
 by_cases c3 : a1 ≥ 0
 ·rw [if_pos c3] at H
  have c3b0 : decide (0 ≤ a1) = true := decide_eq_true c3
  clear c3
  by_cases c4 : a1 < (a0.size : Int)
  ·rw [if_pos c4] at H
   have c4b0 : decide (a1 < (a0.size : Int)) = true := decide_eq_true c4
   clear c4
   by_cases c5 : 0 ≤ a1
   ·rw [if_pos c5] at H
    have c5b0 : decide (0 ≤ a1) = true := decide_eq_true c5
    clear c5; replace H := Option.bind_eq_some_iff.mp H; obtain ⟨t172, A70, H⟩ := H; replace H : (some t172) = some r := H; have A7 := Aside0.mk A70; clear A70
    obtain rfl := Option.some.inj H
    have p6 : 0 ≤ (a1 : Int) := of_decide_eq_true asmT
    have q6 : a1 < (a0.size : Int) := of_decide_eq_true asmT
    have hx6 := bt_at a0 a1; replace p6 := eq_true p6; replace q6 := eq_true q6
    go_enter Try.func87, Try.ntmps87
    go_wp2_with (first | (go_at_call 89; (with_reducible refine (spec_HasFeature.calls (bt a0 a1) 0 t172 _ A7.out).mono ?_); rintro e w' ⟨rfl, ⟨nd, rfl⟩⟩))
    go_ret
    exact ⟨rdT, drT⟩
   ·rw [if_neg c5] at H
    exact absurd H (by simp)
  ·rw [if_neg c4] at H
   have c4b0 : decide (a1 < (a0.size : Int)) = false := decide_eq_false c4
   clear c4
   obtain rfl := Option.some.inj H
   go_enter Try.func87, Try.ntmps87
   go_wp2
   go_ret
   exact ⟨rdT, drT⟩
 ·rw [if_neg c3] at H
  have c3b0 : decide (0 ≤ a1) = false := decide_eq_false c3
  clear c3
  obtain rfl := Option.some.inj H
  go_enter Try.func87, Try.ntmps87
  go_wp2
  go_ret
  exact ⟨rdT, drT⟩

/-! ### spec_CountOnsetless: function 44 -/
mutual
def spec_CountOnsetless.l0 : Nat → ByteArray → Int → Int → Option (Int)
 | 0, _, _, _ => none
 | k + 1, x0, x3, x4 => if x4 < (x0.size : Int) then ((spec_IsForm.f k x0).bind fun t173 => (spec_CountOnsetless.j1 k x0 x3 x4 t173)) else (spec_CountOnsetless.j1 k x0 x3 x4 false)
def spec_CountOnsetless.j1 : Nat → ByteArray → Int → Int → Bool → Option (Int)
 | 0, _, _, _, _ => none
 | k + 1, x0, x3, x4, x12 => if x12 = true then ((spec_IsVowelAt.f x0 x4).bind fun t174 => (if t174 = true then (if x4 = 0 then (spec_CountOnsetless.l0 k x0 (wrap64 (x3 + 1)) (wrap64 (x4 + 1))) else ((spec_IsVowelAt.f x0 (wrap64 (x4 - 1))).bind fun t175 => (if t175 = true then (spec_CountOnsetless.l0 k x0 (wrap64 (x3 + 1)) (wrap64 (x4 + 1))) else (spec_CountOnsetless.l0 k x0 x3 (wrap64 (x4 + 1)))))) else (spec_CountOnsetless.l0 k x0 x3 (wrap64 (x4 + 1))))) else (some x3)
end
def spec_CountOnsetless.f (k : Nat) (a0 : ByteArray) : Option (Int) := spec_CountOnsetless.l0 k a0 0 0
theorem spec_CountOnsetless.mono_l : ∀ k, (∀ y0 y1 y2, LeO (spec_CountOnsetless.l0 k y0 y1 y2) (spec_CountOnsetless.l0 (k + 1) y0 y1 y2)) ∧ (∀ y0 y1 y2 y3, LeO (spec_CountOnsetless.j1 k y0 y1 y2 y3) (spec_CountOnsetless.j1 (k + 1) y0 y1 y2 y3))
 | 0 => ⟨fun _ _ _ r h => by simp [spec_CountOnsetless.l0] at h, fun _ _ _ _ r h => by simp [spec_CountOnsetless.j1] at h⟩
 | k + 1 => by
  obtain ⟨ih0, ih1⟩ := spec_CountOnsetless.mono_l k; refine ⟨?_, ?_⟩
  ·intro y0 y1 y2
   unfold spec_CountOnsetless.l0
   repeat' first
   | (with_reducible exact ih0 _ _ _)
   | (with_reducible exact ih1 _ _ _ _)
   | (with_reducible exact spec_IsForm.mono _ _)
   | (with_reducible exact LeO.refl _)
   | (with_reducible exact LeO.none _)
   | (with_reducible refine LeO.ite ?_ ?_)
   | (with_reducible refine LeO.bind ?_ (fun _ => ?_))
   | exact ih0 _ _ _
   | exact ih1 _ _ _ _
   | exact spec_IsForm.mono _ _
   | exact LeO.none _
   | refine LeO.ite ?_ ?_
   | refine LeO.bind ?_ (fun _ => ?_)
  ·intro y0 y1 y2 y3
   unfold spec_CountOnsetless.j1
   repeat' first
   | (with_reducible exact ih0 _ _ _)
   | (with_reducible exact ih1 _ _ _ _)
   | (with_reducible exact spec_IsForm.mono _ _)
   | (with_reducible exact LeO.refl _)
   | (with_reducible exact LeO.none _)
   | (with_reducible refine LeO.ite ?_ ?_)
   | (with_reducible refine LeO.bind ?_ (fun _ => ?_))
   | exact ih0 _ _ _
   | exact ih1 _ _ _ _
   | exact spec_IsForm.mono _ _
   | exact LeO.none _
   | refine LeO.ite ?_ ?_
   | refine LeO.bind ?_ (fun _ => ?_)
theorem spec_CountOnsetless.mono : ∀ a0 k, LeO (spec_CountOnsetless.f k a0) (spec_CountOnsetless.f (k + 1) a0) := by
 intro a0 k
 obtain ⟨ih0, ih1⟩ := spec_CountOnsetless.mono_l k
 unfold spec_CountOnsetless.f
 repeat' first
   | (with_reducible exact ih0 _ _ _)
   | (with_reducible exact ih1 _ _ _ _)
   | (with_reducible exact spec_IsForm.mono _ _)
   | (with_reducible exact LeO.refl _)
   | (with_reducible exact LeO.none _)
   | (with_reducible refine LeO.ite ?_ ?_)
   | (with_reducible refine LeO.bind ?_ (fun _ => ?_))
   | exact ih0 _ _ _
   | exact ih1 _ _ _ _
   | exact spec_IsForm.mono _ _
   | exact LeO.none _
   | refine LeO.ite ?_ ?_
   | refine LeO.bind ?_ (fun _ => ?_)
set_option maxHeartbeats 8000000 in
set_option maxRecDepth 100000 in
theorem spec_CountOnsetless.calls (k : Nat) (a0 : ByteArray) (r : Int) (w : World) (h : spec_CountOnsetless.f k a0 = some r) :
  Calls Try.prog 44 #[.string a0] w fun e w' => e = .returned (.int .i64 r) ∧ Drawn0 w w' := by
 have H : (spec_CountOnsetless.l0 k a0 0 0) = some r := h
 clear h; have H' := Aside0.mk H; clear H
 go_enter Try.func44, Try.ntmps44
 go_wp2
 go_loopg [3, 4] k (fun kq v3 v4 w' => ∃ (x3_1 : Int) (x4_1 : Int), v3 = .int .i64 x3_1 ∧ v4 = .int .i64 x4_1 ∧ Aside0 (spec_CountOnsetless.l0 kq a0 x3_1 x4_1 = some r) ∧ Aside0 (kq ≤ k) ∧ Drawn0 w w')
 case atStart => exact ⟨(0), (0), rdT, rdT, H', ⟨Nat.le_refl _⟩, drT⟩
 case round =>
  clear H'; obtain ⟨x3_1, x4_1, rfl, rfl, HA, HK1, ⟨m1, rfl⟩⟩ := hrel
  cases gk with
  | zero => exact absurd HA.out (by simp [spec_CountOnsetless.l0])
  | succ k1 =>
   have H := HA.out; clear HA
   simp only [spec_CountOnsetless.l0] at H
   have HC2 := Aside0.mk H; clear H
   go_upto_region 3 with (fail)
   go_cut [12] (fun v12 wc => ∃ (kq : Nat) (x12_1 : Bool), v12 = .bool x12_1 ∧ Aside0 (spec_CountOnsetless.j1 kq a0 x3_1 x4_1 x12_1 = some r) ∧ Aside0 (kq ≤ k1) ∧ Drawn0 w wc)
   case first =>
    have H := HC2.out; clear HC2
    by_cases c3 : x4_1 < (a0.size : Int)
    ·rw [if_pos c3] at H
     have c3b0 : decide (x4_1 < (a0.size : Int)) = true := decide_eq_true c3
     clear c3
     (first | rw [c3b0] | (simp only [i64_w, i32_w]; rw [c3b0]) | skip)
     replace H := Option.bind_eq_some_iff.mp H; obtain ⟨t173, A40, H⟩ := H; replace H : (spec_CountOnsetless.j1 k1 a0 x3_1 x4_1 t173) = some r := H; have A4 := Aside0.mk A40; clear A40; have H' := Aside0.mk H; clear H
     go_wp2_with (first | (go_at_call 84; (with_reducible refine (spec_IsForm.calls k1 a0 t173 _ A4.out).mono ?_); rintro e w' ⟨rfl, ⟨nd, rfl⟩⟩))
     go_meet
     case rel => exact ⟨_, (t173), rdT, H', ⟨by have := HK1.out; first | omega | exact Nat.le_refl _⟩, drT⟩
    ·rw [if_neg c3] at H
     have c3b0 : decide (x4_1 < (a0.size : Int)) = false := decide_eq_false c3
     clear c3
     (first | rw [c3b0] | (simp only [i64_w, i32_w]; rw [c3b0]) | skip)
     have H' := Aside0.mk H; clear H
     go_wp2
     go_meet
     case rel => exact ⟨_, (false), rdT, H', ⟨by have := HK1.out; first | omega | exact Nat.le_refl _⟩, drT⟩
   case rest =>
    clear HC2; (try clear p2); (try clear c3); (try clear c3b0); (try clear c4); obtain ⟨kq, x12_1, rfl, HA, HJ1, ⟨mc1, rfl⟩⟩ := hcut
    cases kq with
    | zero => exact absurd HA.out (by simp [spec_CountOnsetless.j1])
    | succ kj1 =>
     have H := HA.out; clear HA
     simp only [spec_CountOnsetless.j1] at H
     by_cases c5 : x12_1 = true
     ·subst c5
      have H1 : ((spec_IsVowelAt.f a0 x4_1).bind fun t174 => (if t174 = true then (if x4_1 = 0 then (spec_CountOnsetless.l0 kj1 a0 (wrap64 (x3_1 + 1)) (wrap64 (x4_1 + 1))) else ((spec_IsVowelAt.f a0 (wrap64 (x4_1 - 1))).bind fun t175 => (if t175 = true then (spec_CountOnsetless.l0 kj1 a0 (wrap64 (x3_1 + 1)) (wrap64 (x4_1 + 1))) else (spec_CountOnsetless.l0 kj1 a0 x3_1 (wrap64 (x4_1 + 1)))))) else (spec_CountOnsetless.l0 kj1 a0 x3_1 (wrap64 (x4_1 + 1))))) = some r := by rw [if_pos rfl] at H; exact H
      clear H; have H := H1; clear H1; replace H := Option.bind_eq_some_iff.mp H; obtain ⟨t174, A60, H⟩ := H; replace H : (if t174 = true then (if x4_1 = 0 then (spec_CountOnsetless.l0 kj1 a0 (wrap64 (x3_1 + 1)) (wrap64 (x4_1 + 1))) else ((spec_IsVowelAt.f a0 (wrap64 (x4_1 - 1))).bind fun t175 => (if t175 = true then (spec_CountOnsetless.l0 kj1 a0 (wrap64 (x3_1 + 1)) (wrap64 (x4_1 + 1))) else (spec_CountOnsetless.l0 kj1 a0 x3_1 (wrap64 (x4_1 + 1)))))) else (spec_CountOnsetless.l0 kj1 a0 x3_1 (wrap64 (x4_1 + 1)))) = some r := H; have A6 := Aside0.mk A60; clear A60
      by_cases c7 : t174 = true
      ·subst c7
       have H1 : (if x4_1 = 0 then (spec_CountOnsetless.l0 kj1 a0 (wrap64 (x3_1 + 1)) (wrap64 (x4_1 + 1))) else ((spec_IsVowelAt.f a0 (wrap64 (x4_1 - 1))).bind fun t175 => (if t175 = true then (spec_CountOnsetless.l0 kj1 a0 (wrap64 (x3_1 + 1)) (wrap64 (x4_1 + 1))) else (spec_CountOnsetless.l0 kj1 a0 x3_1 (wrap64 (x4_1 + 1)))))) = some r := by rw [if_pos rfl] at H; exact H
       clear H; have H := H1; clear H1
       by_cases c8 : x4_1 = 0
       ·rw [if_pos c8] at H
        have c8b0 : (x4_1 == 0) = true := beq_iff_eq.mpr c8
        have c8b1 : (x4_1 != 0) = false := bne_eq_false_iff_eq.mpr c8
        clear c8; have H' := Aside0.mk H; clear H
        go_wp2_with (first | ((with_reducible refine gate_callee (f := 87) rfl ?_); refine goesL_ (some 17) rfl rfl Try.func87 (by kernel_rfl) rfl #[.string a0, .int .i64 x4_1] rfl eqT ?_; (with_reducible refine (spec_IsVowelAt.calls a0 x4_1 true _ A6.out).mono ?_); rintro e w' ⟨rfl, ⟨nd, rfl⟩⟩; refine ⟨_, rfl, ?_⟩))
        go_roundg kj1
        case measure => have := HK1.out; have := HJ1.out; omega
        case rel => exact ⟨(wrap64 (x3_1 + 1)), (wrap64 (x4_1 + 1)), rdT, rdT, H', ⟨by have := HK1.out; have := HJ1.out; omega⟩, drT⟩
       ·rw [if_neg c8] at H
        have c8b0 : (x4_1 == 0) = false := beq_eq_false_iff_ne.mpr c8
        have c8b1 : (x4_1 != 0) = true := bne_iff_ne.mpr c8
        replace H := Option.bind_eq_some_iff.mp H; obtain ⟨t175, A90, H⟩ := H; replace H : (if t175 = true then (spec_CountOnsetless.l0 kj1 a0 (wrap64 (x3_1 + 1)) (wrap64 (x4_1 + 1))) else (spec_CountOnsetless.l0 kj1 a0 x3_1 (wrap64 (x4_1 + 1)))) = some r := H; have A9 := Aside0.mk A90; clear A90
        by_cases c10 : t175 = true
        ·subst c10
         have H1 : (spec_CountOnsetless.l0 kj1 a0 (wrap64 (x3_1 + 1)) (wrap64 (x4_1 + 1))) = some r := by rw [if_pos rfl] at H; exact H
         clear H; have H := H1; clear H1; have H' := Aside0.mk H; clear H
         go_wp2_with (first | ((with_reducible refine gate_callee (f := 87) rfl ?_); refine goesL_ (some 17) rfl rfl Try.func87 (by kernel_rfl) rfl #[.string a0, .int .i64 x4_1] rfl eqT ?_; (with_reducible refine (spec_IsVowelAt.calls a0 x4_1 true _ A6.out).mono ?_); rintro e w' ⟨rfl, ⟨nd, rfl⟩⟩; refine ⟨_, rfl, ?_⟩) | (go_at_call 87; (with_reducible refine (spec_IsVowelAt.calls a0 (wrap64 (x4_1 - 1)) true _ A9.out).mono ?_); rintro e w' ⟨rfl, ⟨nd, rfl⟩⟩))
         go_roundg kj1
         case measure => have := HK1.out; have := HJ1.out; omega
         case rel => exact ⟨(wrap64 (x3_1 + 1)), (wrap64 (x4_1 + 1)), rdT, rdT, H', ⟨by have := HK1.out; have := HJ1.out; omega⟩, drT⟩
        ·replace c10 := Bool.eq_false_iff.mpr c10
         subst c10
         have H1 : (spec_CountOnsetless.l0 kj1 a0 x3_1 (wrap64 (x4_1 + 1))) = some r := by rw [if_neg (show ¬ (false = true) by decide)] at H; exact H
         clear H; have H := H1; clear H1; have H' := Aside0.mk H; clear H
         go_wp2_with (first | ((with_reducible refine gate_callee (f := 87) rfl ?_); refine goesL_ (some 17) rfl rfl Try.func87 (by kernel_rfl) rfl #[.string a0, .int .i64 x4_1] rfl eqT ?_; (with_reducible refine (spec_IsVowelAt.calls a0 x4_1 true _ A6.out).mono ?_); rintro e w' ⟨rfl, ⟨nd, rfl⟩⟩; refine ⟨_, rfl, ?_⟩) | (go_at_call 87; (with_reducible refine (spec_IsVowelAt.calls a0 (wrap64 (x4_1 - 1)) false _ A9.out).mono ?_); rintro e w' ⟨rfl, ⟨nd, rfl⟩⟩))
         go_roundg kj1
         case measure => have := HK1.out; have := HJ1.out; omega
         case rel => exact ⟨(x3_1), (wrap64 (x4_1 + 1)), rdT, rdT, H', ⟨by have := HK1.out; have := HJ1.out; omega⟩, drT⟩
      ·replace c7 := Bool.eq_false_iff.mpr c7
       subst c7
       have H1 : (spec_CountOnsetless.l0 kj1 a0 x3_1 (wrap64 (x4_1 + 1))) = some r := by rw [if_neg (show ¬ (false = true) by decide)] at H; exact H
       clear H; have H := H1; clear H1; have H' := Aside0.mk H; clear H
       go_wp2_with (first | ((with_reducible refine gate_callee (f := 87) rfl ?_); refine goesL_ (some 17) rfl rfl Try.func87 (by kernel_rfl) rfl #[.string a0, .int .i64 x4_1] rfl eqT ?_; (with_reducible refine (spec_IsVowelAt.calls a0 x4_1 false _ A6.out).mono ?_); rintro e w' ⟨rfl, ⟨nd, rfl⟩⟩; refine ⟨_, rfl, ?_⟩))
       go_roundg kj1
       case measure => have := HK1.out; have := HJ1.out; omega
       case rel => exact ⟨(x3_1), (wrap64 (x4_1 + 1)), rdT, rdT, H', ⟨by have := HK1.out; have := HJ1.out; omega⟩, drT⟩
     ·replace c5 := Bool.eq_false_iff.mpr c5
      subst c5
      have H1 : (some x3_1) = some r := by rw [if_neg (show ¬ (false = true) by decide)] at H; exact H
      clear H; have H := H1; clear H1
      obtain rfl := Option.some.inj H
      go_wp2
      go_ret
      exact ⟨rdT, drT⟩

end Go.Proofs.Ytdamagcfmhimfad.PFnExactProfileOf
