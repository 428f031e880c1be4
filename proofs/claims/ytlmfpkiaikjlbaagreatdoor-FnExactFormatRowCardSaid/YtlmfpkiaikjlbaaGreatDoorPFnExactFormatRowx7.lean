-- Made by gen.py (a program of this session) out of the translation; Lean checks it.
import Derived.Test.YtlmfpkiaikjlbaaGreatDoorPFnExactFormatRowx0
import Derived.Test.YtlmfpkiaikjlbaaGreatDoorPFnExactFormatRowx6
namespace Go.Proofs.YtlmfpkiaikjlbaaGreatDoor.PFnExactFormatRow
open Go.RowKit Go.Proofs.YtlmfpkiaikjlbaaGreatDoorB Go.Proofs.YtlmfpkiaikjlbaaGreatDoorW.PrintWords Go.Proofs.YtlmfpkiaikjlbaaGreatDoorW.PrintLast Go.Proofs.YtlmfpkiaikjlbaaGreatDoorW.PrintMore
attribute [local go_sem] max2_int min2_int max_two min_two max_three min_three max_four min_four   -- for this text's walks alone
set_option linter.unusedVariables false
set_option maxHeartbeats 8000000
set_option maxRecDepth 100000
set_option linter.unusedSimpArgs false
def impl_sounds.l0 : Nat → Bool → List Int → List (S90) → Int → Int → Option (ByteArray)
 | 0, _, _, _, _, _ => none
 | k + 1, x1, x5, x11, x12, x13 => if x13 < x12 then (if 0 ≤ x13 then (if x13 < (x11.length : Int) then (if x1 = true then (if ((rd_T90 x11 x13).f1) = 0 then (impl_sounds.l0 k x1 x5 x11 x12 (wrap64 (x13 + 1))) else (if x5.length < 140737488355328 then (impl_sounds.l0 k x1 (x5 ++ [(rd_T90 x11 x13).f1]) x11 x12 (wrap64 (x13 + 1))) else (none))) else (if ((rd_T90 x11 x13).f0) = 0 then (impl_sounds.l0 k x1 x5 x11 x12 (wrap64 (x13 + 1))) else (if x5.length < 140737488355328 then (impl_sounds.l0 k x1 (x5 ++ [(rd_T90 x11 x13).f0]) x11 x12 (wrap64 (x13 + 1))) else (none)))) else (none)) else (none)) else (some (strOfNums x5))
def impl_sounds.f (k : Nat) (l0_0 : List (S90)) (a1 : Bool) : Option (ByteArray) := impl_sounds.l0 k a1 (([] : List Int)) l0_0 (l0_0.length : Int) 0
theorem impl_sounds.mono_l : ∀ k, (∀ y0 y1 y2 y3 y4, LeO (impl_sounds.l0 k y0 y1 y2 y3 y4) (impl_sounds.l0 (k + 1) y0 y1 y2 y3 y4))
 | 0 => fun _ _ _ _ _ r h => by simp [impl_sounds.l0] at h
 | k + 1 => by
  have ih0 := impl_sounds.mono_l k
  ·intro y0 y1 y2 y3 y4; unfold impl_sounds.l0
   with_reducible repeat' first | exact ih0 _ _ _ _ _ | exact LeO.refl _ | exact LeO.none _ | refine LeO.ite ?_ ?_ | refine LeO.bind ?_ (fun _ => ?_)
theorem impl_sounds.mono : ∀ a0 a1 k, LeO (impl_sounds.f k a0 a1) (impl_sounds.f (k + 1) a0 a1) := by
 intro a0 a1 k; have ih0 := impl_sounds.mono_l k; unfold impl_sounds.f
 with_reducible repeat' first | exact ih0 _ _ _ _ _ | exact LeO.refl _ | exact LeO.none _ | refine LeO.ite ?_ ?_ | refine LeO.bind ?_ (fun _ => ?_)
theorem impl_sounds.calls (k : Nat) (A0_0 : Option Addr) (c0_0 : Nat) (l0_0 : List (S90)) (a1 : Bool) (r : ByteArray) (w : World) (hr0_0 : Kd.C k90 w A0_0 l0_0.length l0_0) (hc0_0 : l0_0.length ≤ c0_0) (h : impl_sounds.f k l0_0 a1 = some r) :
  Calls Tryz.prog 111 #[.agg #[.slice A0_0 l0_0.length c0_0], .bool a1] w fun e w' => e = .returned (.string r) ∧ Below w.heap.size w w' := by
 have hu42 := Tryz.underlying42; have hu90 := Tryz.underlying90; have HR0_0 := asT hr0_0; have HC0_0 := asT hc0_0; clear hr0_0 hc0_0; have HB := asT (Below.refl w.heap.size w); have H := h; unfold impl_sounds.f at H; clear h; obtain ⟨y332, hy332⟩ : ∃ y_ : List Int, y_ = (([] : List Int)) := ⟨_, rfl⟩
 replace H : (impl_sounds.l0 k a1 y332 l0_0 (l0_0.length : Int) 0) = some r := by first | (rw [hy332]; with_reducible exact H) | (have H2_ := (Option.bind_some _ _).symm.trans H; rw [hy332]; with_reducible exact H2_) | (have H2_ := (Option.bind_some _ _).symm.trans H; with_reducible exact H2_) | with_reducible exact H | (rw [hy332]; exact H) | exact H
 have Ny332 := asT hy332; clear hy332; have H' := asT H; clear H; go_enter Tryz.func111, Tryz.ntmps111
 go_wp2_with (first | ((with_reducible refine gate_dst (N := 2) rfl ?_); refine boxT (N := 2) (cs := #[.slice A0_0 l0_0.length c0_0]) (t := 42) ?_; intro gb331 hg w3 hbox hb; have BK331 := asT hbox; have GW331 := asT (geT hg HB.out); have GE331 := GW331; replace HB := hS HB hb; clear hb hbox hg) | ((with_reducible refine gate_dst (N := 9) rfl ?_); refine Kd.R_lit (Kd.int .u8) _ 5 ?hg (N := 9) ?hd (xs := ([] : List Int)) (inner := []) (ok := fun _ => True) (okp := fun _ => True) ?hr ?hp (fun _ hk => hk) trivial (Below.refl _ _) (Nat.le_refl _) (by simp) ?_; (case hd => rfl); (case hg => rfl); (case hr => first | (go_simp; done) | (go_simp; rfl)); (case hp => exact (Reps.none _ _)); intro v333 w4 ho5 hb hg_ hnew_; clear hg_ hnew_; (first | rw [← Ny332.out] at ho5 | (simp only [Int.reduceToNat] at ho5; rw [← Ny332.out] at ho5)); have HO334 := asT (Kd.R_lower ho5 (below_size (hbT HB.out))); replace BK331 := bS BK331 hb; replace HB := hS HB hb; clear hb ho5; obtain ⟨hcz6_0, hfz6_0⟩ := bx1 BK331.out))
 go_loopg [5, 13] k (fun kq v5 v13 w' => ∃ (x5_1 : List Int) (x13_1 : Int), v13 = .int .i64 x13_1 ∧ Aside0 (impl_sounds.l0 kq a1 x5_1 l0_0 (l0_0.length : Int) x13_1 = some r) ∧ Aside0 (kq ≤ k) ∧ Aside0 (Kd.R (Kd.int .u8) 5 w' w.heap.size (fun _ => True) v5 x5_1) ∧ Aside0 (w'.heap[gb331]? = some (.cells #[(.slice A0_0 l0_0.length c0_0)] 42 (0, 0))) ∧ Aside0 (Below w.heap.size w w'))
 case atStart => exact ⟨(y332), (0), rdT, H', ⟨Nat.le_refl _⟩, ⟨roT HO334.out⟩, kpT BK331.out, ⟨hbT HB.out⟩⟩
 case round =>
  clear H'; (try clear c1 p2 hcz6_0 hfz6_0); obtain ⟨x5_1, x13_1, rfl, HA, HK1, HO_5, BK331, HB⟩ := hrel
  cases gk with
  | zero => exact absurd HA.out (by simp [impl_sounds.l0])
  | succ k1 =>
   have H := HA.out; clear HA
   simp only [impl_sounds.l0] at H
   by_cases c7 : x13_1 < (l0_0.length : Int)
   ·rw [if_pos c7] at H; have c7b0 := dt c7; clear c7; by_cases c8 : 0 ≤ x13_1
    ·rw [if_pos c8] at H; have c8b0 := dt c8; clear c8; by_cases c9 : x13_1 < (l0_0.length : Int)
     ·rw [if_pos c9] at H; have c9b0 := dt c9; clear c9; by_cases c10 : a1 = true
      ·subst c10; rw [if_pos rfl] at H; have H1 := H; clear H; have H := H1; clear H1; by_cases c11 : ((rd_T90 l0_0 x13_1).f1) = 0
       ·rw [if_pos c11] at H; have c11b0 : (((rd_T90 l0_0 x13_1).f1) == 0) = true := eC c11; have c11b1 : (((rd_T90 l0_0 x13_1).f1) != 0) = false := eA c11; clear c11; have H' := asT H; clear H; have p335 : 0 ≤ (x13_1 : Int) := dT asmT; have q335 : x13_1 < (l0_0.length : Int) := dT asmT; obtain ⟨ad335, e335, hx335_0, hx335_1⟩ := at_T90 HR0_0.out x13_1 p335 q335
        cases e335
        replace hx335_0 := hbc HB.out hx335_0; replace hx335_1 := hbc HB.out hx335_1; replace p335 := eq_true p335; replace q335 := eq_true q335
        go_wp2_with (first | ((with_reducible refine gate_dst (N := 7) rfl ?_); refine boxT (N := 7) (cs := #[.int .u8 0, .int .u8 0]) (t := 90) ?_; intro gb336 hg w12 hbox hb; replace HO_5 := asT (Kd.R_below (roT HO_5.out) hb); have BK336 := asT (hbox); have GW336 := asT (geT hg HB.out); have GE336 := asT (geT hg HB.out); replace HB := hS HB hb; have NB331_336 := asT ((by rw [hg]; exact Nat.ne_of_lt (blk_lt (g := gb331) (o := .cells #[.slice (some ad335) l0_0.length c0_0] 42 (0, 0)) (bkT BK331.out)) : gb331 ≠ gb336)); have NB336_331 := asT ((by rw [hg]; exact Nat.ne_of_gt (blk_lt (g := gb331) (o := .cells #[.slice (some ad335) l0_0.length c0_0] 42 (0, 0)) (bkT BK331.out)) : gb336 ≠ gb331)); replace BK331 := bS BK331 hb; clear hb hbox hg; have hnb13 := NB336_331.out; have hnc13 := NB331_336.out; obtain ⟨hcz14_0, hcz14_1, hfz14_0, hfz14_1⟩ := bx2 BK336.out))
        go_roundg k1
        case measure => have := HK1.out; omega
        case rel => exact ⟨(x5_1), (wrap64 (x13_1 + 1)), rdT, H', ⟨by have := HK1.out; omega⟩, ⟨by (with_reducible repeat (first | apply Kd.R_alloc | apply Kd.R_drewN | apply Kd.R_drew)); exact Kd.R_mono (Kd.R_far (p := ⟨gb336, 1, none⟩) (Kd.R_far (p := ⟨gb336, 0, none⟩) (Kd.R_types HO_5.out BK336.out (by decide)) (fun _ hk => hk.2) (.int .u8 ((rd_T90 l0_0 x13_1).f0))) (fun _ hk => hk.2) (.int .u8 ((rd_T90 l0_0 x13_1).f1))) (fun _ hk => trivial)⟩, ⟨by (with_reducible repeat (first | refine blk_drewN ?_ _ | refine blk_drew ?_ | refine blk_alloc ?_ _)); refine blk_far ?_ NB331_336.out _; (with_reducible repeat (first | refine blk_drewN ?_ _ | refine blk_drew ?_ | refine blk_alloc ?_ _)); refine blk_far ?_ NB331_336.out _; (with_reducible repeat (first | refine blk_drewN ?_ _ | refine blk_drew ?_ | refine blk_alloc ?_ _)); exact BK331.out⟩, ⟨hbT HB.out⟩⟩
       ·rw [if_neg c11] at H; have c11b0 : (((rd_T90 l0_0 x13_1).f1) == 0) = false := eB c11; have c11b1 : (((rd_T90 l0_0 x13_1).f1) != 0) = true := eD c11; by_cases c15 : x5_1.length < 140737488355328
        ·rw [if_pos c15] at H; have LMc15 := asT c15; clear c15; obtain ⟨y337, hy337⟩ : ∃ y_ : List Int, y_ = (x5_1 ++ [(rd_T90 l0_0 x13_1).f1]) := ⟨_, rfl⟩
         replace H : (impl_sounds.l0 k1 true y337 l0_0 (l0_0.length : Int) (wrap64 (x13_1 + 1))) = some r := by first | (rw [hy337]; with_reducible exact H) | (have H2_ := (Option.bind_some _ _).symm.trans H; rw [hy337]; with_reducible exact H2_) | (have H2_ := (Option.bind_some _ _).symm.trans H; with_reducible exact H2_) | with_reducible exact H | (rw [hy337]; exact H) | exact H
         have Ny337 := asT hy337; clear hy337; have H' := asT H; clear H; have p335 : 0 ≤ (x13_1 : Int) := dT asmT; have q335 : x13_1 < (l0_0.length : Int) := dT asmT; obtain ⟨ad335, e335, hx335_0, hx335_1⟩ := at_T90 HR0_0.out x13_1 p335 q335
         cases e335
         replace hx335_0 := hbc HB.out hx335_0; replace hx335_1 := hbc HB.out hx335_1; replace p335 := eq_true p335; replace q335 := eq_true q335
         go_wp2_with (first | ((with_reducible refine gate_dst (N := 7) rfl ?_); refine boxT (N := 7) (cs := #[.int .u8 0, .int .u8 0]) (t := 90) ?_; intro gb336 hg w16 hbox hb; replace HO_5 := asT (Kd.R_below (roT HO_5.out) hb); have BK336 := asT (hbox); have GW336 := asT (geT hg HB.out); have GE336 := asT (geT hg HB.out); replace HB := hS HB hb; have NB331_336 := asT ((by rw [hg]; exact Nat.ne_of_lt (blk_lt (g := gb331) (o := .cells #[.slice (some ad335) l0_0.length c0_0] 42 (0, 0)) (bkT BK331.out)) : gb331 ≠ gb336)); have NB336_331 := asT ((by rw [hg]; exact Nat.ne_of_gt (blk_lt (g := gb331) (o := .cells #[.slice (some ad335) l0_0.length c0_0] 42 (0, 0)) (bkT BK331.out)) : gb336 ≠ gb331)); replace BK331 := bS BK331 hb; clear hb hbox hg; have hnb17 := NB336_331.out; have hnc17 := NB331_336.out; obtain ⟨hcz18_0, hcz18_1, hfz18_0, hfz18_1⟩ := bx2 BK336.out) | ((with_reducible refine gate_builtin (b := .append) (xs := #[.tmp 24, .tmp 26]) rfl ?_); at_builtin; refine Kd.R_append (Kd.int .u8) (w0 := w) w.heap.size rfl (.tmp 24) (.tmp 26) 35 5 (.int .u8 0) 1 rfl Tryz.underlying35 info5 rfl (by decide) (by omega) u5 x5_1 ((rd_T90 l0_0 x13_1).f1) [.int .u8 ((rd_T90 l0_0 x13_1).f1)] (fun _ => True) (fun _ => False) rfl (by first | (go_simp; done) | (go_simp; rfl)) ?aP (fun _ hk => hk.elim) ?aF ?aO ?aB ?aS ?aL ?_; (case aP => exact rfl); (case aB => exact (hbT HB.out)); (case aF => exact (fun _ _ => trivial)); (case aO => exact (by (with_reducible repeat (first | apply Kd.R_alloc | apply Kd.R_drewN | apply Kd.R_drew)); exact Kd.R_mono (Kd.R_far (p := ⟨gb336, 1, none⟩) (Kd.R_far (p := ⟨gb336, 0, none⟩) (Kd.R_types HO_5.out BK336.out (by decide)) (fun _ hk => hk.2) (.int .u8 ((rd_T90 l0_0 x13_1).f0))) (fun _ hk => hk.2) (.int .u8 ((rd_T90 l0_0 x13_1).f1))) (fun _ hk => trivial))); (case aS => exact (below_size (hbT HB.out))); (case aL => have := LMc15.out; omega); intro v338 w19 ho hb hg hat; rw [← Ny337.out] at ho; replace BK331 := asT (blk_grown (g := gb331) (o := .cells #[.slice (some ad335) l0_0.length c0_0] 42 (0, 0)) (by (with_reducible repeat (first | refine blk_drewN ?_ _ | refine blk_drew ?_ | refine blk_alloc ?_ _)); refine blk_far ?_ NB331_336.out _; (with_reducible repeat (first | refine blk_drewN ?_ _ | refine blk_drew ?_ | refine blk_alloc ?_ _)); refine blk_far ?_ NB331_336.out _; (with_reducible repeat (first | refine blk_drewN ?_ _ | refine blk_drew ?_ | refine blk_alloc ?_ _)); exact BK331.out) hg (Kd.R_ne HO_5.out BK331.out (by decide))); replace BK336 := asT (blk_grown (g := gb336) (o := .cells #[.int .u8 ((rd_T90 l0_0 x13_1).f0), .int .u8 ((rd_T90 l0_0 x13_1).f1)] 90 (0, 0)) (by (with_reducible repeat (first | refine blk_drewN ?_ _ | refine blk_drew ?_ | refine blk_alloc ?_ _)); refine blk_put (cs := #[.int .u8 ((rd_T90 l0_0 x13_1).f0), .int .u8 0]) ?_ 1 _ rfl; (with_reducible repeat (first | refine blk_drewN ?_ _ | refine blk_drew ?_ | refine blk_alloc ?_ _)); refine blk_put (cs := #[.int .u8 0, .int .u8 0]) ?_ 0 _ rfl; (with_reducible repeat (first | refine blk_drewN ?_ _ | refine blk_drew ?_ | refine blk_alloc ?_ _)); exact BK336.out) hg (Kd.R_ne HO_5.out BK336.out (by decide))); replace HB := asT (hb); have HO339 := asT (ho); clear HO_5 ho hb hg hat))
         go_roundg k1
         case measure => have := HK1.out; omega
         case rel => exact ⟨(y337), (wrap64 (x13_1 + 1)), rdT, H', ⟨by have := HK1.out; omega⟩, ⟨roT HO339.out⟩, kpT BK331.out, ⟨hbT HB.out⟩⟩
        ·rw [if_neg c15] at H; exact absurd H (by simp)
      ·replace c10 := eE c10; subst c10; rw [if_neg nF] at H; have H1 := H; clear H; have H := H1; clear H1; by_cases c20 : ((rd_T90 l0_0 x13_1).f0) = 0
       ·rw [if_pos c20] at H; have c20b0 : (((rd_T90 l0_0 x13_1).f0) == 0) = true := eC c20; have c20b1 : (((rd_T90 l0_0 x13_1).f0) != 0) = false := eA c20; clear c20; have H' := asT H; clear H; have p335 : 0 ≤ (x13_1 : Int) := dT asmT; have q335 : x13_1 < (l0_0.length : Int) := dT asmT; obtain ⟨ad335, e335, hx335_0, hx335_1⟩ := at_T90 HR0_0.out x13_1 p335 q335
        cases e335
        replace hx335_0 := hbc HB.out hx335_0; replace hx335_1 := hbc HB.out hx335_1; replace p335 := eq_true p335; replace q335 := eq_true q335
        go_wp2_with (first | ((with_reducible refine gate_dst (N := 7) rfl ?_); refine boxT (N := 7) (cs := #[.int .u8 0, .int .u8 0]) (t := 90) ?_; intro gb336 hg w21 hbox hb; replace HO_5 := asT (Kd.R_below (roT HO_5.out) hb); have BK336 := asT (hbox); have GW336 := asT (geT hg HB.out); have GE336 := asT (geT hg HB.out); replace HB := hS HB hb; have NB331_336 := asT ((by rw [hg]; exact Nat.ne_of_lt (blk_lt (g := gb331) (o := .cells #[.slice (some ad335) l0_0.length c0_0] 42 (0, 0)) (bkT BK331.out)) : gb331 ≠ gb336)); have NB336_331 := asT ((by rw [hg]; exact Nat.ne_of_gt (blk_lt (g := gb331) (o := .cells #[.slice (some ad335) l0_0.length c0_0] 42 (0, 0)) (bkT BK331.out)) : gb336 ≠ gb331)); replace BK331 := bS BK331 hb; clear hb hbox hg; have hnb22 := NB336_331.out; have hnc22 := NB331_336.out; obtain ⟨hcz23_0, hcz23_1, hfz23_0, hfz23_1⟩ := bx2 BK336.out))
        go_roundg k1
        case measure => have := HK1.out; omega
        case rel => exact ⟨(x5_1), (wrap64 (x13_1 + 1)), rdT, H', ⟨by have := HK1.out; omega⟩, ⟨by (with_reducible repeat (first | apply Kd.R_alloc | apply Kd.R_drewN | apply Kd.R_drew)); exact Kd.R_mono (Kd.R_far (p := ⟨gb336, 1, none⟩) (Kd.R_far (p := ⟨gb336, 0, none⟩) (Kd.R_types HO_5.out BK336.out (by decide)) (fun _ hk => hk.2) (.int .u8 ((rd_T90 l0_0 x13_1).f0))) (fun _ hk => hk.2) (.int .u8 ((rd_T90 l0_0 x13_1).f1))) (fun _ hk => trivial)⟩, ⟨by (with_reducible repeat (first | refine blk_drewN ?_ _ | refine blk_drew ?_ | refine blk_alloc ?_ _)); refine blk_far ?_ NB331_336.out _; (with_reducible repeat (first | refine blk_drewN ?_ _ | refine blk_drew ?_ | refine blk_alloc ?_ _)); refine blk_far ?_ NB331_336.out _; (with_reducible repeat (first | refine blk_drewN ?_ _ | refine blk_drew ?_ | refine blk_alloc ?_ _)); exact BK331.out⟩, ⟨hbT HB.out⟩⟩
       ·rw [if_neg c20] at H; have c20b0 : (((rd_T90 l0_0 x13_1).f0) == 0) = false := eB c20; have c20b1 : (((rd_T90 l0_0 x13_1).f0) != 0) = true := eD c20; by_cases c24 : x5_1.length < 140737488355328
        ·rw [if_pos c24] at H; have LMc24 := asT c24; clear c24; obtain ⟨y340, hy340⟩ : ∃ y_ : List Int, y_ = (x5_1 ++ [(rd_T90 l0_0 x13_1).f0]) := ⟨_, rfl⟩
         replace H : (impl_sounds.l0 k1 false y340 l0_0 (l0_0.length : Int) (wrap64 (x13_1 + 1))) = some r := by first | (rw [hy340]; with_reducible exact H) | (have H2_ := (Option.bind_some _ _).symm.trans H; rw [hy340]; with_reducible exact H2_) | (have H2_ := (Option.bind_some _ _).symm.trans H; with_reducible exact H2_) | with_reducible exact H | (rw [hy340]; exact H) | exact H
         have Ny340 := asT hy340; clear hy340; have H' := asT H; clear H; have p335 : 0 ≤ (x13_1 : Int) := dT asmT; have q335 : x13_1 < (l0_0.length : Int) := dT asmT; obtain ⟨ad335, e335, hx335_0, hx335_1⟩ := at_T90 HR0_0.out x13_1 p335 q335
         cases e335
         replace hx335_0 := hbc HB.out hx335_0; replace hx335_1 := hbc HB.out hx335_1; replace p335 := eq_true p335; replace q335 := eq_true q335
         go_wp2_with (first | ((with_reducible refine gate_dst (N := 7) rfl ?_); refine boxT (N := 7) (cs := #[.int .u8 0, .int .u8 0]) (t := 90) ?_; intro gb336 hg w25 hbox hb; replace HO_5 := asT (Kd.R_below (roT HO_5.out) hb); have BK336 := asT (hbox); have GW336 := asT (geT hg HB.out); have GE336 := asT (geT hg HB.out); replace HB := hS HB hb; have NB331_336 := asT ((by rw [hg]; exact Nat.ne_of_lt (blk_lt (g := gb331) (o := .cells #[.slice (some ad335) l0_0.length c0_0] 42 (0, 0)) (bkT BK331.out)) : gb331 ≠ gb336)); have NB336_331 := asT ((by rw [hg]; exact Nat.ne_of_gt (blk_lt (g := gb331) (o := .cells #[.slice (some ad335) l0_0.length c0_0] 42 (0, 0)) (bkT BK331.out)) : gb336 ≠ gb331)); replace BK331 := bS BK331 hb; clear hb hbox hg; have hnb26 := NB336_331.out; have hnc26 := NB331_336.out; obtain ⟨hcz27_0, hcz27_1, hfz27_0, hfz27_1⟩ := bx2 BK336.out) | ((with_reducible refine gate_builtin (b := .append) (xs := #[.tmp 24, .tmp 26]) rfl ?_); at_builtin; refine Kd.R_append (Kd.int .u8) (w0 := w) w.heap.size rfl (.tmp 24) (.tmp 26) 35 5 (.int .u8 0) 1 rfl Tryz.underlying35 info5 rfl (by decide) (by omega) u5 x5_1 ((rd_T90 l0_0 x13_1).f0) [.int .u8 ((rd_T90 l0_0 x13_1).f0)] (fun _ => True) (fun _ => False) rfl (by first | (go_simp; done) | (go_simp; rfl)) ?aP (fun _ hk => hk.elim) ?aF ?aO ?aB ?aS ?aL ?_; (case aP => exact rfl); (case aB => exact (hbT HB.out)); (case aF => exact (fun _ _ => trivial)); (case aO => exact (by (with_reducible repeat (first | apply Kd.R_alloc | apply Kd.R_drewN | apply Kd.R_drew)); exact Kd.R_mono (Kd.R_far (p := ⟨gb336, 1, none⟩) (Kd.R_far (p := ⟨gb336, 0, none⟩) (Kd.R_types HO_5.out BK336.out (by decide)) (fun _ hk => hk.2) (.int .u8 ((rd_T90 l0_0 x13_1).f0))) (fun _ hk => hk.2) (.int .u8 ((rd_T90 l0_0 x13_1).f1))) (fun _ hk => trivial))); (case aS => exact (below_size (hbT HB.out))); (case aL => have := LMc24.out; omega); intro v341 w28 ho hb hg hat; rw [← Ny340.out] at ho; replace BK331 := asT (blk_grown (g := gb331) (o := .cells #[.slice (some ad335) l0_0.length c0_0] 42 (0, 0)) (by (with_reducible repeat (first | refine blk_drewN ?_ _ | refine blk_drew ?_ | refine blk_alloc ?_ _)); refine blk_far ?_ NB331_336.out _; (with_reducible repeat (first | refine blk_drewN ?_ _ | refine blk_drew ?_ | refine blk_alloc ?_ _)); refine blk_far ?_ NB331_336.out _; (with_reducible repeat (first | refine blk_drewN ?_ _ | refine blk_drew ?_ | refine blk_alloc ?_ _)); exact BK331.out) hg (Kd.R_ne HO_5.out BK331.out (by decide))); replace BK336 := asT (blk_grown (g := gb336) (o := .cells #[.int .u8 ((rd_T90 l0_0 x13_1).f0), .int .u8 ((rd_T90 l0_0 x13_1).f1)] 90 (0, 0)) (by (with_reducible repeat (first | refine blk_drewN ?_ _ | refine blk_drew ?_ | refine blk_alloc ?_ _)); refine blk_put (cs := #[.int .u8 ((rd_T90 l0_0 x13_1).f0), .int .u8 0]) ?_ 1 _ rfl; (with_reducible repeat (first | refine blk_drewN ?_ _ | refine blk_drew ?_ | refine blk_alloc ?_ _)); refine blk_put (cs := #[.int .u8 0, .int .u8 0]) ?_ 0 _ rfl; (with_reducible repeat (first | refine blk_drewN ?_ _ | refine blk_drew ?_ | refine blk_alloc ?_ _)); exact BK336.out) hg (Kd.R_ne HO_5.out BK336.out (by decide))); replace HB := asT (hb); have HO342 := asT (ho); clear HO_5 ho hb hg hat))
         go_roundg k1
         case measure => have := HK1.out; omega
         case rel => exact ⟨(y340), (wrap64 (x13_1 + 1)), rdT, H', ⟨by have := HK1.out; omega⟩, ⟨roT HO342.out⟩, kpT BK331.out, ⟨hbT HB.out⟩⟩
        ·rw [if_neg c24] at H; exact absurd H (by simp)
     ·rw [if_neg c9] at H; exact absurd H (by simp)
    ·rw [if_neg c8] at H; exact absurd H (by simp)
   ·rw [if_neg c7] at H; have c7b0 := df c7; clear c7; obtain rfl := oI H; have hcv29 := own_string (P := Tryz.prog) Tryz.underlying35 Tryz.underlying5 Tryz.underlying9 (Kd.own_of_R HO_5.out)
    go_wp2
    go_ret; exact ⟨rlT, hbT HB.out⟩
def impl_SwapVoice.f (a0 : Int) : Option (Int × Bool) := (strings_IndexByte.f (⟨#[112, 116, 98, 100]⟩ : ByteArray) a0).bind fun t343 => (if t343 < 0 then (some (a0, false)) else (if 0 ≤ t343 then (if t343 < 4 then (some (bt (⟨#[98, 100, 112, 116]⟩ : ByteArray) t343, true)) else (none)) else (none)))
theorem impl_SwapVoice.calls (a0 : Int) (r1 : Int) (r2 : Bool) (w : World) (h : impl_SwapVoice.f a0 = some (r1, r2)) :
  Calls Tryz.prog 165 #[.int .u8 a0] w fun e w' => e = .returned (.tuple #[.int .u8 r1, .bool r2]) ∧ Drawn0 w w' := by
 have H := h; unfold impl_SwapVoice.f at H; clear h; obtain ⟨t343, A2, H⟩ := be H; by_cases c3 : t343 < 0
 ·rw [if_pos c3] at H; have c3b0 := dt c3; clear c3
  simp only [Option.some.injEq, Prod.mk.injEq] at H
  obtain ⟨rfl, rfl⟩ := H; go_enter Tryz.func165, Tryz.ntmps165
  go_wp2_with (first | ((with_reducible refine gate_callee (f := 143) rfl ?_); refine goesL_ (some 6) rfl rfl Tryz.func143 (by kernel_rfl) rfl #[.string (⟨#[112, 116, 98, 100]⟩ : ByteArray), .int .u8 a0] rfl eqT ?_; (with_reducible refine (strings_IndexByte.calls (⟨#[112, 116, 98, 100]⟩ : ByteArray) a0 t343 _ A2.out).mono ?_); rintro e w' ⟨rfl, ⟨nd, rfl⟩⟩; refine ⟨_, rfl, ?_⟩))
  go_ret2
  exact ⟨rdT, drT⟩
 ·rw [if_neg c3] at H; have c3b0 := df c3; clear c3; by_cases c4 : 0 ≤ t343
  ·rw [if_pos c4] at H; have c4b0 := dt c4; clear c4; by_cases c5 : t343 < 4
   ·rw [if_pos c5] at H; have c5b0 := dt c5; clear c5
    simp only [Option.some.injEq, Prod.mk.injEq] at H
    obtain ⟨rfl, rfl⟩ := H; go_enter Tryz.func165, Tryz.ntmps165
    go_wp2_with (first | ((with_reducible refine gate_callee (f := 143) rfl ?_); refine goesL_ (some 6) rfl rfl Tryz.func143 (by kernel_rfl) rfl #[.string (⟨#[112, 116, 98, 100]⟩ : ByteArray), .int .u8 a0] rfl eqT ?_; (with_reducible refine (strings_IndexByte.calls (⟨#[112, 116, 98, 100]⟩ : ByteArray) a0 t343 _ A2.out).mono ?_); rintro e w' ⟨rfl, ⟨nd, rfl⟩⟩; refine ⟨_, rfl, ?_⟩; have p6 : 0 ≤ (t343 : Int) := dT asmT; have q6 : t343 < (4 : Int) := dT asmT; have hx6 := bt_at (⟨#[98, 100, 112, 116]⟩ : ByteArray) t343; replace p6 := eq_true p6; replace q6 := eq_true q6))
    go_ret2
    exact ⟨rdT, drT⟩
   ·rw [if_neg c5] at H; exact absurd H (by simp)
  ·rw [if_neg c4] at H; exact absurd H (by simp)
def impl_isLink.f (a0_0 : Int) (a0_1 : Int) : Option (Bool) := if a0_0 = 0 then ((impl_IsSound.f a0_1).bind fun t345 => (some t345)) else ((impl_IsSound.f a0_0).bind fun t346 => (if t346 = true then (if a0_1 = 0 then (some true) else (if a0_1 = a0_0 then (some true) else ((impl_SwapVoice.f a0_0).bind fun bt347 => (if bt347.2 = true then (some (bt347.1 == a0_1)) else (some false))))) else (some false)))
theorem impl_isLink.calls (a0_0 : Int) (a0_1 : Int) (r : Bool) (w : World) (h : impl_isLink.f a0_0 a0_1 = some r) :
  Calls Tryz.prog 149 #[.agg #[.int .u8 a0_0, .int .u8 a0_1]] w fun e w' => e = .returned (.bool r) ∧ Below w.heap.size w w' := by
 have hu90 := Tryz.underlying90; have HB := asT (Below.refl w.heap.size w); have H := h; unfold impl_isLink.f at H; clear h; by_cases c2 : a0_0 = 0
 ·rw [if_pos c2] at H; have c2b0 : (a0_0 == 0) = true := eC c2; have c2b1 : (a0_0 != 0) = false := eA c2; clear c2; obtain ⟨t345, A3, H⟩ := be H; obtain rfl := oI H; go_enter Tryz.func149, Tryz.ntmps149
  go_wp2_with (first | ((with_reducible refine gate_dst (N := 1) rfl ?_); refine boxT (N := 1) (cs := #[.int .u8 a0_0, .int .u8 a0_1]) (t := 90) ?_; intro gb344 hg w4 hbox hb; have BK344 := asT hbox; have GW344 := asT (geT hg HB.out); have GE344 := GW344; replace HB := hS HB hb; clear hb hbox hg; obtain ⟨hcz5_0, hcz5_1, hfz5_0, hfz5_1⟩ := bx2 BK344.out) | ((with_reducible refine gate_callee (f := 140) rfl ?_); refine goesL_ (some 11) rfl rfl Tryz.func140 (by kernel_rfl) rfl #[.int .u8 a0_1] rfl eqT ?_; (with_reducible refine (impl_IsSound.calls a0_1 t345 _ A3.out).mono ?_); rintro e w' ⟨rfl, ⟨nd, rfl⟩⟩; refine ⟨_, rfl, ?_⟩))
  go_ret; exact ⟨rlT, hbT HB.out⟩
 ·rw [if_neg c2] at H; have c2b0 : (a0_0 == 0) = false := eB c2; have c2b1 : (a0_0 != 0) = true := eD c2; obtain ⟨t346, A6, H⟩ := be H; by_cases c7 : t346 = true
  ·subst c7; rw [if_pos rfl] at H; have H1 := H; clear H; have H := H1; clear H1; by_cases c8 : a0_1 = 0
   ·rw [if_pos c8] at H; have c8b0 : (a0_1 == 0) = true := eC c8; have c8b1 : (a0_1 != 0) = false := eA c8; clear c8; obtain rfl := oI H; go_enter Tryz.func149, Tryz.ntmps149
    go_wp2_with (first | ((with_reducible refine gate_dst (N := 1) rfl ?_); refine boxT (N := 1) (cs := #[.int .u8 a0_0, .int .u8 a0_1]) (t := 90) ?_; intro gb344 hg w9 hbox hb; have BK344 := asT hbox; have GW344 := asT (geT hg HB.out); have GE344 := GW344; replace HB := hS HB hb; clear hb hbox hg; obtain ⟨hcz10_0, hcz10_1, hfz10_0, hfz10_1⟩ := bx2 BK344.out) | ((with_reducible refine gate_callee (f := 140) rfl ?_); refine goesL_ (some 15) rfl rfl Tryz.func140 (by kernel_rfl) rfl #[.int .u8 a0_0] rfl eqT ?_; (with_reducible refine (impl_IsSound.calls a0_0 true _ A6.out).mono ?_); rintro e w' ⟨rfl, ⟨nd, rfl⟩⟩; refine ⟨_, rfl, ?_⟩))
    go_ret; exact ⟨rlT, hbT HB.out⟩
   ·rw [if_neg c8] at H; have c8b0 : (a0_1 == 0) = false := eB c8; have c8b1 : (a0_1 != 0) = true := eD c8; by_cases c11 : a0_1 = a0_0
    ·rw [if_pos c11] at H; have c11b0 : (a0_1 == a0_0) = true := eC c11; have c11b1 : (a0_1 != a0_0) = false := eA c11; clear c11; obtain rfl := oI H; go_enter Tryz.func149, Tryz.ntmps149
     go_wp2_with (first | ((with_reducible refine gate_dst (N := 1) rfl ?_); refine boxT (N := 1) (cs := #[.int .u8 a0_0, .int .u8 a0_1]) (t := 90) ?_; intro gb344 hg w12 hbox hb; have BK344 := asT hbox; have GW344 := asT (geT hg HB.out); have GE344 := GW344; replace HB := hS HB hb; clear hb hbox hg; obtain ⟨hcz13_0, hcz13_1, hfz13_0, hfz13_1⟩ := bx2 BK344.out) | ((with_reducible refine gate_callee (f := 140) rfl ?_); refine goesL_ (some 15) rfl rfl Tryz.func140 (by kernel_rfl) rfl #[.int .u8 a0_0] rfl eqT ?_; (with_reducible refine (impl_IsSound.calls a0_0 true _ A6.out).mono ?_); rintro e w' ⟨rfl, ⟨nd, rfl⟩⟩; refine ⟨_, rfl, ?_⟩))
     go_ret; exact ⟨rlT, hbT HB.out⟩
    ·rw [if_neg c11] at H; have c11b0 : (a0_1 == a0_0) = false := eB c11; have c11b1 : (a0_1 != a0_0) = true := eD c11; replace H := Option.bind_eq_some_iff.mp H; obtain ⟨⟨t347, t348⟩, A140, H⟩ := H; replace H : (if t348 = true then (some (t347 == a0_1)) else (some false)) = some r := H; have A14 := asT A140; clear A140; by_cases c15 : t348 = true
     ·subst c15; rw [if_pos rfl] at H; have H1 := H; clear H; have H := H1; clear H1; obtain rfl := oI H; go_enter Tryz.func149, Tryz.ntmps149
      go_wp2_with (first | ((with_reducible refine gate_dst (N := 1) rfl ?_); refine boxT (N := 1) (cs := #[.int .u8 a0_0, .int .u8 a0_1]) (t := 90) ?_; intro gb344 hg w16 hbox hb; have BK344 := asT hbox; have GW344 := asT (geT hg HB.out); have GE344 := GW344; replace HB := hS HB hb; clear hb hbox hg; obtain ⟨hcz17_0, hcz17_1, hfz17_0, hfz17_1⟩ := bx2 BK344.out) | ((with_reducible refine gate_callee (f := 140) rfl ?_); refine goesL_ (some 15) rfl rfl Tryz.func140 (by kernel_rfl) rfl #[.int .u8 a0_0] rfl eqT ?_; (with_reducible refine (impl_IsSound.calls a0_0 true _ A6.out).mono ?_); rintro e w' ⟨rfl, ⟨nd, rfl⟩⟩; refine ⟨_, rfl, ?_⟩) | ((with_reducible refine gate_callee (f := 165) rfl ?_); refine goesL_ (some 31) rfl rfl Tryz.func165 (by kernel_rfl) rfl #[.int .u8 a0_0] rfl eqT ?_; (with_reducible refine (impl_SwapVoice.calls a0_0 t347 true _ A14.out).mono ?_); rintro e w' ⟨rfl, ⟨nd, rfl⟩⟩; refine ⟨_, rfl, ?_⟩))
      go_ret; exact ⟨rlT, hbT HB.out⟩
     ·replace c15 := eE c15; subst c15; rw [if_neg nF] at H; have H1 := H; clear H; have H := H1; clear H1; obtain rfl := oI H; go_enter Tryz.func149, Tryz.ntmps149
      go_wp2_with (first | ((with_reducible refine gate_dst (N := 1) rfl ?_); refine boxT (N := 1) (cs := #[.int .u8 a0_0, .int .u8 a0_1]) (t := 90) ?_; intro gb344 hg w18 hbox hb; have BK344 := asT hbox; have GW344 := asT (geT hg HB.out); have GE344 := GW344; replace HB := hS HB hb; clear hb hbox hg; obtain ⟨hcz19_0, hcz19_1, hfz19_0, hfz19_1⟩ := bx2 BK344.out) | ((with_reducible refine gate_callee (f := 140) rfl ?_); refine goesL_ (some 15) rfl rfl Tryz.func140 (by kernel_rfl) rfl #[.int .u8 a0_0] rfl eqT ?_; (with_reducible refine (impl_IsSound.calls a0_0 true _ A6.out).mono ?_); rintro e w' ⟨rfl, ⟨nd, rfl⟩⟩; refine ⟨_, rfl, ?_⟩) | ((with_reducible refine gate_callee (f := 165) rfl ?_); refine goesL_ (some 31) rfl rfl Tryz.func165 (by kernel_rfl) rfl #[.int .u8 a0_0] rfl eqT ?_; (with_reducible refine (impl_SwapVoice.calls a0_0 t347 false _ A14.out).mono ?_); rintro e w' ⟨rfl, ⟨nd, rfl⟩⟩; refine ⟨_, rfl, ?_⟩))
      go_ret; exact ⟨rlT, hbT HB.out⟩
  ·replace c7 := eE c7; subst c7; rw [if_neg nF] at H; have H1 := H; clear H; have H := H1; clear H1; obtain rfl := oI H; go_enter Tryz.func149, Tryz.ntmps149
   go_wp2_with (first | ((with_reducible refine gate_dst (N := 1) rfl ?_); refine boxT (N := 1) (cs := #[.int .u8 a0_0, .int .u8 a0_1]) (t := 90) ?_; intro gb344 hg w20 hbox hb; have BK344 := asT hbox; have GW344 := asT (geT hg HB.out); have GE344 := GW344; replace HB := hS HB hb; clear hb hbox hg; obtain ⟨hcz21_0, hcz21_1, hfz21_0, hfz21_1⟩ := bx2 BK344.out) | ((with_reducible refine gate_callee (f := 140) rfl ?_); refine goesL_ (some 15) rfl rfl Tryz.func140 (by kernel_rfl) rfl #[.int .u8 a0_0] rfl eqT ?_; (with_reducible refine (impl_IsSound.calls a0_0 false _ A6.out).mono ?_); rintro e w' ⟨rfl, ⟨nd, rfl⟩⟩; refine ⟨_, rfl, ?_⟩))
   go_ret; exact ⟨rlT, hbT HB.out⟩
def impl_IsCandidate.l0 : Nat → List (S90) → Int → Int → List (S90) → Option (Bool)
 | 0, _, _, _, _ => none
 | k + 1, x6, x7, x8, x350000 => if x8 < x7 then (if 0 ≤ x8 then (if x8 < (x6.length : Int) then ((impl_isLink.f ((rd_T90 x6 x8).f0) ((rd_T90 x6 x8).f1)).bind fun t352 => (if t352 = true then (impl_IsCandidate.l0 k x6 x7 (wrap64 (x8 + 1)) x350000) else (some false))) else (none)) else (none)) else (if (x350000.length : Int) ≤ 16 then ((impl_sounds.f k x350000 false).bind fun t353 => ((impl_IsForm.f k t353).bind fun t354 => (if t354 = true then ((impl_sounds.f k x350000 true).bind fun t355 => ((impl_IsForm.f k t355).bind fun t356 => (some t356))) else (some false)))) else (some false))
def impl_IsCandidate.f (k : Nat) (l0_0 : List (S90)) : Option (Bool) := impl_IsCandidate.l0 k l0_0 (l0_0.length : Int) 0 l0_0
theorem impl_IsCandidate.mono_l : ∀ k, (∀ y0 y1 y2 y3, LeO (impl_IsCandidate.l0 k y0 y1 y2 y3) (impl_IsCandidate.l0 (k + 1) y0 y1 y2 y3))
 | 0 => fun _ _ _ _ r h => by simp [impl_IsCandidate.l0] at h
 | k + 1 => by
  have ih0 := impl_IsCandidate.mono_l k
  ·intro y0 y1 y2 y3; unfold impl_IsCandidate.l0
   with_reducible repeat' first | exact ih0 _ _ _ _ | exact impl_IsForm.mono _ _ | exact impl_sounds.mono _ _ _ | exact LeO.refl _ | exact LeO.none _ | refine LeO.ite ?_ ?_ | refine LeO.bind ?_ (fun _ => ?_)
theorem impl_IsCandidate.mono : ∀ a0 k, LeO (impl_IsCandidate.f k a0) (impl_IsCandidate.f (k + 1) a0) := by
 intro a0 k; have ih0 := impl_IsCandidate.mono_l k; unfold impl_IsCandidate.f
 with_reducible repeat' first | exact ih0 _ _ _ _ | exact impl_IsForm.mono _ _ | exact impl_sounds.mono _ _ _ | exact LeO.refl _ | exact LeO.none _ | refine LeO.ite ?_ ?_ | refine LeO.bind ?_ (fun _ => ?_)
theorem impl_IsCandidate.calls (k : Nat) (A0_0 : Option Addr) (c0_0 : Nat) (l0_0 : List (S90)) (r : Bool) (w : World) (hr0_0 : Kd.C k90 w A0_0 l0_0.length l0_0) (hc0_0 : l0_0.length ≤ c0_0) (h : impl_IsCandidate.f k l0_0 = some r) :
  Calls Tryz.prog 108 #[.agg #[.slice A0_0 l0_0.length c0_0]] w fun e w' => e = .returned (.bool r) ∧ Below w.heap.size w w' := by
 have hu42 := Tryz.underlying42; have hu90 := Tryz.underlying90; have HR0_0 := asT hr0_0; have HC0_0 := asT hc0_0; clear hr0_0 hc0_0; have HB := asT (Below.refl w.heap.size w); have H := h; unfold impl_IsCandidate.f at H; clear h; have H' := asT H; clear H; go_enter Tryz.func108, Tryz.ntmps108
 go_wp2_with (first | ((with_reducible refine gate_dst (N := 1) rfl ?_); refine boxT (N := 1) (cs := #[.slice A0_0 l0_0.length c0_0]) (t := 42) ?_; intro gb349 hg w2 hbox hb; have BK349 := asT hbox; have GW349 := asT (geT hg HB.out); have GE349 := GW349; replace HB := hS HB hb; clear hb hbox hg; obtain ⟨hcz3_0, hfz3_0⟩ := bx1 BK349.out))
 go_loopg [8] k (fun kq v8 w' => ∃ (x8_1 : Int), v8 = .int .i64 x8_1 ∧ Aside0 (impl_IsCandidate.l0 kq l0_0 (l0_0.length : Int) x8_1 l0_0 = some r) ∧ Aside0 (kq ≤ k) ∧ Aside0 (w'.heap[gb349]? = some (.cells #[(.slice A0_0 l0_0.length c0_0)] 42 (0, 0))) ∧ Aside0 (Below w.heap.size w w'))
 case atStart => exact ⟨(0), rdT, H', ⟨Nat.le_refl _⟩, kpT BK349.out, ⟨hbT HB.out⟩⟩
 case round =>
  clear H'; (try clear c1 p2 hcz3_0 hfz3_0); obtain ⟨x8_1, rfl, HA, HK1, BK349, HB⟩ := hrel
  cases gk with
  | zero => exact absurd HA.out (by simp [impl_IsCandidate.l0])
  | succ k1 =>
   have H := HA.out; clear HA
   simp only [impl_IsCandidate.l0] at H
   by_cases c4 : x8_1 < (l0_0.length : Int)
   ·rw [if_pos c4] at H; have c4b0 := dt c4; clear c4; by_cases c5 : 0 ≤ x8_1
    ·rw [if_pos c5] at H; have c5b0 := dt c5; clear c5; by_cases c6 : x8_1 < (l0_0.length : Int)
     ·rw [if_pos c6] at H; have c6b0 := dt c6; clear c6; obtain ⟨t352, A7, H⟩ := be H; by_cases c8 : t352 = true
      ·subst c8; rw [if_pos rfl] at H; have H' := asT H; clear H; have p350 : 0 ≤ (x8_1 : Int) := dT asmT; have q350 : x8_1 < (l0_0.length : Int) := dT asmT; obtain ⟨ad350, e350, hx350_0, hx350_1⟩ := at_T90 HR0_0.out x8_1 p350 q350
       cases e350
       replace hx350_0 := hbc HB.out hx350_0; replace hx350_1 := hbc HB.out hx350_1; replace p350 := eq_true p350; replace q350 := eq_true q350
       go_wp2_with (first | ((with_reducible refine gate_dst (N := 4) rfl ?_); refine boxT (N := 4) (cs := #[.int .u8 0, .int .u8 0]) (t := 90) ?_; intro gb351 hg w9 hbox hb; have BK351 := asT (hbox); have GW351 := asT (geT hg HB.out); have GE351 := asT (geT hg HB.out); replace HB := hS HB hb; have NB349_351 := asT ((by rw [hg]; exact Nat.ne_of_lt (blk_lt (g := gb349) (o := .cells #[.slice (some ad350) l0_0.length c0_0] 42 (0, 0)) (bkT BK349.out)) : gb349 ≠ gb351)); have NB351_349 := asT ((by rw [hg]; exact Nat.ne_of_gt (blk_lt (g := gb349) (o := .cells #[.slice (some ad350) l0_0.length c0_0] 42 (0, 0)) (bkT BK349.out)) : gb351 ≠ gb349)); replace BK349 := bS BK349 hb; clear hb hbox hg; have hnb10 := NB351_349.out; have hnc10 := NB349_351.out; obtain ⟨hcz11_0, hcz11_1, hfz11_0, hfz11_1⟩ := bx2 BK351.out) | ((with_reducible refine gate_callee (f := 149) rfl ?_); refine goesL_ (some 13) rfl rfl Tryz.func149 (by kernel_rfl) rfl #[.agg #[.int .u8 ((rd_T90 l0_0 x8_1).f0), .int .u8 ((rd_T90 l0_0 x8_1).f1)]] rfl eqT ?_; (with_reducible refine (impl_isLink.calls ((rd_T90 l0_0 x8_1).f0) ((rd_T90 l0_0 x8_1).f1) true _ A7.out).mono ?_); rintro e w12 ⟨rfl, hb⟩; refine ⟨_, rfl, ?_⟩; replace BK349 := asT (blk_below (g := gb349) (o := .cells #[.slice (some ad350) l0_0.length c0_0] 42 (0, 0)) (by (with_reducible repeat (first | refine blk_drewN ?_ _ | refine blk_drew ?_ | refine blk_alloc ?_ _)); refine blk_far ?_ NB349_351.out _; (with_reducible repeat (first | refine blk_drewN ?_ _ | refine blk_drew ?_ | refine blk_alloc ?_ _)); refine blk_far ?_ NB349_351.out _; (with_reducible repeat (first | refine blk_drewN ?_ _ | refine blk_drew ?_ | refine blk_alloc ?_ _)); exact BK349.out) hb); replace BK351 := asT (blk_below (g := gb351) (o := .cells #[.int .u8 ((rd_T90 l0_0 x8_1).f0), .int .u8 ((rd_T90 l0_0 x8_1).f1)] 90 (0, 0)) (by (with_reducible repeat (first | refine blk_drewN ?_ _ | refine blk_drew ?_ | refine blk_alloc ?_ _)); refine blk_put (cs := #[.int .u8 ((rd_T90 l0_0 x8_1).f0), .int .u8 0]) ?_ 1 _ rfl; (with_reducible repeat (first | refine blk_drewN ?_ _ | refine blk_drew ?_ | refine blk_alloc ?_ _)); refine blk_put (cs := #[.int .u8 0, .int .u8 0]) ?_ 0 _ rfl; (with_reducible repeat (first | refine blk_drewN ?_ _ | refine blk_drew ?_ | refine blk_alloc ?_ _)); exact BK351.out) hb); replace HB := hS HB hb; (try clear hb hb2 hk hi)))
       go_roundg k1
       case measure => have := HK1.out; omega
       case rel => exact ⟨(wrap64 (x8_1 + 1)), rdT, H', ⟨by have := HK1.out; omega⟩, kpT BK349.out, ⟨hbT HB.out⟩⟩
      ·replace c8 := eE c8; subst c8; rw [if_neg nF] at H; have H1 := H; clear H; have H := H1; clear H1; obtain rfl := oI H; have p350 : 0 ≤ (x8_1 : Int) := dT asmT; have q350 : x8_1 < (l0_0.length : Int) := dT asmT; obtain ⟨ad350, e350, hx350_0, hx350_1⟩ := at_T90 HR0_0.out x8_1 p350 q350
       cases e350
       replace hx350_0 := hbc HB.out hx350_0; replace hx350_1 := hbc HB.out hx350_1; replace p350 := eq_true p350; replace q350 := eq_true q350
       go_wp2_with (first | ((with_reducible refine gate_dst (N := 4) rfl ?_); refine boxT (N := 4) (cs := #[.int .u8 0, .int .u8 0]) (t := 90) ?_; intro gb351 hg w13 hbox hb; have BK351 := asT (hbox); have GW351 := asT (geT hg HB.out); have GE351 := asT (geT hg HB.out); replace HB := hS HB hb; have NB349_351 := asT ((by rw [hg]; exact Nat.ne_of_lt (blk_lt (g := gb349) (o := .cells #[.slice (some ad350) l0_0.length c0_0] 42 (0, 0)) (bkT BK349.out)) : gb349 ≠ gb351)); have NB351_349 := asT ((by rw [hg]; exact Nat.ne_of_gt (blk_lt (g := gb349) (o := .cells #[.slice (some ad350) l0_0.length c0_0] 42 (0, 0)) (bkT BK349.out)) : gb351 ≠ gb349)); replace BK349 := bS BK349 hb; clear hb hbox hg; have hnb14 := NB351_349.out; have hnc14 := NB349_351.out; obtain ⟨hcz15_0, hcz15_1, hfz15_0, hfz15_1⟩ := bx2 BK351.out) | ((with_reducible refine gate_callee (f := 149) rfl ?_); refine goesL_ (some 13) rfl rfl Tryz.func149 (by kernel_rfl) rfl #[.agg #[.int .u8 ((rd_T90 l0_0 x8_1).f0), .int .u8 ((rd_T90 l0_0 x8_1).f1)]] rfl eqT ?_; (with_reducible refine (impl_isLink.calls ((rd_T90 l0_0 x8_1).f0) ((rd_T90 l0_0 x8_1).f1) false _ A7.out).mono ?_); rintro e w16 ⟨rfl, hb⟩; refine ⟨_, rfl, ?_⟩; replace BK349 := asT (blk_below (g := gb349) (o := .cells #[.slice (some ad350) l0_0.length c0_0] 42 (0, 0)) (by (with_reducible repeat (first | refine blk_drewN ?_ _ | refine blk_drew ?_ | refine blk_alloc ?_ _)); refine blk_far ?_ NB349_351.out _; (with_reducible repeat (first | refine blk_drewN ?_ _ | refine blk_drew ?_ | refine blk_alloc ?_ _)); refine blk_far ?_ NB349_351.out _; (with_reducible repeat (first | refine blk_drewN ?_ _ | refine blk_drew ?_ | refine blk_alloc ?_ _)); exact BK349.out) hb); replace BK351 := asT (blk_below (g := gb351) (o := .cells #[.int .u8 ((rd_T90 l0_0 x8_1).f0), .int .u8 ((rd_T90 l0_0 x8_1).f1)] 90 (0, 0)) (by (with_reducible repeat (first | refine blk_drewN ?_ _ | refine blk_drew ?_ | refine blk_alloc ?_ _)); refine blk_put (cs := #[.int .u8 ((rd_T90 l0_0 x8_1).f0), .int .u8 0]) ?_ 1 _ rfl; (with_reducible repeat (first | refine blk_drewN ?_ _ | refine blk_drew ?_ | refine blk_alloc ?_ _)); refine blk_put (cs := #[.int .u8 0, .int .u8 0]) ?_ 0 _ rfl; (with_reducible repeat (first | refine blk_drewN ?_ _ | refine blk_drew ?_ | refine blk_alloc ?_ _)); exact BK351.out) hb); replace HB := hS HB hb; (try clear hb hb2 hk hi)))
       go_ret; exact ⟨rlT, hbT HB.out⟩
     ·rw [if_neg c6] at H; exact absurd H (by simp)
    ·rw [if_neg c5] at H; exact absurd H (by simp)
   ·rw [if_neg c4] at H; have c4b0 := df c4; clear c4; by_cases c17 : (l0_0.length : Int) ≤ 16
    ·rw [if_pos c17] at H; have c17b0 := dt c17; have c17b1 : decide (l0_0.length ≤ 16) = true := dt (by omega); clear c17; obtain ⟨t353, A18, H⟩ := be H; obtain ⟨t354, A19, H⟩ := be H; by_cases c20 : t354 = true
     ·subst c20; rw [if_pos rfl] at H; obtain ⟨t355, A21, H⟩ := be H; obtain ⟨t356, A22, H⟩ := be H; obtain rfl := oI H; obtain ⟨hcz23_0, hfz23_0⟩ := bx1 BK349.out
      go_wp2_with (first | (go_at_call 111; (with_reducible refine (impl_sounds.calls k1 _ _ l0_0 false t353 _ ?side1 ?side2 A18.out).mono ?_); (case side1 => exact crT HR0_0.out HB.out); (case side2 => exact HC0_0.out); rintro e w24 ⟨rfl, hb⟩; replace BK349 := bS BK349 hb; replace HB := hS HB hb; (try clear hb hb2 hk hi)) | (go_at_call 101; (with_reducible refine (impl_IsForm.calls k1 t353 true _ A19.out).mono ?_); rintro e w' ⟨rfl, ⟨nd, rfl⟩⟩; obtain ⟨hcz25_0, hfz25_0⟩ := bx1 BK349.out) | (go_at_call 111; (with_reducible refine (impl_sounds.calls k1 _ _ l0_0 true t355 _ ?side1 ?side2 A21.out).mono ?_); (case side1 => exact crT HR0_0.out (hbT HB.out)); (case side2 => exact HC0_0.out); rintro e w26 ⟨rfl, hb⟩; replace BK349 := bS BK349 hb; replace HB := hS HB hb; (try clear hb hb2 hk hi)) | (go_at_call 101; (with_reducible refine (impl_IsForm.calls k1 t355 t356 _ A22.out).mono ?_); rintro e w' ⟨rfl, ⟨nd, rfl⟩⟩))
      go_ret; exact ⟨rlT, hbT HB.out⟩
     ·replace c20 := eE c20; subst c20; rw [if_neg nF] at H; have H1 := H; clear H; have H := H1; clear H1; obtain rfl := oI H; obtain ⟨hcz27_0, hfz27_0⟩ := bx1 BK349.out
      go_wp2_with (first | (go_at_call 111; (with_reducible refine (impl_sounds.calls k1 _ _ l0_0 false t353 _ ?side1 ?side2 A18.out).mono ?_); (case side1 => exact crT HR0_0.out HB.out); (case side2 => exact HC0_0.out); rintro e w28 ⟨rfl, hb⟩; replace BK349 := bS BK349 hb; replace HB := hS HB hb; (try clear hb hb2 hk hi)) | (go_at_call 101; (with_reducible refine (impl_IsForm.calls k1 t353 false _ A19.out).mono ?_); rintro e w' ⟨rfl, ⟨nd, rfl⟩⟩))
      go_ret; exact ⟨rlT, hbT HB.out⟩
    ·rw [if_neg c17] at H; have c17b0 := df c17; have c17b1 : decide (l0_0.length ≤ 16) = false := df (by omega); clear c17; obtain rfl := oI H; obtain ⟨hcz29_0, hfz29_0⟩ := bx1 BK349.out
     go_wp2
     go_ret; exact ⟨rlT, hbT HB.out⟩
def impl_InputOf.f (k : Nat) (l0_0 : List (S90)) : Option (ByteArray) := (impl_IsCandidate.f k l0_0).bind fun t358 => (if t358 = true then ((impl_sounds.f k l0_0 false).bind fun t359 => (some t359)) else (some (⟨#[]⟩ : ByteArray)))
theorem impl_InputOf.mono : ∀ a0 k, LeO (impl_InputOf.f k a0) (impl_InputOf.f (k + 1) a0) := by
 intro a0 k; unfold impl_InputOf.f
 with_reducible repeat' first | exact impl_IsCandidate.mono _ _ | exact impl_sounds.mono _ _ _ | exact LeO.refl _ | exact LeO.none _ | refine LeO.ite ?_ ?_ | refine LeO.bind ?_ (fun _ => ?_)
theorem impl_InputOf.calls (k : Nat) (A0_0 : Option Addr) (c0_0 : Nat) (l0_0 : List (S90)) (r : ByteArray) (w : World) (hr0_0 : Kd.C k90 w A0_0 l0_0.length l0_0) (hc0_0 : l0_0.length ≤ c0_0) (h : impl_InputOf.f k l0_0 = some r) :
  Calls Tryz.prog 30 #[.agg #[.slice A0_0 l0_0.length c0_0]] w fun e w' => e = .returned (.string r) ∧ Below w.heap.size w w' := by
 have hu42 := Tryz.underlying42; have HR0_0 := asT hr0_0; have HC0_0 := asT hc0_0; clear hr0_0 hc0_0; have HB := asT (Below.refl w.heap.size w); have H := h; unfold impl_InputOf.f at H; clear h; obtain ⟨t358, A2, H⟩ := be H; by_cases c3 : t358 = true
 ·subst c3; rw [if_pos rfl] at H; obtain ⟨t359, A4, H⟩ := be H; obtain rfl := oI H; go_enter Tryz.func30, Tryz.ntmps30
  go_wp2_with (first | ((with_reducible refine gate_dst (N := 1) rfl ?_); refine boxT (N := 1) (cs := #[.slice A0_0 l0_0.length c0_0]) (t := 42) ?_; intro gb357 hg w5 hbox hb; have BK357 := asT hbox; have GW357 := asT (geT hg HB.out); have GE357 := GW357; replace HB := hS HB hb; clear hb hbox hg; obtain ⟨hcz6_0, hfz6_0⟩ := bx1 BK357.out) | ((with_reducible refine gate_callee (f := 108) rfl ?_); refine goesL_ (some 4) rfl rfl Tryz.func108 (by kernel_rfl) rfl #[.agg #[.slice A0_0 l0_0.length c0_0]] rfl eqT ?_; (with_reducible refine (impl_IsCandidate.calls k _ _ l0_0 true _ ?side1 ?side2 A2.out).mono ?_); (case side1 => exact crT HR0_0.out HB.out); (case side2 => exact HC0_0.out); rintro e w7 ⟨rfl, hb⟩; refine ⟨_, rfl, ?_⟩; replace BK357 := bS BK357 hb; replace HB := hS HB hb; (try clear hb hb2 hk hi); obtain ⟨hcz8_0, hfz8_0⟩ := bx1 BK357.out) | ((with_reducible refine gate_callee (f := 111) rfl ?_); refine goesL_ (some 7) rfl rfl Tryz.func111 (by kernel_rfl) rfl #[.agg #[.slice A0_0 l0_0.length c0_0], .bool false] rfl eqT ?_; (with_reducible refine (impl_sounds.calls k _ _ l0_0 false t359 _ ?side1 ?side2 A4.out).mono ?_); (case side1 => exact crT HR0_0.out HB.out); (case side2 => exact HC0_0.out); rintro e w9 ⟨rfl, hb⟩; refine ⟨_, rfl, ?_⟩; replace BK357 := bS BK357 hb; replace HB := hS HB hb; (try clear hb hb2 hk hi)))
  go_ret; exact ⟨rlT, hbT HB.out⟩
 ·replace c3 := eE c3; subst c3; rw [if_neg nF] at H; have H1 := H; clear H; have H := H1; clear H1; obtain rfl := oI H; go_enter Tryz.func30, Tryz.ntmps30
  go_wp2_with (first | ((with_reducible refine gate_dst (N := 1) rfl ?_); refine boxT (N := 1) (cs := #[.slice A0_0 l0_0.length c0_0]) (t := 42) ?_; intro gb357 hg w10 hbox hb; have BK357 := asT hbox; have GW357 := asT (geT hg HB.out); have GE357 := GW357; replace HB := hS HB hb; clear hb hbox hg; obtain ⟨hcz11_0, hfz11_0⟩ := bx1 BK357.out) | ((with_reducible refine gate_callee (f := 108) rfl ?_); refine goesL_ (some 4) rfl rfl Tryz.func108 (by kernel_rfl) rfl #[.agg #[.slice A0_0 l0_0.length c0_0]] rfl eqT ?_; (with_reducible refine (impl_IsCandidate.calls k _ _ l0_0 false _ ?side1 ?side2 A2.out).mono ?_); (case side1 => exact crT HR0_0.out HB.out); (case side2 => exact HC0_0.out); rintro e w12 ⟨rfl, hb⟩; refine ⟨_, rfl, ?_⟩; replace BK357 := bS BK357 hb; replace HB := hS HB hb; (try clear hb hb2 hk hi)))
  go_ret; exact ⟨rlT, hbT HB.out⟩
def impl_HasFeature.f (a0 : Int) (a1 : Int) : Option (Bool) := (impl_within.f a1 0 4).bind fun t360 => (if t360 = true then ((some (([(⟨#[97, 105]⟩ : ByteArray), (⟨#[98, 100, 110, 97, 105]⟩ : ByteArray), (⟨#[110]⟩ : ByteArray), (⟨#[112, 98]⟩ : ByteArray), (⟨#[105]⟩ : ByteArray)] : List ByteArray) : List ByteArray)).bind fun y361 => (if 0 ≤ a1 then (if a1 < (y361.length : Int) then ((strings_IndexByte.f (rdOf ByteArray.empty y361 a1) a0).bind fun t365 => (some (decide (t365 ≥ 0)))) else (none)) else (none))) else (some false))
theorem impl_HasFeature.calls (a0 : Int) (a1 : Int) (r : Bool) (w : World) (h : impl_HasFeature.f a0 a1 = some r) :
  Calls Tryz.prog 97 #[.int .u8 a0, .int .i64 a1] w fun e w' => e = .returned (.bool r) ∧ Below w.heap.size w w' := by
 have HB := asT (Below.refl w.heap.size w); have H := h; unfold impl_HasFeature.f at H; clear h; obtain ⟨t360, A3, H⟩ := be H; by_cases c4 : t360 = true
 ·subst c4; rw [if_pos rfl] at H; obtain ⟨y361, hy361⟩ : ∃ y_ : List ByteArray, y_ = (([(⟨#[97, 105]⟩ : ByteArray), (⟨#[98, 100, 110, 97, 105]⟩ : ByteArray), (⟨#[110]⟩ : ByteArray), (⟨#[112, 98]⟩ : ByteArray), (⟨#[105]⟩ : ByteArray)] : List ByteArray)) := ⟨_, rfl⟩
  replace H : (if 0 ≤ a1 then (if a1 < (y361.length : Int) then ((strings_IndexByte.f (rdOf ByteArray.empty y361 a1) a0).bind fun t365 => (some (decide (t365 ≥ 0)))) else (none)) else (none)) = some r := by first | (rw [hy361]; with_reducible exact H) | (have H2_ := (Option.bind_some _ _).symm.trans H; rw [hy361]; with_reducible exact H2_) | (have H2_ := (Option.bind_some _ _).symm.trans H; with_reducible exact H2_) | with_reducible exact H | (rw [hy361]; exact H) | exact H
  have Ny361 := asT hy361; clear hy361; by_cases c5 : 0 ≤ a1
  ·rw [if_pos c5] at H; have c5b0 := dt c5; clear c5; by_cases c6 : a1 < (y361.length : Int)
   ·rw [if_pos c6] at H; have c6b0 := dt c6; clear c6; obtain ⟨t365, A7, H⟩ := be H; obtain rfl := oI H; go_enter Tryz.func97, Tryz.ntmps97
    go_wp2_with (first | ((with_reducible refine gate_callee (f := 125) rfl ?_); refine goesL_ (some 6) rfl rfl Tryz.func125 (by kernel_rfl) rfl #[.int .i64 a1, .int .i64 0, .int .i64 4] rfl eqT ?_; (with_reducible refine (impl_within.calls a1 0 4 true _ A3.out).mono ?_); rintro e w' ⟨rfl, ⟨nd, rfl⟩⟩; refine ⟨_, rfl, ?_⟩) | ((with_reducible refine gate_dst (N := 8) rfl ?_); refine Kd.R_lit Kd.string _ 9 ?hg (N := 8) ?hd (xs := ([(⟨#[97, 105]⟩ : ByteArray), (⟨#[98, 100, 110, 97, 105]⟩ : ByteArray), (⟨#[110]⟩ : ByteArray), (⟨#[112, 98]⟩ : ByteArray), (⟨#[105]⟩ : ByteArray)] : List ByteArray)) (inner := [.string (⟨#[97, 105]⟩ : ByteArray), .string (⟨#[98, 100, 110, 97, 105]⟩ : ByteArray), .string (⟨#[110]⟩ : ByteArray), .string (⟨#[112, 98]⟩ : ByteArray), .string (⟨#[105]⟩ : ByteArray)]) (ok := fun _ => True) (okp := fun _ => True) ?hr ?hp (fun _ hk => hk) trivial (Below.refl _ _) (Nat.le_refl _) (by simp) ?_; (case hd => rfl); (case hg => rfl); (case hr => first | (go_simp; done) | (go_simp; rfl)); (case hp => exact (Reps.one (show Kd.M Kd.string _ _ _ (⟨#[97, 105]⟩ : ByteArray) [.string (⟨#[97, 105]⟩ : ByteArray)] from rfl) (Reps.one (show Kd.M Kd.string _ _ _ (⟨#[98, 100, 110, 97, 105]⟩ : ByteArray) [.string (⟨#[98, 100, 110, 97, 105]⟩ : ByteArray)] from rfl) (Reps.one (show Kd.M Kd.string _ _ _ (⟨#[110]⟩ : ByteArray) [.string (⟨#[110]⟩ : ByteArray)] from rfl) (Reps.one (show Kd.M Kd.string _ _ _ (⟨#[112, 98]⟩ : ByteArray) [.string (⟨#[112, 98]⟩ : ByteArray)] from rfl) (Reps.one (show Kd.M Kd.string _ _ _ (⟨#[105]⟩ : ByteArray) [.string (⟨#[105]⟩ : ByteArray)] from rfl) (Reps.none _ _))))))); intro v362 w8 ho9 hb hg_ hnew_; clear hg_ hnew_; (first | rw [← Ny361.out] at ho9 | (simp only [Int.reduceToNat] at ho9; rw [← Ny361.out] at ho9)); have HO363 := asT (Kd.R_lower ho9 (below_size (hbT HB.out))); replace HB := hS HB hb; clear hb ho9; obtain ⟨Ao10, co10, eo10⟩ := Kd.R_slice HO363.out; subst eo10; have p364 : 0 ≤ (a1 : Int) := dT asmT; have q364 : a1 < (y361.length : Int) := dT asmT; obtain ⟨ad364, e364, hx364_0⟩ := Kd.at_string (Kd.R_reads' HO363.out).2.2 a1 p364 q364; cases e364; replace p364 := eq_true p364; replace q364 := eq_true q364) | ((with_reducible refine gate_callee (f := 143) rfl ?_); refine goesL_ (some 13) rfl rfl Tryz.func143 (by kernel_rfl) rfl #[.string (rdOf ByteArray.empty y361 a1), .int .u8 a0] rfl eqT ?_; (with_reducible refine (strings_IndexByte.calls (rdOf ByteArray.empty y361 a1) a0 t365 _ A7.out).mono ?_); rintro e w' ⟨rfl, ⟨nd, rfl⟩⟩; refine ⟨_, rfl, ?_⟩))
    go_ret; exact ⟨rlT, hbT HB.out⟩
   ·rw [if_neg c6] at H; exact absurd H (by simp)
  ·rw [if_neg c5] at H; exact absurd H (by simp)
 ·replace c4 := eE c4; subst c4; rw [if_neg nF] at H; have H1 := H; clear H; have H := H1; clear H1; obtain rfl := oI H; go_enter Tryz.func97, Tryz.ntmps97
  go_wp2_with (first | ((with_reducible refine gate_callee (f := 125) rfl ?_); refine goesL_ (some 6) rfl rfl Tryz.func125 (by kernel_rfl) rfl #[.int .i64 a1, .int .i64 0, .int .i64 4] rfl eqT ?_; (with_reducible refine (impl_within.calls a1 0 4 false _ A3.out).mono ?_); rintro e w' ⟨rfl, ⟨nd, rfl⟩⟩; refine ⟨_, rfl, ?_⟩))
  go_ret; exact ⟨rlT, hbT HB.out⟩
def impl_isVowel.f (a0 : Int) : Option (Bool) := (impl_HasFeature.f a0 0).bind fun t366 => (some t366)
theorem impl_isVowel.calls (a0 : Int) (r : Bool) (w : World) (h : impl_isVowel.f a0 = some r) :
  Calls Tryz.prog 86 #[.int .u8 a0] w fun e w' => e = .returned (.bool r) ∧ Below w.heap.size w w' := by
 have HB := asT (Below.refl w.heap.size w); have H := h; unfold impl_isVowel.f at H; clear h; obtain ⟨t366, A2, H⟩ := be H; obtain rfl := oI H; go_enter Tryz.func86, Tryz.ntmps86
 go_wp2_with (first | ((with_reducible refine gate_callee (f := 97) rfl ?_); refine goesL_ (some 4) rfl rfl Tryz.func97 (by kernel_rfl) rfl #[.int .u8 a0, .int .i64 0] rfl eqT ?_; (with_reducible refine (impl_HasFeature.calls a0 0 t366 _ A2.out).mono ?_); rintro e w3 ⟨rfl, hb⟩; refine ⟨_, rfl, ?_⟩; replace HB := hS HB hb; (try clear hb hb2 hk hi)))
 go_ret; exact ⟨rlT, hbT HB.out⟩
def impl_isConsonant.f (a0 : Int) : Option (Bool) := (impl_IsSound.f a0).bind fun t367 => (if t367 = true then ((impl_isVowel.f a0).bind fun t368 => (some (!t368))) else (some false))
theorem impl_isConsonant.calls (a0 : Int) (r : Bool) (w : World) (h : impl_isConsonant.f a0 = some r) :
  Calls Tryz.prog 87 #[.int .u8 a0] w fun e w' => e = .returned (.bool r) ∧ Below w.heap.size w w' := by
 have HB := asT (Below.refl w.heap.size w); have H := h; unfold impl_isConsonant.f at H; clear h; obtain ⟨t367, A2, H⟩ := be H; by_cases c3 : t367 = true
 ·subst c3; rw [if_pos rfl] at H; obtain ⟨t368, A4, H⟩ := be H; obtain rfl := oI H; go_enter Tryz.func87, Tryz.ntmps87
  go_wp2_with (first | ((with_reducible refine gate_callee (f := 140) rfl ?_); refine goesL_ (some 4) rfl rfl Tryz.func140 (by kernel_rfl) rfl #[.int .u8 a0] rfl eqT ?_; (with_reducible refine (impl_IsSound.calls a0 true _ A2.out).mono ?_); rintro e w' ⟨rfl, ⟨nd, rfl⟩⟩; refine ⟨_, rfl, ?_⟩) | (go_at_call 86; (with_reducible refine (impl_isVowel.calls a0 t368 _ A4.out).mono ?_); rintro e w5 ⟨rfl, hb⟩; replace HB := hS HB hb; (try clear hb hb2 hk hi)))
  go_ret; exact ⟨rlT, hbT HB.out⟩
 ·replace c3 := eE c3; subst c3; rw [if_neg nF] at H; have H1 := H; clear H; have H := H1; clear H1; obtain rfl := oI H; go_enter Tryz.func87, Tryz.ntmps87
  go_wp2_with (first | ((with_reducible refine gate_callee (f := 140) rfl ?_); refine goesL_ (some 4) rfl rfl Tryz.func140 (by kernel_rfl) rfl #[.int .u8 a0] rfl eqT ?_; (with_reducible refine (impl_IsSound.calls a0 false _ A2.out).mono ?_); rintro e w' ⟨rfl, ⟨nd, rfl⟩⟩; refine ⟨_, rfl, ?_⟩))
  go_ret; exact ⟨rlT, hbT HB.out⟩
def impl_CountOnsetless_1.f (a0 : Int) (a1 : Int) (a2 : Int) : Option (Bool) := (impl_isVowel.f a1).bind fun t369 => (if t369 = true then ((impl_isConsonant.f a0).bind fun t370 => (some (!t370))) else (some false))
theorem impl_CountOnsetless_1.calls (a0 : Int) (a1 : Int) (a2 : Int) (r : Bool) (w : World) (h : impl_CountOnsetless_1.f a0 a1 a2 = some r) :
  Calls Tryz.prog 85 #[.int .u8 a0, .int .u8 a1, .int .u8 a2] w fun e w' => e = .returned (.bool r) ∧ Below w.heap.size w w' := by
 have HB := asT (Below.refl w.heap.size w); have H := h; unfold impl_CountOnsetless_1.f at H; clear h; obtain ⟨t369, A4, H⟩ := be H; by_cases c5 : t369 = true
 ·subst c5; rw [if_pos rfl] at H; obtain ⟨t370, A6, H⟩ := be H; obtain rfl := oI H; go_enter Tryz.func85, Tryz.ntmps85
  go_wp2_with (first | ((with_reducible refine gate_callee (f := 86) rfl ?_); refine goesL_ (some 8) rfl rfl Tryz.func86 (by kernel_rfl) rfl #[.int .u8 a1] rfl eqT ?_; (with_reducible refine (impl_isVowel.calls a1 true _ A4.out).mono ?_); rintro e w7 ⟨rfl, hb⟩; refine ⟨_, rfl, ?_⟩; replace HB := hS HB hb; (try clear hb hb2 hk hi)) | (go_at_call 87; (with_reducible refine (impl_isConsonant.calls a0 t370 _ A6.out).mono ?_); rintro e w8 ⟨rfl, hb⟩; replace HB := hS HB hb; (try clear hb hb2 hk hi)))
  go_ret; exact ⟨rlT, hbT HB.out⟩
 ·replace c5 := eE c5; subst c5; rw [if_neg nF] at H; have H1 := H; clear H; have H := H1; clear H1; obtain rfl := oI H; go_enter Tryz.func85, Tryz.ntmps85
  go_wp2_with (first | ((with_reducible refine gate_callee (f := 86) rfl ?_); refine goesL_ (some 8) rfl rfl Tryz.func86 (by kernel_rfl) rfl #[.int .u8 a1] rfl eqT ?_; (with_reducible refine (impl_isVowel.calls a1 false _ A4.out).mono ?_); rintro e w9 ⟨rfl, hb⟩; refine ⟨_, rfl, ?_⟩; replace HB := hS HB hb; (try clear hb hb2 hk hi)))
  go_ret; exact ⟨rlT, hbT HB.out⟩
mutual
def impl_places_G.l0 (PF : Int → Int → Int → Option (Bool)) : Nat → ByteArray → Int → Int → Int → Option (Int)
 | 0, _, _, _, _ => none
 | k + 1, x0, x5, x10, x11 => if x11 < x10 then (if x11 > 0 then (if 0 ≤ (wrap64 (x11 - 1)) then (if (wrap64 (x11 - 1)) < (x0.size : Int) then (impl_places_G.j1 PF k x0 x5 x11 (bt x0 (wrap64 (x11 - 1))) 0 x10 x11) else (none)) else (none)) else (impl_places_G.j1 PF k x0 x5 x11 0 0 x10 x11)) else (some x5)
def impl_places_G.j1 (PF : Int → Int → Int → Option (Bool)) : Nat → ByteArray → Int → Int → Int → Int → Int → Int → Option (Int)
 | 0, _, _, _, _, _, _, _ => none
 | k + 1, x0, x5, x6, x7, x8, x10, x11 => if (wrap64 (x6 + 1)) < (x0.size : Int) then (if 0 ≤ (wrap64 (x6 + 1)) then (impl_places_G.j2 PF k x0 x5 x6 x7 (bt x0 (wrap64 (x6 + 1))) x10 x11) else (none)) else (impl_places_G.j2 PF k x0 x5 x6 x7 x8 x10 x11)
def impl_places_G.j2 (PF : Int → Int → Int → Option (Bool)) : Nat → ByteArray → Int → Int → Int → Int → Int → Int → Option (Int)
 | 0, _, _, _, _, _, _, _ => none
 | k + 1, x0, x5, x6, x7, x8, x10, x11 => (impl_IsForm.f k x0).bind fun t371 => (if t371 = true then (if 0 ≤ x6 then (if x6 < (x0.size : Int) then ((PF x7 (bt x0 x6) x8).bind fun t372 => (if t372 = true then (impl_places_G.l0 PF k x0 (wrap64 (x5 + 1)) x10 (wrap64 (x11 + 1))) else (impl_places_G.l0 PF k x0 x5 x10 (wrap64 (x11 + 1))))) else (none)) else (none)) else (impl_places_G.l0 PF k x0 x5 x10 (wrap64 (x11 + 1))))
end
def impl_places_G.f (PF : Int → Int → Int → Option (Bool)) (k : Nat) (a0 : ByteArray) (a1 : Unit) : Option (Int) := impl_places_G.l0 PF k a0 0 (a0.size : Int) 0
theorem impl_places_G.mono_l (PF : Int → Int → Int → Option (Bool)) : ∀ k, (∀ y0 y1 y2 y3, LeO (impl_places_G.l0 PF k y0 y1 y2 y3) (impl_places_G.l0 PF (k + 1) y0 y1 y2 y3)) ∧ (∀ y0 y1 y2 y3 y4 y5 y6, LeO (impl_places_G.j1 PF k y0 y1 y2 y3 y4 y5 y6) (impl_places_G.j1 PF (k + 1) y0 y1 y2 y3 y4 y5 y6)) ∧ (∀ y0 y1 y2 y3 y4 y5 y6, LeO (impl_places_G.j2 PF k y0 y1 y2 y3 y4 y5 y6) (impl_places_G.j2 PF (k + 1) y0 y1 y2 y3 y4 y5 y6))
 | 0 => ⟨fun _ _ _ _ r h => by simp [impl_places_G.l0] at h, fun _ _ _ _ _ _ _ r h => by simp [impl_places_G.j1] at h, fun _ _ _ _ _ _ _ r h => by simp [impl_places_G.j2] at h⟩
 | k + 1 => by
  obtain ⟨ih0, ih1, ih2⟩ := impl_places_G.mono_l PF k; refine ⟨?_, ?_, ?_⟩
  ·intro y0 y1 y2 y3; unfold impl_places_G.l0
   with_reducible repeat' first | exact ih0 _ _ _ _ | exact ih1 _ _ _ _ _ _ _ | exact ih2 _ _ _ _ _ _ _ | exact impl_IsForm.mono _ _ | exact LeO.refl _ | exact LeO.none _ | refine LeO.ite ?_ ?_ | refine LeO.bind ?_ (fun _ => ?_)
  ·intro y0 y1 y2 y3 y4 y5 y6; unfold impl_places_G.j1
   with_reducible repeat' first | exact ih0 _ _ _ _ | exact ih1 _ _ _ _ _ _ _ | exact ih2 _ _ _ _ _ _ _ | exact impl_IsForm.mono _ _ | exact LeO.refl _ | exact LeO.none _ | refine LeO.ite ?_ ?_ | refine LeO.bind ?_ (fun _ => ?_)
  ·intro y0 y1 y2 y3 y4 y5 y6; unfold impl_places_G.j2
   with_reducible repeat' first | exact ih0 _ _ _ _ | exact ih1 _ _ _ _ _ _ _ | exact ih2 _ _ _ _ _ _ _ | exact impl_IsForm.mono _ _ | exact LeO.refl _ | exact LeO.none _ | refine LeO.ite ?_ ?_ | refine LeO.bind ?_ (fun _ => ?_)
theorem impl_places_G.mono (PF : Int → Int → Int → Option (Bool)) : ∀ a0 a1 k, LeO (impl_places_G.f PF k a0 a1) (impl_places_G.f PF (k + 1) a0 a1) := by
 intro a0 a1 k; obtain ⟨ih0, ih1, ih2⟩ := impl_places_G.mono_l PF k; unfold impl_places_G.f
 with_reducible repeat' first | exact ih0 _ _ _ _ | exact ih1 _ _ _ _ _ _ _ | exact ih2 _ _ _ _ _ _ _ | exact impl_IsForm.mono _ _ | exact LeO.refl _ | exact LeO.none _ | refine LeO.ite ?_ ?_ | refine LeO.bind ?_ (fun _ => ?_)
theorem impl_places_G.calls (PF : Int → Int → Int → Option (Bool)) (F : FuncId) (fn : Func) (hfF : Tryz.prog.funcs[F]? = some fn) (hnF : (fn.name == "runtime.NumGoroutine") = false) (hbF : fn.body.isSome = true) (HF : ∀ (a0 a1 a2 : Int) (r : Bool) (w : World), PF a0 a1 a2 = some r → Calls Tryz.prog F #[.int .u8 a0, .int .u8 a1, .int .u8 a2] w fun e w' => e = .returned (.bool r) ∧ Below w.heap.size w w') (k : Nat) (a0 : ByteArray) (a1 : Unit) (r : Int) (w : World) (h : impl_places_G.f PF k a0 a1 = some r) :
  Calls Tryz.prog 84 #[.string a0, .func (.func F) #[] #[]] w fun e w' => e = .returned (.int .i64 r) ∧ Below w.heap.size w w' := by
 have HB := asT (Below.refl w.heap.size w); have H := h; unfold impl_places_G.f at H; clear h; have H' := asT H; clear H; go_enter Tryz.func84, Tryz.ntmps84
 go_wp2
 go_loopg [5, 11] k (fun kq v5 v11 w' => ∃ (x5_1 : Int) (x11_1 : Int), v5 = .int .i64 x5_1 ∧ v11 = .int .i64 x11_1 ∧ Aside0 (impl_places_G.l0 PF kq a0 x5_1 (a0.size : Int) x11_1 = some r) ∧ Aside0 (kq ≤ k) ∧ Aside0 (Below w.heap.size w w'))
 case atStart => exact ⟨(0), (0), rdT, rdT, H', ⟨Nat.le_refl _⟩, ⟨hbT HB.out⟩⟩
 case round =>
  clear H'; (try clear p2); obtain ⟨x5_1, x11_1, rfl, rfl, HA, HK1, HB⟩ := hrel
  cases gk with
  | zero => exact absurd HA.out (by simp [impl_places_G.l0])
  | succ k1 =>
   have H := HA.out; clear HA
   simp only [impl_places_G.l0] at H
   by_cases c3 : x11_1 < (a0.size : Int)
   ·rw [if_pos c3] at H; have c3b0 := dt c3; clear c3; have HC4 := asT H; clear H
    go_upto_if 15 with (fail)
    go_cut [7] (fun v7 wc => ∃ (kq : Nat) (x7_3 : Int), v7 = .int .u8 x7_3 ∧ Aside0 (impl_places_G.j1 PF kq a0 x5_1 x11_1 x7_3 0 (a0.size : Int) x11_1 = some r) ∧ Aside0 (kq ≤ k1) ∧ Aside0 (Below w.heap.size w wc))
    case first =>
     have H := HC4.out; clear HC4; by_cases c5 : x11_1 > 0
     ·rw [if_pos c5] at H; have c5b0 : decide (0 < x11_1) = true := dt c5; clear c5
      (first | rw [c5b0] | (simp only [i64_w, i32_w]; rw [c5b0]) | skip)
      obtain ⟨ji6, hji6⟩ : ∃ j_ : Int, (wrap64 (x11_1 - 1)) = j_ := ⟨_, rfl⟩
      replace H : (if 0 ≤ (ji6) then (if (ji6) < (a0.size : Int) then (impl_places_G.j1 PF k1 a0 x5_1 x11_1 (bt a0 (ji6)) 0 (a0.size : Int) x11_1) else (none)) else (none)) = some r := by first | (rw [hji6] at H; exact H) | (simp only [hji6] at H ⊢; exact H)
      have hji6w : (IntKind.i64.wrap (x11_1 - 1)) = ji6 := (i64_w _).trans hji6; by_cases c7 : 0 ≤ (ji6)
      ·rw [if_pos c7] at H; have c7b0 := dt c7; clear c7; by_cases c8 : (ji6) < (a0.size : Int)
       ·rw [if_pos c8] at H; have c8b0 := dt c8; clear c8; have H' := asT H; clear H; have p9 : 0 ≤ ((ji6) : Int) := dT asmT; have q9 : (ji6) < (a0.size : Int) := dT asmT; have hx9 := bt_at a0 (ji6); replace p9 := eq_true p9; replace q9 := eq_true q9
        go_wp2
        go_meet
        case rel => exact ⟨_, (bt a0 (ji6)), (by first | rfl | (simp; done) | (simp only [← hji6] <;> (first | rfl | simp)) | (simp [*]; done)), H', ⟨by have := HK1.out; first | omega | exact Nat.le_refl _⟩, ⟨hbT HB.out⟩⟩
       ·rw [if_neg c8] at H; exact absurd H (by simp)
      ·rw [if_neg c7] at H; exact absurd H (by simp)
     ·rw [if_neg c5] at H; have c5b0 : decide (0 < x11_1) = false := df c5; clear c5
      (first | rw [c5b0] | (simp only [i64_w, i32_w]; rw [c5b0]) | skip)
      have H' := asT H; clear H
      go_wp2
      go_meet
      case rel => exact ⟨_, (0), rdT, H', ⟨by have := HK1.out; first | omega | exact Nat.le_refl _⟩, ⟨hbT HB.out⟩⟩
    case rest =>
     clear HC4; (try clear p2 c3 c3b0 c5 c5b0 p6 c7 c7b0 c8 c8b0 p9 q9 hx9 p2 p9 q9); obtain ⟨kq, x7_3, rfl, HA, HJ3, HB⟩ := hcut
     cases kq with
     | zero => exact absurd HA.out (by simp [impl_places_G.j1])
     | succ kj3 =>
      have H := HA.out; clear HA
      simp only [impl_places_G.j1] at H
      have HC10 := asT H; clear H
      go_upto_if 24 with (fail)
      go_cut [8] (fun v8 wc => ∃ (kq : Nat) (x8_9 : Int), v8 = .int .u8 x8_9 ∧ Aside0 (impl_places_G.j2 PF kq a0 x5_1 x11_1 x7_3 x8_9 (a0.size : Int) x11_1 = some r) ∧ Aside0 (kq ≤ kj3) ∧ Aside0 (Below w.heap.size w wc))
      case first =>
       have H := HC10.out; clear HC10; by_cases c11 : (wrap64 (x11_1 + 1)) < (a0.size : Int)
       ·rw [if_pos c11] at H; have c11b0 := dt c11; clear c11
        (first | rw [c11b0] | (simp only [i64_w, i32_w]; rw [c11b0]) | skip)
        obtain ⟨ji12, hji12⟩ : ∃ j_ : Int, (wrap64 (x11_1 + 1)) = j_ := ⟨_, rfl⟩
        replace H : (if 0 ≤ (ji12) then (impl_places_G.j2 PF kj3 a0 x5_1 x11_1 x7_3 (bt a0 (ji12)) (a0.size : Int) x11_1) else (none)) = some r := by first | (rw [hji12] at H; exact H) | (simp only [hji12] at H ⊢; exact H)
        (try rw [hji12] at c11b0)
        have hji12w : (IntKind.i64.wrap (x11_1 + 1)) = ji12 := (i64_w _).trans hji12; by_cases c13 : 0 ≤ (ji12)
        ·rw [if_pos c13] at H; have c13b0 := dt c13; clear c13; have H' := asT H; clear H; have p14 : 0 ≤ ((ji12) : Int) := dT asmT; have q14 : (ji12) < (a0.size : Int) := dT asmT; have hx14 := bt_at a0 (ji12); replace p14 := eq_true p14; replace q14 := eq_true q14
         go_wp2
         go_meet
         case rel => exact ⟨_, (bt a0 (ji12)), (by first | rfl | (simp; done) | (simp only [← hji12] <;> (first | rfl | simp)) | (simp [*]; done)), H', ⟨by have := HK1.out; have := HJ3.out; first | omega | exact Nat.le_refl _⟩, ⟨hbT HB.out⟩⟩
        ·rw [if_neg c13] at H; exact absurd H (by simp)
       ·rw [if_neg c11] at H; have c11b0 := df c11; clear c11
        (first | rw [c11b0] | (simp only [i64_w, i32_w]; rw [c11b0]) | skip)
        have H' := asT H; clear H
        go_wp2
        go_meet
        case rel => exact ⟨_, (0), rdT, H', ⟨by have := HK1.out; have := HJ3.out; first | omega | exact Nat.le_refl _⟩, ⟨hbT HB.out⟩⟩
      case rest =>
       clear HC10; (try clear c1 p1 q1 hx1 p2 c3 c3b0 c5 c5b0 p6 c7 c7b0 c8 c8b0 p9 q9 hx9 c11 c11b0 c13 c13b0 p14 q14 hx14 p14 p2 p6 p9 q14 q9); obtain ⟨kq, x8_9, rfl, HA, HJ9, HB⟩ := hcut
       cases kq with
       | zero => exact absurd HA.out (by simp [impl_places_G.j2])
       | succ kj9 =>
        have H := HA.out; clear HA
        simp only [impl_places_G.j2] at H
        obtain ⟨t371, A15, H⟩ := be H; by_cases c16 : t371 = true
        ·subst c16; rw [if_pos rfl] at H; have H1 := H; clear H; have H := H1; clear H1; by_cases c17 : 0 ≤ x11_1
         ·rw [if_pos c17] at H; have c17b0 := dt c17; clear c17; by_cases c18 : x11_1 < (a0.size : Int)
          ·rw [if_pos c18] at H; have c18b0 := dt c18; clear c18; obtain ⟨t372, A20, H⟩ := be H; by_cases c21 : t372 = true
           ·subst c21; rw [if_pos rfl] at H; have H' := asT H; clear H
            go_wp2_with (first | ((with_reducible refine gate_callee (f := 101) rfl ?_); refine goesL_ (some 30) rfl rfl Tryz.func101 (by kernel_rfl) rfl #[.string a0] rfl eqT ?_; (with_reducible refine (impl_IsForm.calls kj9 a0 true _ A15.out).mono ?_); rintro e w' ⟨rfl, ⟨nd, rfl⟩⟩; refine ⟨_, rfl, ?_⟩; have p19 : 0 ≤ (x11_1 : Int) := dT asmT; have q19 : x11_1 < (a0.size : Int) := dT asmT; have hx19 := bt_at a0 x11_1; replace p19 := eq_true p19; replace q19 := eq_true q19) | (rw [enters_ hfF hnF hbF]; go_simp) | ((with_reducible refine (HF x7_3 (bt a0 x11_1) x8_9 true _ A20.out).mono ?_); rintro e w22 ⟨rfl, hb⟩; replace HB := hS HB hb; (try clear hb hb2 hk hi)))
            go_roundg kj9
            case measure => have := HK1.out; have := HJ3.out; have := HJ9.out; omega
            case rel => exact ⟨(wrap64 (x5_1 + 1)), (wrap64 (x11_1 + 1)), rdT, rdT, H', ⟨by have := HK1.out; have := HJ3.out; have := HJ9.out; omega⟩, ⟨hbT HB.out⟩⟩
           ·replace c21 := eE c21; subst c21; rw [if_neg nF] at H; have H' := asT H; clear H
            go_wp2_with (first | ((with_reducible refine gate_callee (f := 101) rfl ?_); refine goesL_ (some 30) rfl rfl Tryz.func101 (by kernel_rfl) rfl #[.string a0] rfl eqT ?_; (with_reducible refine (impl_IsForm.calls kj9 a0 true _ A15.out).mono ?_); rintro e w' ⟨rfl, ⟨nd, rfl⟩⟩; refine ⟨_, rfl, ?_⟩; have p19 : 0 ≤ (x11_1 : Int) := dT asmT; have q19 : x11_1 < (a0.size : Int) := dT asmT; have hx19 := bt_at a0 x11_1; replace p19 := eq_true p19; replace q19 := eq_true q19) | (rw [enters_ hfF hnF hbF]; go_simp) | ((with_reducible refine (HF x7_3 (bt a0 x11_1) x8_9 false _ A20.out).mono ?_); rintro e w23 ⟨rfl, hb⟩; replace HB := hS HB hb; (try clear hb hb2 hk hi)))
            go_roundg kj9
            case measure => have := HK1.out; have := HJ3.out; have := HJ9.out; omega
            case rel => exact ⟨(x5_1), (wrap64 (x11_1 + 1)), rdT, rdT, H', ⟨by have := HK1.out; have := HJ3.out; have := HJ9.out; omega⟩, ⟨hbT HB.out⟩⟩
          ·rw [if_neg c18] at H; exact absurd H (by simp)
         ·rw [if_neg c17] at H; exact absurd H (by simp)
        ·replace c16 := eE c16; subst c16; rw [if_neg nF] at H; have H' := asT H; clear H
         go_wp2_with (first | ((with_reducible refine gate_callee (f := 101) rfl ?_); refine goesL_ (some 30) rfl rfl Tryz.func101 (by kernel_rfl) rfl #[.string a0] rfl eqT ?_; (with_reducible refine (impl_IsForm.calls kj9 a0 false _ A15.out).mono ?_); rintro e w' ⟨rfl, ⟨nd, rfl⟩⟩; refine ⟨_, rfl, ?_⟩))
         go_roundg kj9
         case measure => have := HK1.out; have := HJ3.out; have := HJ9.out; omega
         case rel => exact ⟨(x5_1), (wrap64 (x11_1 + 1)), rdT, rdT, H', ⟨by have := HK1.out; have := HJ3.out; have := HJ9.out; omega⟩, ⟨hbT HB.out⟩⟩
   ·rw [if_neg c3] at H; have c3b0 := df c3; clear c3; obtain rfl := oI H
    go_wp2
    go_ret; exact ⟨rlT, hbT HB.out⟩
def impl_places_at_CountOnsetless_1.f (k : Nat) (a0 : ByteArray) (a1 : Unit) : Option (Int) := impl_places_G.f impl_CountOnsetless_1.f k a0 a1
theorem impl_places_at_CountOnsetless_1.mono : ∀ a0 a1 k, LeO (impl_places_at_CountOnsetless_1.f k a0 a1) (impl_places_at_CountOnsetless_1.f (k + 1) a0 a1) := fun a0 a1 k => impl_places_G.mono impl_CountOnsetless_1.f a0 a1 k
theorem impl_places_at_CountOnsetless_1.calls (k : Nat) (a0 : ByteArray) (a1 : Unit) (r : Int) (w : World) (h : impl_places_at_CountOnsetless_1.f k a0 a1 = some r) :
  Calls Tryz.prog 84 #[.string a0, .func (.func 85) #[] #[]] w fun e w' => e = .returned (.int .i64 r) ∧ Below w.heap.size w w' := impl_places_G.calls impl_CountOnsetless_1.f 85 _ Tryz.func85 (by kernel_rfl) rfl (fun a0 a1 a2 r w h => impl_CountOnsetless_1.calls a0 a1 a2 r w h) k a0 a1 r w h
def impl_CountOnsetless.f (k : Nat) (a0 : ByteArray) : Option (Int) := (impl_places_at_CountOnsetless_1.f k a0 ()).bind fun t373 => (some t373)
theorem impl_CountOnsetless.mono : ∀ a0 k, LeO (impl_CountOnsetless.f k a0) (impl_CountOnsetless.f (k + 1) a0) := by
 intro a0 k; unfold impl_CountOnsetless.f
 with_reducible repeat' first | exact impl_places_at_CountOnsetless_1.mono _ _ _ | exact LeO.refl _ | exact LeO.none _ | refine LeO.ite ?_ ?_ | refine LeO.bind ?_ (fun _ => ?_)
theorem impl_CountOnsetless.calls (k : Nat) (a0 : ByteArray) (r : Int) (w : World) (h : impl_CountOnsetless.f k a0 = some r) :
  Calls Tryz.prog 12 #[.string a0] w fun e w' => e = .returned (.int .i64 r) ∧ Below w.heap.size w w' := by
 have HB := asT (Below.refl w.heap.size w); have H := h; unfold impl_CountOnsetless.f at H; clear h; obtain ⟨t373, A2, H⟩ := be H; obtain rfl := oI H; go_enter Tryz.func12, Tryz.ntmps12
 go_wp2_with (first | ((with_reducible refine gate_callee (f := 84) rfl ?_); refine goesL_ (some 4) rfl rfl Tryz.func84 (by kernel_rfl) rfl #[.string a0, .func (.func 85) #[] #[]] rfl eqT ?_; (with_reducible refine (impl_places_at_CountOnsetless_1.calls k a0 () t373 _ A2.out).mono ?_); rintro e w3 ⟨rfl, hb⟩; refine ⟨_, rfl, ?_⟩; replace HB := hS HB hb; (try clear hb hb2 hk hi)))
 go_ret; exact ⟨rlT, hbT HB.out⟩
def impl_CountCodas_1.f (a0 : Int) (a1 : Int) (a2 : Int) : Option (Bool) := (impl_isConsonant.f a1).bind fun t374 => (if t374 = true then ((impl_isVowel.f a2).bind fun t375 => (some (!t375))) else (some false))
theorem impl_CountCodas_1.calls (a0 : Int) (a1 : Int) (a2 : Int) (r : Bool) (w : World) (h : impl_CountCodas_1.f a0 a1 a2 = some r) :
  Calls Tryz.prog 90 #[.int .u8 a0, .int .u8 a1, .int .u8 a2] w fun e w' => e = .returned (.bool r) ∧ Below w.heap.size w w' := by
 have HB := asT (Below.refl w.heap.size w); have H := h; unfold impl_CountCodas_1.f at H; clear h; obtain ⟨t374, A4, H⟩ := be H; by_cases c5 : t374 = true
 ·subst c5; rw [if_pos rfl] at H; obtain ⟨t375, A6, H⟩ := be H; obtain rfl := oI H; go_enter Tryz.func90, Tryz.ntmps90
  go_wp2_with (first | ((with_reducible refine gate_callee (f := 87) rfl ?_); refine goesL_ (some 8) rfl rfl Tryz.func87 (by kernel_rfl) rfl #[.int .u8 a1] rfl eqT ?_; (with_reducible refine (impl_isConsonant.calls a1 true _ A4.out).mono ?_); rintro e w7 ⟨rfl, hb⟩; refine ⟨_, rfl, ?_⟩; replace HB := hS HB hb; (try clear hb hb2 hk hi)) | (go_at_call 86; (with_reducible refine (impl_isVowel.calls a2 t375 _ A6.out).mono ?_); rintro e w8 ⟨rfl, hb⟩; replace HB := hS HB hb; (try clear hb hb2 hk hi)))
  go_ret; exact ⟨rlT, hbT HB.out⟩
 ·replace c5 := eE c5; subst c5; rw [if_neg nF] at H; have H1 := H; clear H; have H := H1; clear H1; obtain rfl := oI H; go_enter Tryz.func90, Tryz.ntmps90
  go_wp2_with (first | ((with_reducible refine gate_callee (f := 87) rfl ?_); refine goesL_ (some 8) rfl rfl Tryz.func87 (by kernel_rfl) rfl #[.int .u8 a1] rfl eqT ?_; (with_reducible refine (impl_isConsonant.calls a1 false _ A4.out).mono ?_); rintro e w9 ⟨rfl, hb⟩; refine ⟨_, rfl, ?_⟩; replace HB := hS HB hb; (try clear hb hb2 hk hi)))
  go_ret; exact ⟨rlT, hbT HB.out⟩
def impl_places_at_CountCodas_1.f (k : Nat) (a0 : ByteArray) (a1 : Unit) : Option (Int) := impl_places_G.f impl_CountCodas_1.f k a0 a1
theorem impl_places_at_CountCodas_1.mono : ∀ a0 a1 k, LeO (impl_places_at_CountCodas_1.f k a0 a1) (impl_places_at_CountCodas_1.f (k + 1) a0 a1) := fun a0 a1 k => impl_places_G.mono impl_CountCodas_1.f a0 a1 k
theorem impl_places_at_CountCodas_1.calls (k : Nat) (a0 : ByteArray) (a1 : Unit) (r : Int) (w : World) (h : impl_places_at_CountCodas_1.f k a0 a1 = some r) :
  Calls Tryz.prog 84 #[.string a0, .func (.func 90) #[] #[]] w fun e w' => e = .returned (.int .i64 r) ∧ Below w.heap.size w w' := impl_places_G.calls impl_CountCodas_1.f 90 _ Tryz.func90 (by kernel_rfl) rfl (fun a0 a1 a2 r w h => impl_CountCodas_1.calls a0 a1 a2 r w h) k a0 a1 r w h
def impl_CountCodas.f (k : Nat) (a0 : ByteArray) : Option (Int) := (impl_places_at_CountCodas_1.f k a0 ()).bind fun t378 => (some t378)
theorem impl_CountCodas.mono : ∀ a0 k, LeO (impl_CountCodas.f k a0) (impl_CountCodas.f (k + 1) a0) := by
 intro a0 k; unfold impl_CountCodas.f
 with_reducible repeat' first | exact impl_places_at_CountCodas_1.mono _ _ _ | exact LeO.refl _ | exact LeO.none _ | refine LeO.ite ?_ ?_ | refine LeO.bind ?_ (fun _ => ?_)
theorem impl_CountCodas.calls (k : Nat) (a0 : ByteArray) (r : Int) (w : World) (h : impl_CountCodas.f k a0 = some r) :
  Calls Tryz.prog 14 #[.string a0] w fun e w' => e = .returned (.int .i64 r) ∧ Below w.heap.size w w' := by
 have HB := asT (Below.refl w.heap.size w); have H := h; unfold impl_CountCodas.f at H; clear h; obtain ⟨t378, A2, H⟩ := be H; obtain rfl := oI H; go_enter Tryz.func14, Tryz.ntmps14
 go_wp2_with (first | ((with_reducible refine gate_callee (f := 84) rfl ?_); refine goesL_ (some 4) rfl rfl Tryz.func84 (by kernel_rfl) rfl #[.string a0, .func (.func 90) #[] #[]] rfl eqT ?_; (with_reducible refine (impl_places_at_CountCodas_1.calls k a0 () t378 _ A2.out).mono ?_); rintro e w3 ⟨rfl, hb⟩; refine ⟨_, rfl, ?_⟩; replace HB := hS HB hb; (try clear hb hb2 hk hi)))
 go_ret; exact ⟨rlT, hbT HB.out⟩
def impl_CountClusters_1.f (a0 : Int) (a1 : Int) (a2 : Int) : Option (Bool) := (impl_isConsonant.f a0).bind fun t379 => (if t379 = true then ((impl_isConsonant.f a1).bind fun t380 => (some t380)) else (some false))
theorem impl_CountClusters_1.calls (a0 : Int) (a1 : Int) (a2 : Int) (r : Bool) (w : World) (h : impl_CountClusters_1.f a0 a1 a2 = some r) :
  Calls Tryz.prog 91 #[.int .u8 a0, .int .u8 a1, .int .u8 a2] w fun e w' => e = .returned (.bool r) ∧ Below w.heap.size w w' := by
 have HB := asT (Below.refl w.heap.size w); have H := h; unfold impl_CountClusters_1.f at H; clear h; obtain ⟨t379, A4, H⟩ := be H; by_cases c5 : t379 = true
 ·subst c5; rw [if_pos rfl] at H; obtain ⟨t380, A6, H⟩ := be H; obtain rfl := oI H; go_enter Tryz.func91, Tryz.ntmps91
  go_wp2_with (first | ((with_reducible refine gate_callee (f := 87) rfl ?_); refine goesL_ (some 8) rfl rfl Tryz.func87 (by kernel_rfl) rfl #[.int .u8 a0] rfl eqT ?_; (with_reducible refine (impl_isConsonant.calls a0 true _ A4.out).mono ?_); rintro e w7 ⟨rfl, hb⟩; refine ⟨_, rfl, ?_⟩; replace HB := hS HB hb; (try clear hb hb2 hk hi)) | (go_at_call 87; (with_reducible refine (impl_isConsonant.calls a1 t380 _ A6.out).mono ?_); rintro e w8 ⟨rfl, hb⟩; replace HB := hS HB hb; (try clear hb hb2 hk hi)))
  go_ret; exact ⟨rlT, hbT HB.out⟩
 ·replace c5 := eE c5; subst c5; rw [if_neg nF] at H; have H1 := H; clear H; have H := H1; clear H1; obtain rfl := oI H; go_enter Tryz.func91, Tryz.ntmps91
  go_wp2_with (first | ((with_reducible refine gate_callee (f := 87) rfl ?_); refine goesL_ (some 8) rfl rfl Tryz.func87 (by kernel_rfl) rfl #[.int .u8 a0] rfl eqT ?_; (with_reducible refine (impl_isConsonant.calls a0 false _ A4.out).mono ?_); rintro e w9 ⟨rfl, hb⟩; refine ⟨_, rfl, ?_⟩; replace HB := hS HB hb; (try clear hb hb2 hk hi)))
  go_ret; exact ⟨rlT, hbT HB.out⟩
def impl_places_at_CountClusters_1.f (k : Nat) (a0 : ByteArray) (a1 : Unit) : Option (Int) := impl_places_G.f impl_CountClusters_1.f k a0 a1
theorem impl_places_at_CountClusters_1.mono : ∀ a0 a1 k, LeO (impl_places_at_CountClusters_1.f k a0 a1) (impl_places_at_CountClusters_1.f (k + 1) a0 a1) := fun a0 a1 k => impl_places_G.mono impl_CountClusters_1.f a0 a1 k
theorem impl_places_at_CountClusters_1.calls (k : Nat) (a0 : ByteArray) (a1 : Unit) (r : Int) (w : World) (h : impl_places_at_CountClusters_1.f k a0 a1 = some r) :
  Calls Tryz.prog 84 #[.string a0, .func (.func 91) #[] #[]] w fun e w' => e = .returned (.int .i64 r) ∧ Below w.heap.size w w' := impl_places_G.calls impl_CountClusters_1.f 91 _ Tryz.func91 (by kernel_rfl) rfl (fun a0 a1 a2 r w h => impl_CountClusters_1.calls a0 a1 a2 r w h) k a0 a1 r w h
def impl_CountClusters.f (k : Nat) (a0 : ByteArray) : Option (Int) := (impl_places_at_CountClusters_1.f k a0 ()).bind fun t383 => (some t383)
theorem impl_CountClusters.mono : ∀ a0 k, LeO (impl_CountClusters.f k a0) (impl_CountClusters.f (k + 1) a0) := by
 intro a0 k; unfold impl_CountClusters.f
 with_reducible repeat' first | exact impl_places_at_CountClusters_1.mono _ _ _ | exact LeO.refl _ | exact LeO.none _ | refine LeO.ite ?_ ?_ | refine LeO.bind ?_ (fun _ => ?_)
theorem impl_CountClusters.calls (k : Nat) (a0 : ByteArray) (r : Int) (w : World) (h : impl_CountClusters.f k a0 = some r) :
  Calls Tryz.prog 16 #[.string a0] w fun e w' => e = .returned (.int .i64 r) ∧ Below w.heap.size w w' := by
 have HB := asT (Below.refl w.heap.size w); have H := h; unfold impl_CountClusters.f at H; clear h; obtain ⟨t383, A2, H⟩ := be H; obtain rfl := oI H; go_enter Tryz.func16, Tryz.ntmps16
 go_wp2_with (first | ((with_reducible refine gate_callee (f := 84) rfl ?_); refine goesL_ (some 4) rfl rfl Tryz.func84 (by kernel_rfl) rfl #[.string a0, .func (.func 91) #[] #[]] rfl eqT ?_; (with_reducible refine (impl_places_at_CountClusters_1.calls k a0 () t383 _ A2.out).mono ?_); rintro e w3 ⟨rfl, hb⟩; refine ⟨_, rfl, ?_⟩; replace HB := hS HB hb; (try clear hb hb2 hk hi)))
 go_ret; exact ⟨rlT, hbT HB.out⟩
def impl_IsObstruent.f (a0 : Int) : Option (Bool) := (strings_IndexByte.f (⟨#[112, 116, 98, 100]⟩ : ByteArray) a0).bind fun t384 => (some (decide (t384 ≥ 0)))
theorem impl_IsObstruent.calls (a0 : Int) (r : Bool) (w : World) (h : impl_IsObstruent.f a0 = some r) :
  Calls Tryz.prog 142 #[.int .u8 a0] w fun e w' => e = .returned (.bool r) ∧ Drawn0 w w' := by
 have H := h; unfold impl_IsObstruent.f at H; clear h; obtain ⟨t384, A2, H⟩ := be H; obtain rfl := oI H; go_enter Tryz.func142, Tryz.ntmps142
 go_wp2_with (first | ((with_reducible refine gate_callee (f := 143) rfl ?_); refine goesL_ (some 4) rfl rfl Tryz.func143 (by kernel_rfl) rfl #[.string (⟨#[112, 116, 98, 100]⟩ : ByteArray), .int .u8 a0] rfl eqT ?_; (with_reducible refine (strings_IndexByte.calls (⟨#[112, 116, 98, 100]⟩ : ByteArray) a0 t384 _ A2.out).mono ?_); rintro e w' ⟨rfl, ⟨nd, rfl⟩⟩; refine ⟨_, rfl, ?_⟩))
 go_ret; exact ⟨rdT, drT⟩
def impl_isVoiced.f (a0 : Int) : Option (Bool) := (impl_IsObstruent.f a0).bind fun t385 => (if t385 = true then ((impl_HasFeature.f a0 1).bind fun t386 => (some t386)) else (some false))
theorem impl_isVoiced.calls (a0 : Int) (r : Bool) (w : World) (h : impl_isVoiced.f a0 = some r) :
  Calls Tryz.prog 93 #[.int .u8 a0] w fun e w' => e = .returned (.bool r) ∧ Below w.heap.size w w' := by
 have HB := asT (Below.refl w.heap.size w); have H := h; unfold impl_isVoiced.f at H; clear h; obtain ⟨t385, A2, H⟩ := be H; by_cases c3 : t385 = true
 ·subst c3; rw [if_pos rfl] at H; obtain ⟨t386, A4, H⟩ := be H; obtain rfl := oI H; go_enter Tryz.func93, Tryz.ntmps93
  go_wp2_with (first | ((with_reducible refine gate_callee (f := 142) rfl ?_); refine goesL_ (some 4) rfl rfl Tryz.func142 (by kernel_rfl) rfl #[.int .u8 a0] rfl eqT ?_; (with_reducible refine (impl_IsObstruent.calls a0 true _ A2.out).mono ?_); rintro e w' ⟨rfl, ⟨nd, rfl⟩⟩; refine ⟨_, rfl, ?_⟩) | (go_at_call 97; (with_reducible refine (impl_HasFeature.calls a0 1 t386 _ A4.out).mono ?_); rintro e w5 ⟨rfl, hb⟩; replace HB := hS HB hb; (try clear hb hb2 hk hi)))
  go_ret; exact ⟨rlT, hbT HB.out⟩
 ·replace c3 := eE c3; subst c3; rw [if_neg nF] at H; have H1 := H; clear H; have H := H1; clear H1; obtain rfl := oI H; go_enter Tryz.func93, Tryz.ntmps93
  go_wp2_with (first | ((with_reducible refine gate_callee (f := 142) rfl ?_); refine goesL_ (some 4) rfl rfl Tryz.func142 (by kernel_rfl) rfl #[.int .u8 a0] rfl eqT ?_; (with_reducible refine (impl_IsObstruent.calls a0 false _ A2.out).mono ?_); rintro e w' ⟨rfl, ⟨nd, rfl⟩⟩; refine ⟨_, rfl, ?_⟩))
  go_ret; exact ⟨rlT, hbT HB.out⟩
def impl_CountVoiced_1.f (a0 : Int) (a1 : Int) (a2 : Int) : Option (Bool) := (impl_isVoiced.f a1).bind fun t387 => (some t387)
theorem impl_CountVoiced_1.calls (a0 : Int) (a1 : Int) (a2 : Int) (r : Bool) (w : World) (h : impl_CountVoiced_1.f a0 a1 a2 = some r) :
  Calls Tryz.prog 92 #[.int .u8 a0, .int .u8 a1, .int .u8 a2] w fun e w' => e = .returned (.bool r) ∧ Below w.heap.size w w' := by
 have HB := asT (Below.refl w.heap.size w); have H := h; unfold impl_CountVoiced_1.f at H; clear h; obtain ⟨t387, A4, H⟩ := be H; obtain rfl := oI H; go_enter Tryz.func92, Tryz.ntmps92
 go_wp2_with (first | ((with_reducible refine gate_callee (f := 93) rfl ?_); refine goesL_ (some 8) rfl rfl Tryz.func93 (by kernel_rfl) rfl #[.int .u8 a1] rfl eqT ?_; (with_reducible refine (impl_isVoiced.calls a1 t387 _ A4.out).mono ?_); rintro e w5 ⟨rfl, hb⟩; refine ⟨_, rfl, ?_⟩; replace HB := hS HB hb; (try clear hb hb2 hk hi)))
 go_ret; exact ⟨rlT, hbT HB.out⟩
def impl_places_at_CountVoiced_1.f (k : Nat) (a0 : ByteArray) (a1 : Unit) : Option (Int) := impl_places_G.f impl_CountVoiced_1.f k a0 a1
theorem impl_places_at_CountVoiced_1.mono : ∀ a0 a1 k, LeO (impl_places_at_CountVoiced_1.f k a0 a1) (impl_places_at_CountVoiced_1.f (k + 1) a0 a1) := fun a0 a1 k => impl_places_G.mono impl_CountVoiced_1.f a0 a1 k
theorem impl_places_at_CountVoiced_1.calls (k : Nat) (a0 : ByteArray) (a1 : Unit) (r : Int) (w : World) (h : impl_places_at_CountVoiced_1.f k a0 a1 = some r) :
  Calls Tryz.prog 84 #[.string a0, .func (.func 92) #[] #[]] w fun e w' => e = .returned (.int .i64 r) ∧ Below w.heap.size w w' := impl_places_G.calls impl_CountVoiced_1.f 92 _ Tryz.func92 (by kernel_rfl) rfl (fun a0 a1 a2 r w h => impl_CountVoiced_1.calls a0 a1 a2 r w h) k a0 a1 r w h
def impl_CountVoiced.f (k : Nat) (a0 : ByteArray) : Option (Int) := (impl_places_at_CountVoiced_1.f k a0 ()).bind fun t390 => (some t390)
theorem impl_CountVoiced.mono : ∀ a0 k, LeO (impl_CountVoiced.f k a0) (impl_CountVoiced.f (k + 1) a0) := by
 intro a0 k; unfold impl_CountVoiced.f
 with_reducible repeat' first | exact impl_places_at_CountVoiced_1.mono _ _ _ | exact LeO.refl _ | exact LeO.none _ | refine LeO.ite ?_ ?_ | refine LeO.bind ?_ (fun _ => ?_)
theorem impl_CountVoiced.calls (k : Nat) (a0 : ByteArray) (r : Int) (w : World) (h : impl_CountVoiced.f k a0 = some r) :
  Calls Tryz.prog 18 #[.string a0] w fun e w' => e = .returned (.int .i64 r) ∧ Below w.heap.size w w' := by
 have HB := asT (Below.refl w.heap.size w); have H := h; unfold impl_CountVoiced.f at H; clear h; obtain ⟨t390, A2, H⟩ := be H; obtain rfl := oI H; go_enter Tryz.func18, Tryz.ntmps18
 go_wp2_with (first | ((with_reducible refine gate_callee (f := 84) rfl ?_); refine goesL_ (some 4) rfl rfl Tryz.func84 (by kernel_rfl) rfl #[.string a0, .func (.func 92) #[] #[]] rfl eqT ?_; (with_reducible refine (impl_places_at_CountVoiced_1.calls k a0 () t390 _ A2.out).mono ?_); rintro e w3 ⟨rfl, hb⟩; refine ⟨_, rfl, ?_⟩; replace HB := hS HB hb; (try clear hb hb2 hk hi)))
 go_ret; exact ⟨rlT, hbT HB.out⟩
def impl_CountFinalVoiced_1.f (a0 : Int) (a1 : Int) (a2 : Int) : Option (Bool) := (impl_isVoiced.f a1).bind fun t391 => (if t391 = true then (some (a2 == 0)) else (some false))
theorem impl_CountFinalVoiced_1.calls (a0 : Int) (a1 : Int) (a2 : Int) (r : Bool) (w : World) (h : impl_CountFinalVoiced_1.f a0 a1 a2 = some r) :
  Calls Tryz.prog 95 #[.int .u8 a0, .int .u8 a1, .int .u8 a2] w fun e w' => e = .returned (.bool r) ∧ Below w.heap.size w w' := by
 have HB := asT (Below.refl w.heap.size w); have H := h; unfold impl_CountFinalVoiced_1.f at H; clear h; obtain ⟨t391, A4, H⟩ := be H; by_cases c5 : t391 = true
 ·subst c5; rw [if_pos rfl] at H; have H1 := H; clear H; have H := H1; clear H1; obtain rfl := oI H; go_enter Tryz.func95, Tryz.ntmps95
  go_wp2_with (first | ((with_reducible refine gate_callee (f := 93) rfl ?_); refine goesL_ (some 8) rfl rfl Tryz.func93 (by kernel_rfl) rfl #[.int .u8 a1] rfl eqT ?_; (with_reducible refine (impl_isVoiced.calls a1 true _ A4.out).mono ?_); rintro e w6 ⟨rfl, hb⟩; refine ⟨_, rfl, ?_⟩; replace HB := hS HB hb; (try clear hb hb2 hk hi)))
  go_ret; exact ⟨rlT, hbT HB.out⟩
 ·replace c5 := eE c5; subst c5; rw [if_neg nF] at H; have H1 := H; clear H; have H := H1; clear H1; obtain rfl := oI H; go_enter Tryz.func95, Tryz.ntmps95
  go_wp2_with (first | ((with_reducible refine gate_callee (f := 93) rfl ?_); refine goesL_ (some 8) rfl rfl Tryz.func93 (by kernel_rfl) rfl #[.int .u8 a1] rfl eqT ?_; (with_reducible refine (impl_isVoiced.calls a1 false _ A4.out).mono ?_); rintro e w7 ⟨rfl, hb⟩; refine ⟨_, rfl, ?_⟩; replace HB := hS HB hb; (try clear hb hb2 hk hi)))
  go_ret; exact ⟨rlT, hbT HB.out⟩
def impl_places_at_CountFinalVoiced_1.f (k : Nat) (a0 : ByteArray) (a1 : Unit) : Option (Int) := impl_places_G.f impl_CountFinalVoiced_1.f k a0 a1
theorem impl_places_at_CountFinalVoiced_1.mono : ∀ a0 a1 k, LeO (impl_places_at_CountFinalVoiced_1.f k a0 a1) (impl_places_at_CountFinalVoiced_1.f (k + 1) a0 a1) := fun a0 a1 k => impl_places_G.mono impl_CountFinalVoiced_1.f a0 a1 k
theorem impl_places_at_CountFinalVoiced_1.calls (k : Nat) (a0 : ByteArray) (a1 : Unit) (r : Int) (w : World) (h : impl_places_at_CountFinalVoiced_1.f k a0 a1 = some r) :
  Calls Tryz.prog 84 #[.string a0, .func (.func 95) #[] #[]] w fun e w' => e = .returned (.int .i64 r) ∧ Below w.heap.size w w' := impl_places_G.calls impl_CountFinalVoiced_1.f 95 _ Tryz.func95 (by kernel_rfl) rfl (fun a0 a1 a2 r w h => impl_CountFinalVoiced_1.calls a0 a1 a2 r w h) k a0 a1 r w h
def impl_CountFinalVoiced.f (k : Nat) (a0 : ByteArray) : Option (Int) := (impl_places_at_CountFinalVoiced_1.f k a0 ()).bind fun t394 => (some t394)
theorem impl_CountFinalVoiced.mono : ∀ a0 k, LeO (impl_CountFinalVoiced.f k a0) (impl_CountFinalVoiced.f (k + 1) a0) := by
 intro a0 k; unfold impl_CountFinalVoiced.f
 with_reducible repeat' first | exact impl_places_at_CountFinalVoiced_1.mono _ _ _ | exact LeO.refl _ | exact LeO.none _ | refine LeO.ite ?_ ?_ | refine LeO.bind ?_ (fun _ => ?_)
theorem impl_CountFinalVoiced.calls (k : Nat) (a0 : ByteArray) (r : Int) (w : World) (h : impl_CountFinalVoiced.f k a0 = some r) :
  Calls Tryz.prog 20 #[.string a0] w fun e w' => e = .returned (.int .i64 r) ∧ Below w.heap.size w w' := by
 have HB := asT (Below.refl w.heap.size w); have H := h; unfold impl_CountFinalVoiced.f at H; clear h; obtain ⟨t394, A2, H⟩ := be H; obtain rfl := oI H; go_enter Tryz.func20, Tryz.ntmps20
 go_wp2_with (first | ((with_reducible refine gate_callee (f := 84) rfl ?_); refine goesL_ (some 4) rfl rfl Tryz.func84 (by kernel_rfl) rfl #[.string a0, .func (.func 95) #[] #[]] rfl eqT ?_; (with_reducible refine (impl_places_at_CountFinalVoiced_1.calls k a0 () t394 _ A2.out).mono ?_); rintro e w3 ⟨rfl, hb⟩; refine ⟨_, rfl, ?_⟩; replace HB := hS HB hb; (try clear hb hb2 hk hi)))
 go_ret; exact ⟨rlT, hbT HB.out⟩
def impl_isVoiceless.f (a0 : Int) : Option (Bool) := (impl_IsObstruent.f a0).bind fun t395 => (if t395 = true then ((impl_HasFeature.f a0 1).bind fun t396 => (some (!t396))) else (some false))
theorem impl_isVoiceless.calls (a0 : Int) (r : Bool) (w : World) (h : impl_isVoiceless.f a0 = some r) :
  Calls Tryz.prog 98 #[.int .u8 a0] w fun e w' => e = .returned (.bool r) ∧ Below w.heap.size w w' := by
 have HB := asT (Below.refl w.heap.size w); have H := h; unfold impl_isVoiceless.f at H; clear h; obtain ⟨t395, A2, H⟩ := be H; by_cases c3 : t395 = true
 ·subst c3; rw [if_pos rfl] at H; obtain ⟨t396, A4, H⟩ := be H; obtain rfl := oI H; go_enter Tryz.func98, Tryz.ntmps98
  go_wp2_with (first | ((with_reducible refine gate_callee (f := 142) rfl ?_); refine goesL_ (some 4) rfl rfl Tryz.func142 (by kernel_rfl) rfl #[.int .u8 a0] rfl eqT ?_; (with_reducible refine (impl_IsObstruent.calls a0 true _ A2.out).mono ?_); rintro e w' ⟨rfl, ⟨nd, rfl⟩⟩; refine ⟨_, rfl, ?_⟩) | (go_at_call 97; (with_reducible refine (impl_HasFeature.calls a0 1 t396 _ A4.out).mono ?_); rintro e w5 ⟨rfl, hb⟩; replace HB := hS HB hb; (try clear hb hb2 hk hi)))
  go_ret; exact ⟨rlT, hbT HB.out⟩
 ·replace c3 := eE c3; subst c3; rw [if_neg nF] at H; have H1 := H; clear H; have H := H1; clear H1; obtain rfl := oI H; go_enter Tryz.func98, Tryz.ntmps98
  go_wp2_with (first | ((with_reducible refine gate_callee (f := 142) rfl ?_); refine goesL_ (some 4) rfl rfl Tryz.func142 (by kernel_rfl) rfl #[.int .u8 a0] rfl eqT ?_; (with_reducible refine (impl_IsObstruent.calls a0 false _ A2.out).mono ?_); rintro e w' ⟨rfl, ⟨nd, rfl⟩⟩; refine ⟨_, rfl, ?_⟩))
  go_ret; exact ⟨rlT, hbT HB.out⟩
end Go.Proofs.YtlmfpkiaikjlbaaGreatDoor.PFnExactFormatRow
