-- Made by gen.py (a program of this session) out of the translation; Lean checks it.
import Derived.Test.YtlmfpkiaikjlbaaGreatPFnExactTableauOfx0
import Derived.Test.YtlmfpkiaikjlbaaGreatPFnExactTableauOfx5
import Derived.Test.YtlmfpkiaikjlbaaGreatPFnExactTableauOfx6
namespace Go.Proofs.YtlmfpkiaikjlbaaGreat.PFnExactTableauOf
open Go.RowKit Go.Proofs.YtlmfpkiaikjlbaaGreatB Go.Proofs.YtlmfpkiaikjlbaaGreatW.PrintWords Go.Proofs.YtlmfpkiaikjlbaaGreatW.PrintLast Go.Proofs.YtlmfpkiaikjlbaaGreatW.PrintMore
attribute [local go_sem] max2_int min2_int max_two min_two max_three min_three max_four min_four   -- for this text's walks alone
set_option linter.unusedVariables false
set_option maxHeartbeats 8000000
set_option maxRecDepth 100000
set_option linter.unusedSimpArgs false
def impl_sounds.l0 : Nat → Bool → List Int → List (S109) → Int → Int → Option (ByteArray)
 | 0, _, _, _, _, _ => none
 | k + 1, x1, x5, x11, x12, x13 => if x13 < x12 then (if 0 ≤ x13 then (if x13 < (x11.length : Int) then (if x1 = true then (if ((rd_T109 x11 x13).f1) = 0 then (impl_sounds.l0 k x1 x5 x11 x12 (wrap64 (x13 + 1))) else (if x5.length < 140737488355328 then (impl_sounds.l0 k x1 (x5 ++ [(rd_T109 x11 x13).f1]) x11 x12 (wrap64 (x13 + 1))) else (none))) else (if ((rd_T109 x11 x13).f0) = 0 then (impl_sounds.l0 k x1 x5 x11 x12 (wrap64 (x13 + 1))) else (if x5.length < 140737488355328 then (impl_sounds.l0 k x1 (x5 ++ [(rd_T109 x11 x13).f0]) x11 x12 (wrap64 (x13 + 1))) else (none)))) else (none)) else (none)) else (some (strOfNums x5))
def impl_sounds.f (k : Nat) (l0_0 : List (S109)) (a1 : Bool) : Option (ByteArray) := impl_sounds.l0 k a1 (([] : List Int)) l0_0 (l0_0.length : Int) 0
theorem impl_sounds.mono_l : ∀ k, (∀ y0 y1 y2 y3 y4, LeO (impl_sounds.l0 k y0 y1 y2 y3 y4) (impl_sounds.l0 (k + 1) y0 y1 y2 y3 y4))
 | 0 => fun _ _ _ _ _ r h => by simp [impl_sounds.l0] at h
 | k + 1 => by
  have ih0 := impl_sounds.mono_l k
  ·intro y0 y1 y2 y3 y4; unfold impl_sounds.l0
   with_reducible repeat' first | exact ih0 _ _ _ _ _ | exact LeO.refl _ | exact LeO.none _ | refine LeO.ite ?_ ?_ | refine LeO.bind ?_ (fun _ => ?_)
theorem impl_sounds.mono : ∀ a0 a1 k, LeO (impl_sounds.f k a0 a1) (impl_sounds.f (k + 1) a0 a1) := by
 intro a0 a1 k; have ih0 := impl_sounds.mono_l k; unfold impl_sounds.f
 with_reducible repeat' first | exact ih0 _ _ _ _ _ | exact LeO.refl _ | exact LeO.none _ | refine LeO.ite ?_ ?_ | refine LeO.bind ?_ (fun _ => ?_)
theorem impl_sounds.calls (k : Nat) (A0_0 : Option Addr) (c0_0 : Nat) (l0_0 : List (S109)) (a1 : Bool) (r : ByteArray) (w : World) (hr0_0 : Kd.C k109 w A0_0 l0_0.length l0_0) (hc0_0 : l0_0.length ≤ c0_0) (h : impl_sounds.f k l0_0 a1 = some r) :
  Calls Tryz.prog 129 #[.agg #[.slice A0_0 l0_0.length c0_0], .bool a1] w fun e w' => e = .returned (.string r) ∧ Below w.heap.size w w' := by
 have hu60 := Tryz.underlying60; have hu109 := Tryz.underlying109; have HR0_0 := asT hr0_0; have HC0_0 := asT hc0_0; clear hr0_0 hc0_0; have HB := asT (Below.refl w.heap.size w); have H := h; unfold impl_sounds.f at H; clear h; obtain ⟨y329, hy329⟩ : ∃ y_ : List Int, y_ = (([] : List Int)) := ⟨_, rfl⟩
 replace H : (impl_sounds.l0 k a1 y329 l0_0 (l0_0.length : Int) 0) = some r := by first | (rw [hy329]; with_reducible exact H) | (have H2_ := (Option.bind_some _ _).symm.trans H; rw [hy329]; with_reducible exact H2_) | (have H2_ := (Option.bind_some _ _).symm.trans H; with_reducible exact H2_) | with_reducible exact H | (rw [hy329]; exact H) | exact H
 have Ny329 := asT hy329; clear hy329; have H' := asT H; clear H; go_enter Tryz.func129, Tryz.ntmps129
 go_wp2_with (first | ((with_reducible refine gate_dst (N := 2) rfl ?_); refine boxT (N := 2) (cs := #[.slice A0_0 l0_0.length c0_0]) (t := 60) ?_; intro gb328 hg w3 hbox hb; have BK328 := asT hbox; have GW328 := asT (geT hg HB.out); have GE328 := GW328; replace HB := hS HB hb; clear hb hbox hg) | ((with_reducible refine gate_dst (N := 9) rfl ?_); refine Kd.R_lit (Kd.int .u8) _ 5 ?hg (N := 9) ?hd (xs := ([] : List Int)) (inner := []) (ok := fun _ => True) (okp := fun _ => True) ?hr ?hp (fun _ hk => hk) trivial (Below.refl _ _) (Nat.le_refl _) (by simp) ?_; (case hd => rfl); (case hg => rfl); (case hr => first | (go_simp; done) | (go_simp; rfl)); (case hp => exact (Reps.none _ _)); intro v330 w4 ho5 hb hg_ hnew_; clear hg_ hnew_; (first | rw [← Ny329.out] at ho5 | (simp only [Int.reduceToNat] at ho5; rw [← Ny329.out] at ho5)); have HO331 := asT (Kd.R_lower ho5 (below_size (hbT HB.out))); replace BK328 := bS BK328 hb; replace HB := hS HB hb; clear hb ho5; obtain ⟨hcz6_0, hfz6_0⟩ := bx1 BK328.out))
 go_loopg [5, 13] k (fun kq v5 v13 w' => ∃ (x5_1 : List Int) (x13_1 : Int), v13 = .int .i64 x13_1 ∧ Aside0 (impl_sounds.l0 kq a1 x5_1 l0_0 (l0_0.length : Int) x13_1 = some r) ∧ Aside0 (kq ≤ k) ∧ Aside0 (Kd.R (Kd.int .u8) 5 w' w.heap.size (fun _ => True) v5 x5_1) ∧ Aside0 (w'.heap[gb328]? = some (.cells #[(.slice A0_0 l0_0.length c0_0)] 60 (0, 0))) ∧ Aside0 (Below w.heap.size w w'))
 case atStart => exact ⟨(y329), (0), rdT, H', ⟨Nat.le_refl _⟩, ⟨roT HO331.out⟩, kpT BK328.out, ⟨hbT HB.out⟩⟩
 case round =>
  clear H'; (try clear c1 p2 hcz6_0 hfz6_0); obtain ⟨x5_1, x13_1, rfl, HA, HK1, HO_5, BK328, HB⟩ := hrel
  cases gk with
  | zero => exact absurd HA.out (by simp [impl_sounds.l0])
  | succ k1 =>
   have H := HA.out; clear HA
   simp only [impl_sounds.l0] at H
   by_cases c7 : x13_1 < (l0_0.length : Int)
   ·rw [if_pos c7] at H; have c7b0 := dt c7; clear c7; by_cases c8 : 0 ≤ x13_1
    ·rw [if_pos c8] at H; have c8b0 := dt c8; clear c8; by_cases c9 : x13_1 < (l0_0.length : Int)
     ·rw [if_pos c9] at H; have c9b0 := dt c9; clear c9; by_cases c10 : a1 = true
      ·subst c10; rw [if_pos rfl] at H; have H1 := H; clear H; have H := H1; clear H1; by_cases c11 : ((rd_T109 l0_0 x13_1).f1) = 0
       ·rw [if_pos c11] at H; have c11b0 : (((rd_T109 l0_0 x13_1).f1) == 0) = true := eC c11; have c11b1 : (((rd_T109 l0_0 x13_1).f1) != 0) = false := eA c11; clear c11; have H' := asT H; clear H; have p332 : 0 ≤ (x13_1 : Int) := dT asmT; have q332 : x13_1 < (l0_0.length : Int) := dT asmT; obtain ⟨ad332, e332, hx332_0, hx332_1⟩ := at_T109 HR0_0.out x13_1 p332 q332
        cases e332
        replace hx332_0 := hbc HB.out hx332_0; replace hx332_1 := hbc HB.out hx332_1; replace p332 := eq_true p332; replace q332 := eq_true q332
        go_wp2_with (first | ((with_reducible refine gate_dst (N := 7) rfl ?_); refine boxT (N := 7) (cs := #[.int .u8 0, .int .u8 0]) (t := 109) ?_; intro gb333 hg w12 hbox hb; replace HO_5 := asT (Kd.R_below (roT HO_5.out) hb); have BK333 := asT (hbox); have GW333 := asT (geT hg HB.out); have GE333 := asT (geT hg HB.out); replace HB := hS HB hb; have NB328_333 := asT ((by rw [hg]; exact Nat.ne_of_lt (blk_lt (g := gb328) (o := .cells #[.slice (some ad332) l0_0.length c0_0] 60 (0, 0)) (bkT BK328.out)) : gb328 ≠ gb333)); have NB333_328 := asT ((by rw [hg]; exact Nat.ne_of_gt (blk_lt (g := gb328) (o := .cells #[.slice (some ad332) l0_0.length c0_0] 60 (0, 0)) (bkT BK328.out)) : gb333 ≠ gb328)); replace BK328 := bS BK328 hb; clear hb hbox hg; have hnb13 := NB333_328.out; have hnc13 := NB328_333.out; obtain ⟨hcz14_0, hcz14_1, hfz14_0, hfz14_1⟩ := bx2 BK333.out))
        go_roundg k1
        case measure => have := HK1.out; omega
        case rel => exact ⟨(x5_1), (wrap64 (x13_1 + 1)), rdT, H', ⟨by have := HK1.out; omega⟩, ⟨by (with_reducible repeat (first | apply Kd.R_alloc | apply Kd.R_drewN | apply Kd.R_drew)); exact Kd.R_mono (Kd.R_far (p := ⟨gb333, 1, none⟩) (Kd.R_far (p := ⟨gb333, 0, none⟩) (Kd.R_types HO_5.out BK333.out (by decide)) (fun _ hk => hk.2) (.int .u8 ((rd_T109 l0_0 x13_1).f0))) (fun _ hk => hk.2) (.int .u8 ((rd_T109 l0_0 x13_1).f1))) (fun _ hk => trivial)⟩, ⟨by (with_reducible repeat (first | refine blk_drewN ?_ _ | refine blk_drew ?_ | refine blk_alloc ?_ _)); refine blk_far ?_ NB328_333.out _; (with_reducible repeat (first | refine blk_drewN ?_ _ | refine blk_drew ?_ | refine blk_alloc ?_ _)); refine blk_far ?_ NB328_333.out _; (with_reducible repeat (first | refine blk_drewN ?_ _ | refine blk_drew ?_ | refine blk_alloc ?_ _)); exact BK328.out⟩, ⟨hbT HB.out⟩⟩
       ·rw [if_neg c11] at H; have c11b0 : (((rd_T109 l0_0 x13_1).f1) == 0) = false := eB c11; have c11b1 : (((rd_T109 l0_0 x13_1).f1) != 0) = true := eD c11; by_cases c15 : x5_1.length < 140737488355328
        ·rw [if_pos c15] at H; have LMc15 := asT c15; clear c15; obtain ⟨y334, hy334⟩ : ∃ y_ : List Int, y_ = (x5_1 ++ [(rd_T109 l0_0 x13_1).f1]) := ⟨_, rfl⟩
         replace H : (impl_sounds.l0 k1 true y334 l0_0 (l0_0.length : Int) (wrap64 (x13_1 + 1))) = some r := by first | (rw [hy334]; with_reducible exact H) | (have H2_ := (Option.bind_some _ _).symm.trans H; rw [hy334]; with_reducible exact H2_) | (have H2_ := (Option.bind_some _ _).symm.trans H; with_reducible exact H2_) | with_reducible exact H | (rw [hy334]; exact H) | exact H
         have Ny334 := asT hy334; clear hy334; have H' := asT H; clear H; have p332 : 0 ≤ (x13_1 : Int) := dT asmT; have q332 : x13_1 < (l0_0.length : Int) := dT asmT; obtain ⟨ad332, e332, hx332_0, hx332_1⟩ := at_T109 HR0_0.out x13_1 p332 q332
         cases e332
         replace hx332_0 := hbc HB.out hx332_0; replace hx332_1 := hbc HB.out hx332_1; replace p332 := eq_true p332; replace q332 := eq_true q332
         go_wp2_with (first | ((with_reducible refine gate_dst (N := 7) rfl ?_); refine boxT (N := 7) (cs := #[.int .u8 0, .int .u8 0]) (t := 109) ?_; intro gb333 hg w16 hbox hb; replace HO_5 := asT (Kd.R_below (roT HO_5.out) hb); have BK333 := asT (hbox); have GW333 := asT (geT hg HB.out); have GE333 := asT (geT hg HB.out); replace HB := hS HB hb; have NB328_333 := asT ((by rw [hg]; exact Nat.ne_of_lt (blk_lt (g := gb328) (o := .cells #[.slice (some ad332) l0_0.length c0_0] 60 (0, 0)) (bkT BK328.out)) : gb328 ≠ gb333)); have NB333_328 := asT ((by rw [hg]; exact Nat.ne_of_gt (blk_lt (g := gb328) (o := .cells #[.slice (some ad332) l0_0.length c0_0] 60 (0, 0)) (bkT BK328.out)) : gb333 ≠ gb328)); replace BK328 := bS BK328 hb; clear hb hbox hg; have hnb17 := NB333_328.out; have hnc17 := NB328_333.out; obtain ⟨hcz18_0, hcz18_1, hfz18_0, hfz18_1⟩ := bx2 BK333.out) | ((with_reducible refine gate_builtin (b := .append) (xs := #[.tmp 24, .tmp 26]) rfl ?_); at_builtin; refine Kd.R_append (Kd.int .u8) (w0 := w) w.heap.size rfl (.tmp 24) (.tmp 26) 91 5 (.int .u8 0) 1 rfl Tryz.underlying91 info5 rfl (by decide) (by omega) u5 x5_1 ((rd_T109 l0_0 x13_1).f1) [.int .u8 ((rd_T109 l0_0 x13_1).f1)] (fun _ => True) (fun _ => False) rfl (by first | (go_simp; done) | (go_simp; rfl)) ?aP (fun _ hk => hk.elim) ?aF ?aO ?aB ?aS ?aL ?_; (case aP => exact rfl); (case aB => exact (hbT HB.out)); (case aF => exact (fun _ _ => trivial)); (case aO => exact (by (with_reducible repeat (first | apply Kd.R_alloc | apply Kd.R_drewN | apply Kd.R_drew)); exact Kd.R_mono (Kd.R_far (p := ⟨gb333, 1, none⟩) (Kd.R_far (p := ⟨gb333, 0, none⟩) (Kd.R_types HO_5.out BK333.out (by decide)) (fun _ hk => hk.2) (.int .u8 ((rd_T109 l0_0 x13_1).f0))) (fun _ hk => hk.2) (.int .u8 ((rd_T109 l0_0 x13_1).f1))) (fun _ hk => trivial))); (case aS => exact (below_size (hbT HB.out))); (case aL => have := LMc15.out; omega); intro v335 w19 ho hb hg hat; rw [← Ny334.out] at ho; replace BK328 := asT (blk_grown (g := gb328) (o := .cells #[.slice (some ad332) l0_0.length c0_0] 60 (0, 0)) (by (with_reducible repeat (first | refine blk_drewN ?_ _ | refine blk_drew ?_ | refine blk_alloc ?_ _)); refine blk_far ?_ NB328_333.out _; (with_reducible repeat (first | refine blk_drewN ?_ _ | refine blk_drew ?_ | refine blk_alloc ?_ _)); refine blk_far ?_ NB328_333.out _; (with_reducible repeat (first | refine blk_drewN ?_ _ | refine blk_drew ?_ | refine blk_alloc ?_ _)); exact BK328.out) hg (Kd.R_ne HO_5.out BK328.out (by decide))); replace BK333 := asT (blk_grown (g := gb333) (o := .cells #[.int .u8 ((rd_T109 l0_0 x13_1).f0), .int .u8 ((rd_T109 l0_0 x13_1).f1)] 109 (0, 0)) (by (with_reducible repeat (first | refine blk_drewN ?_ _ | refine blk_drew ?_ | refine blk_alloc ?_ _)); refine blk_put (cs := #[.int .u8 ((rd_T109 l0_0 x13_1).f0), .int .u8 0]) ?_ 1 _ rfl; (with_reducible repeat (first | refine blk_drewN ?_ _ | refine blk_drew ?_ | refine blk_alloc ?_ _)); refine blk_put (cs := #[.int .u8 0, .int .u8 0]) ?_ 0 _ rfl; (with_reducible repeat (first | refine blk_drewN ?_ _ | refine blk_drew ?_ | refine blk_alloc ?_ _)); exact BK333.out) hg (Kd.R_ne HO_5.out BK333.out (by decide))); replace HB := asT (hb); have HO336 := asT (ho); clear HO_5 ho hb hg hat))
         go_roundg k1
         case measure => have := HK1.out; omega
         case rel => exact ⟨(y334), (wrap64 (x13_1 + 1)), rdT, H', ⟨by have := HK1.out; omega⟩, ⟨roT HO336.out⟩, kpT BK328.out, ⟨hbT HB.out⟩⟩
        ·rw [if_neg c15] at H; exact absurd H (by simp)
      ·replace c10 := eE c10; subst c10; rw [if_neg nF] at H; have H1 := H; clear H; have H := H1; clear H1; by_cases c20 : ((rd_T109 l0_0 x13_1).f0) = 0
       ·rw [if_pos c20] at H; have c20b0 : (((rd_T109 l0_0 x13_1).f0) == 0) = true := eC c20; have c20b1 : (((rd_T109 l0_0 x13_1).f0) != 0) = false := eA c20; clear c20; have H' := asT H; clear H; have p332 : 0 ≤ (x13_1 : Int) := dT asmT; have q332 : x13_1 < (l0_0.length : Int) := dT asmT; obtain ⟨ad332, e332, hx332_0, hx332_1⟩ := at_T109 HR0_0.out x13_1 p332 q332
        cases e332
        replace hx332_0 := hbc HB.out hx332_0; replace hx332_1 := hbc HB.out hx332_1; replace p332 := eq_true p332; replace q332 := eq_true q332
        go_wp2_with (first | ((with_reducible refine gate_dst (N := 7) rfl ?_); refine boxT (N := 7) (cs := #[.int .u8 0, .int .u8 0]) (t := 109) ?_; intro gb333 hg w21 hbox hb; replace HO_5 := asT (Kd.R_below (roT HO_5.out) hb); have BK333 := asT (hbox); have GW333 := asT (geT hg HB.out); have GE333 := asT (geT hg HB.out); replace HB := hS HB hb; have NB328_333 := asT ((by rw [hg]; exact Nat.ne_of_lt (blk_lt (g := gb328) (o := .cells #[.slice (some ad332) l0_0.length c0_0] 60 (0, 0)) (bkT BK328.out)) : gb328 ≠ gb333)); have NB333_328 := asT ((by rw [hg]; exact Nat.ne_of_gt (blk_lt (g := gb328) (o := .cells #[.slice (some ad332) l0_0.length c0_0] 60 (0, 0)) (bkT BK328.out)) : gb333 ≠ gb328)); replace BK328 := bS BK328 hb; clear hb hbox hg; have hnb22 := NB333_328.out; have hnc22 := NB328_333.out; obtain ⟨hcz23_0, hcz23_1, hfz23_0, hfz23_1⟩ := bx2 BK333.out))
        go_roundg k1
        case measure => have := HK1.out; omega
        case rel => exact ⟨(x5_1), (wrap64 (x13_1 + 1)), rdT, H', ⟨by have := HK1.out; omega⟩, ⟨by (with_reducible repeat (first | apply Kd.R_alloc | apply Kd.R_drewN | apply Kd.R_drew)); exact Kd.R_mono (Kd.R_far (p := ⟨gb333, 1, none⟩) (Kd.R_far (p := ⟨gb333, 0, none⟩) (Kd.R_types HO_5.out BK333.out (by decide)) (fun _ hk => hk.2) (.int .u8 ((rd_T109 l0_0 x13_1).f0))) (fun _ hk => hk.2) (.int .u8 ((rd_T109 l0_0 x13_1).f1))) (fun _ hk => trivial)⟩, ⟨by (with_reducible repeat (first | refine blk_drewN ?_ _ | refine blk_drew ?_ | refine blk_alloc ?_ _)); refine blk_far ?_ NB328_333.out _; (with_reducible repeat (first | refine blk_drewN ?_ _ | refine blk_drew ?_ | refine blk_alloc ?_ _)); refine blk_far ?_ NB328_333.out _; (with_reducible repeat (first | refine blk_drewN ?_ _ | refine blk_drew ?_ | refine blk_alloc ?_ _)); exact BK328.out⟩, ⟨hbT HB.out⟩⟩
       ·rw [if_neg c20] at H; have c20b0 : (((rd_T109 l0_0 x13_1).f0) == 0) = false := eB c20; have c20b1 : (((rd_T109 l0_0 x13_1).f0) != 0) = true := eD c20; by_cases c24 : x5_1.length < 140737488355328
        ·rw [if_pos c24] at H; have LMc24 := asT c24; clear c24; obtain ⟨y337, hy337⟩ : ∃ y_ : List Int, y_ = (x5_1 ++ [(rd_T109 l0_0 x13_1).f0]) := ⟨_, rfl⟩
         replace H : (impl_sounds.l0 k1 false y337 l0_0 (l0_0.length : Int) (wrap64 (x13_1 + 1))) = some r := by first | (rw [hy337]; with_reducible exact H) | (have H2_ := (Option.bind_some _ _).symm.trans H; rw [hy337]; with_reducible exact H2_) | (have H2_ := (Option.bind_some _ _).symm.trans H; with_reducible exact H2_) | with_reducible exact H | (rw [hy337]; exact H) | exact H
         have Ny337 := asT hy337; clear hy337; have H' := asT H; clear H; have p332 : 0 ≤ (x13_1 : Int) := dT asmT; have q332 : x13_1 < (l0_0.length : Int) := dT asmT; obtain ⟨ad332, e332, hx332_0, hx332_1⟩ := at_T109 HR0_0.out x13_1 p332 q332
         cases e332
         replace hx332_0 := hbc HB.out hx332_0; replace hx332_1 := hbc HB.out hx332_1; replace p332 := eq_true p332; replace q332 := eq_true q332
         go_wp2_with (first | ((with_reducible refine gate_dst (N := 7) rfl ?_); refine boxT (N := 7) (cs := #[.int .u8 0, .int .u8 0]) (t := 109) ?_; intro gb333 hg w25 hbox hb; replace HO_5 := asT (Kd.R_below (roT HO_5.out) hb); have BK333 := asT (hbox); have GW333 := asT (geT hg HB.out); have GE333 := asT (geT hg HB.out); replace HB := hS HB hb; have NB328_333 := asT ((by rw [hg]; exact Nat.ne_of_lt (blk_lt (g := gb328) (o := .cells #[.slice (some ad332) l0_0.length c0_0] 60 (0, 0)) (bkT BK328.out)) : gb328 ≠ gb333)); have NB333_328 := asT ((by rw [hg]; exact Nat.ne_of_gt (blk_lt (g := gb328) (o := .cells #[.slice (some ad332) l0_0.length c0_0] 60 (0, 0)) (bkT BK328.out)) : gb333 ≠ gb328)); replace BK328 := bS BK328 hb; clear hb hbox hg; have hnb26 := NB333_328.out; have hnc26 := NB328_333.out; obtain ⟨hcz27_0, hcz27_1, hfz27_0, hfz27_1⟩ := bx2 BK333.out) | ((with_reducible refine gate_builtin (b := .append) (xs := #[.tmp 24, .tmp 26]) rfl ?_); at_builtin; refine Kd.R_append (Kd.int .u8) (w0 := w) w.heap.size rfl (.tmp 24) (.tmp 26) 91 5 (.int .u8 0) 1 rfl Tryz.underlying91 info5 rfl (by decide) (by omega) u5 x5_1 ((rd_T109 l0_0 x13_1).f0) [.int .u8 ((rd_T109 l0_0 x13_1).f0)] (fun _ => True) (fun _ => False) rfl (by first | (go_simp; done) | (go_simp; rfl)) ?aP (fun _ hk => hk.elim) ?aF ?aO ?aB ?aS ?aL ?_; (case aP => exact rfl); (case aB => exact (hbT HB.out)); (case aF => exact (fun _ _ => trivial)); (case aO => exact (by (with_reducible repeat (first | apply Kd.R_alloc | apply Kd.R_drewN | apply Kd.R_drew)); exact Kd.R_mono (Kd.R_far (p := ⟨gb333, 1, none⟩) (Kd.R_far (p := ⟨gb333, 0, none⟩) (Kd.R_types HO_5.out BK333.out (by decide)) (fun _ hk => hk.2) (.int .u8 ((rd_T109 l0_0 x13_1).f0))) (fun _ hk => hk.2) (.int .u8 ((rd_T109 l0_0 x13_1).f1))) (fun _ hk => trivial))); (case aS => exact (below_size (hbT HB.out))); (case aL => have := LMc24.out; omega); intro v338 w28 ho hb hg hat; rw [← Ny337.out] at ho; replace BK328 := asT (blk_grown (g := gb328) (o := .cells #[.slice (some ad332) l0_0.length c0_0] 60 (0, 0)) (by (with_reducible repeat (first | refine blk_drewN ?_ _ | refine blk_drew ?_ | refine blk_alloc ?_ _)); refine blk_far ?_ NB328_333.out _; (with_reducible repeat (first | refine blk_drewN ?_ _ | refine blk_drew ?_ | refine blk_alloc ?_ _)); refine blk_far ?_ NB328_333.out _; (with_reducible repeat (first | refine blk_drewN ?_ _ | refine blk_drew ?_ | refine blk_alloc ?_ _)); exact BK328.out) hg (Kd.R_ne HO_5.out BK328.out (by decide))); replace BK333 := asT (blk_grown (g := gb333) (o := .cells #[.int .u8 ((rd_T109 l0_0 x13_1).f0), .int .u8 ((rd_T109 l0_0 x13_1).f1)] 109 (0, 0)) (by (with_reducible repeat (first | refine blk_drewN ?_ _ | refine blk_drew ?_ | refine blk_alloc ?_ _)); refine blk_put (cs := #[.int .u8 ((rd_T109 l0_0 x13_1).f0), .int .u8 0]) ?_ 1 _ rfl; (with_reducible repeat (first | refine blk_drewN ?_ _ | refine blk_drew ?_ | refine blk_alloc ?_ _)); refine blk_put (cs := #[.int .u8 0, .int .u8 0]) ?_ 0 _ rfl; (with_reducible repeat (first | refine blk_drewN ?_ _ | refine blk_drew ?_ | refine blk_alloc ?_ _)); exact BK333.out) hg (Kd.R_ne HO_5.out BK333.out (by decide))); replace HB := asT (hb); have HO339 := asT (ho); clear HO_5 ho hb hg hat))
         go_roundg k1
         case measure => have := HK1.out; omega
         case rel => exact ⟨(y337), (wrap64 (x13_1 + 1)), rdT, H', ⟨by have := HK1.out; omega⟩, ⟨roT HO339.out⟩, kpT BK328.out, ⟨hbT HB.out⟩⟩
        ·rw [if_neg c24] at H; exact absurd H (by simp)
     ·rw [if_neg c9] at H; exact absurd H (by simp)
    ·rw [if_neg c8] at H; exact absurd H (by simp)
   ·rw [if_neg c7] at H; have c7b0 := df c7; clear c7; obtain rfl := oI H; have hcv29 := own_string (P := Tryz.prog) Tryz.underlying91 Tryz.underlying5 Tryz.underlying9 (Kd.own_of_R HO_5.out)
    go_wp2
    go_ret; exact ⟨rlT, hbT HB.out⟩
def impl_IsCandidate.l0 : Nat → List (S109) → Int → Int → List (S109) → Option (Bool)
 | 0, _, _, _, _ => none
 | k + 1, x6, x7, x8, x341000 => if x8 < x7 then (if 0 ≤ x8 then (if x8 < (x6.length : Int) then ((impl_isLink.f ((rd_T109 x6 x8).f0) ((rd_T109 x6 x8).f1)).bind fun t343 => (if t343 = true then (impl_IsCandidate.l0 k x6 x7 (wrap64 (x8 + 1)) x341000) else (some false))) else (none)) else (none)) else (if (x341000.length : Int) ≤ 16 then ((impl_sounds.f k x341000 false).bind fun t344 => ((impl_IsForm.f k t344).bind fun t345 => (if t345 = true then ((impl_sounds.f k x341000 true).bind fun t346 => ((impl_IsForm.f k t346).bind fun t347 => (some t347))) else (some false)))) else (some false))
def impl_IsCandidate.f (k : Nat) (l0_0 : List (S109)) : Option (Bool) := impl_IsCandidate.l0 k l0_0 (l0_0.length : Int) 0 l0_0
theorem impl_IsCandidate.mono_l : ∀ k, (∀ y0 y1 y2 y3, LeO (impl_IsCandidate.l0 k y0 y1 y2 y3) (impl_IsCandidate.l0 (k + 1) y0 y1 y2 y3))
 | 0 => fun _ _ _ _ r h => by simp [impl_IsCandidate.l0] at h
 | k + 1 => by
  have ih0 := impl_IsCandidate.mono_l k
  ·intro y0 y1 y2 y3; unfold impl_IsCandidate.l0
   with_reducible repeat' first | exact ih0 _ _ _ _ | exact impl_IsForm.mono _ _ | exact impl_sounds.mono _ _ _ | exact LeO.refl _ | exact LeO.none _ | refine LeO.ite ?_ ?_ | refine LeO.bind ?_ (fun _ => ?_)
theorem impl_IsCandidate.mono : ∀ a0 k, LeO (impl_IsCandidate.f k a0) (impl_IsCandidate.f (k + 1) a0) := by
 intro a0 k; have ih0 := impl_IsCandidate.mono_l k; unfold impl_IsCandidate.f
 with_reducible repeat' first | exact ih0 _ _ _ _ | exact impl_IsForm.mono _ _ | exact impl_sounds.mono _ _ _ | exact LeO.refl _ | exact LeO.none _ | refine LeO.ite ?_ ?_ | refine LeO.bind ?_ (fun _ => ?_)
theorem impl_IsCandidate.calls (k : Nat) (A0_0 : Option Addr) (c0_0 : Nat) (l0_0 : List (S109)) (r : Bool) (w : World) (hr0_0 : Kd.C k109 w A0_0 l0_0.length l0_0) (hc0_0 : l0_0.length ≤ c0_0) (h : impl_IsCandidate.f k l0_0 = some r) :
  Calls Tryz.prog 85 #[.agg #[.slice A0_0 l0_0.length c0_0]] w fun e w' => e = .returned (.bool r) ∧ Below w.heap.size w w' := by
 have hu60 := Tryz.underlying60; have hu109 := Tryz.underlying109; have HR0_0 := asT hr0_0; have HC0_0 := asT hc0_0; clear hr0_0 hc0_0; have HB := asT (Below.refl w.heap.size w); have H := h; unfold impl_IsCandidate.f at H; clear h; have H' := asT H; clear H; go_enter Tryz.func85, Tryz.ntmps85
 go_wp2_with (first | ((with_reducible refine gate_dst (N := 1) rfl ?_); refine boxT (N := 1) (cs := #[.slice A0_0 l0_0.length c0_0]) (t := 60) ?_; intro gb340 hg w2 hbox hb; have BK340 := asT hbox; have GW340 := asT (geT hg HB.out); have GE340 := GW340; replace HB := hS HB hb; clear hb hbox hg; obtain ⟨hcz3_0, hfz3_0⟩ := bx1 BK340.out))
 go_loopg [8] k (fun kq v8 w' => ∃ (x8_1 : Int), v8 = .int .i64 x8_1 ∧ Aside0 (impl_IsCandidate.l0 kq l0_0 (l0_0.length : Int) x8_1 l0_0 = some r) ∧ Aside0 (kq ≤ k) ∧ Aside0 (w'.heap[gb340]? = some (.cells #[(.slice A0_0 l0_0.length c0_0)] 60 (0, 0))) ∧ Aside0 (Below w.heap.size w w'))
 case atStart => exact ⟨(0), rdT, H', ⟨Nat.le_refl _⟩, kpT BK340.out, ⟨hbT HB.out⟩⟩
 case round =>
  clear H'; (try clear p2 hcz3_0 hfz3_0); obtain ⟨x8_1, rfl, HA, HK1, BK340, HB⟩ := hrel
  cases gk with
  | zero => exact absurd HA.out (by simp [impl_IsCandidate.l0])
  | succ k1 =>
   have H := HA.out; clear HA
   simp only [impl_IsCandidate.l0] at H
   by_cases c4 : x8_1 < (l0_0.length : Int)
   ·rw [if_pos c4] at H; have c4b0 := dt c4; clear c4; by_cases c5 : 0 ≤ x8_1
    ·rw [if_pos c5] at H; have c5b0 := dt c5; clear c5; by_cases c6 : x8_1 < (l0_0.length : Int)
     ·rw [if_pos c6] at H; have c6b0 := dt c6; clear c6; obtain ⟨t343, A7, H⟩ := be H; by_cases c8 : t343 = true
      ·subst c8; rw [if_pos rfl] at H; have H' := asT H; clear H; have p341 : 0 ≤ (x8_1 : Int) := dT asmT; have q341 : x8_1 < (l0_0.length : Int) := dT asmT; obtain ⟨ad341, e341, hx341_0, hx341_1⟩ := at_T109 HR0_0.out x8_1 p341 q341
       cases e341
       replace hx341_0 := hbc HB.out hx341_0; replace hx341_1 := hbc HB.out hx341_1; replace p341 := eq_true p341; replace q341 := eq_true q341
       go_wp2_with (first | ((with_reducible refine gate_dst (N := 4) rfl ?_); refine boxT (N := 4) (cs := #[.int .u8 0, .int .u8 0]) (t := 109) ?_; intro gb342 hg w9 hbox hb; have BK342 := asT (hbox); have GW342 := asT (geT hg HB.out); have GE342 := asT (geT hg HB.out); replace HB := hS HB hb; have NB340_342 := asT ((by rw [hg]; exact Nat.ne_of_lt (blk_lt (g := gb340) (o := .cells #[.slice (some ad341) l0_0.length c0_0] 60 (0, 0)) (bkT BK340.out)) : gb340 ≠ gb342)); have NB342_340 := asT ((by rw [hg]; exact Nat.ne_of_gt (blk_lt (g := gb340) (o := .cells #[.slice (some ad341) l0_0.length c0_0] 60 (0, 0)) (bkT BK340.out)) : gb342 ≠ gb340)); replace BK340 := bS BK340 hb; clear hb hbox hg; have hnb10 := NB342_340.out; have hnc10 := NB340_342.out; obtain ⟨hcz11_0, hcz11_1, hfz11_0, hfz11_1⟩ := bx2 BK342.out) | ((with_reducible refine gate_callee (f := 128) rfl ?_); refine goesL_ (some 13) rfl rfl Tryz.func128 (by kernel_rfl) rfl #[.agg #[.int .u8 ((rd_T109 l0_0 x8_1).f0), .int .u8 ((rd_T109 l0_0 x8_1).f1)]] rfl eqT ?_; (with_reducible refine (impl_isLink.calls ((rd_T109 l0_0 x8_1).f0) ((rd_T109 l0_0 x8_1).f1) true _ A7.out).mono ?_); rintro e w12 ⟨rfl, hb⟩; refine ⟨_, rfl, ?_⟩; replace BK340 := asT (blk_below (g := gb340) (o := .cells #[.slice (some ad341) l0_0.length c0_0] 60 (0, 0)) (by (with_reducible repeat (first | refine blk_drewN ?_ _ | refine blk_drew ?_ | refine blk_alloc ?_ _)); refine blk_far ?_ NB340_342.out _; (with_reducible repeat (first | refine blk_drewN ?_ _ | refine blk_drew ?_ | refine blk_alloc ?_ _)); refine blk_far ?_ NB340_342.out _; (with_reducible repeat (first | refine blk_drewN ?_ _ | refine blk_drew ?_ | refine blk_alloc ?_ _)); exact BK340.out) hb); replace BK342 := asT (blk_below (g := gb342) (o := .cells #[.int .u8 ((rd_T109 l0_0 x8_1).f0), .int .u8 ((rd_T109 l0_0 x8_1).f1)] 109 (0, 0)) (by (with_reducible repeat (first | refine blk_drewN ?_ _ | refine blk_drew ?_ | refine blk_alloc ?_ _)); refine blk_put (cs := #[.int .u8 ((rd_T109 l0_0 x8_1).f0), .int .u8 0]) ?_ 1 _ rfl; (with_reducible repeat (first | refine blk_drewN ?_ _ | refine blk_drew ?_ | refine blk_alloc ?_ _)); refine blk_put (cs := #[.int .u8 0, .int .u8 0]) ?_ 0 _ rfl; (with_reducible repeat (first | refine blk_drewN ?_ _ | refine blk_drew ?_ | refine blk_alloc ?_ _)); exact BK342.out) hb); replace HB := hS HB hb; (try clear hb hb2 hk hi)))
       go_roundg k1
       case measure => have := HK1.out; omega
       case rel => exact ⟨(wrap64 (x8_1 + 1)), rdT, H', ⟨by have := HK1.out; omega⟩, kpT BK340.out, ⟨hbT HB.out⟩⟩
      ·replace c8 := eE c8; subst c8; rw [if_neg nF] at H; have H1 := H; clear H; have H := H1; clear H1; obtain rfl := oI H; have p341 : 0 ≤ (x8_1 : Int) := dT asmT; have q341 : x8_1 < (l0_0.length : Int) := dT asmT; obtain ⟨ad341, e341, hx341_0, hx341_1⟩ := at_T109 HR0_0.out x8_1 p341 q341
       cases e341
       replace hx341_0 := hbc HB.out hx341_0; replace hx341_1 := hbc HB.out hx341_1; replace p341 := eq_true p341; replace q341 := eq_true q341
       go_wp2_with (first | ((with_reducible refine gate_dst (N := 4) rfl ?_); refine boxT (N := 4) (cs := #[.int .u8 0, .int .u8 0]) (t := 109) ?_; intro gb342 hg w13 hbox hb; have BK342 := asT (hbox); have GW342 := asT (geT hg HB.out); have GE342 := asT (geT hg HB.out); replace HB := hS HB hb; have NB340_342 := asT ((by rw [hg]; exact Nat.ne_of_lt (blk_lt (g := gb340) (o := .cells #[.slice (some ad341) l0_0.length c0_0] 60 (0, 0)) (bkT BK340.out)) : gb340 ≠ gb342)); have NB342_340 := asT ((by rw [hg]; exact Nat.ne_of_gt (blk_lt (g := gb340) (o := .cells #[.slice (some ad341) l0_0.length c0_0] 60 (0, 0)) (bkT BK340.out)) : gb342 ≠ gb340)); replace BK340 := bS BK340 hb; clear hb hbox hg; have hnb14 := NB342_340.out; have hnc14 := NB340_342.out; obtain ⟨hcz15_0, hcz15_1, hfz15_0, hfz15_1⟩ := bx2 BK342.out) | ((with_reducible refine gate_callee (f := 128) rfl ?_); refine goesL_ (some 13) rfl rfl Tryz.func128 (by kernel_rfl) rfl #[.agg #[.int .u8 ((rd_T109 l0_0 x8_1).f0), .int .u8 ((rd_T109 l0_0 x8_1).f1)]] rfl eqT ?_; (with_reducible refine (impl_isLink.calls ((rd_T109 l0_0 x8_1).f0) ((rd_T109 l0_0 x8_1).f1) false _ A7.out).mono ?_); rintro e w16 ⟨rfl, hb⟩; refine ⟨_, rfl, ?_⟩; replace BK340 := asT (blk_below (g := gb340) (o := .cells #[.slice (some ad341) l0_0.length c0_0] 60 (0, 0)) (by (with_reducible repeat (first | refine blk_drewN ?_ _ | refine blk_drew ?_ | refine blk_alloc ?_ _)); refine blk_far ?_ NB340_342.out _; (with_reducible repeat (first | refine blk_drewN ?_ _ | refine blk_drew ?_ | refine blk_alloc ?_ _)); refine blk_far ?_ NB340_342.out _; (with_reducible repeat (first | refine blk_drewN ?_ _ | refine blk_drew ?_ | refine blk_alloc ?_ _)); exact BK340.out) hb); replace BK342 := asT (blk_below (g := gb342) (o := .cells #[.int .u8 ((rd_T109 l0_0 x8_1).f0), .int .u8 ((rd_T109 l0_0 x8_1).f1)] 109 (0, 0)) (by (with_reducible repeat (first | refine blk_drewN ?_ _ | refine blk_drew ?_ | refine blk_alloc ?_ _)); refine blk_put (cs := #[.int .u8 ((rd_T109 l0_0 x8_1).f0), .int .u8 0]) ?_ 1 _ rfl; (with_reducible repeat (first | refine blk_drewN ?_ _ | refine blk_drew ?_ | refine blk_alloc ?_ _)); refine blk_put (cs := #[.int .u8 0, .int .u8 0]) ?_ 0 _ rfl; (with_reducible repeat (first | refine blk_drewN ?_ _ | refine blk_drew ?_ | refine blk_alloc ?_ _)); exact BK342.out) hb); replace HB := hS HB hb; (try clear hb hb2 hk hi)))
       go_ret; exact ⟨rlT, hbT HB.out⟩
     ·rw [if_neg c6] at H; exact absurd H (by simp)
    ·rw [if_neg c5] at H; exact absurd H (by simp)
   ·rw [if_neg c4] at H; have c4b0 := df c4; clear c4; by_cases c17 : (l0_0.length : Int) ≤ 16
    ·rw [if_pos c17] at H; have c17b0 := dt c17; have c17b1 : decide (l0_0.length ≤ 16) = true := dt (by omega); clear c17; obtain ⟨t344, A18, H⟩ := be H; obtain ⟨t345, A19, H⟩ := be H; by_cases c20 : t345 = true
     ·subst c20; rw [if_pos rfl] at H; obtain ⟨t346, A21, H⟩ := be H; obtain ⟨t347, A22, H⟩ := be H; obtain rfl := oI H; obtain ⟨hcz23_0, hfz23_0⟩ := bx1 BK340.out
      go_wp2_with (first | (go_at_call 129; (with_reducible refine (impl_sounds.calls k1 _ _ l0_0 false t344 _ ?side1 ?side2 A18.out).mono ?_); (case side1 => exact crT HR0_0.out HB.out); (case side2 => exact HC0_0.out); rintro e w24 ⟨rfl, hb⟩; replace BK340 := bS BK340 hb; replace HB := hS HB hb; (try clear hb hb2 hk hi)) | (go_at_call 40; (with_reducible refine (impl_IsForm.calls k1 t344 true _ A19.out).mono ?_); rintro e w' ⟨rfl, ⟨nd, rfl⟩⟩; obtain ⟨hcz25_0, hfz25_0⟩ := bx1 BK340.out) | (go_at_call 129; (with_reducible refine (impl_sounds.calls k1 _ _ l0_0 true t346 _ ?side1 ?side2 A21.out).mono ?_); (case side1 => exact crT HR0_0.out (hbT HB.out)); (case side2 => exact HC0_0.out); rintro e w26 ⟨rfl, hb⟩; replace BK340 := bS BK340 hb; replace HB := hS HB hb; (try clear hb hb2 hk hi)) | (go_at_call 40; (with_reducible refine (impl_IsForm.calls k1 t346 t347 _ A22.out).mono ?_); rintro e w' ⟨rfl, ⟨nd, rfl⟩⟩))
      go_ret; exact ⟨rlT, hbT HB.out⟩
     ·replace c20 := eE c20; subst c20; rw [if_neg nF] at H; have H1 := H; clear H; have H := H1; clear H1; obtain rfl := oI H; obtain ⟨hcz27_0, hfz27_0⟩ := bx1 BK340.out
      go_wp2_with (first | (go_at_call 129; (with_reducible refine (impl_sounds.calls k1 _ _ l0_0 false t344 _ ?side1 ?side2 A18.out).mono ?_); (case side1 => exact crT HR0_0.out HB.out); (case side2 => exact HC0_0.out); rintro e w28 ⟨rfl, hb⟩; replace BK340 := bS BK340 hb; replace HB := hS HB hb; (try clear hb hb2 hk hi)) | (go_at_call 40; (with_reducible refine (impl_IsForm.calls k1 t344 false _ A19.out).mono ?_); rintro e w' ⟨rfl, ⟨nd, rfl⟩⟩))
      go_ret; exact ⟨rlT, hbT HB.out⟩
    ·rw [if_neg c17] at H; have c17b0 := df c17; have c17b1 : decide (l0_0.length ≤ 16) = false := df (by omega); clear c17; obtain rfl := oI H; obtain ⟨hcz29_0, hfz29_0⟩ := bx1 BK340.out
     go_wp2
     go_ret; exact ⟨rlT, hbT HB.out⟩
def impl_OutputOf.f (k : Nat) (l0_0 : List (S109)) : Option (ByteArray) := (impl_IsCandidate.f k l0_0).bind fun t349 => (if t349 = true then ((impl_sounds.f k l0_0 true).bind fun t350 => (some t350)) else (some (⟨#[]⟩ : ByteArray)))
theorem impl_OutputOf.mono : ∀ a0 k, LeO (impl_OutputOf.f k a0) (impl_OutputOf.f (k + 1) a0) := by
 intro a0 k; unfold impl_OutputOf.f
 with_reducible repeat' first | exact impl_IsCandidate.mono _ _ | exact impl_sounds.mono _ _ _ | exact LeO.refl _ | exact LeO.none _ | refine LeO.ite ?_ ?_ | refine LeO.bind ?_ (fun _ => ?_)
theorem impl_OutputOf.calls (k : Nat) (A0_0 : Option Addr) (c0_0 : Nat) (l0_0 : List (S109)) (r : ByteArray) (w : World) (hr0_0 : Kd.C k109 w A0_0 l0_0.length l0_0) (hc0_0 : l0_0.length ≤ c0_0) (h : impl_OutputOf.f k l0_0 = some r) :
  Calls Tryz.prog 107 #[.agg #[.slice A0_0 l0_0.length c0_0]] w fun e w' => e = .returned (.string r) ∧ Below w.heap.size w w' := by
 have hu60 := Tryz.underlying60; have HR0_0 := asT hr0_0; have HC0_0 := asT hc0_0; clear hr0_0 hc0_0; have HB := asT (Below.refl w.heap.size w); have H := h; unfold impl_OutputOf.f at H; clear h; obtain ⟨t349, A2, H⟩ := be H; by_cases c3 : t349 = true
 ·subst c3; rw [if_pos rfl] at H; obtain ⟨t350, A4, H⟩ := be H; obtain rfl := oI H; go_enter Tryz.func107, Tryz.ntmps107
  go_wp2_with (first | ((with_reducible refine gate_dst (N := 1) rfl ?_); refine boxT (N := 1) (cs := #[.slice A0_0 l0_0.length c0_0]) (t := 60) ?_; intro gb348 hg w5 hbox hb; have BK348 := asT hbox; have GW348 := asT (geT hg HB.out); have GE348 := GW348; replace HB := hS HB hb; clear hb hbox hg; obtain ⟨hcz6_0, hfz6_0⟩ := bx1 BK348.out) | ((with_reducible refine gate_callee (f := 85) rfl ?_); refine goesL_ (some 4) rfl rfl Tryz.func85 (by kernel_rfl) rfl #[.agg #[.slice A0_0 l0_0.length c0_0]] rfl eqT ?_; (with_reducible refine (impl_IsCandidate.calls k _ _ l0_0 true _ ?side1 ?side2 A2.out).mono ?_); (case side1 => exact crT HR0_0.out HB.out); (case side2 => exact HC0_0.out); rintro e w7 ⟨rfl, hb⟩; refine ⟨_, rfl, ?_⟩; replace BK348 := bS BK348 hb; replace HB := hS HB hb; (try clear hb hb2 hk hi); obtain ⟨hcz8_0, hfz8_0⟩ := bx1 BK348.out) | ((with_reducible refine gate_callee (f := 129) rfl ?_); refine goesL_ (some 7) rfl rfl Tryz.func129 (by kernel_rfl) rfl #[.agg #[.slice A0_0 l0_0.length c0_0], .bool true] rfl eqT ?_; (with_reducible refine (impl_sounds.calls k _ _ l0_0 true t350 _ ?side1 ?side2 A4.out).mono ?_); (case side1 => exact crT HR0_0.out HB.out); (case side2 => exact HC0_0.out); rintro e w9 ⟨rfl, hb⟩; refine ⟨_, rfl, ?_⟩; replace BK348 := bS BK348 hb; replace HB := hS HB hb; (try clear hb hb2 hk hi)))
  go_ret; exact ⟨rlT, hbT HB.out⟩
 ·replace c3 := eE c3; subst c3; rw [if_neg nF] at H; have H1 := H; clear H; have H := H1; clear H1; obtain rfl := oI H; go_enter Tryz.func107, Tryz.ntmps107
  go_wp2_with (first | ((with_reducible refine gate_dst (N := 1) rfl ?_); refine boxT (N := 1) (cs := #[.slice A0_0 l0_0.length c0_0]) (t := 60) ?_; intro gb348 hg w10 hbox hb; have BK348 := asT hbox; have GW348 := asT (geT hg HB.out); have GE348 := GW348; replace HB := hS HB hb; clear hb hbox hg; obtain ⟨hcz11_0, hfz11_0⟩ := bx1 BK348.out) | ((with_reducible refine gate_callee (f := 85) rfl ?_); refine goesL_ (some 4) rfl rfl Tryz.func85 (by kernel_rfl) rfl #[.agg #[.slice A0_0 l0_0.length c0_0]] rfl eqT ?_; (with_reducible refine (impl_IsCandidate.calls k _ _ l0_0 false _ ?side1 ?side2 A2.out).mono ?_); (case side1 => exact crT HR0_0.out HB.out); (case side2 => exact HC0_0.out); rintro e w12 ⟨rfl, hb⟩; refine ⟨_, rfl, ?_⟩; replace BK348 := bS BK348 hb; replace HB := hS HB hb; (try clear hb hb2 hk hi)))
  go_ret; exact ⟨rlT, hbT HB.out⟩
def impl_HasFeature.f (a0 : Int) (a1 : Int) : Option (Bool) := (impl_within.f a1 0 4).bind fun t351 => (if t351 = true then ((some (([(⟨#[97, 105]⟩ : ByteArray), (⟨#[98, 100, 110, 97, 105]⟩ : ByteArray), (⟨#[110]⟩ : ByteArray), (⟨#[112, 98]⟩ : ByteArray), (⟨#[105]⟩ : ByteArray)] : List ByteArray) : List ByteArray)).bind fun y352 => (if 0 ≤ a1 then (if a1 < (y352.length : Int) then ((strings_IndexByte.f (rdOf ByteArray.empty y352 a1) a0).bind fun t356 => (some (decide (t356 ≥ 0)))) else (none)) else (none))) else (some false))
theorem impl_HasFeature.calls (a0 : Int) (a1 : Int) (r : Bool) (w : World) (h : impl_HasFeature.f a0 a1 = some r) :
  Calls Tryz.prog 167 #[.int .u8 a0, .int .i64 a1] w fun e w' => e = .returned (.bool r) ∧ Below w.heap.size w w' := by
 have HB := asT (Below.refl w.heap.size w); have H := h; unfold impl_HasFeature.f at H; clear h; obtain ⟨t351, A3, H⟩ := be H; by_cases c4 : t351 = true
 ·subst c4; rw [if_pos rfl] at H; obtain ⟨y352, hy352⟩ : ∃ y_ : List ByteArray, y_ = (([(⟨#[97, 105]⟩ : ByteArray), (⟨#[98, 100, 110, 97, 105]⟩ : ByteArray), (⟨#[110]⟩ : ByteArray), (⟨#[112, 98]⟩ : ByteArray), (⟨#[105]⟩ : ByteArray)] : List ByteArray)) := ⟨_, rfl⟩
  replace H : (if 0 ≤ a1 then (if a1 < (y352.length : Int) then ((strings_IndexByte.f (rdOf ByteArray.empty y352 a1) a0).bind fun t356 => (some (decide (t356 ≥ 0)))) else (none)) else (none)) = some r := by first | (rw [hy352]; with_reducible exact H) | (have H2_ := (Option.bind_some _ _).symm.trans H; rw [hy352]; with_reducible exact H2_) | (have H2_ := (Option.bind_some _ _).symm.trans H; with_reducible exact H2_) | with_reducible exact H | (rw [hy352]; exact H) | exact H
  have Ny352 := asT hy352; clear hy352; by_cases c5 : 0 ≤ a1
  ·rw [if_pos c5] at H; have c5b0 := dt c5; clear c5; by_cases c6 : a1 < (y352.length : Int)
   ·rw [if_pos c6] at H; have c6b0 := dt c6; clear c6; obtain ⟨t356, A7, H⟩ := be H; obtain rfl := oI H; go_enter Tryz.func167, Tryz.ntmps167
    go_wp2_with (first | ((with_reducible refine gate_callee (f := 82) rfl ?_); refine goesL_ (some 6) rfl rfl Tryz.func82 (by kernel_rfl) rfl #[.int .i64 a1, .int .i64 0, .int .i64 4] rfl eqT ?_; (with_reducible refine (impl_within.calls a1 0 4 true _ A3.out).mono ?_); rintro e w' ⟨rfl, ⟨nd, rfl⟩⟩; refine ⟨_, rfl, ?_⟩) | ((with_reducible refine gate_dst (N := 8) rfl ?_); refine Kd.R_lit Kd.string _ 9 ?hg (N := 8) ?hd (xs := ([(⟨#[97, 105]⟩ : ByteArray), (⟨#[98, 100, 110, 97, 105]⟩ : ByteArray), (⟨#[110]⟩ : ByteArray), (⟨#[112, 98]⟩ : ByteArray), (⟨#[105]⟩ : ByteArray)] : List ByteArray)) (inner := [.string (⟨#[97, 105]⟩ : ByteArray), .string (⟨#[98, 100, 110, 97, 105]⟩ : ByteArray), .string (⟨#[110]⟩ : ByteArray), .string (⟨#[112, 98]⟩ : ByteArray), .string (⟨#[105]⟩ : ByteArray)]) (ok := fun _ => True) (okp := fun _ => True) ?hr ?hp (fun _ hk => hk) trivial (Below.refl _ _) (Nat.le_refl _) (by simp) ?_; (case hd => rfl); (case hg => rfl); (case hr => first | (go_simp; done) | (go_simp; rfl)); (case hp => exact (Reps.one (show Kd.M Kd.string _ _ _ (⟨#[97, 105]⟩ : ByteArray) [.string (⟨#[97, 105]⟩ : ByteArray)] from rfl) (Reps.one (show Kd.M Kd.string _ _ _ (⟨#[98, 100, 110, 97, 105]⟩ : ByteArray) [.string (⟨#[98, 100, 110, 97, 105]⟩ : ByteArray)] from rfl) (Reps.one (show Kd.M Kd.string _ _ _ (⟨#[110]⟩ : ByteArray) [.string (⟨#[110]⟩ : ByteArray)] from rfl) (Reps.one (show Kd.M Kd.string _ _ _ (⟨#[112, 98]⟩ : ByteArray) [.string (⟨#[112, 98]⟩ : ByteArray)] from rfl) (Reps.one (show Kd.M Kd.string _ _ _ (⟨#[105]⟩ : ByteArray) [.string (⟨#[105]⟩ : ByteArray)] from rfl) (Reps.none _ _))))))); intro v353 w8 ho9 hb hg_ hnew_; clear hg_ hnew_; (first | rw [← Ny352.out] at ho9 | (simp only [Int.reduceToNat] at ho9; rw [← Ny352.out] at ho9)); have HO354 := asT (Kd.R_lower ho9 (below_size (hbT HB.out))); replace HB := hS HB hb; clear hb ho9; obtain ⟨Ao10, co10, eo10⟩ := Kd.R_slice HO354.out; subst eo10; have p355 : 0 ≤ (a1 : Int) := dT asmT; have q355 : a1 < (y352.length : Int) := dT asmT; obtain ⟨ad355, e355, hx355_0⟩ := Kd.at_string (Kd.R_reads' HO354.out).2.2 a1 p355 q355; cases e355; replace p355 := eq_true p355; replace q355 := eq_true q355) | ((with_reducible refine gate_callee (f := 156) rfl ?_); refine goesL_ (some 13) rfl rfl Tryz.func156 (by kernel_rfl) rfl #[.string (rdOf ByteArray.empty y352 a1), .int .u8 a0] rfl eqT ?_; (with_reducible refine (strings_IndexByte.calls (rdOf ByteArray.empty y352 a1) a0 t356 _ A7.out).mono ?_); rintro e w' ⟨rfl, ⟨nd, rfl⟩⟩; refine ⟨_, rfl, ?_⟩))
    go_ret; exact ⟨rlT, hbT HB.out⟩
   ·rw [if_neg c6] at H; exact absurd H (by simp)
  ·rw [if_neg c5] at H; exact absurd H (by simp)
 ·replace c4 := eE c4; subst c4; rw [if_neg nF] at H; have H1 := H; clear H; have H := H1; clear H1; obtain rfl := oI H; go_enter Tryz.func167, Tryz.ntmps167
  go_wp2_with (first | ((with_reducible refine gate_callee (f := 82) rfl ?_); refine goesL_ (some 6) rfl rfl Tryz.func82 (by kernel_rfl) rfl #[.int .i64 a1, .int .i64 0, .int .i64 4] rfl eqT ?_; (with_reducible refine (impl_within.calls a1 0 4 false _ A3.out).mono ?_); rintro e w' ⟨rfl, ⟨nd, rfl⟩⟩; refine ⟨_, rfl, ?_⟩))
  go_ret; exact ⟨rlT, hbT HB.out⟩
def impl_isVowel.f (a0 : Int) : Option (Bool) := (impl_HasFeature.f a0 0).bind fun t357 => (some t357)
theorem impl_isVowel.calls (a0 : Int) (r : Bool) (w : World) (h : impl_isVowel.f a0 = some r) :
  Calls Tryz.prog 159 #[.int .u8 a0] w fun e w' => e = .returned (.bool r) ∧ Below w.heap.size w w' := by
 have HB := asT (Below.refl w.heap.size w); have H := h; unfold impl_isVowel.f at H; clear h; obtain ⟨t357, A2, H⟩ := be H; obtain rfl := oI H; go_enter Tryz.func159, Tryz.ntmps159
 go_wp2_with (first | ((with_reducible refine gate_callee (f := 167) rfl ?_); refine goesL_ (some 4) rfl rfl Tryz.func167 (by kernel_rfl) rfl #[.int .u8 a0, .int .i64 0] rfl eqT ?_; (with_reducible refine (impl_HasFeature.calls a0 0 t357 _ A2.out).mono ?_); rintro e w3 ⟨rfl, hb⟩; refine ⟨_, rfl, ?_⟩; replace HB := hS HB hb; (try clear hb hb2 hk hi)))
 go_ret; exact ⟨rlT, hbT HB.out⟩
def impl_isConsonant.f (a0 : Int) : Option (Bool) := (impl_IsSound.f a0).bind fun t358 => (if t358 = true then ((impl_isVowel.f a0).bind fun t359 => (some (!t359))) else (some false))
theorem impl_isConsonant.calls (a0 : Int) (r : Bool) (w : World) (h : impl_isConsonant.f a0 = some r) :
  Calls Tryz.prog 160 #[.int .u8 a0] w fun e w' => e = .returned (.bool r) ∧ Below w.heap.size w w' := by
 have HB := asT (Below.refl w.heap.size w); have H := h; unfold impl_isConsonant.f at H; clear h; obtain ⟨t358, A2, H⟩ := be H; by_cases c3 : t358 = true
 ·subst c3; rw [if_pos rfl] at H; obtain ⟨t359, A4, H⟩ := be H; obtain rfl := oI H; go_enter Tryz.func160, Tryz.ntmps160
  go_wp2_with (first | ((with_reducible refine gate_callee (f := 123) rfl ?_); refine goesL_ (some 4) rfl rfl Tryz.func123 (by kernel_rfl) rfl #[.int .u8 a0] rfl eqT ?_; (with_reducible refine (impl_IsSound.calls a0 true _ A2.out).mono ?_); rintro e w' ⟨rfl, ⟨nd, rfl⟩⟩; refine ⟨_, rfl, ?_⟩) | (go_at_call 159; (with_reducible refine (impl_isVowel.calls a0 t359 _ A4.out).mono ?_); rintro e w5 ⟨rfl, hb⟩; replace HB := hS HB hb; (try clear hb hb2 hk hi)))
  go_ret; exact ⟨rlT, hbT HB.out⟩
 ·replace c3 := eE c3; subst c3; rw [if_neg nF] at H; have H1 := H; clear H; have H := H1; clear H1; obtain rfl := oI H; go_enter Tryz.func160, Tryz.ntmps160
  go_wp2_with (first | ((with_reducible refine gate_callee (f := 123) rfl ?_); refine goesL_ (some 4) rfl rfl Tryz.func123 (by kernel_rfl) rfl #[.int .u8 a0] rfl eqT ?_; (with_reducible refine (impl_IsSound.calls a0 false _ A2.out).mono ?_); rintro e w' ⟨rfl, ⟨nd, rfl⟩⟩; refine ⟨_, rfl, ?_⟩))
  go_ret; exact ⟨rlT, hbT HB.out⟩
def impl_CountOnsetless_1.f (a0 : Int) (a1 : Int) (a2 : Int) : Option (Bool) := (impl_isVowel.f a1).bind fun t360 => (if t360 = true then ((impl_isConsonant.f a0).bind fun t361 => (some (!t361))) else (some false))
theorem impl_CountOnsetless_1.calls (a0 : Int) (a1 : Int) (a2 : Int) (r : Bool) (w : World) (h : impl_CountOnsetless_1.f a0 a1 a2 = some r) :
  Calls Tryz.prog 158 #[.int .u8 a0, .int .u8 a1, .int .u8 a2] w fun e w' => e = .returned (.bool r) ∧ Below w.heap.size w w' := by
 have HB := asT (Below.refl w.heap.size w); have H := h; unfold impl_CountOnsetless_1.f at H; clear h; obtain ⟨t360, A4, H⟩ := be H; by_cases c5 : t360 = true
 ·subst c5; rw [if_pos rfl] at H; obtain ⟨t361, A6, H⟩ := be H; obtain rfl := oI H; go_enter Tryz.func158, Tryz.ntmps158
  go_wp2_with (first | ((with_reducible refine gate_callee (f := 159) rfl ?_); refine goesL_ (some 8) rfl rfl Tryz.func159 (by kernel_rfl) rfl #[.int .u8 a1] rfl eqT ?_; (with_reducible refine (impl_isVowel.calls a1 true _ A4.out).mono ?_); rintro e w7 ⟨rfl, hb⟩; refine ⟨_, rfl, ?_⟩; replace HB := hS HB hb; (try clear hb hb2 hk hi)) | (go_at_call 160; (with_reducible refine (impl_isConsonant.calls a0 t361 _ A6.out).mono ?_); rintro e w8 ⟨rfl, hb⟩; replace HB := hS HB hb; (try clear hb hb2 hk hi)))
  go_ret; exact ⟨rlT, hbT HB.out⟩
 ·replace c5 := eE c5; subst c5; rw [if_neg nF] at H; have H1 := H; clear H; have H := H1; clear H1; obtain rfl := oI H; go_enter Tryz.func158, Tryz.ntmps158
  go_wp2_with (first | ((with_reducible refine gate_callee (f := 159) rfl ?_); refine goesL_ (some 8) rfl rfl Tryz.func159 (by kernel_rfl) rfl #[.int .u8 a1] rfl eqT ?_; (with_reducible refine (impl_isVowel.calls a1 false _ A4.out).mono ?_); rintro e w9 ⟨rfl, hb⟩; refine ⟨_, rfl, ?_⟩; replace HB := hS HB hb; (try clear hb hb2 hk hi)))
  go_ret; exact ⟨rlT, hbT HB.out⟩
mutual
def impl_places_G.l0 (PF : Int → Int → Int → Option (Bool)) : Nat → ByteArray → Int → Int → Int → Option (Int)
 | 0, _, _, _, _ => none
 | k + 1, x0, x5, x10, x11 => if x11 < x10 then (if x11 > 0 then (if 0 ≤ (wrap64 (x11 - 1)) then (if (wrap64 (x11 - 1)) < (x0.size : Int) then (impl_places_G.j1 PF k x0 x5 x11 (bt x0 (wrap64 (x11 - 1))) 0 x10 x11) else (none)) else (none)) else (impl_places_G.j1 PF k x0 x5 x11 0 0 x10 x11)) else (some x5)
def impl_places_G.j1 (PF : Int → Int → Int → Option (Bool)) : Nat → ByteArray → Int → Int → Int → Int → Int → Int → Option (Int)
 | 0, _, _, _, _, _, _, _ => none
 | k + 1, x0, x5, x6, x7, x8, x10, x11 => if (wrap64 (x6 + 1)) < (x0.size : Int) then (if 0 ≤ (wrap64 (x6 + 1)) then (impl_places_G.j2 PF k x0 x5 x6 x7 (bt x0 (wrap64 (x6 + 1))) x10 x11) else (none)) else (impl_places_G.j2 PF k x0 x5 x6 x7 x8 x10 x11)
def impl_places_G.j2 (PF : Int → Int → Int → Option (Bool)) : Nat → ByteArray → Int → Int → Int → Int → Int → Int → Option (Int)
 | 0, _, _, _, _, _, _, _ => none
 | k + 1, x0, x5, x6, x7, x8, x10, x11 => (impl_IsForm.f k x0).bind fun t362 => (if t362 = true then (if 0 ≤ x6 then (if x6 < (x0.size : Int) then ((PF x7 (bt x0 x6) x8).bind fun t363 => (if t363 = true then (impl_places_G.l0 PF k x0 (wrap64 (x5 + 1)) x10 (wrap64 (x11 + 1))) else (impl_places_G.l0 PF k x0 x5 x10 (wrap64 (x11 + 1))))) else (none)) else (none)) else (impl_places_G.l0 PF k x0 x5 x10 (wrap64 (x11 + 1))))
end
def impl_places_G.f (PF : Int → Int → Int → Option (Bool)) (k : Nat) (a0 : ByteArray) (a1 : Unit) : Option (Int) := impl_places_G.l0 PF k a0 0 (a0.size : Int) 0
theorem impl_places_G.mono_l (PF : Int → Int → Int → Option (Bool)) : ∀ k, (∀ y0 y1 y2 y3, LeO (impl_places_G.l0 PF k y0 y1 y2 y3) (impl_places_G.l0 PF (k + 1) y0 y1 y2 y3)) ∧ (∀ y0 y1 y2 y3 y4 y5 y6, LeO (impl_places_G.j1 PF k y0 y1 y2 y3 y4 y5 y6) (impl_places_G.j1 PF (k + 1) y0 y1 y2 y3 y4 y5 y6)) ∧ (∀ y0 y1 y2 y3 y4 y5 y6, LeO (impl_places_G.j2 PF k y0 y1 y2 y3 y4 y5 y6) (impl_places_G.j2 PF (k + 1) y0 y1 y2 y3 y4 y5 y6))
 | 0 => ⟨fun _ _ _ _ r h => by simp [impl_places_G.l0] at h, fun _ _ _ _ _ _ _ r h => by simp [impl_places_G.j1] at h, fun _ _ _ _ _ _ _ r h => by simp [impl_places_G.j2] at h⟩
 | k + 1 => by
  obtain ⟨ih0, ih1, ih2⟩ := impl_places_G.mono_l PF k; refine ⟨?_, ?_, ?_⟩
  ·intro y0 y1 y2 y3; unfold impl_places_G.l0
   with_reducible repeat' first | exact ih0 _ _ _ _ | exact ih1 _ _ _ _ _ _ _ | exact ih2 _ _ _ _ _ _ _ | exact impl_IsForm.mono _ _ | exact LeO.refl _ | exact LeO.none _ | refine LeO.ite ?_ ?_ | refine LeO.bind ?_ (fun _ => ?_)
  ·intro y0 y1 y2 y3 y4 y5 y6; unfold impl_places_G.j1
   with_reducible repeat' first | exact ih0 _ _ _ _ | exact ih1 _ _ _ _ _ _ _ | exact ih2 _ _ _ _ _ _ _ | exact impl_IsForm.mono _ _ | exact LeO.refl _ | exact LeO.none _ | refine LeO.ite ?_ ?_ | refine LeO.bind ?_ (fun _ => ?_)
  ·intro y0 y1 y2 y3 y4 y5 y6; unfold impl_places_G.j2
   with_reducible repeat' first | exact ih0 _ _ _ _ | exact ih1 _ _ _ _ _ _ _ | exact ih2 _ _ _ _ _ _ _ | exact impl_IsForm.mono _ _ | exact LeO.refl _ | exact LeO.none _ | refine LeO.ite ?_ ?_ | refine LeO.bind ?_ (fun _ => ?_)
theorem impl_places_G.mono (PF : Int → Int → Int → Option (Bool)) : ∀ a0 a1 k, LeO (impl_places_G.f PF k a0 a1) (impl_places_G.f PF (k + 1) a0 a1) := by
 intro a0 a1 k; obtain ⟨ih0, ih1, ih2⟩ := impl_places_G.mono_l PF k; unfold impl_places_G.f
 with_reducible repeat' first | exact ih0 _ _ _ _ | exact ih1 _ _ _ _ _ _ _ | exact ih2 _ _ _ _ _ _ _ | exact impl_IsForm.mono _ _ | exact LeO.refl _ | exact LeO.none _ | refine LeO.ite ?_ ?_ | refine LeO.bind ?_ (fun _ => ?_)
theorem impl_places_G.calls (PF : Int → Int → Int → Option (Bool)) (F : FuncId) (fn : Func) (hfF : Tryz.prog.funcs[F]? = some fn) (hnF : (fn.name == "runtime.NumGoroutine") = false) (hbF : fn.body.isSome = true) (HF : ∀ (a0 a1 a2 : Int) (r : Bool) (w : World), PF a0 a1 a2 = some r → Calls Tryz.prog F #[.int .u8 a0, .int .u8 a1, .int .u8 a2] w fun e w' => e = .returned (.bool r) ∧ Below w.heap.size w w') (k : Nat) (a0 : ByteArray) (a1 : Unit) (r : Int) (w : World) (h : impl_places_G.f PF k a0 a1 = some r) :
  Calls Tryz.prog 157 #[.string a0, .func (.func F) #[] #[]] w fun e w' => e = .returned (.int .i64 r) ∧ Below w.heap.size w w' := by
 have HB := asT (Below.refl w.heap.size w); have H := h; unfold impl_places_G.f at H; clear h; have H' := asT H; clear H; go_enter Tryz.func157, Tryz.ntmps157
 go_wp2
 go_loopg [5, 11] k (fun kq v5 v11 w' => ∃ (x5_1 : Int) (x11_1 : Int), v5 = .int .i64 x5_1 ∧ v11 = .int .i64 x11_1 ∧ Aside0 (impl_places_G.l0 PF kq a0 x5_1 (a0.size : Int) x11_1 = some r) ∧ Aside0 (kq ≤ k) ∧ Aside0 (Below w.heap.size w w'))
 case atStart => exact ⟨(0), (0), rdT, rdT, H', ⟨Nat.le_refl _⟩, ⟨hbT HB.out⟩⟩
 case round =>
  clear H'; (try clear c1 p2); obtain ⟨x5_1, x11_1, rfl, rfl, HA, HK1, HB⟩ := hrel
  cases gk with
  | zero => exact absurd HA.out (by simp [impl_places_G.l0])
  | succ k1 =>
   have H := HA.out; clear HA
   simp only [impl_places_G.l0] at H
   by_cases c3 : x11_1 < (a0.size : Int)
   ·rw [if_pos c3] at H; have c3b0 := dt c3; clear c3; have HC4 := asT H; clear H
    go_upto_if 15 with (fail)
    go_cut [7] (fun v7 wc => ∃ (kq : Nat) (x7_3 : Int), v7 = .int .u8 x7_3 ∧ Aside0 (impl_places_G.j1 PF kq a0 x5_1 x11_1 x7_3 0 (a0.size : Int) x11_1 = some r) ∧ Aside0 (kq ≤ k1) ∧ Aside0 (Below w.heap.size w wc))
    case first =>
     have H := HC4.out; clear HC4; by_cases c5 : x11_1 > 0
     ·rw [if_pos c5] at H; have c5b0 : decide (0 < x11_1) = true := dt c5; clear c5
      (first | rw [c5b0] | (simp only [i64_w, i32_w]; rw [c5b0]) | skip)
      obtain ⟨ji6, hji6⟩ : ∃ j_ : Int, (wrap64 (x11_1 - 1)) = j_ := ⟨_, rfl⟩
      replace H : (if 0 ≤ (ji6) then (if (ji6) < (a0.size : Int) then (impl_places_G.j1 PF k1 a0 x5_1 x11_1 (bt a0 (ji6)) 0 (a0.size : Int) x11_1) else (none)) else (none)) = some r := by first | (rw [hji6] at H; exact H) | (simp only [hji6] at H ⊢; exact H)
      have hji6w : (IntKind.i64.wrap (x11_1 - 1)) = ji6 := (i64_w _).trans hji6; by_cases c7 : 0 ≤ (ji6)
      ·rw [if_pos c7] at H; have c7b0 := dt c7; clear c7; by_cases c8 : (ji6) < (a0.size : Int)
       ·rw [if_pos c8] at H; have c8b0 := dt c8; clear c8; have H' := asT H; clear H; have p9 : 0 ≤ ((ji6) : Int) := dT asmT; have q9 : (ji6) < (a0.size : Int) := dT asmT; have hx9 := bt_at a0 (ji6); replace p9 := eq_true p9; replace q9 := eq_true q9
        go_wp2
        go_meet
        case rel => exact ⟨_, (bt a0 (ji6)), (by first | rfl | (simp; done) | (simp only [← hji6] <;> (first | rfl | simp)) | (simp [*]; done)), H', ⟨by have := HK1.out; first | omega | exact Nat.le_refl _⟩, ⟨hbT HB.out⟩⟩
       ·rw [if_neg c8] at H; exact absurd H (by simp)
      ·rw [if_neg c7] at H; exact absurd H (by simp)
     ·rw [if_neg c5] at H; have c5b0 : decide (0 < x11_1) = false := df c5; clear c5
      (first | rw [c5b0] | (simp only [i64_w, i32_w]; rw [c5b0]) | skip)
      have H' := asT H; clear H
      go_wp2
      go_meet
      case rel => exact ⟨_, (0), rdT, H', ⟨by have := HK1.out; first | omega | exact Nat.le_refl _⟩, ⟨hbT HB.out⟩⟩
    case rest =>
     clear HC4; (try clear c1 p2 c3 c3b0 c5 c5b0 p6 c7 c7b0 c8 c8b0 p9 q9 hx9 p2 p9 q9); obtain ⟨kq, x7_3, rfl, HA, HJ3, HB⟩ := hcut
     cases kq with
     | zero => exact absurd HA.out (by simp [impl_places_G.j1])
     | succ kj3 =>
      have H := HA.out; clear HA
      simp only [impl_places_G.j1] at H
      have HC10 := asT H; clear H
      go_upto_if 24 with (fail)
      go_cut [8] (fun v8 wc => ∃ (kq : Nat) (x8_9 : Int), v8 = .int .u8 x8_9 ∧ Aside0 (impl_places_G.j2 PF kq a0 x5_1 x11_1 x7_3 x8_9 (a0.size : Int) x11_1 = some r) ∧ Aside0 (kq ≤ kj3) ∧ Aside0 (Below w.heap.size w wc))
      case first =>
       have H := HC10.out; clear HC10; by_cases c11 : (wrap64 (x11_1 + 1)) < (a0.size : Int)
       ·rw [if_pos c11] at H; have c11b0 := dt c11; clear c11
        (first | rw [c11b0] | (simp only [i64_w, i32_w]; rw [c11b0]) | skip)
        obtain ⟨ji12, hji12⟩ : ∃ j_ : Int, (wrap64 (x11_1 + 1)) = j_ := ⟨_, rfl⟩
        replace H : (if 0 ≤ (ji12) then (impl_places_G.j2 PF kj3 a0 x5_1 x11_1 x7_3 (bt a0 (ji12)) (a0.size : Int) x11_1) else (none)) = some r := by first | (rw [hji12] at H; exact H) | (simp only [hji12] at H ⊢; exact H)
        (try rw [hji12] at c11b0)
        have hji12w : (IntKind.i64.wrap (x11_1 + 1)) = ji12 := (i64_w _).trans hji12; by_cases c13 : 0 ≤ (ji12)
        ·rw [if_pos c13] at H; have c13b0 := dt c13; clear c13; have H' := asT H; clear H; have p14 : 0 ≤ ((ji12) : Int) := dT asmT; have q14 : (ji12) < (a0.size : Int) := dT asmT; have hx14 := bt_at a0 (ji12); replace p14 := eq_true p14; replace q14 := eq_true q14
         go_wp2
         go_meet
         case rel => exact ⟨_, (bt a0 (ji12)), (by first | rfl | (simp; done) | (simp only [← hji12] <;> (first | rfl | simp)) | (simp [*]; done)), H', ⟨by have := HK1.out; have := HJ3.out; first | omega | exact Nat.le_refl _⟩, ⟨hbT HB.out⟩⟩
        ·rw [if_neg c13] at H; exact absurd H (by simp)
       ·rw [if_neg c11] at H; have c11b0 := df c11; clear c11
        (first | rw [c11b0] | (simp only [i64_w, i32_w]; rw [c11b0]) | skip)
        have H' := asT H; clear H
        go_wp2
        go_meet
        case rel => exact ⟨_, (0), rdT, H', ⟨by have := HK1.out; have := HJ3.out; first | omega | exact Nat.le_refl _⟩, ⟨hbT HB.out⟩⟩
      case rest =>
       clear HC10; (try clear c1 p1 q1 hx1 p2 c3 c3b0 c5 c5b0 p6 c7 c7b0 c8 c8b0 p9 q9 hx9 c11 c11b0 c13 c13b0 p14 q14 hx14 p14 p2 p6 p9 q14 q9); obtain ⟨kq, x8_9, rfl, HA, HJ9, HB⟩ := hcut
       cases kq with
       | zero => exact absurd HA.out (by simp [impl_places_G.j2])
       | succ kj9 =>
        have H := HA.out; clear HA
        simp only [impl_places_G.j2] at H
        obtain ⟨t362, A15, H⟩ := be H; by_cases c16 : t362 = true
        ·subst c16; rw [if_pos rfl] at H; have H1 := H; clear H; have H := H1; clear H1; by_cases c17 : 0 ≤ x11_1
         ·rw [if_pos c17] at H; have c17b0 := dt c17; clear c17; by_cases c18 : x11_1 < (a0.size : Int)
          ·rw [if_pos c18] at H; have c18b0 := dt c18; clear c18; obtain ⟨t363, A20, H⟩ := be H; by_cases c21 : t363 = true
           ·subst c21; rw [if_pos rfl] at H; have H' := asT H; clear H
            go_wp2_with (first | ((with_reducible refine gate_callee (f := 40) rfl ?_); refine goesL_ (some 30) rfl rfl Tryz.func40 (by kernel_rfl) rfl #[.string a0] rfl eqT ?_; (with_reducible refine (impl_IsForm.calls kj9 a0 true _ A15.out).mono ?_); rintro e w' ⟨rfl, ⟨nd, rfl⟩⟩; refine ⟨_, rfl, ?_⟩; have p19 : 0 ≤ (x11_1 : Int) := dT asmT; have q19 : x11_1 < (a0.size : Int) := dT asmT; have hx19 := bt_at a0 x11_1; replace p19 := eq_true p19; replace q19 := eq_true q19) | (rw [enters_ hfF hnF hbF]; go_simp) | ((with_reducible refine (HF x7_3 (bt a0 x11_1) x8_9 true _ A20.out).mono ?_); rintro e w22 ⟨rfl, hb⟩; replace HB := hS HB hb; (try clear hb hb2 hk hi)))
            go_roundg kj9
            case measure => have := HK1.out; have := HJ3.out; have := HJ9.out; omega
            case rel => exact ⟨(wrap64 (x5_1 + 1)), (wrap64 (x11_1 + 1)), rdT, rdT, H', ⟨by have := HK1.out; have := HJ3.out; have := HJ9.out; omega⟩, ⟨hbT HB.out⟩⟩
           ·replace c21 := eE c21; subst c21; rw [if_neg nF] at H; have H' := asT H; clear H
            go_wp2_with (first | ((with_reducible refine gate_callee (f := 40) rfl ?_); refine goesL_ (some 30) rfl rfl Tryz.func40 (by kernel_rfl) rfl #[.string a0] rfl eqT ?_; (with_reducible refine (impl_IsForm.calls kj9 a0 true _ A15.out).mono ?_); rintro e w' ⟨rfl, ⟨nd, rfl⟩⟩; refine ⟨_, rfl, ?_⟩; have p19 : 0 ≤ (x11_1 : Int) := dT asmT; have q19 : x11_1 < (a0.size : Int) := dT asmT; have hx19 := bt_at a0 x11_1; replace p19 := eq_true p19; replace q19 := eq_true q19) | (rw [enters_ hfF hnF hbF]; go_simp) | ((with_reducible refine (HF x7_3 (bt a0 x11_1) x8_9 false _ A20.out).mono ?_); rintro e w23 ⟨rfl, hb⟩; replace HB := hS HB hb; (try clear hb hb2 hk hi)))
            go_roundg kj9
            case measure => have := HK1.out; have := HJ3.out; have := HJ9.out; omega
            case rel => exact ⟨(x5_1), (wrap64 (x11_1 + 1)), rdT, rdT, H', ⟨by have := HK1.out; have := HJ3.out; have := HJ9.out; omega⟩, ⟨hbT HB.out⟩⟩
          ·rw [if_neg c18] at H; exact absurd H (by simp)
         ·rw [if_neg c17] at H; exact absurd H (by simp)
        ·replace c16 := eE c16; subst c16; rw [if_neg nF] at H; have H' := asT H; clear H
         go_wp2_with (first | ((with_reducible refine gate_callee (f := 40) rfl ?_); refine goesL_ (some 30) rfl rfl Tryz.func40 (by kernel_rfl) rfl #[.string a0] rfl eqT ?_; (with_reducible refine (impl_IsForm.calls kj9 a0 false _ A15.out).mono ?_); rintro e w' ⟨rfl, ⟨nd, rfl⟩⟩; refine ⟨_, rfl, ?_⟩))
         go_roundg kj9
         case measure => have := HK1.out; have := HJ3.out; have := HJ9.out; omega
         case rel => exact ⟨(x5_1), (wrap64 (x11_1 + 1)), rdT, rdT, H', ⟨by have := HK1.out; have := HJ3.out; have := HJ9.out; omega⟩, ⟨hbT HB.out⟩⟩
   ·rw [if_neg c3] at H; have c3b0 := df c3; clear c3; obtain rfl := oI H
    go_wp2
    go_ret; exact ⟨rlT, hbT HB.out⟩
def impl_places_at_CountOnsetless_1.f (k : Nat) (a0 : ByteArray) (a1 : Unit) : Option (Int) := impl_places_G.f impl_CountOnsetless_1.f k a0 a1
theorem impl_places_at_CountOnsetless_1.mono : ∀ a0 a1 k, LeO (impl_places_at_CountOnsetless_1.f k a0 a1) (impl_places_at_CountOnsetless_1.f (k + 1) a0 a1) := fun a0 a1 k => impl_places_G.mono impl_CountOnsetless_1.f a0 a1 k
theorem impl_places_at_CountOnsetless_1.calls (k : Nat) (a0 : ByteArray) (a1 : Unit) (r : Int) (w : World) (h : impl_places_at_CountOnsetless_1.f k a0 a1 = some r) :
  Calls Tryz.prog 157 #[.string a0, .func (.func 158) #[] #[]] w fun e w' => e = .returned (.int .i64 r) ∧ Below w.heap.size w w' := impl_places_G.calls impl_CountOnsetless_1.f 158 _ Tryz.func158 (by kernel_rfl) rfl (fun a0 a1 a2 r w h => impl_CountOnsetless_1.calls a0 a1 a2 r w h) k a0 a1 r w h
def impl_CountOnsetless.f (k : Nat) (a0 : ByteArray) : Option (Int) := (impl_places_at_CountOnsetless_1.f k a0 ()).bind fun t364 => (some t364)
theorem impl_CountOnsetless.mono : ∀ a0 k, LeO (impl_CountOnsetless.f k a0) (impl_CountOnsetless.f (k + 1) a0) := by
 intro a0 k; unfold impl_CountOnsetless.f
 with_reducible repeat' first | exact impl_places_at_CountOnsetless_1.mono _ _ _ | exact LeO.refl _ | exact LeO.none _ | refine LeO.ite ?_ ?_ | refine LeO.bind ?_ (fun _ => ?_)
theorem impl_CountOnsetless.calls (k : Nat) (a0 : ByteArray) (r : Int) (w : World) (h : impl_CountOnsetless.f k a0 = some r) :
  Calls Tryz.prog 130 #[.string a0] w fun e w' => e = .returned (.int .i64 r) ∧ Below w.heap.size w w' := by
 have HB := asT (Below.refl w.heap.size w); have H := h; unfold impl_CountOnsetless.f at H; clear h; obtain ⟨t364, A2, H⟩ := be H; obtain rfl := oI H; go_enter Tryz.func130, Tryz.ntmps130
 go_wp2_with (first | ((with_reducible refine gate_callee (f := 157) rfl ?_); refine goesL_ (some 4) rfl rfl Tryz.func157 (by kernel_rfl) rfl #[.string a0, .func (.func 158) #[] #[]] rfl eqT ?_; (with_reducible refine (impl_places_at_CountOnsetless_1.calls k a0 () t364 _ A2.out).mono ?_); rintro e w3 ⟨rfl, hb⟩; refine ⟨_, rfl, ?_⟩; replace HB := hS HB hb; (try clear hb hb2 hk hi)))
 go_ret; exact ⟨rlT, hbT HB.out⟩
def impl_CountCodas_1.f (a0 : Int) (a1 : Int) (a2 : Int) : Option (Bool) := (impl_isConsonant.f a1).bind fun t365 => (if t365 = true then ((impl_isVowel.f a2).bind fun t366 => (some (!t366))) else (some false))
theorem impl_CountCodas_1.calls (a0 : Int) (a1 : Int) (a2 : Int) (r : Bool) (w : World) (h : impl_CountCodas_1.f a0 a1 a2 = some r) :
  Calls Tryz.prog 161 #[.int .u8 a0, .int .u8 a1, .int .u8 a2] w fun e w' => e = .returned (.bool r) ∧ Below w.heap.size w w' := by
 have HB := asT (Below.refl w.heap.size w); have H := h; unfold impl_CountCodas_1.f at H; clear h; obtain ⟨t365, A4, H⟩ := be H; by_cases c5 : t365 = true
 ·subst c5; rw [if_pos rfl] at H; obtain ⟨t366, A6, H⟩ := be H; obtain rfl := oI H; go_enter Tryz.func161, Tryz.ntmps161
  go_wp2_with (first | ((with_reducible refine gate_callee (f := 160) rfl ?_); refine goesL_ (some 8) rfl rfl Tryz.func160 (by kernel_rfl) rfl #[.int .u8 a1] rfl eqT ?_; (with_reducible refine (impl_isConsonant.calls a1 true _ A4.out).mono ?_); rintro e w7 ⟨rfl, hb⟩; refine ⟨_, rfl, ?_⟩; replace HB := hS HB hb; (try clear hb hb2 hk hi)) | (go_at_call 159; (with_reducible refine (impl_isVowel.calls a2 t366 _ A6.out).mono ?_); rintro e w8 ⟨rfl, hb⟩; replace HB := hS HB hb; (try clear hb hb2 hk hi)))
  go_ret; exact ⟨rlT, hbT HB.out⟩
 ·replace c5 := eE c5; subst c5; rw [if_neg nF] at H; have H1 := H; clear H; have H := H1; clear H1; obtain rfl := oI H; go_enter Tryz.func161, Tryz.ntmps161
  go_wp2_with (first | ((with_reducible refine gate_callee (f := 160) rfl ?_); refine goesL_ (some 8) rfl rfl Tryz.func160 (by kernel_rfl) rfl #[.int .u8 a1] rfl eqT ?_; (with_reducible refine (impl_isConsonant.calls a1 false _ A4.out).mono ?_); rintro e w9 ⟨rfl, hb⟩; refine ⟨_, rfl, ?_⟩; replace HB := hS HB hb; (try clear hb hb2 hk hi)))
  go_ret; exact ⟨rlT, hbT HB.out⟩
def impl_places_at_CountCodas_1.f (k : Nat) (a0 : ByteArray) (a1 : Unit) : Option (Int) := impl_places_G.f impl_CountCodas_1.f k a0 a1
theorem impl_places_at_CountCodas_1.mono : ∀ a0 a1 k, LeO (impl_places_at_CountCodas_1.f k a0 a1) (impl_places_at_CountCodas_1.f (k + 1) a0 a1) := fun a0 a1 k => impl_places_G.mono impl_CountCodas_1.f a0 a1 k
theorem impl_places_at_CountCodas_1.calls (k : Nat) (a0 : ByteArray) (a1 : Unit) (r : Int) (w : World) (h : impl_places_at_CountCodas_1.f k a0 a1 = some r) :
  Calls Tryz.prog 157 #[.string a0, .func (.func 161) #[] #[]] w fun e w' => e = .returned (.int .i64 r) ∧ Below w.heap.size w w' := impl_places_G.calls impl_CountCodas_1.f 161 _ Tryz.func161 (by kernel_rfl) rfl (fun a0 a1 a2 r w h => impl_CountCodas_1.calls a0 a1 a2 r w h) k a0 a1 r w h
def impl_CountCodas.f (k : Nat) (a0 : ByteArray) : Option (Int) := (impl_places_at_CountCodas_1.f k a0 ()).bind fun t369 => (some t369)
theorem impl_CountCodas.mono : ∀ a0 k, LeO (impl_CountCodas.f k a0) (impl_CountCodas.f (k + 1) a0) := by
 intro a0 k; unfold impl_CountCodas.f
 with_reducible repeat' first | exact impl_places_at_CountCodas_1.mono _ _ _ | exact LeO.refl _ | exact LeO.none _ | refine LeO.ite ?_ ?_ | refine LeO.bind ?_ (fun _ => ?_)
theorem impl_CountCodas.calls (k : Nat) (a0 : ByteArray) (r : Int) (w : World) (h : impl_CountCodas.f k a0 = some r) :
  Calls Tryz.prog 131 #[.string a0] w fun e w' => e = .returned (.int .i64 r) ∧ Below w.heap.size w w' := by
 have HB := asT (Below.refl w.heap.size w); have H := h; unfold impl_CountCodas.f at H; clear h; obtain ⟨t369, A2, H⟩ := be H; obtain rfl := oI H; go_enter Tryz.func131, Tryz.ntmps131
 go_wp2_with (first | ((with_reducible refine gate_callee (f := 157) rfl ?_); refine goesL_ (some 4) rfl rfl Tryz.func157 (by kernel_rfl) rfl #[.string a0, .func (.func 161) #[] #[]] rfl eqT ?_; (with_reducible refine (impl_places_at_CountCodas_1.calls k a0 () t369 _ A2.out).mono ?_); rintro e w3 ⟨rfl, hb⟩; refine ⟨_, rfl, ?_⟩; replace HB := hS HB hb; (try clear hb hb2 hk hi)))
 go_ret; exact ⟨rlT, hbT HB.out⟩
def impl_CountClusters_1.f (a0 : Int) (a1 : Int) (a2 : Int) : Option (Bool) := (impl_isConsonant.f a0).bind fun t370 => (if t370 = true then ((impl_isConsonant.f a1).bind fun t371 => (some t371)) else (some false))
theorem impl_CountClusters_1.calls (a0 : Int) (a1 : Int) (a2 : Int) (r : Bool) (w : World) (h : impl_CountClusters_1.f a0 a1 a2 = some r) :
  Calls Tryz.prog 162 #[.int .u8 a0, .int .u8 a1, .int .u8 a2] w fun e w' => e = .returned (.bool r) ∧ Below w.heap.size w w' := by
 have HB := asT (Below.refl w.heap.size w); have H := h; unfold impl_CountClusters_1.f at H; clear h; obtain ⟨t370, A4, H⟩ := be H; by_cases c5 : t370 = true
 ·subst c5; rw [if_pos rfl] at H; obtain ⟨t371, A6, H⟩ := be H; obtain rfl := oI H; go_enter Tryz.func162, Tryz.ntmps162
  go_wp2_with (first | ((with_reducible refine gate_callee (f := 160) rfl ?_); refine goesL_ (some 8) rfl rfl Tryz.func160 (by kernel_rfl) rfl #[.int .u8 a0] rfl eqT ?_; (with_reducible refine (impl_isConsonant.calls a0 true _ A4.out).mono ?_); rintro e w7 ⟨rfl, hb⟩; refine ⟨_, rfl, ?_⟩; replace HB := hS HB hb; (try clear hb hb2 hk hi)) | (go_at_call 160; (with_reducible refine (impl_isConsonant.calls a1 t371 _ A6.out).mono ?_); rintro e w8 ⟨rfl, hb⟩; replace HB := hS HB hb; (try clear hb hb2 hk hi)))
  go_ret; exact ⟨rlT, hbT HB.out⟩
 ·replace c5 := eE c5; subst c5; rw [if_neg nF] at H; have H1 := H; clear H; have H := H1; clear H1; obtain rfl := oI H; go_enter Tryz.func162, Tryz.ntmps162
  go_wp2_with (first | ((with_reducible refine gate_callee (f := 160) rfl ?_); refine goesL_ (some 8) rfl rfl Tryz.func160 (by kernel_rfl) rfl #[.int .u8 a0] rfl eqT ?_; (with_reducible refine (impl_isConsonant.calls a0 false _ A4.out).mono ?_); rintro e w9 ⟨rfl, hb⟩; refine ⟨_, rfl, ?_⟩; replace HB := hS HB hb; (try clear hb hb2 hk hi)))
  go_ret; exact ⟨rlT, hbT HB.out⟩
def impl_places_at_CountClusters_1.f (k : Nat) (a0 : ByteArray) (a1 : Unit) : Option (Int) := impl_places_G.f impl_CountClusters_1.f k a0 a1
theorem impl_places_at_CountClusters_1.mono : ∀ a0 a1 k, LeO (impl_places_at_CountClusters_1.f k a0 a1) (impl_places_at_CountClusters_1.f (k + 1) a0 a1) := fun a0 a1 k => impl_places_G.mono impl_CountClusters_1.f a0 a1 k
theorem impl_places_at_CountClusters_1.calls (k : Nat) (a0 : ByteArray) (a1 : Unit) (r : Int) (w : World) (h : impl_places_at_CountClusters_1.f k a0 a1 = some r) :
  Calls Tryz.prog 157 #[.string a0, .func (.func 162) #[] #[]] w fun e w' => e = .returned (.int .i64 r) ∧ Below w.heap.size w w' := impl_places_G.calls impl_CountClusters_1.f 162 _ Tryz.func162 (by kernel_rfl) rfl (fun a0 a1 a2 r w h => impl_CountClusters_1.calls a0 a1 a2 r w h) k a0 a1 r w h
def impl_CountClusters.f (k : Nat) (a0 : ByteArray) : Option (Int) := (impl_places_at_CountClusters_1.f k a0 ()).bind fun t374 => (some t374)
theorem impl_CountClusters.mono : ∀ a0 k, LeO (impl_CountClusters.f k a0) (impl_CountClusters.f (k + 1) a0) := by
 intro a0 k; unfold impl_CountClusters.f
 with_reducible repeat' first | exact impl_places_at_CountClusters_1.mono _ _ _ | exact LeO.refl _ | exact LeO.none _ | refine LeO.ite ?_ ?_ | refine LeO.bind ?_ (fun _ => ?_)
theorem impl_CountClusters.calls (k : Nat) (a0 : ByteArray) (r : Int) (w : World) (h : impl_CountClusters.f k a0 = some r) :
  Calls Tryz.prog 132 #[.string a0] w fun e w' => e = .returned (.int .i64 r) ∧ Below w.heap.size w w' := by
 have HB := asT (Below.refl w.heap.size w); have H := h; unfold impl_CountClusters.f at H; clear h; obtain ⟨t374, A2, H⟩ := be H; obtain rfl := oI H; go_enter Tryz.func132, Tryz.ntmps132
 go_wp2_with (first | ((with_reducible refine gate_callee (f := 157) rfl ?_); refine goesL_ (some 4) rfl rfl Tryz.func157 (by kernel_rfl) rfl #[.string a0, .func (.func 162) #[] #[]] rfl eqT ?_; (with_reducible refine (impl_places_at_CountClusters_1.calls k a0 () t374 _ A2.out).mono ?_); rintro e w3 ⟨rfl, hb⟩; refine ⟨_, rfl, ?_⟩; replace HB := hS HB hb; (try clear hb hb2 hk hi)))
 go_ret; exact ⟨rlT, hbT HB.out⟩
def impl_IsObstruent.f (a0 : Int) : Option (Bool) := (strings_IndexByte.f (⟨#[112, 116, 98, 100]⟩ : ByteArray) a0).bind fun t375 => (some (decide (t375 ≥ 0)))
theorem impl_IsObstruent.calls (a0 : Int) (r : Bool) (w : World) (h : impl_IsObstruent.f a0 = some r) :
  Calls Tryz.prog 182 #[.int .u8 a0] w fun e w' => e = .returned (.bool r) ∧ Drawn0 w w' := by
 have H := h; unfold impl_IsObstruent.f at H; clear h; obtain ⟨t375, A2, H⟩ := be H; obtain rfl := oI H; go_enter Tryz.func182, Tryz.ntmps182
 go_wp2_with (first | ((with_reducible refine gate_callee (f := 156) rfl ?_); refine goesL_ (some 4) rfl rfl Tryz.func156 (by kernel_rfl) rfl #[.string (⟨#[112, 116, 98, 100]⟩ : ByteArray), .int .u8 a0] rfl eqT ?_; (with_reducible refine (strings_IndexByte.calls (⟨#[112, 116, 98, 100]⟩ : ByteArray) a0 t375 _ A2.out).mono ?_); rintro e w' ⟨rfl, ⟨nd, rfl⟩⟩; refine ⟨_, rfl, ?_⟩))
 go_ret; exact ⟨rdT, drT⟩
def impl_isVoiced.f (a0 : Int) : Option (Bool) := (impl_IsObstruent.f a0).bind fun t376 => (if t376 = true then ((impl_HasFeature.f a0 1).bind fun t377 => (some t377)) else (some false))
theorem impl_isVoiced.calls (a0 : Int) (r : Bool) (w : World) (h : impl_isVoiced.f a0 = some r) :
  Calls Tryz.prog 164 #[.int .u8 a0] w fun e w' => e = .returned (.bool r) ∧ Below w.heap.size w w' := by
 have HB := asT (Below.refl w.heap.size w); have H := h; unfold impl_isVoiced.f at H; clear h; obtain ⟨t376, A2, H⟩ := be H; by_cases c3 : t376 = true
 ·subst c3; rw [if_pos rfl] at H; obtain ⟨t377, A4, H⟩ := be H; obtain rfl := oI H; go_enter Tryz.func164, Tryz.ntmps164
  go_wp2_with (first | ((with_reducible refine gate_callee (f := 182) rfl ?_); refine goesL_ (some 4) rfl rfl Tryz.func182 (by kernel_rfl) rfl #[.int .u8 a0] rfl eqT ?_; (with_reducible refine (impl_IsObstruent.calls a0 true _ A2.out).mono ?_); rintro e w' ⟨rfl, ⟨nd, rfl⟩⟩; refine ⟨_, rfl, ?_⟩) | (go_at_call 167; (with_reducible refine (impl_HasFeature.calls a0 1 t377 _ A4.out).mono ?_); rintro e w5 ⟨rfl, hb⟩; replace HB := hS HB hb; (try clear hb hb2 hk hi)))
  go_ret; exact ⟨rlT, hbT HB.out⟩
 ·replace c3 := eE c3; subst c3; rw [if_neg nF] at H; have H1 := H; clear H; have H := H1; clear H1; obtain rfl := oI H; go_enter Tryz.func164, Tryz.ntmps164
  go_wp2_with (first | ((with_reducible refine gate_callee (f := 182) rfl ?_); refine goesL_ (some 4) rfl rfl Tryz.func182 (by kernel_rfl) rfl #[.int .u8 a0] rfl eqT ?_; (with_reducible refine (impl_IsObstruent.calls a0 false _ A2.out).mono ?_); rintro e w' ⟨rfl, ⟨nd, rfl⟩⟩; refine ⟨_, rfl, ?_⟩))
  go_ret; exact ⟨rlT, hbT HB.out⟩
def impl_CountVoiced_1.f (a0 : Int) (a1 : Int) (a2 : Int) : Option (Bool) := (impl_isVoiced.f a1).bind fun t378 => (some t378)
theorem impl_CountVoiced_1.calls (a0 : Int) (a1 : Int) (a2 : Int) (r : Bool) (w : World) (h : impl_CountVoiced_1.f a0 a1 a2 = some r) :
  Calls Tryz.prog 163 #[.int .u8 a0, .int .u8 a1, .int .u8 a2] w fun e w' => e = .returned (.bool r) ∧ Below w.heap.size w w' := by
 have HB := asT (Below.refl w.heap.size w); have H := h; unfold impl_CountVoiced_1.f at H; clear h; obtain ⟨t378, A4, H⟩ := be H; obtain rfl := oI H; go_enter Tryz.func163, Tryz.ntmps163
 go_wp2_with (first | ((with_reducible refine gate_callee (f := 164) rfl ?_); refine goesL_ (some 8) rfl rfl Tryz.func164 (by kernel_rfl) rfl #[.int .u8 a1] rfl eqT ?_; (with_reducible refine (impl_isVoiced.calls a1 t378 _ A4.out).mono ?_); rintro e w5 ⟨rfl, hb⟩; refine ⟨_, rfl, ?_⟩; replace HB := hS HB hb; (try clear hb hb2 hk hi)))
 go_ret; exact ⟨rlT, hbT HB.out⟩
def impl_places_at_CountVoiced_1.f (k : Nat) (a0 : ByteArray) (a1 : Unit) : Option (Int) := impl_places_G.f impl_CountVoiced_1.f k a0 a1
theorem impl_places_at_CountVoiced_1.mono : ∀ a0 a1 k, LeO (impl_places_at_CountVoiced_1.f k a0 a1) (impl_places_at_CountVoiced_1.f (k + 1) a0 a1) := fun a0 a1 k => impl_places_G.mono impl_CountVoiced_1.f a0 a1 k
theorem impl_places_at_CountVoiced_1.calls (k : Nat) (a0 : ByteArray) (a1 : Unit) (r : Int) (w : World) (h : impl_places_at_CountVoiced_1.f k a0 a1 = some r) :
  Calls Tryz.prog 157 #[.string a0, .func (.func 163) #[] #[]] w fun e w' => e = .returned (.int .i64 r) ∧ Below w.heap.size w w' := impl_places_G.calls impl_CountVoiced_1.f 163 _ Tryz.func163 (by kernel_rfl) rfl (fun a0 a1 a2 r w h => impl_CountVoiced_1.calls a0 a1 a2 r w h) k a0 a1 r w h
def impl_CountVoiced.f (k : Nat) (a0 : ByteArray) : Option (Int) := (impl_places_at_CountVoiced_1.f k a0 ()).bind fun t381 => (some t381)
theorem impl_CountVoiced.mono : ∀ a0 k, LeO (impl_CountVoiced.f k a0) (impl_CountVoiced.f (k + 1) a0) := by
 intro a0 k; unfold impl_CountVoiced.f
 with_reducible repeat' first | exact impl_places_at_CountVoiced_1.mono _ _ _ | exact LeO.refl _ | exact LeO.none _ | refine LeO.ite ?_ ?_ | refine LeO.bind ?_ (fun _ => ?_)
theorem impl_CountVoiced.calls (k : Nat) (a0 : ByteArray) (r : Int) (w : World) (h : impl_CountVoiced.f k a0 = some r) :
  Calls Tryz.prog 133 #[.string a0] w fun e w' => e = .returned (.int .i64 r) ∧ Below w.heap.size w w' := by
 have HB := asT (Below.refl w.heap.size w); have H := h; unfold impl_CountVoiced.f at H; clear h; obtain ⟨t381, A2, H⟩ := be H; obtain rfl := oI H; go_enter Tryz.func133, Tryz.ntmps133
 go_wp2_with (first | ((with_reducible refine gate_callee (f := 157) rfl ?_); refine goesL_ (some 4) rfl rfl Tryz.func157 (by kernel_rfl) rfl #[.string a0, .func (.func 163) #[] #[]] rfl eqT ?_; (with_reducible refine (impl_places_at_CountVoiced_1.calls k a0 () t381 _ A2.out).mono ?_); rintro e w3 ⟨rfl, hb⟩; refine ⟨_, rfl, ?_⟩; replace HB := hS HB hb; (try clear hb hb2 hk hi)))
 go_ret; exact ⟨rlT, hbT HB.out⟩
def impl_CountFinalVoiced_1.f (a0 : Int) (a1 : Int) (a2 : Int) : Option (Bool) := (impl_isVoiced.f a1).bind fun t382 => (if t382 = true then (some (a2 == 0)) else (some false))
theorem impl_CountFinalVoiced_1.calls (a0 : Int) (a1 : Int) (a2 : Int) (r : Bool) (w : World) (h : impl_CountFinalVoiced_1.f a0 a1 a2 = some r) :
  Calls Tryz.prog 165 #[.int .u8 a0, .int .u8 a1, .int .u8 a2] w fun e w' => e = .returned (.bool r) ∧ Below w.heap.size w w' := by
 have HB := asT (Below.refl w.heap.size w); have H := h; unfold impl_CountFinalVoiced_1.f at H; clear h; obtain ⟨t382, A4, H⟩ := be H; by_cases c5 : t382 = true
 ·subst c5; rw [if_pos rfl] at H; have H1 := H; clear H; have H := H1; clear H1; obtain rfl := oI H; go_enter Tryz.func165, Tryz.ntmps165
  go_wp2_with (first | ((with_reducible refine gate_callee (f := 164) rfl ?_); refine goesL_ (some 8) rfl rfl Tryz.func164 (by kernel_rfl) rfl #[.int .u8 a1] rfl eqT ?_; (with_reducible refine (impl_isVoiced.calls a1 true _ A4.out).mono ?_); rintro e w6 ⟨rfl, hb⟩; refine ⟨_, rfl, ?_⟩; replace HB := hS HB hb; (try clear hb hb2 hk hi)))
  go_ret; exact ⟨rlT, hbT HB.out⟩
 ·replace c5 := eE c5; subst c5; rw [if_neg nF] at H; have H1 := H; clear H; have H := H1; clear H1; obtain rfl := oI H; go_enter Tryz.func165, Tryz.ntmps165
  go_wp2_with (first | ((with_reducible refine gate_callee (f := 164) rfl ?_); refine goesL_ (some 8) rfl rfl Tryz.func164 (by kernel_rfl) rfl #[.int .u8 a1] rfl eqT ?_; (with_reducible refine (impl_isVoiced.calls a1 false _ A4.out).mono ?_); rintro e w7 ⟨rfl, hb⟩; refine ⟨_, rfl, ?_⟩; replace HB := hS HB hb; (try clear hb hb2 hk hi)))
  go_ret; exact ⟨rlT, hbT HB.out⟩
def impl_places_at_CountFinalVoiced_1.f (k : Nat) (a0 : ByteArray) (a1 : Unit) : Option (Int) := impl_places_G.f impl_CountFinalVoiced_1.f k a0 a1
theorem impl_places_at_CountFinalVoiced_1.mono : ∀ a0 a1 k, LeO (impl_places_at_CountFinalVoiced_1.f k a0 a1) (impl_places_at_CountFinalVoiced_1.f (k + 1) a0 a1) := fun a0 a1 k => impl_places_G.mono impl_CountFinalVoiced_1.f a0 a1 k
theorem impl_places_at_CountFinalVoiced_1.calls (k : Nat) (a0 : ByteArray) (a1 : Unit) (r : Int) (w : World) (h : impl_places_at_CountFinalVoiced_1.f k a0 a1 = some r) :
  Calls Tryz.prog 157 #[.string a0, .func (.func 165) #[] #[]] w fun e w' => e = .returned (.int .i64 r) ∧ Below w.heap.size w w' := impl_places_G.calls impl_CountFinalVoiced_1.f 165 _ Tryz.func165 (by kernel_rfl) rfl (fun a0 a1 a2 r w h => impl_CountFinalVoiced_1.calls a0 a1 a2 r w h) k a0 a1 r w h
def impl_CountFinalVoiced.f (k : Nat) (a0 : ByteArray) : Option (Int) := (impl_places_at_CountFinalVoiced_1.f k a0 ()).bind fun t385 => (some t385)
theorem impl_CountFinalVoiced.mono : ∀ a0 k, LeO (impl_CountFinalVoiced.f k a0) (impl_CountFinalVoiced.f (k + 1) a0) := by
 intro a0 k; unfold impl_CountFinalVoiced.f
 with_reducible repeat' first | exact impl_places_at_CountFinalVoiced_1.mono _ _ _ | exact LeO.refl _ | exact LeO.none _ | refine LeO.ite ?_ ?_ | refine LeO.bind ?_ (fun _ => ?_)
theorem impl_CountFinalVoiced.calls (k : Nat) (a0 : ByteArray) (r : Int) (w : World) (h : impl_CountFinalVoiced.f k a0 = some r) :
  Calls Tryz.prog 134 #[.string a0] w fun e w' => e = .returned (.int .i64 r) ∧ Below w.heap.size w w' := by
 have HB := asT (Below.refl w.heap.size w); have H := h; unfold impl_CountFinalVoiced.f at H; clear h; obtain ⟨t385, A2, H⟩ := be H; obtain rfl := oI H; go_enter Tryz.func134, Tryz.ntmps134
 go_wp2_with (first | ((with_reducible refine gate_callee (f := 157) rfl ?_); refine goesL_ (some 4) rfl rfl Tryz.func157 (by kernel_rfl) rfl #[.string a0, .func (.func 165) #[] #[]] rfl eqT ?_; (with_reducible refine (impl_places_at_CountFinalVoiced_1.calls k a0 () t385 _ A2.out).mono ?_); rintro e w3 ⟨rfl, hb⟩; refine ⟨_, rfl, ?_⟩; replace HB := hS HB hb; (try clear hb hb2 hk hi)))
 go_ret; exact ⟨rlT, hbT HB.out⟩
def impl_isVoiceless.f (a0 : Int) : Option (Bool) := (impl_IsObstruent.f a0).bind fun t386 => (if t386 = true then ((impl_HasFeature.f a0 1).bind fun t387 => (some (!t387))) else (some false))
theorem impl_isVoiceless.calls (a0 : Int) (r : Bool) (w : World) (h : impl_isVoiceless.f a0 = some r) :
  Calls Tryz.prog 168 #[.int .u8 a0] w fun e w' => e = .returned (.bool r) ∧ Below w.heap.size w w' := by
 have HB := asT (Below.refl w.heap.size w); have H := h; unfold impl_isVoiceless.f at H; clear h; obtain ⟨t386, A2, H⟩ := be H; by_cases c3 : t386 = true
 ·subst c3; rw [if_pos rfl] at H; obtain ⟨t387, A4, H⟩ := be H; obtain rfl := oI H; go_enter Tryz.func168, Tryz.ntmps168
  go_wp2_with (first | ((with_reducible refine gate_callee (f := 182) rfl ?_); refine goesL_ (some 4) rfl rfl Tryz.func182 (by kernel_rfl) rfl #[.int .u8 a0] rfl eqT ?_; (with_reducible refine (impl_IsObstruent.calls a0 true _ A2.out).mono ?_); rintro e w' ⟨rfl, ⟨nd, rfl⟩⟩; refine ⟨_, rfl, ?_⟩) | (go_at_call 167; (with_reducible refine (impl_HasFeature.calls a0 1 t387 _ A4.out).mono ?_); rintro e w5 ⟨rfl, hb⟩; replace HB := hS HB hb; (try clear hb hb2 hk hi)))
  go_ret; exact ⟨rlT, hbT HB.out⟩
 ·replace c3 := eE c3; subst c3; rw [if_neg nF] at H; have H1 := H; clear H; have H := H1; clear H1; obtain rfl := oI H; go_enter Tryz.func168, Tryz.ntmps168
  go_wp2_with (first | ((with_reducible refine gate_callee (f := 182) rfl ?_); refine goesL_ (some 4) rfl rfl Tryz.func182 (by kernel_rfl) rfl #[.int .u8 a0] rfl eqT ?_; (with_reducible refine (impl_IsObstruent.calls a0 false _ A2.out).mono ?_); rintro e w' ⟨rfl, ⟨nd, rfl⟩⟩; refine ⟨_, rfl, ?_⟩))
  go_ret; exact ⟨rlT, hbT HB.out⟩
def impl_CountNasalVoiceless_1.f (a0 : Int) (a1 : Int) (a2 : Int) : Option (Bool) := (impl_HasFeature.f a0 2).bind fun t388 => (if t388 = true then ((impl_isVoiceless.f a1).bind fun t389 => (some t389)) else (some false))
theorem impl_CountNasalVoiceless_1.calls (a0 : Int) (a1 : Int) (a2 : Int) (r : Bool) (w : World) (h : impl_CountNasalVoiceless_1.f a0 a1 a2 = some r) :
  Calls Tryz.prog 166 #[.int .u8 a0, .int .u8 a1, .int .u8 a2] w fun e w' => e = .returned (.bool r) ∧ Below w.heap.size w w' := by
 have HB := asT (Below.refl w.heap.size w); have H := h; unfold impl_CountNasalVoiceless_1.f at H; clear h; obtain ⟨t388, A4, H⟩ := be H; by_cases c5 : t388 = true
 ·subst c5; rw [if_pos rfl] at H; obtain ⟨t389, A6, H⟩ := be H; obtain rfl := oI H; go_enter Tryz.func166, Tryz.ntmps166
  go_wp2_with (first | ((with_reducible refine gate_callee (f := 167) rfl ?_); refine goesL_ (some 8) rfl rfl Tryz.func167 (by kernel_rfl) rfl #[.int .u8 a0, .int .i64 2] rfl eqT ?_; (with_reducible refine (impl_HasFeature.calls a0 2 true _ A4.out).mono ?_); rintro e w7 ⟨rfl, hb⟩; refine ⟨_, rfl, ?_⟩; replace HB := hS HB hb; (try clear hb hb2 hk hi)) | (go_at_call 168; (with_reducible refine (impl_isVoiceless.calls a1 t389 _ A6.out).mono ?_); rintro e w8 ⟨rfl, hb⟩; replace HB := hS HB hb; (try clear hb hb2 hk hi)))
  go_ret; exact ⟨rlT, hbT HB.out⟩
 ·replace c5 := eE c5; subst c5; rw [if_neg nF] at H; have H1 := H; clear H; have H := H1; clear H1; obtain rfl := oI H; go_enter Tryz.func166, Tryz.ntmps166
  go_wp2_with (first | ((with_reducible refine gate_callee (f := 167) rfl ?_); refine goesL_ (some 8) rfl rfl Tryz.func167 (by kernel_rfl) rfl #[.int .u8 a0, .int .i64 2] rfl eqT ?_; (with_reducible refine (impl_HasFeature.calls a0 2 false _ A4.out).mono ?_); rintro e w9 ⟨rfl, hb⟩; refine ⟨_, rfl, ?_⟩; replace HB := hS HB hb; (try clear hb hb2 hk hi)))
  go_ret; exact ⟨rlT, hbT HB.out⟩
def impl_places_at_CountNasalVoiceless_1.f (k : Nat) (a0 : ByteArray) (a1 : Unit) : Option (Int) := impl_places_G.f impl_CountNasalVoiceless_1.f k a0 a1
theorem impl_places_at_CountNasalVoiceless_1.mono : ∀ a0 a1 k, LeO (impl_places_at_CountNasalVoiceless_1.f k a0 a1) (impl_places_at_CountNasalVoiceless_1.f (k + 1) a0 a1) := fun a0 a1 k => impl_places_G.mono impl_CountNasalVoiceless_1.f a0 a1 k
theorem impl_places_at_CountNasalVoiceless_1.calls (k : Nat) (a0 : ByteArray) (a1 : Unit) (r : Int) (w : World) (h : impl_places_at_CountNasalVoiceless_1.f k a0 a1 = some r) :
  Calls Tryz.prog 157 #[.string a0, .func (.func 166) #[] #[]] w fun e w' => e = .returned (.int .i64 r) ∧ Below w.heap.size w w' := impl_places_G.calls impl_CountNasalVoiceless_1.f 166 _ Tryz.func166 (by kernel_rfl) rfl (fun a0 a1 a2 r w h => impl_CountNasalVoiceless_1.calls a0 a1 a2 r w h) k a0 a1 r w h
def impl_CountNasalVoiceless.f (k : Nat) (a0 : ByteArray) : Option (Int) := (impl_places_at_CountNasalVoiceless_1.f k a0 ()).bind fun t392 => (some t392)
theorem impl_CountNasalVoiceless.mono : ∀ a0 k, LeO (impl_CountNasalVoiceless.f k a0) (impl_CountNasalVoiceless.f (k + 1) a0) := by
 intro a0 k; unfold impl_CountNasalVoiceless.f
 with_reducible repeat' first | exact impl_places_at_CountNasalVoiceless_1.mono _ _ _ | exact LeO.refl _ | exact LeO.none _ | refine LeO.ite ?_ ?_ | refine LeO.bind ?_ (fun _ => ?_)
theorem impl_CountNasalVoiceless.calls (k : Nat) (a0 : ByteArray) (r : Int) (w : World) (h : impl_CountNasalVoiceless.f k a0 = some r) :
  Calls Tryz.prog 135 #[.string a0] w fun e w' => e = .returned (.int .i64 r) ∧ Below w.heap.size w w' := by
 have HB := asT (Below.refl w.heap.size w); have H := h; unfold impl_CountNasalVoiceless.f at H; clear h; obtain ⟨t392, A2, H⟩ := be H; obtain rfl := oI H; go_enter Tryz.func135, Tryz.ntmps135
 go_wp2_with (first | ((with_reducible refine gate_callee (f := 157) rfl ?_); refine goesL_ (some 4) rfl rfl Tryz.func157 (by kernel_rfl) rfl #[.string a0, .func (.func 166) #[] #[]] rfl eqT ?_; (with_reducible refine (impl_places_at_CountNasalVoiceless_1.calls k a0 () t392 _ A2.out).mono ?_); rintro e w3 ⟨rfl, hb⟩; refine ⟨_, rfl, ?_⟩; replace HB := hS HB hb; (try clear hb hb2 hk hi)))
 go_ret; exact ⟨rlT, hbT HB.out⟩
def impl_CountDeleted_1.f (a0_0 : Int) (a0_1 : Int) : Option (Bool) := some (a0_1 == 0)
theorem impl_CountDeleted_1.calls (a0_0 : Int) (a0_1 : Int) (r : Bool) (w : World) (h : impl_CountDeleted_1.f a0_0 a0_1 = some r) :
  Calls Tryz.prog 170 #[.agg #[.int .u8 a0_0, .int .u8 a0_1]] w fun e w' => e = .returned (.bool r) ∧ Below w.heap.size w w' := by
 have hu109 := Tryz.underlying109; have HB := asT (Below.refl w.heap.size w); have H := h; unfold impl_CountDeleted_1.f at H; clear h; obtain rfl := oI H; go_enter Tryz.func170, Tryz.ntmps170
 go_wp2_with (first | ((with_reducible refine gate_dst (N := 1) rfl ?_); refine boxT (N := 1) (cs := #[.int .u8 a0_0, .int .u8 a0_1]) (t := 109) ?_; intro gb393 hg w2 hbox hb; have BK393 := asT hbox; have GW393 := asT (geT hg HB.out); have GE393 := GW393; replace HB := hS HB hb; clear hb hbox hg; obtain ⟨hcz3_0, hcz3_1, hfz3_0, hfz3_1⟩ := bx2 BK393.out))
 go_ret; exact ⟨rlT, hbT HB.out⟩
end Go.Proofs.YtlmfpkiaikjlbaaGreat.PFnExactTableauOf
