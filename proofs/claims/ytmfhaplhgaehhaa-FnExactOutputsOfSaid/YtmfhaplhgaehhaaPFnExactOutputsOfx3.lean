-- Made by gen.py (a program of this session) out of the translation; Lean checks it.
import Derived.Test.YtmfhaplhgaehhaaPFnExactOutputsOfx0
import Derived.Test.YtmfhaplhgaehhaaPFnExactOutputsOfx2
namespace Go.Proofs.Ytmfhaplhgaehhaa.PFnExactOutputsOf
open Go.RowKit Go.Proofs.YtmfhaplhgaehhaaB Go.Proofs.YtmfhaplhgaehhaaW.PrintWords Go.Proofs.YtmfhaplhgaehhaaW.PrintLast Go.Proofs.YtmfhaplhgaehhaaW.PrintMore
attribute [local go_sem] max2_int min2_int max_two min_two max_three min_three max_four min_four   -- for this text's walks alone
set_option linter.unusedVariables false
set_option linter.unusedSimpArgs false

/-! ### spec_SwapVoice: function 84 -/
def spec_SwapVoice.f (a0 : Int) : Option (Int × Bool) := if a0 = 112 then (some (98, true)) else (if a0 = 98 then (some (112, true)) else (if a0 = 116 then (some (100, true)) else (if a0 = 100 then (some (116, true)) else (some (a0, false)))))
set_option maxHeartbeats 8000000 in
set_option maxRecDepth 100000 in
theorem spec_SwapVoice.calls (a0 : Int) (r1 : Int) (r2 : Bool) (w : World) (h : spec_SwapVoice.f a0 = some (r1, r2)) :
  Calls Try.prog 84 #[.int .u8 a0] w fun e w' => e = .returned (.tuple #[.int .u8 r1, .bool r2]) ∧ Drawn0 w w' := by
 have H := h; unfold spec_SwapVoice.f at H; clear h
 by_cases c2 : a0 = 112
 ·rw [if_pos c2] at H
  have c2b0 : (a0 == 112) = true := beq_iff_eq.mpr c2
  have c2b1 : (a0 != 112) = false := bne_eq_false_iff_eq.mpr c2
  clear c2
  simp only [Option.some.injEq, Prod.mk.injEq] at H
  obtain ⟨rfl, rfl⟩ := H
  go_enter Try.func84, Try.ntmps84
  go_wp2
  go_ret2
  exact ⟨rdT, drT⟩
 ·rw [if_neg c2] at H
  have c2b0 : (a0 == 112) = false := beq_eq_false_iff_ne.mpr c2
  have c2b1 : (a0 != 112) = true := bne_iff_ne.mpr c2
  by_cases c3 : a0 = 98
  ·rw [if_pos c3] at H
   have c3b0 : (a0 == 98) = true := beq_iff_eq.mpr c3
   have c3b1 : (a0 != 98) = false := bne_eq_false_iff_eq.mpr c3
   clear c3
   simp only [Option.some.injEq, Prod.mk.injEq] at H
   obtain ⟨rfl, rfl⟩ := H
   go_enter Try.func84, Try.ntmps84
   go_wp2
   go_ret2
   exact ⟨rdT, drT⟩
  ·rw [if_neg c3] at H
   have c3b0 : (a0 == 98) = false := beq_eq_false_iff_ne.mpr c3
   have c3b1 : (a0 != 98) = true := bne_iff_ne.mpr c3
   by_cases c4 : a0 = 116
   ·rw [if_pos c4] at H
    have c4b0 : (a0 == 116) = true := beq_iff_eq.mpr c4
    have c4b1 : (a0 != 116) = false := bne_eq_false_iff_eq.mpr c4
    clear c4
    simp only [Option.some.injEq, Prod.mk.injEq] at H
    obtain ⟨rfl, rfl⟩ := H
    go_enter Try.func84, Try.ntmps84
    go_wp2
    go_ret2
    exact ⟨rdT, drT⟩
   ·rw [if_neg c4] at H
    have c4b0 : (a0 == 116) = false := beq_eq_false_iff_ne.mpr c4
    have c4b1 : (a0 != 116) = true := bne_iff_ne.mpr c4
    by_cases c5 : a0 = 100
    ·rw [if_pos c5] at H
     have c5b0 : (a0 == 100) = true := beq_iff_eq.mpr c5
     have c5b1 : (a0 != 100) = false := bne_eq_false_iff_eq.mpr c5
     clear c5
     simp only [Option.some.injEq, Prod.mk.injEq] at H
     obtain ⟨rfl, rfl⟩ := H
     go_enter Try.func84, Try.ntmps84
     go_wp2
     go_ret2
     exact ⟨rdT, drT⟩
    ·rw [if_neg c5] at H
     have c5b0 : (a0 == 100) = false := beq_eq_false_iff_ne.mpr c5
     have c5b1 : (a0 != 100) = true := bne_iff_ne.mpr c5
     simp only [Option.some.injEq, Prod.mk.injEq] at H
     obtain ⟨rfl, rfl⟩ := H
     go_enter Try.func84, Try.ntmps84
     go_wp2
     go_ret2
     exact ⟨rdT, drT⟩

/-! ### spec_l7Before: function 134 -/
def spec_l7Before.l0 : Nat → List (S26) → List (S26) → Int → Int → Int → Option ((List (S26)))
 | 0, _, _, _, _, _ => none
 | k + 1, x1, x5, x6, x159000, x159001 => if x6 < (x1.length : Int) then ((some (([(⟨x159000, x159001⟩ : S87)] : List (S87)) : List (S87))).bind fun y162 => (if 0 ≤ x6 then (if y162.length + ((rd_T26 x1 x6).f0).length < 70368744177664 then (if x5.length < 5864062014805 then (spec_l7Before.l0 k x1 (x5 ++ [(⟨(y162 ++ ((rd_T26 x1 x6).f0))⟩ : S26)]) (wrap64 (x6 + 1)) x159000 x159001) else (none)) else (none)) else (none))) else (some x5)
def spec_l7Before.f (k : Nat) (a0_0 : Int) (a0_1 : Int) (l1 : List (S26)) : Option ((List (S26))) := spec_l7Before.l0 k l1 (([] : List (S26))) 0 a0_0 a0_1
theorem spec_l7Before.mono_l : ∀ k, (∀ y0 y1 y2 y3 y4, LeO (spec_l7Before.l0 k y0 y1 y2 y3 y4) (spec_l7Before.l0 (k + 1) y0 y1 y2 y3 y4))
 | 0 => fun _ _ _ _ _ r h => by simp [spec_l7Before.l0] at h
 | k + 1 => by
  have ih0 := spec_l7Before.mono_l k
  ·intro y0 y1 y2 y3 y4
   unfold spec_l7Before.l0
   with_reducible repeat' first | exact ih0 _ _ _ _ _ | exact LeO.refl _ | exact LeO.none _ | refine LeO.ite ?_ ?_ | refine LeO.bind ?_ (fun _ => ?_)
theorem spec_l7Before.mono : ∀ a0 a1 a2 k, LeO (spec_l7Before.f k a0 a1 a2) (spec_l7Before.f (k + 1) a0 a1 a2) := by
 intro a0 a1 a2 k
 have ih0 := spec_l7Before.mono_l k
 unfold spec_l7Before.f
 with_reducible repeat' first | exact ih0 _ _ _ _ _ | exact LeO.refl _ | exact LeO.none _ | refine LeO.ite ?_ ?_ | refine LeO.bind ?_ (fun _ => ?_)
def spec_l7Before.T5 : Bool × List (List Nat × List Nat) := (true, [([], []), ([], []), ([1], [1]), ([], []), ([], []), ([3, 4], [3, 4]), ([5], [5]), ([6], [6]), ([2, 7], [2, 7]), ([8], [8]), ([9], [9]), ([0, 10, 8], [0, 10]), ([11, 11, 0, 1, 2, 3, 4, 5, 6, 7, 8, 9, 10, 11], [0, 11])])
def spec_l7Before.B5 : List Nat := [0, 0, 2, 0, 0, 24, 56, 120, 254, 510, 1022, 2047, 4095]
theorem spec_l7Before.tab5 : rtab .any (opsOf Try.f134 5) = spec_l7Before.T5 := by kernel_rfl
theorem spec_l7Before.bits5 : waitsOk spec_l7Before.T5.2 spec_l7Before.B5 = true := by kernel_rfl
set_option maxHeartbeats 8000000 in
set_option maxRecDepth 100000 in
theorem spec_l7Before.calls (k : Nat) (a0_0 : Int) (a0_1 : Int) (A1 : Option Addr) (c1 : Nat) (l1 : List (S26)) (r : List (S26)) (w : World) (hr1 : Kd.C k26 w A1 l1.length l1) (hc1 : l1.length ≤ c1) (h : spec_l7Before.f k a0_0 a0_1 l1 = some r) :
  Calls Try.prog 134 #[.agg #[.int .u8 a0_0, .int .u8 a0_1], .slice A1 l1.length c1] w fun e w' => ∃ v0_ : Value, e = .returned (v0_) ∧ Kd.S k26 26 w' w.heap.size (fun _ => True) v0_ r ∧ Below w.heap.size w w' := by
 have hu87 := Try.underlying87; have hu26 := Try.underlying26; have HR1 := Aside0.mk hr1; have HC1 := Aside0.mk hc1; clear hr1 hc1; have HB := asT (Below.refl w.heap.size w); have H := h; unfold spec_l7Before.f at H; clear h; obtain ⟨y159, hy159⟩ : ∃ y_ : List (S26), y_ = (([] : List (S26))) := ⟨_, rfl⟩
 replace H : (spec_l7Before.l0 k l1 y159 0 a0_0 a0_1) = some r := by first | (rw [hy159]; with_reducible exact H) | (have H2_ := (Option.bind_some _ _).symm.trans H; rw [hy159]; with_reducible exact H2_) | (have H2_ := (Option.bind_some _ _).symm.trans H; with_reducible exact H2_) | with_reducible exact H | (rw [hy159]; exact H) | exact H
 have Ny159 := Aside0.mk hy159; clear hy159; have H' := Aside0.mk H; clear H
 go_enter Try.func134, Try.ntmps134
 go_wp2_with (first | ((with_reducible refine gate_dst (N := 2) rfl ?_); refine boxT (N := 2) (cs := #[.int .u8 a0_0, .int .u8 a0_1]) (t := 87) ?_; intro gb158 hg w3 hbox hb; have BK158 := asT hbox; have GW158 := asT (geT hg HB.out); have GE158 := GW158; replace HB := hS HB hb; clear hb hbox hg) | ((with_reducible refine gate_dst (N := 7) rfl ?_); refine Kd.S_lit k26 _ 26 ?hg (N := 7) ?hd (xs := ([] : List (S26))) (inner := []) (ok := fun _ => True) (okp := fun _ => True) ?hr ?hp (fun _ hk => hk) trivial (Below.refl _ _) (Nat.le_refl _) (by simp) ?_; (case hd => rfl); (case hg => rfl); (case hr => first | (go_simp; done) | (go_simp; rfl)); (case hp => exact (Reps.none _ _)); intro v160 w4 ho5 hb hg_ hnew_; clear hg_ hnew_; (first | rw [← Ny159.out] at ho5 | (simp only [Int.reduceToNat] at ho5; rw [← Ny159.out] at ho5)); have HO161 := asT (Kd.S_lower (Kd.S_newB ho5 (g := gb158) (o := .cells #[.int .u8 a0_0, .int .u8 a0_1] 87 (0, 0)) (bkT BK158.out)) (below_size (hbT HB.out))); replace BK158 := bS BK158 hb; replace HB := hS HB hb; clear hb ho5))
 go_loopg [5, 6] k (fun kq v5 v6 w' => ∃ (x5_1 : List (S26)) (x6_1 : Int), v6 = .int .i64 x6_1 ∧ Aside0 (spec_l7Before.l0 kq l1 x5_1 x6_1 a0_0 a0_1 = some r) ∧ Aside0 (kq ≤ k) ∧ Aside0 (Kd.S k26 26 w' w.heap.size (fun k_ => k_ ≠ gb158) v5 x5_1) ∧ Aside0 (w'.heap[gb158]? = some (.cells #[.int .u8 a0_0, .int .u8 a0_1] 87 (0, 0))) ∧ Aside0 (Below w.heap.size w w'))
 case atStart => exact ⟨(y159), (0), rdT, H', ⟨Nat.le_refl _⟩, ⟨by (with_reducible repeat (first | apply Kd.S_alloc | apply Kd.S_drewN | apply Kd.S_drew)); exact Kd.S_mono HO161.out (fun _ hk => hk.2)⟩, ⟨by (with_reducible repeat (first | refine blk_drewN ?_ _ | refine blk_drew ?_ | refine blk_alloc ?_ _)); exact BK158.out⟩, ⟨hbT HB.out⟩⟩
 case round =>
  clear H'; (try clear c1 p2); obtain ⟨x5_1, x6_1, rfl, HA, HK1, HO_5, BK158, HB⟩ := hrel
  cases gk with
  | zero => exact absurd HA.out (by simp [spec_l7Before.l0])
  | succ k1 =>
   have H := HA.out; clear HA
   simp only [spec_l7Before.l0] at H
   by_cases c6 : x6_1 < (l1.length : Int)
   ·rw [if_pos c6] at H
    have c6b0 : decide (x6_1 < (l1.length : Int)) = true := decide_eq_true c6
    clear c6; obtain ⟨y162, hy162⟩ : ∃ y_ : List (S87), y_ = (([(⟨a0_0, a0_1⟩ : S87)] : List (S87))) := ⟨_, rfl⟩
    replace H : (if 0 ≤ x6_1 then (if y162.length + ((rd_T26 l1 x6_1).f0).length < 70368744177664 then (if x5_1.length < 5864062014805 then (spec_l7Before.l0 k1 l1 (x5_1 ++ [(⟨(y162 ++ ((rd_T26 l1 x6_1).f0))⟩ : S26)]) (wrap64 (x6_1 + 1)) a0_0 a0_1) else (none)) else (none)) else (none)) = some r := by first | (rw [hy162]; with_reducible exact H) | (have H2_ := (Option.bind_some _ _).symm.trans H; rw [hy162]; with_reducible exact H2_) | (have H2_ := (Option.bind_some _ _).symm.trans H; with_reducible exact H2_) | with_reducible exact H | (rw [hy162]; exact H) | exact H
    have Ny162 := Aside0.mk hy162; clear hy162
    by_cases c7 : 0 ≤ x6_1
    ·rw [if_pos c7] at H
     have c7b0 : decide (0 ≤ x6_1) = true := decide_eq_true c7
     clear c7
     by_cases c8 : y162.length + ((rd_T26 l1 x6_1).f0).length < 70368744177664
     ·rw [if_pos c8] at H
      have LMc8 := Aside0.mk c8; clear c8; obtain ⟨y166, hy166⟩ : ∃ y_ : List (S87), y_ = (y162 ++ ((rd_T26 l1 x6_1).f0)) := ⟨_, rfl⟩
      replace H : (if x5_1.length < 5864062014805 then (spec_l7Before.l0 k1 l1 (x5_1 ++ [(⟨y166⟩ : S26)]) (wrap64 (x6_1 + 1)) a0_0 a0_1) else (none)) = some r := by first | (rw [hy166]; with_reducible exact H) | (have H2_ := (Option.bind_some _ _).symm.trans H; rw [hy166]; with_reducible exact H2_) | (have H2_ := (Option.bind_some _ _).symm.trans H; with_reducible exact H2_) | with_reducible exact H | (rw [hy166]; exact H) | exact H
      have Ny166 := Aside0.mk hy166; clear hy166
      by_cases c9 : x5_1.length < 5864062014805
      ·rw [if_pos c9] at H
       have LMc9 := Aside0.mk c9; clear c9; obtain ⟨y169, hy169⟩ : ∃ y_ : List (S26), y_ = (x5_1 ++ [(⟨y166⟩ : S26)]) := ⟨_, rfl⟩
       replace H : (spec_l7Before.l0 k1 l1 y169 (wrap64 (x6_1 + 1)) a0_0 a0_1) = some r := by first | (rw [hy169]; with_reducible exact H) | (have H2_ := (Option.bind_some _ _).symm.trans H; rw [hy169]; with_reducible exact H2_) | (have H2_ := (Option.bind_some _ _).symm.trans H; with_reducible exact H2_) | with_reducible exact H | (rw [hy169]; exact H) | exact H
       have Ny169 := Aside0.mk hy169; clear hy169; have H' := Aside0.mk H; clear H
       try go_wp2
       replace HO_5 := asT (Kd.S_drew HO_5.out); replace BK158 := asT (blk_drew BK158.out); replace HB := asT (below_drew1 HB.out)
       have p165 : 0 ≤ (x6_1 : Int) := of_decide_eq_true asmT
       have q165 : x6_1 < (l1.length : Int) := of_decide_eq_true asmT
       obtain ⟨ad165, A165_0, c165_0, e165, hx165_0, hl165_0, hi165_0⟩ := at_T26 HR1.out x6_1 p165 q165; have hw165_0 := hx165_0
       cases e165
       replace hx165_0 := hbc HB.out hx165_0; have HR165_0 := Aside0.mk hi165_0; have HC165_0 := Aside0.mk hl165_0; clear hi165_0 hl165_0; replace p165 := eq_true p165; replace q165 := eq_true q165
       refine start_ (n := 13) (S := fun w' => w'.cell? ⟨gb158, 0, none⟩ = some (.int .u8 a0_0) ∧ w'.cell? ⟨gb158, 1, none⟩ = some (.int .u8 a0_1) ∧ w'.cell? (ad165.add (x6_1).toNat) = some (.slice A165_0 ((rd_T26 l1 x6_1).f0).length c165_0)) (ds := []) (bA 13 0) (by kernel_rfl) rfl rfl ⟨bc0 BK158.out, bc1 BK158.out, (hbc HB.out hw165_0 :)⟩ (fun hHeld => ?_); refine with_tabW spec_l7Before.tab5 spec_l7Before.bits5 (fun HT_ HW_ => ?_)
       generalize wr.drew = w10 at HO_5 BK158 HB HR165_0 hx165_0 hHeld ⊢
       refine pA 0 14 13 1 HT_.out ?_ rfl rfl; refine pA 3 17 13 9 HT_.out ?_ rfl rfl; refine pA 4 18 13 25 HT_.out ?_ rfl rfl; refine pA 5 19 13 57 HT_.out ?_ rfl rfl; refine pA 6 20 13 121 HT_.out ?_ rfl rfl; refine tA 1 15 13 123 HT_.out HW_.out hHeld ?_ rfl rfl; refine tA 7 21 13 251 HT_.out HW_.out hHeld ?_ rfl rfl
       refine oA 2 16 13 255 HT_.out (fun K hK => ?_) rfl rfl
       refine Kd.R_lit_step k87 _ 87 ?hg (N := 16) ?hd (xs := ([(⟨a0_0, a0_1⟩ : S87)] : List (S87))) (inner := [.int .u8 a0_0, .int .u8 a0_1]) (ok := fun _ => True) (okp := fun _ => True) ?hr ?hp (fun _ hk => hk) trivial (Below.refl _ _) (Nat.le_refl _) (by simp) ?_; (case hd => rfl); (case hg => rfl); (case hr => first | (go_simp; done) | (go_simp; rfl)); (case hp => exact (Reps.c2 (show Kd.M k87 _ _ _ (⟨a0_0, a0_1⟩ : S87) [.int .u8 a0_0, .int .u8 a0_1] from (k87_mkM _ _ _ (⟨a0_0, a0_1⟩ : S87) )) (Reps.none _ _)))
       intro v163 w11 ho12 hb hg_ hnew_
       clear hg_ hnew_
       (first | rw [← Ny162.out] at ho12 | (simp only [Int.reduceToNat] at ho12; rw [← Ny162.out] at ho12))
       replace HO_5 := asT (Kd.S_elder' (by (with_reducible repeat (first | apply Kd.S_alloc | apply Kd.S_drewN | apply Kd.S_drew)); exact HO_5.out) (Kd.R_base ho12) hb); have HO164 := asT (Kd.R_lower (Kd.R_newB ho12 (g := gb158) (o := .cells #[.int .u8 a0_0, .int .u8 a0_1] 87 (0, 0)) (bkT BK158.out)) (below_size (hbT HB.out))); replace BK158 := bS BK158 hb; replace HB := hS HB hb; clear hb ho12
       refine hK.out _ _ ⟨bc0 BK158.out, bc1 BK158.out, (hbc HB.out hw165_0 :)⟩ (fun hHeld => ?_)
       clear hK K
       refine nB 16 ?_ rfl
       refine oA 8 22 13 511 HT_.out (fun K hK => ?_) rfl rfl
       refine Kd.R_append_rows_step k87 (w0 := w) w.heap.size (by rfl) (.tmp 16) (.tmp 21) 24 87 (.agg #[(.int .u8 0), (.int .u8 0)]) 2 rfl Try.underlying24 info87 rfl (by decide) (by omega) v163 y162 ((rd_T26 l1 x6_1).f0) _ _ _ (fun k_ => k_ ≠ gb158) (fun _ => False) rfl rfl ?aO ?aR (fun _ _ h => h) (fun _ h => h.elim) ?aF ?aB ?aS ?aL ?_
       (case aR => repeat (first | exact (Kd.C_below HR165_0.out HB.out) | (with_reducible refine Kd.C_alloc ?_ _) | (with_reducible refine Kd.C_drewN ?_ _) | (with_reducible refine Kd.C_drew ?_)))
       (case aB => exact (hbT HB.out))
       (case aF => exact (fun k_ hk => Kd.freshB (g := gb158) (o := .cells #[.int .u8 a0_0, .int .u8 a0_1] 87 (0, 0)) (bkT BK158.out) k_ hk))
       (case aO => exact (by (with_reducible repeat (first | apply Kd.R_alloc | apply Kd.R_drewN | apply Kd.R_drew)); exact Kd.R_mono HO164.out (fun _ hk => hk.2)))
       (case aS => exact (below_size (hbT HB.out)))
       (case aL => have := LMc8.out; omega)
       intro v167 w13 ho hb hg hat
       rw [← Ny166.out] at ho; replace HO_5 := asT (Kd.S_after (ok := (fun k_ => k_ ≠ gb158)) (by (with_reducible repeat (first | apply Kd.S_alloc | apply Kd.S_drewN | apply Kd.S_drew)); exact HO_5.out) hg hat); replace BK158 := asT (blk_grown (g := gb158) (o := .cells #[.int .u8 a0_0, .int .u8 a0_1] 87 (0, 0)) (bkT BK158.out) hg (Kd.R_away HO164.out (fun _ hk => hk.2))); replace HB := asT (hb); have HO168 := asT (ho); clear HO164 ho hb hg hat; obtain ⟨Ao14, co14, eo14⟩ := Kd.R_slice HO168.out; (first | subst eo14 | (injection eo14 with f1_ f2_ f3_; have f4_ := f1_.symm; have f5_ := f3_.symm; clear f1_ f2_ f3_; subst f4_; subst f5_))
       refine hK.out _ _ ⟨bc0 BK158.out, bc1 BK158.out, (hbc HB.out hw165_0 :)⟩ (fun hHeld => ?_)
       clear hK K
       refine nB 22 ?_ rfl; refine pA 9 23 13 1023 HT_.out ?_ rfl rfl
       refine oA 10 24 13 2047 HT_.out (fun K hK => ?_) rfl rfl
       refine value_ (w1 := ?_) (v := ?_) (by rfl) rfl ?_ ?_
       rotate_left 2
       ·go_simp
        constructor
        ·rfl
        ·rfl
       refine hK.out _ _ ⟨(blk_cell (blk_alloc BK158.out _) 0).trans rfl, (blk_cell (blk_alloc BK158.out _) 1).trans rfl, (World.cell?_alloc_lt _ _ _ (World.block_lt_of_cell? _ _ (((HB.out.cell (World.block_lt_of_cell? w _ hw165_0)).trans hw165_0)))).trans (((HB.out.cell (World.block_lt_of_cell? w _ hw165_0)).trans hw165_0))⟩ (fun hHeld => ?_)
       clear hK K
       refine nB 24 ?_ rfl
       refine oA 11 25 13 4095 HT_.out (fun K hK => ?_) rfl rfl
       refine Kd.S_append_step k26 (w0 := w) w.heap.size (by rfl) (.tmp 14) (.tmp 24) 35 26 (.agg #[(.slice none 0 0)]) 24 rfl Try.underlying35 info26 rfl (by decide) (by omega) u5 x5_1 (⟨y166⟩ : S26) [.slice Ao14 y166.length co14] (fun k_ => k_ ≠ gb158) (fun k_ => some k_ = (.slice Ao14 y166.length co14 : Value).ownBlock) rfl rfl ?aP (fun k_ hk_ => ((Kd.R_mono (ok' := fun k_ => ((fun k_ => k_ ≠ gb158)) k_ ∧ some k_ ≠ (u5 : Value).ownBlock) (Kd.R_apart' (HO168.out) (Kd.S_typed HO_5.out) (by decide)) (fun k_ hk => ⟨hk.1, hk.2⟩))).1 k_ hk_.symm) ?aF ?aO ?aB ?aS ?aL ?_
       (case aP => exact k26_mkM _ _ _ (⟨y166⟩ : S26) (Kd.R_mono (Kd.R_tight rfl (Kd.R_mono (ok' := fun k_ => ((fun k_ => k_ ≠ gb158)) k_ ∧ some k_ ≠ (u5 : Value).ownBlock) (Kd.R_apart' (HO168.out) (Kd.S_typed HO_5.out) (by decide)) (fun k_ hk => ⟨hk.1, hk.2⟩))) (fun _ h_ => h_)))
       (case aB => exact (hbT HB.out))
       (case aF => exact (fun k_ hk => Kd.freshB (g := gb158) (o := .cells #[.int .u8 a0_0, .int .u8 a0_1] 87 (0, 0)) (bkT BK158.out) k_ hk))
       (case aO => exact (by (with_reducible repeat (first | apply Kd.S_alloc | apply Kd.S_drewN | apply Kd.S_drew)); exact Kd.S_mono HO_5.out (fun k_ hk => ⟨hk.1, fun e_ => hk.2 e_⟩)))
       (case aS => exact (below_size (hbT HB.out)))
       (case aL => have := LMc9.out; omega)
       intro v170 w15 ho hb hg hat
       rw [← Ny169.out] at ho; replace BK158 := asT (blk_grown (g := gb158) (o := .cells #[.int .u8 a0_0, .int .u8 a0_1] 87 (0, 0)) (bkT BK158.out) hg (Kd.S_ne HO_5.out BK158.out (by decide))); replace HB := asT (hb); have HO171 := asT (ho); clear HO_5 HO168 ho hb hg hat
       refine hK.out _ _ ⟨bc0 BK158.out, bc1 BK158.out, (hbc HB.out hw165_0 :)⟩ (fun hHeld => ?_)
       clear hK K
       refine nB 25 ?_ rfl; refine pA 12 5 13 8191 HT_.out ?_ rfl rfl
       refine done_ (done_of HT_.out (by kernel_rfl)) ?_
       try go_wp2
       go_roundg k1
       case measure => have := HK1.out; omega
       case rel => exact ⟨(y169), (wrap64 (x6_1 + 1)), rdT, H', ⟨by have := HK1.out; omega⟩, ⟨by (with_reducible repeat (first | apply Kd.S_alloc | apply Kd.S_drewN | apply Kd.S_drew)); exact HO171.out⟩, ⟨by (with_reducible repeat (first | refine blk_drewN ?_ _ | refine blk_drew ?_ | refine blk_alloc ?_ _)); exact BK158.out⟩, ⟨hbT HB.out⟩⟩
      ·rw [if_neg c9] at H
       exact absurd H (by simp)
     ·rw [if_neg c8] at H
      exact absurd H (by simp)
    ·rw [if_neg c7] at H
     exact absurd H (by simp)
   ·rw [if_neg c6] at H
    have c6b0 : decide (x6_1 < (l1.length : Int)) = false := decide_eq_false c6
    clear c6
    obtain rfl := Option.some.inj H
    go_wp2
    go_ret
    exact ⟨_, rlT, by (with_reducible repeat (first | apply Kd.S_alloc | apply Kd.S_drewN | apply Kd.S_drew)); exact Kd.S_mono HO_5.out (fun _ hk => trivial), hbT HB.out⟩

/-! ### spec_l7From: function 93 -/
mutual
def spec_l7From.j0 : Nat → ByteArray → Int → Int → List (S26) → Option ((List (S26)))
 | 0, _, _, _, _ => none
 | k + 1, x0, x1, x2, x7 => if x2 = 0 then (some x7) else (if x1 < (x0.size : Int) then ((spec_l7From.f k x0 (wrap64 (x1 + 1)) (wrap64 (x2 - 1))).bind fun t187 => (if 0 ≤ x1 then ((spec_l7Before.f k (bt x0 x1) 0 t187).bind fun t190 => (if x7.length + t190.length < 5864062014805 then ((some (x7 ++ t190 : List (S26))).bind fun y193 => ((spec_SwapVoice.f (bt x0 x1)).bind fun bt196 => (if bt196.2 = true then ((spec_l7Before.f k (bt x0 x1) bt196.1 t187).bind fun t198 => (if y193.length + t198.length < 5864062014805 then (spec_l7From.j1 k x0 x1 x2 (y193 ++ t198)) else (none))) else (spec_l7From.j1 k x0 x1 x2 y193)))) else (none))) else (none))) else (spec_l7From.j1 k x0 x1 x2 x7))
def spec_l7From.j1 : Nat → ByteArray → Int → Int → List (S26) → Option ((List (S26)))
 | 0, _, _, _, _ => none
 | k + 1, x0, x1, x2, x7 => (spec_l7From.f k x0 x1 (wrap64 (x2 - 1))).bind fun t204 => (spec_l7From.l0 k x7 t204 0)
def spec_l7From.l0 : Nat → List (S26) → List (S26) → Int → Option ((List (S26)))
 | 0, _, _, _ => none
 | k + 1, x7, x11, x12 => if x12 < 2 then (if 0 ≤ x12 then ((spec_l7Before.f k 0 (bt (⟨#[116, 105]⟩ : ByteArray) x12) x11).bind fun t207 => (if x7.length + t207.length < 5864062014805 then (spec_l7From.l0 k (x7 ++ t207) x11 (wrap64 (x12 + 1))) else (none))) else (none)) else (some x7)
def spec_l7From.f : Nat → ByteArray → Int → Int → Option ((List (S26)))
 | 0, _, _, _ => none
 | k + 1, a0, a1, a2 => (some (([] : List (S26)) : List (S26))).bind fun y172 => (if a1 = (a0.size : Int) then (if y172.length < 5864062014805 then (spec_l7From.j0 k a0 a1 a2 (y172 ++ [(⟨([] : List (S87))⟩ : S26)])) else (none)) else (if 0 ≤ a1 then (if a1 < (a0.size : Int) then ((spec_l7From.f k a0 (wrap64 (a1 + 1)) a2).bind fun t178 => ((spec_l7Before.f k (bt a0 a1) (bt a0 a1) t178).bind fun t181 => (if y172.length + t181.length < 5864062014805 then (spec_l7From.j0 k a0 a1 a2 (y172 ++ t181)) else (none)))) else (none)) else (none)))
end
theorem spec_l7From.mono_l : ∀ k, (∀ y0 y1 y2, LeO (spec_l7From.f k y0 y1 y2) (spec_l7From.f (k + 1) y0 y1 y2)) ∧ (∀ y0 y1 y2 y3, LeO (spec_l7From.j0 k y0 y1 y2 y3) (spec_l7From.j0 (k + 1) y0 y1 y2 y3)) ∧ (∀ y0 y1 y2 y3, LeO (spec_l7From.j1 k y0 y1 y2 y3) (spec_l7From.j1 (k + 1) y0 y1 y2 y3)) ∧ (∀ y0 y1 y2, LeO (spec_l7From.l0 k y0 y1 y2) (spec_l7From.l0 (k + 1) y0 y1 y2))
 | 0 => ⟨fun _ _ _ r h => by simp [spec_l7From.f] at h, fun _ _ _ _ r h => by simp [spec_l7From.j0] at h, fun _ _ _ _ r h => by simp [spec_l7From.j1] at h, fun _ _ _ r h => by simp [spec_l7From.l0] at h⟩
 | k + 1 => by
  obtain ⟨ih0, ih1, ih2, ih3⟩ := spec_l7From.mono_l k; refine ⟨?_, ?_, ?_, ?_⟩
  ·intro y0 y1 y2
   unfold spec_l7From.f
   with_reducible repeat' first | exact ih0 _ _ _ | exact ih1 _ _ _ _ | exact ih2 _ _ _ _ | exact ih3 _ _ _ | exact spec_l7Before.mono _ _ _ _ | exact LeO.refl _ | exact LeO.none _ | refine LeO.ite ?_ ?_ | refine LeO.bind ?_ (fun _ => ?_)
  ·intro y0 y1 y2 y3
   unfold spec_l7From.j0
   with_reducible repeat' first | exact ih0 _ _ _ | exact ih1 _ _ _ _ | exact ih2 _ _ _ _ | exact ih3 _ _ _ | exact spec_l7Before.mono _ _ _ _ | exact LeO.refl _ | exact LeO.none _ | refine LeO.ite ?_ ?_ | refine LeO.bind ?_ (fun _ => ?_)
  ·intro y0 y1 y2 y3
   unfold spec_l7From.j1
   with_reducible repeat' first | exact ih0 _ _ _ | exact ih1 _ _ _ _ | exact ih2 _ _ _ _ | exact ih3 _ _ _ | exact spec_l7Before.mono _ _ _ _ | exact LeO.refl _ | exact LeO.none _ | refine LeO.ite ?_ ?_ | refine LeO.bind ?_ (fun _ => ?_)
  ·intro y0 y1 y2
   unfold spec_l7From.l0
   with_reducible repeat' first | exact ih0 _ _ _ | exact ih1 _ _ _ _ | exact ih2 _ _ _ _ | exact ih3 _ _ _ | exact spec_l7Before.mono _ _ _ _ | exact LeO.refl _ | exact LeO.none _ | refine LeO.ite ?_ ?_ | refine LeO.bind ?_ (fun _ => ?_)
theorem spec_l7From.mono : ∀ a0 a1 a2 k, LeO (spec_l7From.f k a0 a1 a2) (spec_l7From.f (k + 1) a0 a1 a2) := by
 intro a0 a1 a2 k
 obtain ⟨ih0, ih1, ih2, ih3⟩ := spec_l7From.mono_l k
 exact ih0 a0 a1 a2
def spec_l7From.T4 : Bool × List (List Nat × List Nat) := (true, [([], []), ([], []), ([], []), ([1, 2], [1, 2]), ([], []), ([], []), ([4, 5], [4, 5]), ([3, 6], [3, 6]), ([], []), ([], []), ([9], [9]), ([], []), ([8, 10, 11], [8, 10, 11]), ([7, 12, 12], [7, 12]), ([0, 13, 13], [0, 13]), ([14, 14, 0, 1, 2, 3, 4, 5, 6, 7, 8, 9, 10, 11, 12, 13, 14], [0, 14])])
def spec_l7From.B4 : List Nat := [0, 0, 0, 6, 0, 0, 48, 126, 0, 0, 512, 0, 3840, 8190, 16383, 32767]
theorem spec_l7From.tab4 : rtab .any (opsOf Try.f93 4) = spec_l7From.T4 := by kernel_rfl
theorem spec_l7From.bits4 : waitsOk spec_l7From.T4.2 spec_l7From.B4 = true := by kernel_rfl
set_option maxHeartbeats 8000000 in
set_option maxRecDepth 100000 in
theorem spec_l7From.calls (k : Nat) : ∀ (a0 : ByteArray) (a1 : Int) (a2 : Int) (r : List (S26)) (w : World) (h : spec_l7From.f k a0 a1 a2 = some r),
  Calls Try.prog 93 #[.string a0, .int .i64 a1, .int .i64 a2] w fun e w' => ∃ v0_ : Value, e = .returned (v0_) ∧ Kd.N k26 26 w' w.heap.size (fun k_ => (w.heap.size ≤ k_)) v0_ r ∧ Below w.heap.size w w' := by
 induction k using Nat.strongRecOn with
 | _ k ih =>
 intro a0 a1 a2 r w h
 cases k with
 | zero => exact absurd h (by simp [spec_l7From.f])
 | succ k =>
 simp only [spec_l7From.f] at h
 have hu26 := Try.underlying26; have hu87 := Try.underlying87; have HB := asT (Below.refl w.heap.size w)
 have H : ((some (([] : List (S26)) : List (S26))).bind fun y172 => (if a1 = (a0.size : Int) then (if y172.length < 5864062014805 then (spec_l7From.j0 k a0 a1 a2 (y172 ++ [(⟨([] : List (S87))⟩ : S26)])) else (none)) else (if 0 ≤ a1 then (if a1 < (a0.size : Int) then ((spec_l7From.f k a0 (wrap64 (a1 + 1)) a2).bind fun t178 => ((spec_l7Before.f k (bt a0 a1) (bt a0 a1) t178).bind fun t181 => (if y172.length + t181.length < 5864062014805 then (spec_l7From.j0 k a0 a1 a2 (y172 ++ t181)) else (none)))) else (none)) else (none)))) = some r := h
 clear h; obtain ⟨y172, hy172⟩ : ∃ y_ : List (S26), y_ = (([] : List (S26))) := ⟨_, rfl⟩
 replace H : (if a1 = (a0.size : Int) then (if y172.length < 5864062014805 then (spec_l7From.j0 k a0 a1 a2 (y172 ++ [(⟨([] : List (S87))⟩ : S26)])) else (none)) else (if 0 ≤ a1 then (if a1 < (a0.size : Int) then ((spec_l7From.f k a0 (wrap64 (a1 + 1)) a2).bind fun t178 => ((spec_l7Before.f k (bt a0 a1) (bt a0 a1) t178).bind fun t181 => (if y172.length + t181.length < 5864062014805 then (spec_l7From.j0 k a0 a1 a2 (y172 ++ t181)) else (none)))) else (none)) else (none))) = some r := by first | (rw [hy172]; with_reducible exact H) | (have H2_ := (Option.bind_some _ _).symm.trans H; rw [hy172]; with_reducible exact H2_) | (have H2_ := (Option.bind_some _ _).symm.trans H; with_reducible exact H2_) | with_reducible exact H | (rw [hy172]; exact H) | exact H
 have Ny172 := Aside0.mk hy172; clear hy172; have HC4 := Aside0.mk H; clear H
 go_enter Try.func93, Try.ntmps93
 go_upto_if 17 with (first | ((with_reducible refine gate_dst (N := 13) rfl ?_); refine Kd.N_lit k26 _ 26 ?hg (N' := 13) ?hd (xs := ([] : List (S26))) (inner := []) (ok := (fun k_ => (w.heap.size ≤ k_))) (okp := (fun k_ => (w.heap.size ≤ k_))) ?hr ?hp (fun _ hk => hk) ((show ∀ k_, w.heap.size ≤ k_ → (fun k_ => (w.heap.size ≤ k_)) k_ from fun k_ hk => (Nat.le_trans (below_size (hbT HB.out)) hk)) _ (Nat.le_refl _)) (Below.refl _ _) (Nat.le_refl _) (by simp) ?_; (case hd => rfl); (case hg => rfl); (case hr => first | (go_simp; done) | (go_simp; rfl)); (case hp => exact (Reps.none _ _)); intro v173 w5 ho6 hb hg_ hnew_; clear hg_ hnew_; (first | rw [← Ny172.out] at ho6 | (simp only [Int.reduceToNat] at ho6; rw [← Ny172.out] at ho6)); have HO174 := asT (Kd.N_lower ho6 (below_size (hbT HB.out))); replace HB := hS HB hb; clear hb ho6))
 (try simp only [Act.put, sA, sZ, sS])
 go_cut [7] (fun v7 wc => ∃ (kq : Nat) (x7_3 : List (S26)), Aside0 (spec_l7From.j0 kq a0 a1 a2 x7_3 = some r) ∧ Aside0 (kq ≤ k) ∧ Aside0 (Kd.N k26 26 wc w.heap.size (fun k_ => (w.heap.size ≤ k_)) v7 x7_3) ∧ Aside0 (Below w.heap.size w wc))
 case first =>
  have H := HC4.out; clear HC4
  by_cases c7 : a1 = (a0.size : Int)
  ·rw [if_pos c7] at H
   have c7b0 : (a1 == (a0.size : Int)) = true := beq_iff_eq.mpr c7
   have c7b1 : (a1 != (a0.size : Int)) = false := bne_eq_false_iff_eq.mpr c7
   clear c7
   (first | rw [c7b0] | (simp only [i64_w, i32_w]; rw [c7b0]) | skip)
   by_cases c8 : y172.length < 5864062014805
   ·rw [if_pos c8] at H
    have LMc8 := Aside0.mk c8; clear c8; obtain ⟨y175, hy175⟩ : ∃ y_ : List (S26), y_ = (y172 ++ [(⟨([] : List (S87))⟩ : S26)]) := ⟨_, rfl⟩
    replace H : (spec_l7From.j0 k a0 a1 a2 y175) = some r := by first | (rw [hy175]; with_reducible exact H) | (have H2_ := (Option.bind_some _ _).symm.trans H; rw [hy175]; with_reducible exact H2_) | (have H2_ := (Option.bind_some _ _).symm.trans H; with_reducible exact H2_) | with_reducible exact H | (rw [hy175]; exact H) | exact H
    have Ny175 := Aside0.mk hy175; clear hy175; have H' := Aside0.mk H; clear H
    go_wp2_with (first | ((with_reducible refine gate_builtin (b := .append) (xs := #[.tmp 18, .tmp 20]) rfl ?_); at_builtin; refine Kd.N_append k26 (w0 := w) w.heap.size rfl (.tmp 18) (.tmp 20) 35 26 (.agg #[(.slice none 0 0)]) 24 rfl Try.underlying35 info26 rfl (by decide) (by omega) v173 y172 (⟨([] : List (S87))⟩ : S26) [.slice none 0 0] (fun k_ => (w.heap.size ≤ k_)) (fun k_ => ((fun k_ => (w.heap.size ≤ k_))) k_ ∧ some k_ ≠ (v173 : Value).ownBlock) rfl rfl ?aP (fun _ hk => hk) ?aF ?aO ?aB ?aS ?aL ?_; (case aP => exact (k26_mkF _ _ (⟨([] : List (S87))⟩ : S26) (Nat.le_refl _) (Kd.F_nil _ _ _))); (case aB => exact (hbT HB.out)); (case aF => exact (fun k_ hk => (Nat.le_trans (below_size (hbT HB.out)) hk))); (case aO => exact (by (with_reducible repeat (first | apply Kd.N_alloc | apply Kd.N_drewN | apply Kd.N_drew)); exact HO174.out)); (case aS => exact (below_size (hbT HB.out))); (case aL => have := LMc8.out; omega); intro v176 w9 ho hb hg hat; rw [← Ny175.out] at ho; replace HB := asT (hb); have HO177 := asT (ho); clear HO174 ho hb hg hat))
    go_meet
    case rel => exact ⟨_, (y175), H', ⟨by first | omega | exact Nat.le_refl _⟩, ⟨by (with_reducible repeat (first | apply Kd.N_alloc | apply Kd.N_drewN | apply Kd.N_drew)); exact HO177.out⟩, ⟨hbT HB.out⟩⟩
   ·rw [if_neg c8] at H
    exact absurd H (by simp)
  ·rw [if_neg c7] at H
   have c7b0 : (a1 == (a0.size : Int)) = false := beq_eq_false_iff_ne.mpr c7
   have c7b1 : (a1 != (a0.size : Int)) = true := bne_iff_ne.mpr c7
   (first | rw [c7b0] | (simp only [i64_w, i32_w]; rw [c7b0]) | skip)
   by_cases c10 : 0 ≤ a1
   ·rw [if_pos c10] at H
    have c10b0 : decide (0 ≤ a1) = true := decide_eq_true c10
    clear c10
    by_cases c11 : a1 < (a0.size : Int)
    ·rw [if_pos c11] at H
     have c11b0 : decide (a1 < (a0.size : Int)) = true := decide_eq_true c11
     clear c11; obtain ⟨t178, A14, H⟩ := be H; obtain ⟨t181, A15, H⟩ := be H
     by_cases c16 : y172.length + t181.length < 5864062014805
     ·rw [if_pos c16] at H
      have LMc16 := Aside0.mk c16; clear c16; obtain ⟨y184, hy184⟩ : ∃ y_ : List (S26), y_ = (y172 ++ t181) := ⟨_, rfl⟩
      replace H : (spec_l7From.j0 k a0 a1 a2 y184) = some r := by first | (rw [hy184]; with_reducible exact H) | (have H2_ := (Option.bind_some _ _).symm.trans H; rw [hy184]; with_reducible exact H2_) | (have H2_ := (Option.bind_some _ _).symm.trans H; with_reducible exact H2_) | with_reducible exact H | (rw [hy184]; exact H) | exact H
      have Ny184 := Aside0.mk hy184; clear hy184; have H' := Aside0.mk H; clear H
      try go_wp2
      replace HO174 := asT (Kd.N_drew HO174.out); replace HB := asT (below_drew1 HB.out)
      have p12 : 0 ≤ (a1 : Int) := of_decide_eq_true asmT
      have q12 : a1 < (a0.size : Int) := of_decide_eq_true asmT
      have hx12 := bt_at a0 a1; replace p12 := eq_true p12; replace q12 := eq_true q12
      have p13 : 0 ≤ (a1 : Int) := of_decide_eq_true asmT
      have q13 : a1 < (a0.size : Int) := of_decide_eq_true asmT
      have hx13 := bt_at a0 a1; replace p13 := eq_true p13; replace q13 := eq_true q13
      refine start_ (n := 16) (S := fun w' => True) (ds := []) (bA 16 0) (by kernel_rfl) rfl rfl trivial (fun hHeld => ?_); refine with_tabW spec_l7From.tab4 spec_l7From.bits4 (fun HT_ HW_ => ?_)
      generalize w5.drew = w17 at HO174 HB hHeld ⊢
      refine pA 0 22 16 1 HT_.out ?_ rfl rfl; refine pA 1 23 16 3 HT_.out ?_ rfl rfl; refine pA 2 24 16 7 HT_.out ?_ rfl rfl; refine pA 4 26 16 23 HT_.out ?_ rfl rfl; refine pA 5 27 16 55 HT_.out ?_ rfl rfl; refine pA 8 30 16 311 HT_.out ?_ rfl rfl; refine pA 9 31 16 823 HT_.out ?_ rfl rfl; refine pA 10 32 16 1847 HT_.out ?_ rfl rfl; refine pA 11 33 16 3895 HT_.out ?_ rfl rfl
      refine take_ (i := 3) (N := some 25) (v := ?_) (a' := ?_) (bA 16 3903) rfl rfl (take_ofW HT_.out HW_.out (by kernel_rfl)) (fun _ _ _ h => h) (Or.inl ⟨by rfl, ?_⟩) hHeld ?_ ?_
      rotate_left
      ·intro w' _
       go_simp
       (with_reducible rfl)
      rotate_left
      ·simp only [Act.put, sA, sZ, sS, i64_w, i32_w]
       rfl
      refine take_ (i := 6) (N := some 28) (v := ?_) (a' := ?_) (bA 16 3967) rfl rfl (take_ofW HT_.out HW_.out (by kernel_rfl)) (fun _ _ _ h => h) (Or.inl ⟨by rfl, ?_⟩) hHeld ?_ ?_
      rotate_left
      ·intro w' _
       go_simp
       (with_reducible rfl)
      rotate_left
      ·simp only [Act.put, sA, sZ, sS, i64_w, i32_w]
       rfl
      refine pA 7 29 16 4095 HT_.out ?_ rfl rfl
      refine oA 12 34 16 8191 HT_.out (fun K hK => ?_) rfl rfl
      refine goes_ Try.func93 (by kernel_rfl) rfl #[.string a0, .int .i64 (wrap64 (a1 + 1)), .int .i64 a2] (by rfl) rfl rfl eqT ?_
      (with_reducible refine (ih k (by omega) a0 (wrap64 (a1 + 1)) a2 t178 _ A14.out).mono ?_); rintro e w18 ⟨v179, rfl, ho0, hb⟩; refine ⟨_, rfl, ?_⟩; have HO180 := asT (Kd.N_lower (Kd.N_mono (ok' := fun k_ => (w.heap.size ≤ k_) ∧ some k_ ≠ (v173 : Value).ownBlock) ho0 (fun k_ hk_ => ⟨(Nat.le_trans (below_size (hbT HB.out)) hk_), (Kd.fresh' (Kd.N_lt (by (with_reducible repeat (first | apply Kd.N_alloc | apply Kd.N_drewN | apply Kd.N_drew)); exact HO174.out)) k_ hk_)⟩)) (below_size (hbT HB.out))); replace HO174 := asT (Kd.N_elder' (by (with_reducible repeat (first | apply Kd.N_alloc | apply Kd.N_drewN | apply Kd.N_drew)); exact HO174.out) (Kd.N_base ho0) hb); replace HB := hS HB hb; (try clear hb hb2 hk hi ho0); obtain ⟨Ao19, co19, eo19⟩ := Kd.N_slice HO180.out; (first | subst eo19 | (injection eo19 with f1_ f2_ f3_; have f4_ := f1_.symm; have f5_ := f3_.symm; clear f1_ f2_ f3_; subst f4_; subst f5_))
      refine hK.out _ _ trivial (fun hHeld => ?_)
      clear hK K
      refine nB 34 ?_ rfl
      refine oA 13 35 16 16383 HT_.out (fun K hK => ?_) rfl rfl
      refine goes_ Try.func134 (by kernel_rfl) rfl #[.agg #[.int .u8 (bt a0 a1), .int .u8 (bt a0 a1)], .slice Ao19 t178.length co19] (by rfl) rfl rfl eqT ?_
      (with_reducible refine (spec_l7Before.calls k (bt a0 a1) (bt a0 a1) _ _ t178 t181 _ ?side1 ?side2 A15.out).mono ?_); (case side1 => repeat (first | exact (Kd.N_reads' HO180.out).2.2 | (with_reducible refine Kd.C_alloc ?_ _) | (with_reducible refine Kd.C_drewN ?_ _) | (with_reducible refine Kd.C_drew ?_))); (case side2 => exact (Kd.N_reads' HO180.out).2.1); rintro e w20 ⟨v182, rfl, ho0, hb⟩; refine ⟨_, rfl, ?_⟩; have HO183 := asT (Kd.N_lower (Kd.N_mono (ok' := fun k_ => (w.heap.size ≤ k_) ∧ some k_ ≠ (v173 : Value).ownBlock ∧ some k_ ≠ (.slice Ao19 t178.length co19 : Value).ownBlock) (Kd.S_N (Kd.S_bound ho0)) (fun k_ hk_ => ⟨(Nat.le_trans (below_size (hbT HB.out)) hk_.2.1), (Kd.fresh' (Kd.N_lt (by (with_reducible repeat (first | apply Kd.N_alloc | apply Kd.N_drewN | apply Kd.N_drew)); exact HO174.out)) k_ hk_.2.1), (Kd.fresh' (Kd.N_lt (by (with_reducible repeat (first | apply Kd.N_alloc | apply Kd.N_drewN | apply Kd.N_drew)); exact HO180.out)) k_ hk_.2.1)⟩)) (below_size (hbT HB.out))); replace HO174 := asT (Kd.N_elder' (by (with_reducible repeat (first | apply Kd.N_alloc | apply Kd.N_drewN | apply Kd.N_drew)); exact HO174.out) (Kd.S_base ho0) hb); replace HO180 := asT (Kd.N_elder' (by (with_reducible repeat (first | apply Kd.N_alloc | apply Kd.N_drewN | apply Kd.N_drew)); exact HO180.out) (Kd.S_base ho0) hb); replace HB := hS HB hb; (try clear hb hb2 hk hi ho0); obtain ⟨Ao22, co22, eo22⟩ := Kd.N_slice HO183.out; (first | subst eo22 | (injection eo22 with f1_ f2_ f3_; have f4_ := f1_.symm; have f5_ := f3_.symm; clear f1_ f2_ f3_; subst f4_; subst f5_))
      refine hK.out _ _ trivial (fun hHeld => ?_)
      clear hK K
      refine nB 35 ?_ rfl
      refine oA 14 36 16 32767 HT_.out (fun K hK => ?_) rfl rfl
      refine Kd.N_append_rows_step k26 (w0 := w) w.heap.size (by rfl) (.tmp 22) (.tmp 35) 35 26 (.agg #[(.slice none 0 0)]) 24 rfl Try.underlying35 info26 rfl (by decide) (by omega) v173 y172 t181 _ _ _ (fun k_ => (w.heap.size ≤ k_) ∧ some k_ ≠ (.slice Ao19 t178.length co19 : Value).ownBlock) (fun k_ => ((fun k_ => (w.heap.size ≤ k_) ∧ some k_ ≠ (.slice Ao19 t178.length co19 : Value).ownBlock)) k_ ∧ some k_ ≠ (v173 : Value).ownBlock) rfl rfl ?aO ?aR (fun _ hk => hk) ?aF ?aB ?aS ?aL ?_
      (case aR => exact (by skip; exact Kd.N_F (Kd.N_mono (ok' := (fun k_ => ((fun k_ => (w.heap.size ≤ k_) ∧ some k_ ≠ (.slice Ao19 t178.length co19 : Value).ownBlock)) k_ ∧ some k_ ≠ (v173 : Value).ownBlock)) (HO183.out) (fun k_ hk => ⟨⟨hk.1, hk.2.2⟩, hk.2.1⟩))))
      (case aB => exact (hbT HB.out))
      (case aF => exact (fun k_ hk => ⟨(Nat.le_trans (below_size (hbT HB.out)) hk), Kd.fresh' (Kd.N_lt (by (with_reducible repeat (first | apply Kd.N_alloc | apply Kd.N_drewN | apply Kd.N_drew)); exact HO180.out)) k_ hk⟩))
      (case aO => exact (by (with_reducible repeat (first | apply Kd.N_alloc | apply Kd.N_drewN | apply Kd.N_drew)); exact Kd.N_mono HO174.out (fun _ hk => ⟨hk.1.1, hk.1.2⟩)))
      (case aS => exact (below_size (hbT HB.out)))
      (case aL => have := LMc16.out; omega)
      intro v185 w21 ho hb hg hat
      rw [← Ny184.out] at ho; replace HO180 := asT (Kd.N_afterv (ok := (fun k_ => (w.heap.size ≤ k_) ∧ some k_ ≠ (.slice Ao22 t181.length co22 : Value).ownBlock)) (by (with_reducible repeat (first | apply Kd.N_alloc | apply Kd.N_drewN | apply Kd.N_drew)); exact Kd.N_mono HO180.out (fun _ hk => ⟨⟨hk.1.1, hk.2⟩, hk.1.2⟩)) hg hat); replace HO183 := asT (Kd.N_afterv (ok := (fun k_ => (w.heap.size ≤ k_) ∧ some k_ ≠ (.slice Ao19 t178.length co19 : Value).ownBlock)) (by (with_reducible repeat (first | apply Kd.N_alloc | apply Kd.N_drewN | apply Kd.N_drew)); exact Kd.N_mono HO183.out (fun _ hk => ⟨⟨hk.1, hk.2.2⟩, hk.2.1⟩)) hg hat); replace HB := asT (hb); have HO186 := asT (ho); clear HO174 ho hb hg hat
      refine hK.out _ _ trivial (fun hHeld => ?_)
      clear hK K
      refine nB 36 ?_ rfl; refine pA 15 7 16 65535 HT_.out ?_ rfl rfl
      refine done_ (done_of HT_.out (by kernel_rfl)) ?_
      try go_wp2
      go_meet
      case rel => exact ⟨_, (y184), H', ⟨by first | omega | exact Nat.le_refl _⟩, ⟨by (with_reducible repeat (first | apply Kd.N_alloc | apply Kd.N_drewN | apply Kd.N_drew)); exact Kd.N_mono HO186.out (fun _ hk => hk.1)⟩, ⟨hbT HB.out⟩⟩
     ·rw [if_neg c16] at H
      exact absurd H (by simp)
    ·rw [if_neg c11] at H
     exact absurd H (by simp)
   ·rw [if_neg c10] at H
    exact absurd H (by simp)
 case rest =>
  clear HC4; (try clear c1 p1 q1 hx1 p2 p6 c7 c7b0 c7b1 c8 c9 c10 c10b0 c11 c11b0 p12 q12 hx12 c13 p13 q13 hx13 c16 p12 p13 q12 q13); obtain ⟨kq, x7_3, HA, HJ3, HO_7, HB⟩ := hcut
  cases kq with
  | zero => exact absurd HA.out (by simp [spec_l7From.j0])
  | succ kj3 =>
   have H := HA.out; clear HA
   simp only [spec_l7From.j0] at H
   by_cases c23 : a2 = 0
   ·rw [if_pos c23] at H
    have c23b0 : (a2 == 0) = true := beq_iff_eq.mpr c23
    have c23b1 : (a2 != 0) = false := bne_eq_false_iff_eq.mpr c23
    clear c23
    obtain rfl := Option.some.inj H
    go_wp2
    go_ret
    exact ⟨_, rlT, by (with_reducible repeat (first | apply Kd.N_alloc | apply Kd.N_drewN | apply Kd.N_drew)); exact HO_7.out, hbT HB.out⟩
   ·rw [if_neg c23] at H
    have c23b0 : (a2 == 0) = false := beq_eq_false_iff_ne.mpr c23
    have c23b1 : (a2 != 0) = true := bne_iff_ne.mpr c23
    have HC24 := Aside0.mk H; clear H
    go_upto_if 43 with (fail)
    go_cut [7] (fun v7 wc => ∃ (kq : Nat) (x7_23 : List (S26)), Aside0 (spec_l7From.j1 kq a0 a1 a2 x7_23 = some r) ∧ Aside0 (kq ≤ kj3) ∧ Aside0 (Kd.N k26 26 wc w.heap.size (fun k_ => (w.heap.size ≤ k_)) v7 x7_23) ∧ Aside0 (Below w.heap.size w wc))
    case first =>
     have H := HC24.out; clear HC24
     by_cases c25 : a1 < (a0.size : Int)
     ·rw [if_pos c25] at H
      have c25b0 : decide (a1 < (a0.size : Int)) = true := decide_eq_true c25
      clear c25
      (first | rw [c25b0] | (simp only [i64_w, i32_w]; rw [c25b0]) | skip)
      obtain ⟨t187, A26, H⟩ := be H
      by_cases c27 : 0 ≤ a1
      ·rw [if_pos c27] at H
       have c27b0 : decide (0 ≤ a1) = true := decide_eq_true c27
       clear c27; obtain ⟨t190, A29, H⟩ := be H
       by_cases c30 : x7_3.length + t190.length < 5864062014805
       ·rw [if_pos c30] at H
        have LMc30 := Aside0.mk c30; clear c30; obtain ⟨y193, hy193⟩ : ∃ y_ : List (S26), y_ = (x7_3 ++ t190) := ⟨_, rfl⟩
        replace H : ((spec_SwapVoice.f (bt a0 a1)).bind fun bt196 => (if bt196.2 = true then ((spec_l7Before.f kj3 (bt a0 a1) bt196.1 t187).bind fun t198 => (if y193.length + t198.length < 5864062014805 then (spec_l7From.j1 kj3 a0 a1 a2 (y193 ++ t198)) else (none))) else (spec_l7From.j1 kj3 a0 a1 a2 y193))) = some r := by first | (rw [hy193]; with_reducible exact H) | (have H2_ := (Option.bind_some _ _).symm.trans H; rw [hy193]; with_reducible exact H2_) | (have H2_ := (Option.bind_some _ _).symm.trans H; with_reducible exact H2_) | with_reducible exact H | (rw [hy193]; exact H) | exact H
        have Ny193 := Aside0.mk hy193; clear hy193; replace H := Option.bind_eq_some_iff.mp H; obtain ⟨⟨t196, t197⟩, A320, H⟩ := H; replace H : (if t197 = true then ((spec_l7Before.f kj3 (bt a0 a1) t196 t187).bind fun t198 => (if y193.length + t198.length < 5864062014805 then (spec_l7From.j1 kj3 a0 a1 a2 (y193 ++ t198)) else (none))) else (spec_l7From.j1 kj3 a0 a1 a2 y193)) = some r := H; have A32 := Aside0.mk A320; clear A320
        by_cases c33 : t197 = true
        ·subst c33
         rw [if_pos rfl] at H; obtain ⟨t198, A35, H⟩ := be H
         by_cases c36 : y193.length + t198.length < 5864062014805
         ·rw [if_pos c36] at H
          have LMc36 := Aside0.mk c36; clear c36; obtain ⟨y201, hy201⟩ : ∃ y_ : List (S26), y_ = (y193 ++ t198) := ⟨_, rfl⟩
          replace H : (spec_l7From.j1 kj3 a0 a1 a2 y201) = some r := by first | (rw [hy201]; with_reducible exact H) | (have H2_ := (Option.bind_some _ _).symm.trans H; rw [hy201]; with_reducible exact H2_) | (have H2_ := (Option.bind_some _ _).symm.trans H; with_reducible exact H2_) | with_reducible exact H | (rw [hy201]; exact H) | exact H
          have Ny201 := Aside0.mk hy201; clear hy201; have H' := Aside0.mk H; clear H
          go_wp2_with (first | ((with_reducible refine gate_callee (f := 93) rfl ?_); refine goesL_ (some 49) rfl rfl Try.func93 (by kernel_rfl) rfl #[.string a0, .int .i64 (wrap64 (a1 + 1)), .int .i64 (wrap64 (a2 - 1))] rfl eqT ?_; (with_reducible refine (ih kj3 (by have := HJ3.out; omega) a0 (wrap64 (a1 + 1)) (wrap64 (a2 - 1)) t187 _ A26.out).mono ?_); rintro e w37 ⟨v188, rfl, ho0, hb⟩; refine ⟨_, rfl, ?_⟩; have HO189 := asT (Kd.N_lower (Kd.N_mono (ok' := fun k_ => (w.heap.size ≤ k_) ∧ some k_ ≠ (u7 : Value).ownBlock) ho0 (fun k_ hk_ => ⟨(Nat.le_trans (below_size (hbT HB.out)) hk_), (Kd.fresh' (Kd.N_lt (by (with_reducible repeat (first | apply Kd.N_alloc | apply Kd.N_drewN | apply Kd.N_drew)); exact HO_7.out)) k_ hk_)⟩)) (below_size (hbT HB.out))); replace HO_7 := asT (Kd.N_elder' (by (with_reducible repeat (first | apply Kd.N_alloc | apply Kd.N_drewN | apply Kd.N_drew)); exact HO_7.out) (Kd.N_base ho0) hb); replace HB := hS HB hb; (try clear hb hb2 hk hi ho0); have p28 : 0 ≤ (a1 : Int) := of_decide_eq_true asmT; have q28 : a1 < (a0.size : Int) := of_decide_eq_true asmT; have hx28 := bt_at a0 a1; replace p28 := eq_true p28; replace q28 := eq_true q28; obtain ⟨Ao38, co38, eo38⟩ := Kd.N_slice HO189.out; subst eo38) | ((with_reducible refine gate_callee (f := 134) rfl ?_); refine goesL_ (some 56) rfl rfl Try.func134 (by kernel_rfl) rfl #[.agg #[.int .u8 (bt a0 a1), .int .u8 0], .slice Ao38 t187.length co38] rfl eqT ?_; (with_reducible refine (spec_l7Before.calls kj3 (bt a0 a1) 0 _ _ t187 t190 _ ?side1 ?side2 A29.out).mono ?_); (case side1 => repeat (first | exact (Kd.N_reads' HO189.out).2.2 | (with_reducible refine Kd.C_alloc ?_ _) | (with_reducible refine Kd.C_drewN ?_ _) | (with_reducible refine Kd.C_drew ?_))); (case side2 => exact (Kd.N_reads' HO189.out).2.1); rintro e w39 ⟨v191, rfl, ho0, hb⟩; refine ⟨_, rfl, ?_⟩; have HO192 := asT (Kd.N_lower (Kd.N_mono (ok' := fun k_ => (w.heap.size ≤ k_) ∧ some k_ ≠ (u7 : Value).ownBlock ∧ some k_ ≠ (.slice Ao38 t187.length co38 : Value).ownBlock) (Kd.S_N (Kd.S_bound ho0)) (fun k_ hk_ => ⟨(Nat.le_trans (below_size (hbT HB.out)) hk_.2.1), (Kd.fresh' (Kd.N_lt (by (with_reducible repeat (first | apply Kd.N_alloc | apply Kd.N_drewN | apply Kd.N_drew)); exact HO_7.out)) k_ hk_.2.1), (Kd.fresh' (Kd.N_lt (by (with_reducible repeat (first | apply Kd.N_alloc | apply Kd.N_drewN | apply Kd.N_drew)); exact HO189.out)) k_ hk_.2.1)⟩)) (below_size (hbT HB.out))); replace HO_7 := asT (Kd.N_elder' (by (with_reducible repeat (first | apply Kd.N_alloc | apply Kd.N_drewN | apply Kd.N_drew)); exact HO_7.out) (Kd.S_base ho0) hb); replace HO189 := asT (Kd.N_elder' (by (with_reducible repeat (first | apply Kd.N_alloc | apply Kd.N_drewN | apply Kd.N_drew)); exact HO189.out) (Kd.S_base ho0) hb); replace HB := hS HB hb; (try clear hb hb2 hk hi ho0); obtain ⟨Ao41, co41, eo41⟩ := Kd.N_slice HO192.out; subst eo41) | ((with_reducible refine gate_builtin (b := .append) (xs := #[.tmp 50, .tmp 56]) rfl ?_); at_builtin; refine Kd.N_append_rows k26 (w0 := w) w.heap.size rfl (.tmp 50) (.tmp 56) 35 26 (.agg #[(.slice none 0 0)]) 24 rfl Try.underlying35 info26 rfl (by decide) (by omega) u7 x7_3 t190 _ _ _ (fun k_ => (w.heap.size ≤ k_) ∧ some k_ ≠ (.slice Ao38 t187.length co38 : Value).ownBlock) (fun k_ => ((fun k_ => (w.heap.size ≤ k_) ∧ some k_ ≠ (.slice Ao38 t187.length co38 : Value).ownBlock)) k_ ∧ some k_ ≠ (u7 : Value).ownBlock) rfl rfl ?aO ?aR (fun _ hk => hk) ?aF ?aB ?aS ?aL ?_; (case aR => exact (by skip; exact Kd.N_F (Kd.N_mono (ok' := (fun k_ => ((fun k_ => (w.heap.size ≤ k_) ∧ some k_ ≠ (.slice Ao38 t187.length co38 : Value).ownBlock)) k_ ∧ some k_ ≠ (u7 : Value).ownBlock)) (HO192.out) (fun k_ hk => ⟨⟨hk.1, hk.2.2⟩, hk.2.1⟩)))); (case aB => exact (hbT HB.out)); (case aF => exact (fun k_ hk => ⟨(Nat.le_trans (below_size (hbT HB.out)) hk), Kd.fresh' (Kd.N_lt (by (with_reducible repeat (first | apply Kd.N_alloc | apply Kd.N_drewN | apply Kd.N_drew)); exact HO189.out)) k_ hk⟩)); (case aO => exact (by (with_reducible repeat (first | apply Kd.N_alloc | apply Kd.N_drewN | apply Kd.N_drew)); exact Kd.N_mono HO_7.out (fun _ hk => ⟨hk.1.1, hk.1.2⟩))); (case aS => exact (below_size (hbT HB.out))); (case aL => have := LMc30.out; omega); intro v194 w40 ho hb hg hat; rw [← Ny193.out] at ho; replace HO189 := asT (Kd.N_afterv (ok := (fun k_ => (w.heap.size ≤ k_) ∧ some k_ ≠ (.slice Ao41 t190.length co41 : Value).ownBlock)) (by (with_reducible repeat (first | apply Kd.N_alloc | apply Kd.N_drewN | apply Kd.N_drew)); exact Kd.N_mono HO189.out (fun _ hk => ⟨⟨hk.1.1, hk.2⟩, hk.1.2⟩)) hg hat); replace HO192 := asT (Kd.N_afterv (ok := (fun k_ => (w.heap.size ≤ k_) ∧ some k_ ≠ (.slice Ao38 t187.length co38 : Value).ownBlock)) (by (with_reducible repeat (first | apply Kd.N_alloc | apply Kd.N_drewN | apply Kd.N_drew)); exact Kd.N_mono HO192.out (fun _ hk => ⟨⟨hk.1, hk.2.2⟩, hk.2.1⟩)) hg hat); replace HB := asT (hb); have HO195 := asT (ho); clear HO_7 ho hb hg hat; have p31 : 0 ≤ (a1 : Int) := of_decide_eq_true asmT; have q31 : a1 < (a0.size : Int) := of_decide_eq_true asmT; have hx31 := bt_at a0 a1; replace p31 := eq_true p31; replace q31 := eq_true q31) | ((with_reducible refine gate_callee (f := 84) rfl ?_); refine goesL_ (some 62) rfl rfl Try.func84 (by kernel_rfl) rfl #[.int .u8 (bt a0 a1)] rfl eqT ?_; (with_reducible refine (spec_SwapVoice.calls (bt a0 a1) t196 true _ A32.out).mono ?_); rintro e w' ⟨rfl, ⟨nd, rfl⟩⟩; refine ⟨_, rfl, ?_⟩; have p34 : 0 ≤ (a1 : Int) := of_decide_eq_true asmT; have q34 : a1 < (a0.size : Int) := of_decide_eq_true asmT; have hx34 := bt_at a0 a1; replace p34 := eq_true p34; replace q34 := eq_true q34) | ((with_reducible refine gate_callee (f := 134) rfl ?_); refine goesL_ (some 73) rfl rfl Try.func134 (by kernel_rfl) rfl #[.agg #[.int .u8 (bt a0 a1), .int .u8 t196], .slice Ao38 t187.length co38] rfl eqT ?_; (with_reducible refine (spec_l7Before.calls kj3 (bt a0 a1) t196 _ _ t187 t198 _ ?side1 ?side2 A35.out).mono ?_); (case side1 => repeat (first | exact (Kd.N_reads' HO189.out).2.2 | (with_reducible refine Kd.C_alloc ?_ _) | (with_reducible refine Kd.C_drewN ?_ _) | (with_reducible refine Kd.C_drew ?_))); (case side2 => exact (Kd.N_reads' HO189.out).2.1); rintro e w42 ⟨v199, rfl, ho0, hb⟩; refine ⟨_, rfl, ?_⟩; have HO200 := asT (Kd.N_lower (Kd.N_mono (ok' := fun k_ => (w.heap.size ≤ k_) ∧ some k_ ≠ (.slice Ao38 t187.length co38 : Value).ownBlock ∧ some k_ ≠ (.slice Ao41 t190.length co41 : Value).ownBlock ∧ some k_ ≠ (v194 : Value).ownBlock) (Kd.S_N (Kd.S_bound ho0)) (fun k_ hk_ => ⟨(Nat.le_trans (below_size (hbT HB.out)) hk_.2.1), (Kd.fresh' (Kd.N_lt (by (with_reducible repeat (first | apply Kd.N_alloc | apply Kd.N_drewN | apply Kd.N_drew)); exact HO189.out)) k_ hk_.2.1), (Kd.fresh' (Kd.N_lt (by (with_reducible repeat (first | apply Kd.N_alloc | apply Kd.N_drewN | apply Kd.N_drew)); exact HO192.out)) k_ hk_.2.1), (Kd.fresh' (Kd.N_lt (by (with_reducible repeat (first | apply Kd.N_alloc | apply Kd.N_drewN | apply Kd.N_drew)); exact HO195.out)) k_ hk_.2.1)⟩)) (below_size (hbT HB.out))); replace HO189 := asT (Kd.N_elder' (by (with_reducible repeat (first | apply Kd.N_alloc | apply Kd.N_drewN | apply Kd.N_drew)); exact HO189.out) (Kd.S_base ho0) hb); replace HO192 := asT (Kd.N_elder' (by (with_reducible repeat (first | apply Kd.N_alloc | apply Kd.N_drewN | apply Kd.N_drew)); exact HO192.out) (Kd.S_base ho0) hb); replace HO195 := asT (Kd.N_elder' (by (with_reducible repeat (first | apply Kd.N_alloc | apply Kd.N_drewN | apply Kd.N_drew)); exact HO195.out) (Kd.S_base ho0) hb); replace HB := hS HB hb; (try clear hb hb2 hk hi ho0); obtain ⟨Ao44, co44, eo44⟩ := Kd.N_slice HO200.out; subst eo44) | ((with_reducible refine gate_builtin (b := .append) (xs := #[.tmp 66, .tmp 73]) rfl ?_); at_builtin; refine Kd.N_append_rows k26 (w0 := w) w.heap.size rfl (.tmp 66) (.tmp 73) 35 26 (.agg #[(.slice none 0 0)]) 24 rfl Try.underlying35 info26 rfl (by decide) (by omega) v194 y193 t198 _ _ _ (fun k_ => (w.heap.size ≤ k_) ∧ some k_ ≠ (.slice Ao38 t187.length co38 : Value).ownBlock) (fun k_ => ((fun k_ => (w.heap.size ≤ k_) ∧ some k_ ≠ (.slice Ao38 t187.length co38 : Value).ownBlock)) k_ ∧ some k_ ≠ (v194 : Value).ownBlock) rfl rfl ?aO ?aR (fun _ hk => hk) ?aF ?aB ?aS ?aL ?_; (case aR => exact (by skip; exact Kd.N_F (Kd.N_mono (ok' := (fun k_ => ((fun k_ => (w.heap.size ≤ k_) ∧ some k_ ≠ (.slice Ao38 t187.length co38 : Value).ownBlock)) k_ ∧ some k_ ≠ (v194 : Value).ownBlock)) (HO200.out) (fun k_ hk => ⟨⟨hk.1, hk.2.1⟩, hk.2.2.2⟩)))); (case aB => exact (hbT HB.out)); (case aF => exact (fun k_ hk => ⟨(Nat.le_trans (below_size (hbT HB.out)) hk), Kd.fresh' (Kd.N_lt (by (with_reducible repeat (first | apply Kd.N_alloc | apply Kd.N_drewN | apply Kd.N_drew)); exact HO189.out)) k_ hk⟩)); (case aO => exact (by (with_reducible repeat (first | apply Kd.N_alloc | apply Kd.N_drewN | apply Kd.N_drew)); exact Kd.N_mono HO195.out (fun _ hk => ⟨hk.1.1, hk.1.2⟩))); (case aS => exact (below_size (hbT HB.out))); (case aL => have := LMc36.out; omega); intro v202 w43 ho hb hg hat; rw [← Ny201.out] at ho; replace HO189 := asT (Kd.N_afterv (ok := (fun k_ => (w.heap.size ≤ k_) ∧ some k_ ≠ (.slice Ao41 t190.length co41 : Value).ownBlock ∧ some k_ ≠ (.slice Ao44 t198.length co44 : Value).ownBlock)) (by (with_reducible repeat (first | apply Kd.N_alloc | apply Kd.N_drewN | apply Kd.N_drew)); exact Kd.N_mono HO189.out (fun _ hk => ⟨⟨hk.1.1.1, ⟨hk.1.1.2, hk.2⟩⟩, hk.1.2⟩)) hg hat); replace HO192 := asT (Kd.N_afterv (ok := (fun k_ => (w.heap.size ≤ k_) ∧ some k_ ≠ (.slice Ao38 t187.length co38 : Value).ownBlock ∧ some k_ ≠ (.slice Ao44 t198.length co44 : Value).ownBlock)) (by (with_reducible repeat (first | apply Kd.N_alloc | apply Kd.N_drewN | apply Kd.N_drew)); exact Kd.N_mono HO192.out (fun _ hk => ⟨⟨hk.1.1.1, ⟨hk.1.1.2, hk.2⟩⟩, hk.1.2⟩)) hg hat); replace HO200 := asT (Kd.N_afterv (ok := (fun k_ => (w.heap.size ≤ k_) ∧ some k_ ≠ (.slice Ao38 t187.length co38 : Value).ownBlock ∧ some k_ ≠ (.slice Ao41 t190.length co41 : Value).ownBlock)) (by (with_reducible repeat (first | apply Kd.N_alloc | apply Kd.N_drewN | apply Kd.N_drew)); exact Kd.N_mono HO200.out (fun _ hk => ⟨⟨hk.1, ⟨hk.2.1, hk.2.2.1⟩⟩, hk.2.2.2⟩)) hg hat); replace HB := asT (hb); have HO203 := asT (ho); clear HO195 ho hb hg hat))
          go_meet
          case rel => exact ⟨_, (y201), H', ⟨by have := HJ3.out; first | omega | exact Nat.le_refl _⟩, ⟨by (with_reducible repeat (first | apply Kd.N_alloc | apply Kd.N_drewN | apply Kd.N_drew)); exact Kd.N_mono HO203.out (fun _ hk => hk.1)⟩, ⟨hbT HB.out⟩⟩
         ·rw [if_neg c36] at H
          exact absurd H (by simp)
        ·replace c33 := Bool.eq_false_iff.mpr c33
         subst c33; rw [if_neg nF] at H; have H' := Aside0.mk H; clear H
         go_wp2_with (first | ((with_reducible refine gate_callee (f := 93) rfl ?_); refine goesL_ (some 49) rfl rfl Try.func93 (by kernel_rfl) rfl #[.string a0, .int .i64 (wrap64 (a1 + 1)), .int .i64 (wrap64 (a2 - 1))] rfl eqT ?_; (with_reducible refine (ih kj3 (by have := HJ3.out; omega) a0 (wrap64 (a1 + 1)) (wrap64 (a2 - 1)) t187 _ A26.out).mono ?_); rintro e w45 ⟨v188, rfl, ho0, hb⟩; refine ⟨_, rfl, ?_⟩; have HO189 := asT (Kd.N_lower (Kd.N_mono (ok' := fun k_ => (w.heap.size ≤ k_) ∧ some k_ ≠ (u7 : Value).ownBlock) ho0 (fun k_ hk_ => ⟨(Nat.le_trans (below_size (hbT HB.out)) hk_), (Kd.fresh' (Kd.N_lt (by (with_reducible repeat (first | apply Kd.N_alloc | apply Kd.N_drewN | apply Kd.N_drew)); exact HO_7.out)) k_ hk_)⟩)) (below_size (hbT HB.out))); replace HO_7 := asT (Kd.N_elder' (by (with_reducible repeat (first | apply Kd.N_alloc | apply Kd.N_drewN | apply Kd.N_drew)); exact HO_7.out) (Kd.N_base ho0) hb); replace HB := hS HB hb; (try clear hb hb2 hk hi ho0); have p28 : 0 ≤ (a1 : Int) := of_decide_eq_true asmT; have q28 : a1 < (a0.size : Int) := of_decide_eq_true asmT; have hx28 := bt_at a0 a1; replace p28 := eq_true p28; replace q28 := eq_true q28; obtain ⟨Ao46, co46, eo46⟩ := Kd.N_slice HO189.out; subst eo46) | ((with_reducible refine gate_callee (f := 134) rfl ?_); refine goesL_ (some 56) rfl rfl Try.func134 (by kernel_rfl) rfl #[.agg #[.int .u8 (bt a0 a1), .int .u8 0], .slice Ao46 t187.length co46] rfl eqT ?_; (with_reducible refine (spec_l7Before.calls kj3 (bt a0 a1) 0 _ _ t187 t190 _ ?side1 ?side2 A29.out).mono ?_); (case side1 => repeat (first | exact (Kd.N_reads' HO189.out).2.2 | (with_reducible refine Kd.C_alloc ?_ _) | (with_reducible refine Kd.C_drewN ?_ _) | (with_reducible refine Kd.C_drew ?_))); (case side2 => exact (Kd.N_reads' HO189.out).2.1); rintro e w47 ⟨v191, rfl, ho0, hb⟩; refine ⟨_, rfl, ?_⟩; have HO192 := asT (Kd.N_lower (Kd.N_mono (ok' := fun k_ => (w.heap.size ≤ k_) ∧ some k_ ≠ (u7 : Value).ownBlock ∧ some k_ ≠ (.slice Ao46 t187.length co46 : Value).ownBlock) (Kd.S_N (Kd.S_bound ho0)) (fun k_ hk_ => ⟨(Nat.le_trans (below_size (hbT HB.out)) hk_.2.1), (Kd.fresh' (Kd.N_lt (by (with_reducible repeat (first | apply Kd.N_alloc | apply Kd.N_drewN | apply Kd.N_drew)); exact HO_7.out)) k_ hk_.2.1), (Kd.fresh' (Kd.N_lt (by (with_reducible repeat (first | apply Kd.N_alloc | apply Kd.N_drewN | apply Kd.N_drew)); exact HO189.out)) k_ hk_.2.1)⟩)) (below_size (hbT HB.out))); replace HO_7 := asT (Kd.N_elder' (by (with_reducible repeat (first | apply Kd.N_alloc | apply Kd.N_drewN | apply Kd.N_drew)); exact HO_7.out) (Kd.S_base ho0) hb); replace HO189 := asT (Kd.N_elder' (by (with_reducible repeat (first | apply Kd.N_alloc | apply Kd.N_drewN | apply Kd.N_drew)); exact HO189.out) (Kd.S_base ho0) hb); replace HB := hS HB hb; (try clear hb hb2 hk hi ho0); obtain ⟨Ao49, co49, eo49⟩ := Kd.N_slice HO192.out; subst eo49) | ((with_reducible refine gate_builtin (b := .append) (xs := #[.tmp 50, .tmp 56]) rfl ?_); at_builtin; refine Kd.N_append_rows k26 (w0 := w) w.heap.size rfl (.tmp 50) (.tmp 56) 35 26 (.agg #[(.slice none 0 0)]) 24 rfl Try.underlying35 info26 rfl (by decide) (by omega) u7 x7_3 t190 _ _ _ (fun k_ => (w.heap.size ≤ k_) ∧ some k_ ≠ (.slice Ao46 t187.length co46 : Value).ownBlock) (fun k_ => ((fun k_ => (w.heap.size ≤ k_) ∧ some k_ ≠ (.slice Ao46 t187.length co46 : Value).ownBlock)) k_ ∧ some k_ ≠ (u7 : Value).ownBlock) rfl rfl ?aO ?aR (fun _ hk => hk) ?aF ?aB ?aS ?aL ?_; (case aR => exact (by skip; exact Kd.N_F (Kd.N_mono (ok' := (fun k_ => ((fun k_ => (w.heap.size ≤ k_) ∧ some k_ ≠ (.slice Ao46 t187.length co46 : Value).ownBlock)) k_ ∧ some k_ ≠ (u7 : Value).ownBlock)) (HO192.out) (fun k_ hk => ⟨⟨hk.1, hk.2.2⟩, hk.2.1⟩)))); (case aB => exact (hbT HB.out)); (case aF => exact (fun k_ hk => ⟨(Nat.le_trans (below_size (hbT HB.out)) hk), Kd.fresh' (Kd.N_lt (by (with_reducible repeat (first | apply Kd.N_alloc | apply Kd.N_drewN | apply Kd.N_drew)); exact HO189.out)) k_ hk⟩)); (case aO => exact (by (with_reducible repeat (first | apply Kd.N_alloc | apply Kd.N_drewN | apply Kd.N_drew)); exact Kd.N_mono HO_7.out (fun _ hk => ⟨hk.1.1, hk.1.2⟩))); (case aS => exact (below_size (hbT HB.out))); (case aL => have := LMc30.out; omega); intro v194 w48 ho hb hg hat; rw [← Ny193.out] at ho; replace HO189 := asT (Kd.N_afterv (ok := (fun k_ => (w.heap.size ≤ k_) ∧ some k_ ≠ (.slice Ao49 t190.length co49 : Value).ownBlock)) (by (with_reducible repeat (first | apply Kd.N_alloc | apply Kd.N_drewN | apply Kd.N_drew)); exact Kd.N_mono HO189.out (fun _ hk => ⟨⟨hk.1.1, hk.2⟩, hk.1.2⟩)) hg hat); replace HO192 := asT (Kd.N_afterv (ok := (fun k_ => (w.heap.size ≤ k_) ∧ some k_ ≠ (.slice Ao46 t187.length co46 : Value).ownBlock)) (by (with_reducible repeat (first | apply Kd.N_alloc | apply Kd.N_drewN | apply Kd.N_drew)); exact Kd.N_mono HO192.out (fun _ hk => ⟨⟨hk.1, hk.2.2⟩, hk.2.1⟩)) hg hat); replace HB := asT (hb); have HO195 := asT (ho); clear HO_7 ho hb hg hat; have p31 : 0 ≤ (a1 : Int) := of_decide_eq_true asmT; have q31 : a1 < (a0.size : Int) := of_decide_eq_true asmT; have hx31 := bt_at a0 a1; replace p31 := eq_true p31; replace q31 := eq_true q31) | ((with_reducible refine gate_callee (f := 84) rfl ?_); refine goesL_ (some 62) rfl rfl Try.func84 (by kernel_rfl) rfl #[.int .u8 (bt a0 a1)] rfl eqT ?_; (with_reducible refine (spec_SwapVoice.calls (bt a0 a1) t196 false _ A32.out).mono ?_); rintro e w' ⟨rfl, ⟨nd, rfl⟩⟩; refine ⟨_, rfl, ?_⟩))
         go_meet
         case rel => exact ⟨_, (y193), H', ⟨by have := HJ3.out; first | omega | exact Nat.le_refl _⟩, ⟨by (with_reducible repeat (first | apply Kd.N_alloc | apply Kd.N_drewN | apply Kd.N_drew)); exact Kd.N_mono HO195.out (fun _ hk => hk.1)⟩, ⟨hbT HB.out⟩⟩
       ·rw [if_neg c30] at H
        exact absurd H (by simp)
      ·rw [if_neg c27] at H
       exact absurd H (by simp)
     ·rw [if_neg c25] at H
      have c25b0 : decide (a1 < (a0.size : Int)) = false := decide_eq_false c25
      clear c25
      (first | rw [c25b0] | (simp only [i64_w, i32_w]; rw [c25b0]) | skip)
      have H' := Aside0.mk H; clear H
      go_wp2
      go_meet
      case rel => exact ⟨_, (x7_3), H', ⟨by have := HJ3.out; first | omega | exact Nat.le_refl _⟩, ⟨by (with_reducible repeat (first | apply Kd.N_alloc | apply Kd.N_drewN | apply Kd.N_drew)); exact HO_7.out⟩, ⟨hbT HB.out⟩⟩
    case rest =>
     clear HC24; (try clear c1 p1 q1 hx1 c2 p2 q2 hx2 c3 p3 q3 hx3 p6 c7 c7b0 c7b1 c8 c9 c10 c10b0 c11 c11b0 p12 q12 hx12 c13 p13 q13 hx13 c16 c23 c23b0 c23b1 c25 c25b0 c27 c27b0 p28 q28 hx28 c30 p31 q31 hx31 c33 p34 q34 hx34 c36 p1 p12 p13 p2 p28 p31 p34 p6 q1 q12 q13 q28 q31 q34); obtain ⟨kq, x7_23, HA, HJ23, HO_7, HB⟩ := hcut
     cases kq with
     | zero => exact absurd HA.out (by simp [spec_l7From.j1])
     | succ kj23 =>
      have H := HA.out; clear HA
      simp only [spec_l7From.j1] at H
      obtain ⟨t204, A50, H⟩ := be H; have H' := Aside0.mk H; clear H
      go_wp2_with (first | ((with_reducible refine gate_callee (f := 93) rfl ?_); refine goesL_ (some 79) rfl rfl Try.func93 (by kernel_rfl) rfl #[.string a0, .int .i64 a1, .int .i64 (wrap64 (a2 - 1))] rfl eqT ?_; (with_reducible refine (ih kj23 (by have := HJ3.out; have := HJ23.out; omega) a0 a1 (wrap64 (a2 - 1)) t204 _ A50.out).mono ?_); rintro e w51 ⟨v205, rfl, ho0, hb⟩; refine ⟨_, rfl, ?_⟩; have HO206 := asT (Kd.N_lower (Kd.N_mono (ok' := fun k_ => (w.heap.size ≤ k_) ∧ some k_ ≠ (u7 : Value).ownBlock) ho0 (fun k_ hk_ => ⟨(Nat.le_trans (below_size (hbT HB.out)) hk_), (Kd.fresh' (Kd.N_lt (by (with_reducible repeat (first | apply Kd.N_alloc | apply Kd.N_drewN | apply Kd.N_drew)); exact HO_7.out)) k_ hk_)⟩)) (below_size (hbT HB.out))); replace HO_7 := asT (Kd.N_elder' (by (with_reducible repeat (first | apply Kd.N_alloc | apply Kd.N_drewN | apply Kd.N_drew)); exact HO_7.out) (Kd.N_base ho0) hb); replace HB := hS HB hb; (try clear hb hb2 hk hi ho0)))
      go_loopg [7, 12] kj23 (fun kq v7 v12 w' => ∃ (x7_3 : List (S26)) (x12_3 : Int), v12 = .int .i64 x12_3 ∧ Aside0 (spec_l7From.l0 kq x7_3 t204 x12_3 = some r) ∧ Aside0 (kq ≤ kj23) ∧ Aside0 (Kd.N k26 26 w' w.heap.size (fun k_ => (w.heap.size ≤ k_) ∧ some k_ ≠ (v205 : Value).ownBlock) v7 x7_3) ∧ Aside0 (Kd.N k26 26 w' w.heap.size (fun k_ => (w.heap.size ≤ k_) ∧ some k_ ≠ (v7 : Value).ownBlock) v205 t204) ∧ Aside0 (Below w.heap.size w w'))
      case atStart => exact ⟨(x7_23), (0), rdT, H', ⟨Nat.le_refl _⟩, ⟨by (with_reducible repeat (first | apply Kd.N_alloc | apply Kd.N_drewN | apply Kd.N_drew)); exact HO_7.out⟩, ⟨by (with_reducible repeat (first | apply Kd.N_alloc | apply Kd.N_drewN | apply Kd.N_drew)); exact HO206.out⟩, ⟨hbT HB.out⟩⟩
      case round =>
       clear H'; (try clear c1 p1 q1 hx1 c2 p2 q2 hx2 c3 p3 q3 hx3 p6 c7 c7b0 c7b1 c8 c9 c10 c10b0 c11 c11b0 p12 q12 hx12 c13 p13 q13 hx13 c16 c23 c23b0 c23b1 c25 c25b0 c27 c27b0 p28 q28 hx28 c30 p31 q31 hx31 c33 p34 q34 hx34 c36 p1 p12 p13 p2 p28 p3 p31 p34 p6 q1 q12 q13 q2 q28 q3 q31 q34); obtain ⟨x7_3, x12_3, rfl, HA, HK3, HO_7, HO_11, HB⟩ := hrel
       cases gk with
       | zero => exact absurd HA.out (by simp [spec_l7From.l0])
       | succ k3 =>
        have H := HA.out; clear HA
        simp only [spec_l7From.l0] at H
        by_cases c52 : x12_3 < 2
        ·rw [if_pos c52] at H
         have c52b0 : decide (x12_3 < 2) = true := decide_eq_true c52
         clear c52
         by_cases c53 : 0 ≤ x12_3
         ·rw [if_pos c53] at H
          have c53b0 : decide (0 ≤ x12_3) = true := decide_eq_true c53
          clear c53; obtain ⟨t207, A55, H⟩ := be H
          by_cases c56 : x7_3.length + t207.length < 5864062014805
          ·rw [if_pos c56] at H
           have LMc56 := Aside0.mk c56; clear c56; obtain ⟨y210, hy210⟩ : ∃ y_ : List (S26), y_ = (x7_3 ++ t207) := ⟨_, rfl⟩
           replace H : (spec_l7From.l0 k3 y210 t204 (wrap64 (x12_3 + 1))) = some r := by first | (rw [hy210]; with_reducible exact H) | (have H2_ := (Option.bind_some _ _).symm.trans H; rw [hy210]; with_reducible exact H2_) | (have H2_ := (Option.bind_some _ _).symm.trans H; with_reducible exact H2_) | with_reducible exact H | (rw [hy210]; exact H) | exact H
           have Ny210 := Aside0.mk hy210; clear hy210; have H' := Aside0.mk H; clear H
           have p54 : 0 ≤ (x12_3 : Int) := of_decide_eq_true asmT
           have q54 : x12_3 < (2 : Int) := of_decide_eq_true asmT
           have hx54 := bt_at (⟨#[116, 105]⟩ : ByteArray) x12_3; replace p54 := eq_true p54; replace q54 := eq_true q54; obtain ⟨Ao57, co57, eo57⟩ := Kd.N_slice HO_11.out; subst eo57
           go_wp2_with (first | ((with_reducible refine gate_callee (f := 134) rfl ?_); refine goesL_ (some 89) rfl rfl Try.func134 (by kernel_rfl) rfl #[.agg #[.int .u8 0, .int .u8 (bt (⟨#[116, 105]⟩ : ByteArray) x12_3)], .slice Ao57 t204.length co57] rfl eqT ?_; (with_reducible refine (spec_l7Before.calls k3 0 (bt (⟨#[116, 105]⟩ : ByteArray) x12_3) _ _ t204 t207 _ ?side1 ?side2 A55.out).mono ?_); (case side1 => repeat (first | exact (Kd.N_reads' HO_11.out).2.2 | (with_reducible refine Kd.C_alloc ?_ _) | (with_reducible refine Kd.C_drewN ?_ _) | (with_reducible refine Kd.C_drew ?_))); (case side2 => exact (Kd.N_reads' HO_11.out).2.1); rintro e w58 ⟨v208, rfl, ho0, hb⟩; refine ⟨_, rfl, ?_⟩; have HO209 := asT (Kd.N_lower (Kd.N_mono (ok' := fun k_ => (w.heap.size ≤ k_) ∧ some k_ ≠ (u7 : Value).ownBlock ∧ some k_ ≠ (.slice Ao57 t204.length co57 : Value).ownBlock) (Kd.S_N (Kd.S_bound ho0)) (fun k_ hk_ => ⟨(Nat.le_trans (below_size (hbT HB.out)) hk_.2.1), (Kd.fresh' (Kd.N_lt (by (with_reducible repeat (first | apply Kd.N_alloc | apply Kd.N_drewN | apply Kd.N_drew)); exact HO_7.out)) k_ hk_.2.1), (Kd.fresh' (Kd.N_lt (by (with_reducible repeat (first | apply Kd.N_alloc | apply Kd.N_drewN | apply Kd.N_drew)); exact HO_11.out)) k_ hk_.2.1)⟩)) (below_size (hbT HB.out))); replace HO_7 := asT (Kd.N_elder' (by (with_reducible repeat (first | apply Kd.N_alloc | apply Kd.N_drewN | apply Kd.N_drew)); exact HO_7.out) (Kd.S_base ho0) hb); replace HO_11 := asT (Kd.N_elder' (by (with_reducible repeat (first | apply Kd.N_alloc | apply Kd.N_drewN | apply Kd.N_drew)); exact HO_11.out) (Kd.S_base ho0) hb); replace HB := hS HB hb; (try clear hb hb2 hk hi ho0); obtain ⟨Ao60, co60, eo60⟩ := Kd.N_slice HO209.out; subst eo60) | ((with_reducible refine gate_builtin (b := .append) (xs := #[.tmp 84, .tmp 89]) rfl ?_); at_builtin; refine Kd.N_append_rows k26 (w0 := w) w.heap.size rfl (.tmp 84) (.tmp 89) 35 26 (.agg #[(.slice none 0 0)]) 24 rfl Try.underlying35 info26 rfl (by decide) (by omega) u7 x7_3 t207 _ _ _ (fun k_ => (w.heap.size ≤ k_) ∧ some k_ ≠ (.slice Ao57 t204.length co57 : Value).ownBlock) (fun k_ => ((fun k_ => (w.heap.size ≤ k_) ∧ some k_ ≠ (.slice Ao57 t204.length co57 : Value).ownBlock)) k_ ∧ some k_ ≠ (u7 : Value).ownBlock) rfl rfl ?aO ?aR (fun _ hk => hk) ?aF ?aB ?aS ?aL ?_; (case aR => exact (by skip; exact Kd.N_F (Kd.N_mono (ok' := (fun k_ => ((fun k_ => (w.heap.size ≤ k_) ∧ some k_ ≠ (.slice Ao57 t204.length co57 : Value).ownBlock)) k_ ∧ some k_ ≠ (u7 : Value).ownBlock)) (HO209.out) (fun k_ hk => ⟨⟨hk.1, hk.2.2⟩, hk.2.1⟩)))); (case aB => exact (hbT HB.out)); (case aF => exact (fun k_ hk => ⟨(Nat.le_trans (below_size (hbT HB.out)) hk), Kd.fresh' (Kd.N_lt (by (with_reducible repeat (first | apply Kd.N_alloc | apply Kd.N_drewN | apply Kd.N_drew)); exact HO_11.out)) k_ hk⟩)); (case aO => exact (by (with_reducible repeat (first | apply Kd.N_alloc | apply Kd.N_drewN | apply Kd.N_drew)); exact Kd.N_mono HO_7.out (fun _ hk => ⟨hk.1.1, hk.1.2⟩))); (case aS => exact (below_size (hbT HB.out))); (case aL => have := LMc56.out; omega); intro v211 w59 ho hb hg hat; rw [← Ny210.out] at ho; replace HO_11 := asT (Kd.N_afterv (ok := (fun k_ => (w.heap.size ≤ k_) ∧ some k_ ≠ (.slice Ao60 t207.length co60 : Value).ownBlock)) (by (with_reducible repeat (first | apply Kd.N_alloc | apply Kd.N_drewN | apply Kd.N_drew)); exact Kd.N_mono HO_11.out (fun _ hk => ⟨⟨hk.1.1, hk.2⟩, hk.1.2⟩)) hg hat); replace HO209 := asT (Kd.N_afterv (ok := (fun k_ => (w.heap.size ≤ k_) ∧ some k_ ≠ (.slice Ao57 t204.length co57 : Value).ownBlock)) (by (with_reducible repeat (first | apply Kd.N_alloc | apply Kd.N_drewN | apply Kd.N_drew)); exact Kd.N_mono HO209.out (fun _ hk => ⟨⟨hk.1, hk.2.2⟩, hk.2.1⟩)) hg hat); replace HB := asT (hb); have HO212 := asT (ho); clear HO_7 ho hb hg hat))
           go_roundg k3
           case measure => have := HJ3.out; have := HJ23.out; have := HK3.out; omega
           case rel => exact ⟨(y210), (wrap64 (x12_3 + 1)), rdT, H', ⟨by have := HJ3.out; have := HJ23.out; have := HK3.out; omega⟩, ⟨by (with_reducible repeat (first | apply Kd.N_alloc | apply Kd.N_drewN | apply Kd.N_drew)); exact HO212.out⟩, ⟨by (with_reducible repeat (first | apply Kd.N_alloc | apply Kd.N_drewN | apply Kd.N_drew)); exact Kd.N_mono HO_11.out (fun _ hk => ⟨hk.1.1, hk.2⟩)⟩, ⟨hbT HB.out⟩⟩
          ·rw [if_neg c56] at H
           exact absurd H (by simp)
         ·rw [if_neg c53] at H
          exact absurd H (by simp)
        ·rw [if_neg c52] at H
         have c52b0 : decide (x12_3 < 2) = false := decide_eq_false c52
         clear c52
         obtain rfl := Option.some.inj H
         go_wp2
         go_ret
         exact ⟨_, rlT, by (with_reducible repeat (first | apply Kd.N_alloc | apply Kd.N_drewN | apply Kd.N_drew)); exact Kd.N_mono HO_7.out (fun _ hk => hk.1), hbT HB.out⟩

/-! ### spec_Generate: function 28 -/
def spec_Generate.f (k : Nat) (a0 : ByteArray) : Option ((List (S26))) := (spec_IsForm.f k a0).bind fun t213 => (if t213 = true then (if (a0.size : Int) > 4 then (some (([] : List (S26)))) else ((spec_l7From.f k a0 0 2).bind fun t217 => (some t217))) else (some (([] : List (S26)))))
theorem spec_Generate.mono : ∀ a0 k, LeO (spec_Generate.f k a0) (spec_Generate.f (k + 1) a0) := by
 intro a0 k
 unfold spec_Generate.f
 with_reducible repeat' first | exact spec_IsForm.mono _ _ | exact spec_l7From.mono _ _ _ _ | exact LeO.refl _ | exact LeO.none _ | refine LeO.ite ?_ ?_ | refine LeO.bind ?_ (fun _ => ?_)
set_option maxHeartbeats 8000000 in
set_option maxRecDepth 100000 in
theorem spec_Generate.calls (k : Nat) (a0 : ByteArray) (r : List (S26)) (w : World) (h : spec_Generate.f k a0 = some r) :
  Calls Try.prog 28 #[.string a0] w fun e w' => ∃ v0_ : Value, e = .returned (v0_) ∧ Kd.N k26 26 w' w.heap.size (fun k_ => (w.heap.size ≤ k_)) v0_ r ∧ Below w.heap.size w w' := by
 have HB := asT (Below.refl w.heap.size w); have H := h; unfold spec_Generate.f at H; clear h; obtain ⟨t213, A2, H⟩ := be H
 by_cases c3 : t213 = true
 ·subst c3
  rw [if_pos rfl] at H; have H1 := H; clear H; have H := H1; clear H1
  by_cases c4 : (a0.size : Int) > 4
  ·rw [if_pos c4] at H
   have c4b0 : decide (4 < (a0.size : Int)) = true := decide_eq_true c4
   have c4b1 : decide (4 < a0.size) = true := decide_eq_true (by omega)
   clear c4; obtain ⟨y214, hy214⟩ : ∃ y_ : List (S26), y_ = (([] : List (S26))) := ⟨_, rfl⟩
   replace H : (some y214) = some r := by first | (rw [hy214]; with_reducible exact H) | (have H2_ := (Option.bind_some _ _).symm.trans H; rw [hy214]; with_reducible exact H2_) | (have H2_ := (Option.bind_some _ _).symm.trans H; with_reducible exact H2_) | with_reducible exact H | (rw [hy214]; exact H) | exact H
   have Ny214 := Aside0.mk hy214; clear hy214
   obtain rfl := Option.some.inj H
   go_enter Try.func28, Try.ntmps28
   go_wp2_with (first | ((with_reducible refine gate_callee (f := 86) rfl ?_); refine goesL_ (some 4) rfl rfl Try.func86 (by kernel_rfl) rfl #[.string a0] rfl eqT ?_; (with_reducible refine (spec_IsForm.calls k a0 true _ A2.out).mono ?_); rintro e w' ⟨rfl, ⟨nd, rfl⟩⟩; refine ⟨_, rfl, ?_⟩) | ((with_reducible refine gate_dst (N := 11) rfl ?_); (try (refine gate_guard (by rfl) ?_; dsimp only)); refine Kd.N_lit k26 _ 26 ?hg (N' := 11) ?hd (xs := ([] : List (S26))) (inner := []) (ok := (fun k_ => (w.heap.size ≤ k_))) (okp := (fun k_ => (w.heap.size ≤ k_))) ?hr ?hp (fun _ hk => hk) ((show ∀ k_, w.heap.size ≤ k_ → (fun k_ => (w.heap.size ≤ k_)) k_ from fun k_ hk => (Nat.le_trans (below_size (hbT HB.out)) hk)) _ (Nat.le_refl _)) (Below.refl _ _) (Nat.le_refl _) (by simp) ?_; (case hd => rfl); (case hg => rfl); (case hr => first | (go_simp; done) | (go_simp; rfl)); (case hp => exact (Reps.none _ _)); intro v215 w5 ho6 hb hg_ hnew_; clear hg_ hnew_; (first | rw [← Ny214.out] at ho6 | (simp only [Int.reduceToNat] at ho6; rw [← Ny214.out] at ho6)); have HO216 := asT (Kd.N_lower ho6 (below_size (hbT HB.out))); replace HB := hS HB hb; clear hb ho6))
   go_ret
   exact ⟨_, rlT, by (with_reducible repeat (first | apply Kd.N_alloc | apply Kd.N_drewN | apply Kd.N_drew)); exact HO216.out, hbT HB.out⟩
  ·rw [if_neg c4] at H
   have c4b0 : decide (4 < (a0.size : Int)) = false := decide_eq_false c4
   have c4b1 : decide (4 < a0.size) = false := decide_eq_false (by omega)
   clear c4; obtain ⟨t217, A7, H⟩ := be H
   obtain rfl := Option.some.inj H
   go_enter Try.func28, Try.ntmps28
   go_wp2_with (first | ((with_reducible refine gate_callee (f := 86) rfl ?_); refine goesL_ (some 4) rfl rfl Try.func86 (by kernel_rfl) rfl #[.string a0] rfl eqT ?_; (with_reducible refine (spec_IsForm.calls k a0 true _ A2.out).mono ?_); rintro e w' ⟨rfl, ⟨nd, rfl⟩⟩; refine ⟨_, rfl, ?_⟩) | ((with_reducible refine gate_callee (f := 93) rfl ?_); refine goesL_ (some 13) rfl rfl Try.func93 (by kernel_rfl) rfl #[.string a0, .int .i64 0, .int .i64 2] rfl eqT ?_; (with_reducible refine (spec_l7From.calls k a0 0 2 t217 _ A7.out).mono ?_); rintro e w8 ⟨v218, rfl, ho0, hb⟩; refine ⟨_, rfl, ?_⟩; have HO219 := asT (Kd.N_lower (Kd.N_mono (ok' := fun k_ => (w.heap.size ≤ k_)) ho0 (fun k_ hk_ => (Nat.le_trans (below_size (hbT HB.out)) hk_))) (below_size (hbT HB.out))); replace HB := hS HB hb; (try clear hb hb2 hk hi ho0)))
   go_ret
   exact ⟨_, rlT, by (with_reducible repeat (first | apply Kd.N_alloc | apply Kd.N_drewN | apply Kd.N_drew)); exact HO219.out, hbT HB.out⟩
 ·replace c3 := Bool.eq_false_iff.mpr c3
  subst c3; rw [if_neg nF] at H; obtain ⟨y220, hy220⟩ : ∃ y_ : List (S26), y_ = (([] : List (S26))) := ⟨_, rfl⟩
  replace H : (some y220) = some r := by first | (rw [hy220]; with_reducible exact H) | (have H2_ := (Option.bind_some _ _).symm.trans H; rw [hy220]; with_reducible exact H2_) | (have H2_ := (Option.bind_some _ _).symm.trans H; with_reducible exact H2_) | with_reducible exact H | (rw [hy220]; exact H) | exact H
  have Ny220 := Aside0.mk hy220; clear hy220
  obtain rfl := Option.some.inj H
  go_enter Try.func28, Try.ntmps28
  go_wp2_with (first | ((with_reducible refine gate_callee (f := 86) rfl ?_); refine goesL_ (some 4) rfl rfl Try.func86 (by kernel_rfl) rfl #[.string a0] rfl eqT ?_; (with_reducible refine (spec_IsForm.calls k a0 false _ A2.out).mono ?_); rintro e w' ⟨rfl, ⟨nd, rfl⟩⟩; refine ⟨_, rfl, ?_⟩) | ((with_reducible refine gate_dst (N := 11) rfl ?_); (try (refine gate_guard (by rfl) ?_; dsimp only)); refine Kd.N_lit k26 _ 26 ?hg (N' := 11) ?hd (xs := ([] : List (S26))) (inner := []) (ok := (fun k_ => (w.heap.size ≤ k_))) (okp := (fun k_ => (w.heap.size ≤ k_))) ?hr ?hp (fun _ hk => hk) ((show ∀ k_, w.heap.size ≤ k_ → (fun k_ => (w.heap.size ≤ k_)) k_ from fun k_ hk => (Nat.le_trans (below_size (hbT HB.out)) hk)) _ (Nat.le_refl _)) (Below.refl _ _) (Nat.le_refl _) (by simp) ?_; (case hd => rfl); (case hg => rfl); (case hr => first | (go_simp; done) | (go_simp; rfl)); (case hp => exact (Reps.none _ _)); intro v221 w9 ho10 hb hg_ hnew_; clear hg_ hnew_; (first | rw [← Ny220.out] at ho10 | (simp only [Int.reduceToNat] at ho10; rw [← Ny220.out] at ho10)); have HO222 := asT (Kd.N_lower ho10 (below_size (hbT HB.out))); replace HB := hS HB hb; clear hb ho10))
  go_ret
  exact ⟨_, rlT, by (with_reducible repeat (first | apply Kd.N_alloc | apply Kd.N_drewN | apply Kd.N_drew)); exact HO222.out, hbT HB.out⟩

/-! ### spec_l6Out: function 88 -/
def spec_l6Out.l0 : Nat → List Int → Int → List (S87) → Option (ByteArray)
 | 0, _, _, _ => none
 | k + 1, x3, x4, x224000 => if x4 < (x224000.length : Int) then (if 0 ≤ x4 then (if ((rd_T87 x224000 x4).f1) = 0 then (spec_l6Out.l0 k x3 (wrap64 (x4 + 1)) x224000) else (if x3.length < 140737488355328 then (spec_l6Out.l0 k (x3 ++ [(rd_T87 x224000 x4).f1]) (wrap64 (x4 + 1)) x224000) else (none))) else (none)) else (some (strOfNums x3))
def spec_l6Out.f (k : Nat) (l0_0 : List (S87)) : Option (ByteArray) := spec_l6Out.l0 k (([] : List Int)) 0 l0_0
theorem spec_l6Out.mono_l : ∀ k, (∀ y0 y1 y2, LeO (spec_l6Out.l0 k y0 y1 y2) (spec_l6Out.l0 (k + 1) y0 y1 y2))
 | 0 => fun _ _ _ r h => by simp [spec_l6Out.l0] at h
 | k + 1 => by
  have ih0 := spec_l6Out.mono_l k
  ·intro y0 y1 y2
   unfold spec_l6Out.l0
   with_reducible repeat' first | exact ih0 _ _ _ | exact LeO.refl _ | exact LeO.none _ | refine LeO.ite ?_ ?_ | refine LeO.bind ?_ (fun _ => ?_)
theorem spec_l6Out.mono : ∀ a0 k, LeO (spec_l6Out.f k a0) (spec_l6Out.f (k + 1) a0) := by
 intro a0 k
 have ih0 := spec_l6Out.mono_l k
 unfold spec_l6Out.f
 with_reducible repeat' first | exact ih0 _ _ _ | exact LeO.refl _ | exact LeO.none _ | refine LeO.ite ?_ ?_ | refine LeO.bind ?_ (fun _ => ?_)
set_option maxHeartbeats 8000000 in
set_option maxRecDepth 100000 in
theorem spec_l6Out.calls (k : Nat) (A0_0 : Option Addr) (c0_0 : Nat) (l0_0 : List (S87)) (r : ByteArray) (w : World) (hr0_0 : Kd.C k87 w A0_0 l0_0.length l0_0) (hc0_0 : l0_0.length ≤ c0_0) (h : spec_l6Out.f k l0_0 = some r) :
  Calls Try.prog 88 #[.agg #[.slice A0_0 l0_0.length c0_0]] w fun e w' => e = .returned (.string r) ∧ Below w.heap.size w w' := by
 have hu26 := Try.underlying26; have HR0_0 := Aside0.mk hr0_0; have HC0_0 := Aside0.mk hc0_0; clear hr0_0 hc0_0; have HB := asT (Below.refl w.heap.size w); have H := h; unfold spec_l6Out.f at H; clear h; obtain ⟨y224, hy224⟩ : ∃ y_ : List Int, y_ = (([] : List Int)) := ⟨_, rfl⟩
 replace H : (spec_l6Out.l0 k y224 0 l0_0) = some r := by first | (rw [hy224]; with_reducible exact H) | (have H2_ := (Option.bind_some _ _).symm.trans H; rw [hy224]; with_reducible exact H2_) | (have H2_ := (Option.bind_some _ _).symm.trans H; with_reducible exact H2_) | with_reducible exact H | (rw [hy224]; exact H) | exact H
 have Ny224 := Aside0.mk hy224; clear hy224; have H' := Aside0.mk H; clear H
 go_enter Try.func88, Try.ntmps88
 go_wp2_with (first | ((with_reducible refine gate_dst (N := 1) rfl ?_); refine boxT (N := 1) (cs := #[.slice A0_0 l0_0.length c0_0]) (t := 26) ?_; intro gb223 hg w2 hbox hb; have BK223 := asT hbox; have GW223 := asT (geT hg HB.out); have GE223 := GW223; replace HB := hS HB hb; clear hb hbox hg) | ((with_reducible refine gate_dst (N := 5) rfl ?_); refine Kd.R_lit (Kd.int .u8) _ 5 ?hg (N := 5) ?hd (xs := ([] : List Int)) (inner := []) (ok := fun _ => True) (okp := fun _ => True) ?hr ?hp (fun _ hk => hk) trivial (Below.refl _ _) (Nat.le_refl _) (by simp) ?_; (case hd => rfl); (case hg => rfl); (case hr => first | (go_simp; done) | (go_simp; rfl)); (case hp => exact (Reps.none _ _)); intro v225 w3 ho4 hb hg_ hnew_; clear hg_ hnew_; (first | rw [← Ny224.out] at ho4 | (simp only [Int.reduceToNat] at ho4; rw [← Ny224.out] at ho4)); have HO226 := asT (Kd.R_lower ho4 (below_size (hbT HB.out))); replace BK223 := bS BK223 hb; replace HB := hS HB hb; clear hb ho4))
 go_loopg [3, 4] k (fun kq v3 v4 w' => ∃ (x3_1 : List Int) (x4_1 : Int), v4 = .int .i64 x4_1 ∧ Aside0 (spec_l6Out.l0 kq x3_1 x4_1 l0_0 = some r) ∧ Aside0 (kq ≤ k) ∧ Aside0 (Kd.R (Kd.int .u8) 5 w' w.heap.size (fun _ => True) v3 x3_1) ∧ Aside0 (w'.heap[gb223]? = some (.cells #[(.slice A0_0 l0_0.length c0_0)] 26 (0, 0))) ∧ Aside0 (Below w.heap.size w w'))
 case atStart => exact ⟨(y224), (0), rdT, H', ⟨Nat.le_refl _⟩, ⟨by (with_reducible repeat (first | apply Kd.R_alloc | apply Kd.R_drewN | apply Kd.R_drew)); exact HO226.out⟩, ⟨by (with_reducible repeat (first | refine blk_drewN ?_ _ | refine blk_drew ?_ | refine blk_alloc ?_ _)); exact BK223.out⟩, ⟨hbT HB.out⟩⟩
 case round =>
  clear H'; (try clear p2); obtain ⟨x3_1, x4_1, rfl, HA, HK1, HO_3, BK223, HB⟩ := hrel
  cases gk with
  | zero => exact absurd HA.out (by simp [spec_l6Out.l0])
  | succ k1 =>
   have H := HA.out; clear HA
   simp only [spec_l6Out.l0] at H
   by_cases c5 : x4_1 < (l0_0.length : Int)
   ·rw [if_pos c5] at H
    have c5b0 : decide (x4_1 < (l0_0.length : Int)) = true := decide_eq_true c5
    clear c5
    by_cases c6 : 0 ≤ x4_1
    ·rw [if_pos c6] at H
     have c6b0 : decide (0 ≤ x4_1) = true := decide_eq_true c6
     clear c6
     by_cases c7 : ((rd_T87 l0_0 x4_1).f1) = 0
     ·rw [if_pos c7] at H
      have c7b0 : (((rd_T87 l0_0 x4_1).f1) == 0) = true := beq_iff_eq.mpr c7
      have c7b1 : (((rd_T87 l0_0 x4_1).f1) != 0) = false := bne_eq_false_iff_eq.mpr c7
      clear c7; have H' := Aside0.mk H; clear H
      have hcz8_0 := bc0 BK223.out
      have hfz8_0 := blk_frozen BK223.out 0
      have p227 : 0 ≤ (x4_1 : Int) := of_decide_eq_true asmT
      have q227 : x4_1 < (l0_0.length : Int) := of_decide_eq_true asmT
      obtain ⟨ad227, e227, hx227_0, hx227_1⟩ := at_T87 HR0_0.out x4_1 p227 q227
      cases e227
      replace hx227_0 := hbc HB.out hx227_0; replace hx227_1 := hbc HB.out hx227_1; replace p227 := eq_true p227; replace q227 := eq_true q227
      go_wp2
      go_roundg k1
      case measure => have := HK1.out; omega
      case rel => exact ⟨(x3_1), (wrap64 (x4_1 + 1)), rdT, H', ⟨by have := HK1.out; omega⟩, ⟨by (with_reducible repeat (first | apply Kd.R_alloc | apply Kd.R_drewN | apply Kd.R_drew)); exact HO_3.out⟩, ⟨by (with_reducible repeat (first | refine blk_drewN ?_ _ | refine blk_drew ?_ | refine blk_alloc ?_ _)); exact BK223.out⟩, ⟨hbT HB.out⟩⟩
     ·rw [if_neg c7] at H
      have c7b0 : (((rd_T87 l0_0 x4_1).f1) == 0) = false := beq_eq_false_iff_ne.mpr c7
      have c7b1 : (((rd_T87 l0_0 x4_1).f1) != 0) = true := bne_iff_ne.mpr c7
      by_cases c9 : x3_1.length < 140737488355328
      ·rw [if_pos c9] at H
       have LMc9 := Aside0.mk c9; clear c9; obtain ⟨y229, hy229⟩ : ∃ y_ : List Int, y_ = (x3_1 ++ [(rd_T87 l0_0 x4_1).f1]) := ⟨_, rfl⟩
       replace H : (spec_l6Out.l0 k1 y229 (wrap64 (x4_1 + 1)) l0_0) = some r := by first | (rw [hy229]; with_reducible exact H) | (have H2_ := (Option.bind_some _ _).symm.trans H; rw [hy229]; with_reducible exact H2_) | (have H2_ := (Option.bind_some _ _).symm.trans H; with_reducible exact H2_) | with_reducible exact H | (rw [hy229]; exact H) | exact H
       have Ny229 := Aside0.mk hy229; clear hy229; have H' := Aside0.mk H; clear H
       have hcz10_0 := bc0 BK223.out
       have hfz10_0 := blk_frozen BK223.out 0
       have p227 : 0 ≤ (x4_1 : Int) := of_decide_eq_true asmT
       have q227 : x4_1 < (l0_0.length : Int) := of_decide_eq_true asmT
       obtain ⟨ad227, e227, hx227_0, hx227_1⟩ := at_T87 HR0_0.out x4_1 p227 q227
       cases e227
       replace hx227_0 := hbc HB.out hx227_0; replace hx227_1 := hbc HB.out hx227_1; replace p227 := eq_true p227; replace q227 := eq_true q227
       have p228 : 0 ≤ (x4_1 : Int) := of_decide_eq_true asmT
       have q228 : x4_1 < (l0_0.length : Int) := of_decide_eq_true asmT
       obtain ⟨ad228, e228, hx228_0, hx228_1⟩ := at_T87 HR0_0.out x4_1 p228 q228
       obtain rfl : ad227 = ad228 := (by injection e228)
       replace hx228_0 := hbc HB.out hx228_0; replace hx228_1 := hbc HB.out hx228_1; replace p228 := eq_true p228; replace q228 := eq_true q228
       go_wp2_with (first | ((with_reducible refine gate_builtin (b := .append) (xs := #[.tmp 20, .tmp 27]) rfl ?_); at_builtin; refine Kd.R_append (Kd.int .u8) (w0 := w) w.heap.size rfl (.tmp 20) (.tmp 27) 22 5 (.int .u8 0) 1 rfl Try.underlying22 info5 rfl (by decide) (by omega) u3 x3_1 ((rd_T87 l0_0 x4_1).f1) [.int .u8 ((rd_T87 l0_0 x4_1).f1)] (fun _ => True) (fun _ => False) rfl rfl ?aP (fun _ hk => hk.elim) ?aF ?aO ?aB ?aS ?aL ?_; (case aP => exact rfl); (case aB => exact (hbT HB.out)); (case aF => exact (fun _ _ => trivial)); (case aO => exact (roT HO_3.out)); (case aS => exact (below_size (hbT HB.out))); (case aL => have := LMc9.out; omega); intro v230 w11 ho hb hg hat; rw [← Ny229.out] at ho; replace BK223 := asT (blk_grown (g := gb223) (o := .cells #[.slice (some ad227) l0_0.length c0_0] 26 (0, 0)) (bkT BK223.out) hg (Kd.R_ne HO_3.out BK223.out (by decide))); replace HB := asT (hb); have HO231 := asT (ho); clear HO_3 ho hb hg hat))
       go_roundg k1
       case measure => have := HK1.out; omega
       case rel => exact ⟨(y229), (wrap64 (x4_1 + 1)), rdT, H', ⟨by have := HK1.out; omega⟩, ⟨by (with_reducible repeat (first | apply Kd.R_alloc | apply Kd.R_drewN | apply Kd.R_drew)); exact HO231.out⟩, ⟨by (with_reducible repeat (first | refine blk_drewN ?_ _ | refine blk_drew ?_ | refine blk_alloc ?_ _)); exact BK223.out⟩, ⟨hbT HB.out⟩⟩
      ·rw [if_neg c9] at H
       exact absurd H (by simp)
    ·rw [if_neg c6] at H
     exact absurd H (by simp)
   ·rw [if_neg c5] at H
    have c5b0 : decide (x4_1 < (l0_0.length : Int)) = false := decide_eq_false c5
    clear c5
    obtain rfl := Option.some.inj H
    have hcz12_0 := bc0 BK223.out
    have hfz12_0 := blk_frozen BK223.out 0; have hcv13 := own_string (P := Try.prog) Try.underlying22 Try.underlying5 Try.underlying9 (Kd.own_of_R HO_3.out)
    go_wp2
    go_ret
    exact ⟨rlT, hbT HB.out⟩

/-! ### spec_l3Has: function 95 -/
def spec_l3Has.l0 : Nat → List ByteArray → ByteArray → Int → Option (Bool)
 | 0, _, _, _ => none
 | k + 1, x0, x1, x5 => if x5 < (x0.length : Int) then (if 0 ≤ x5 then (if (rdOf ByteArray.empty x0 x5).toList = x1.toList then (some true) else (spec_l3Has.l0 k x0 x1 (wrap64 (x5 + 1)))) else (none)) else (some false)
def spec_l3Has.f (k : Nat) (l0 : List ByteArray) (a1 : ByteArray) : Option (Bool) := spec_l3Has.l0 k l0 a1 0
theorem spec_l3Has.mono_l : ∀ k, (∀ y0 y1 y2, LeO (spec_l3Has.l0 k y0 y1 y2) (spec_l3Has.l0 (k + 1) y0 y1 y2))
 | 0 => fun _ _ _ r h => by simp [spec_l3Has.l0] at h
 | k + 1 => by
  have ih0 := spec_l3Has.mono_l k
  ·intro y0 y1 y2
   unfold spec_l3Has.l0
   with_reducible repeat' first | exact ih0 _ _ _ | exact LeO.refl _ | exact LeO.none _ | refine LeO.ite ?_ ?_ | refine LeO.bind ?_ (fun _ => ?_)
theorem spec_l3Has.mono : ∀ a0 a1 k, LeO (spec_l3Has.f k a0 a1) (spec_l3Has.f (k + 1) a0 a1) := by
 intro a0 a1 k
 have ih0 := spec_l3Has.mono_l k
 unfold spec_l3Has.f
 with_reducible repeat' first | exact ih0 _ _ _ | exact LeO.refl _ | exact LeO.none _ | refine LeO.ite ?_ ?_ | refine LeO.bind ?_ (fun _ => ?_)
set_option maxHeartbeats 8000000 in
set_option maxRecDepth 100000 in
theorem spec_l3Has.calls (k : Nat) (A0 : Option Addr) (c0 : Nat) (l0 : List ByteArray) (a1 : ByteArray) (r : Bool) (w : World) (hr0 : Kd.C Kd.string w A0 l0.length l0) (hc0 : l0.length ≤ c0) (h : spec_l3Has.f k l0 a1 = some r) :
  Calls Try.prog 95 #[.slice A0 l0.length c0, .string a1] w fun e w' => e = .returned (.bool r) ∧ Drawn0 w w' := by
 have HR0 := Aside0.mk hr0; have HC0 := Aside0.mk hc0; clear hr0 hc0; have H := h; unfold spec_l3Has.f at H; clear h; have H' := Aside0.mk H; clear H
 go_enter Try.func95, Try.ntmps95
 go_wp2
 go_loopg [5] k (fun kq v5 w' => ∃ (x5_1 : Int), v5 = .int .i64 x5_1 ∧ Aside0 (spec_l3Has.l0 kq l0 a1 x5_1 = some r) ∧ Aside0 (kq ≤ k) ∧ Drawn0 w w')
 case atStart => exact ⟨(0), rdT, H', ⟨Nat.le_refl _⟩, drT⟩
 case round =>
  clear H'; (try clear p2); obtain ⟨x5_1, rfl, HA, HK1, ⟨m1, rfl⟩⟩ := hrel
  cases gk with
  | zero => exact absurd HA.out (by simp [spec_l3Has.l0])
  | succ k1 =>
   have H := HA.out; clear HA
   simp only [spec_l3Has.l0] at H
   by_cases c3 : x5_1 < (l0.length : Int)
   ·rw [if_pos c3] at H
    have c3b0 : decide (x5_1 < (l0.length : Int)) = true := decide_eq_true c3
    clear c3
    by_cases c4 : 0 ≤ x5_1
    ·rw [if_pos c4] at H
     have c4b0 : decide (0 ≤ x5_1) = true := decide_eq_true c4
     clear c4
     by_cases c5 : (rdOf ByteArray.empty l0 x5_1).toList = a1.toList
     ·rw [if_pos c5] at H
      have c5b0 : ((rdOf ByteArray.empty l0 x5_1).toList == a1.toList) = true := beq_iff_eq.mpr c5
      have c5b1 : ((rdOf ByteArray.empty l0 x5_1).toList != a1.toList) = false := bne_eq_false_iff_eq.mpr c5
      clear c5
      obtain rfl := Option.some.inj H
      have p232 : 0 ≤ (x5_1 : Int) := of_decide_eq_true asmT
      have q232 : x5_1 < (l0.length : Int) := of_decide_eq_true asmT
      obtain ⟨ad232, e232, hx232_0⟩ := Kd.at_string HR0.out x5_1 p232 q232
      cases e232
      replace p232 := eq_true p232; replace q232 := eq_true q232
      go_wp2
      go_ret
      exact ⟨rdT, drT⟩
     ·rw [if_neg c5] at H
      have c5b0 : ((rdOf ByteArray.empty l0 x5_1).toList == a1.toList) = false := beq_eq_false_iff_ne.mpr c5
      have c5b1 : ((rdOf ByteArray.empty l0 x5_1).toList != a1.toList) = true := bne_iff_ne.mpr c5
      have H' := Aside0.mk H; clear H
      have p232 : 0 ≤ (x5_1 : Int) := of_decide_eq_true asmT
      have q232 : x5_1 < (l0.length : Int) := of_decide_eq_true asmT
      obtain ⟨ad232, e232, hx232_0⟩ := Kd.at_string HR0.out x5_1 p232 q232
      cases e232
      replace p232 := eq_true p232; replace q232 := eq_true q232
      go_wp2
      go_roundg k1
      case measure => have := HK1.out; omega
      case rel => exact ⟨(wrap64 (x5_1 + 1)), rdT, H', ⟨by have := HK1.out; omega⟩, drT⟩
    ·rw [if_neg c4] at H
     exact absurd H (by simp)
   ·rw [if_neg c3] at H
    have c3b0 : decide (x5_1 < (l0.length : Int)) = false := decide_eq_false c3
    clear c3
    obtain rfl := Option.some.inj H
    go_wp2
    go_ret
    exact ⟨rdT, drT⟩

/-! ### spec_OutputsOf: function 33 -/
def spec_OutputsOf.l0 : Nat → List ByteArray → List (S26) → Int → Option (List ByteArray)
 | 0, _, _, _ => none
 | k + 1, x3, x4, x5 => if x5 < (x4.length : Int) then (if 0 ≤ x5 then ((spec_l6Out.f k ((rd_T26 x4 x5).f0)).bind fun t240 => ((spec_l3Has.f k x3 t240).bind fun t241 => (if t241 = true then (spec_OutputsOf.l0 k x3 x4 (wrap64 (x5 + 1))) else (if x3.length < 8796093022208 then (spec_OutputsOf.l0 k (x3 ++ [t240]) x4 (wrap64 (x5 + 1))) else (none))))) else (none)) else (some x3)
def spec_OutputsOf.f (k : Nat) (a0 : ByteArray) : Option (List ByteArray) := (spec_Generate.f k a0).bind fun t236 => (spec_OutputsOf.l0 k (([] : List ByteArray)) t236 0)
theorem spec_OutputsOf.mono_l : ∀ k, (∀ y0 y1 y2, LeO (spec_OutputsOf.l0 k y0 y1 y2) (spec_OutputsOf.l0 (k + 1) y0 y1 y2))
 | 0 => fun _ _ _ r h => by simp [spec_OutputsOf.l0] at h
 | k + 1 => by
  have ih0 := spec_OutputsOf.mono_l k
  ·intro y0 y1 y2
   unfold spec_OutputsOf.l0
   with_reducible repeat' first | exact ih0 _ _ _ | exact spec_Generate.mono _ _ | exact spec_l3Has.mono _ _ _ | exact spec_l6Out.mono _ _ | exact LeO.refl _ | exact LeO.none _ | refine LeO.ite ?_ ?_ | refine LeO.bind ?_ (fun _ => ?_)
theorem spec_OutputsOf.mono : ∀ a0 k, LeO (spec_OutputsOf.f k a0) (spec_OutputsOf.f (k + 1) a0) := by
 intro a0 k
 have ih0 := spec_OutputsOf.mono_l k
 unfold spec_OutputsOf.f
 with_reducible repeat' first | exact ih0 _ _ _ | exact spec_Generate.mono _ _ | exact spec_l3Has.mono _ _ _ | exact spec_l6Out.mono _ _ | exact LeO.refl _ | exact LeO.none _ | refine LeO.ite ?_ ?_ | refine LeO.bind ?_ (fun _ => ?_)
set_option maxHeartbeats 8000000 in
set_option maxRecDepth 100000 in
theorem spec_OutputsOf.calls (k : Nat) (a0 : ByteArray) (r : List ByteArray) (w : World) (h : spec_OutputsOf.f k a0 = some r) :
  Calls Try.prog 33 #[.string a0] w fun e w' => ∃ v0_ : Value, e = .returned (v0_) ∧ Kd.R Kd.string 9 w' w.heap.size (fun _ => True) v0_ r ∧ Below w.heap.size w w' := by
 have hu26 := Try.underlying26; have HB := asT (Below.refl w.heap.size w); have H := h; unfold spec_OutputsOf.f at H; clear h; obtain ⟨y233, hy233⟩ : ∃ y_ : List ByteArray, y_ = (([] : List ByteArray)) := ⟨_, rfl⟩
 replace H : ((spec_Generate.f k a0).bind fun t236 => (spec_OutputsOf.l0 k y233 t236 0)) = some r := by first | (rw [hy233]; with_reducible exact H) | (have H2_ := (Option.bind_some _ _).symm.trans H; rw [hy233]; with_reducible exact H2_) | (have H2_ := (Option.bind_some _ _).symm.trans H; with_reducible exact H2_) | with_reducible exact H | (rw [hy233]; exact H) | exact H
 have Ny233 := Aside0.mk hy233; clear hy233; obtain ⟨t236, A2, H⟩ := be H; have H' := Aside0.mk H; clear H
 go_enter Try.func33, Try.ntmps33
 go_wp2_with (first | ((with_reducible refine gate_dst (N := 7) rfl ?_); refine Kd.R_lit Kd.string _ 9 ?hg (N := 7) ?hd (xs := ([] : List ByteArray)) (inner := []) (ok := fun _ => True) (okp := fun _ => True) ?hr ?hp (fun _ hk => hk) trivial (Below.refl _ _) (Nat.le_refl _) (by simp) ?_; (case hd => rfl); (case hg => rfl); (case hr => first | (go_simp; done) | (go_simp; rfl)); (case hp => exact (Reps.none _ _)); intro v234 w3 ho4 hb hg_ hnew_; clear hg_ hnew_; (first | rw [← Ny233.out] at ho4 | (simp only [Int.reduceToNat] at ho4; rw [← Ny233.out] at ho4)); have HO235 := asT (Kd.R_lower ho4 (below_size (hbT HB.out))); replace HB := hS HB hb; clear hb ho4) | ((with_reducible refine gate_callee (f := 28) rfl ?_); refine goesL_ (some 9) rfl rfl Try.func28 (by kernel_rfl) rfl #[.string a0] rfl eqT ?_; (with_reducible refine (spec_Generate.calls k a0 t236 _ A2.out).mono ?_); rintro e w5 ⟨v237, rfl, ho0, hb⟩; refine ⟨_, rfl, ?_⟩; have HO238 := asT (Kd.N_lower (Kd.N_mono (ok' := fun k_ => some k_ ≠ (v234 : Value).ownBlock) ho0 (fun k_ hk_ => (Kd.fresh' (Kd.R_lt (roT HO235.out)) k_ hk_))) (below_size (hbT HB.out))); replace HO235 := asT (Kd.R_below (roT HO235.out) hb); replace HB := hS HB hb; (try clear hb hb2 hk hi ho0)))
 go_loopg [3, 5] k (fun kq v3 v5 w' => ∃ (x3_1 : List ByteArray) (x5_1 : Int), v5 = .int .i64 x5_1 ∧ Aside0 (spec_OutputsOf.l0 kq x3_1 t236 x5_1 = some r) ∧ Aside0 (kq ≤ k) ∧ Aside0 (Kd.R Kd.string 9 w' w.heap.size (fun _ => True) v3 x3_1) ∧ Aside0 (Kd.N k26 26 w' w.heap.size (fun k_ => some k_ ≠ (v3 : Value).ownBlock) v237 t236) ∧ Aside0 (Below w.heap.size w w'))
 case atStart => exact ⟨(y233), (0), rdT, H', ⟨Nat.le_refl _⟩, ⟨by (with_reducible repeat (first | apply Kd.R_alloc | apply Kd.R_drewN | apply Kd.R_drew)); exact HO235.out⟩, ⟨by (with_reducible repeat (first | apply Kd.N_alloc | apply Kd.N_drewN | apply Kd.N_drew)); exact HO238.out⟩, ⟨hbT HB.out⟩⟩
 case round =>
  clear H'; (try clear c2 p2 c3); obtain ⟨x3_1, x5_1, rfl, HA, HK1, HO_3, HO_4, HB⟩ := hrel
  cases gk with
  | zero => exact absurd HA.out (by simp [spec_OutputsOf.l0])
  | succ k1 =>
   have H := HA.out; clear HA
   simp only [spec_OutputsOf.l0] at H
   by_cases c6 : x5_1 < (t236.length : Int)
   ·rw [if_pos c6] at H
    have c6b0 : decide (x5_1 < (t236.length : Int)) = true := decide_eq_true c6
    clear c6
    by_cases c7 : 0 ≤ x5_1
    ·rw [if_pos c7] at H
     have c7b0 : decide (0 ≤ x5_1) = true := decide_eq_true c7
     clear c7; obtain ⟨t240, A8, H⟩ := be H; obtain ⟨t241, A9, H⟩ := be H
     by_cases c10 : t241 = true
     ·subst c10
      rw [if_pos rfl] at H; have H' := Aside0.mk H; clear H; obtain ⟨Ao11, co11, eo11⟩ := Kd.N_slice HO_4.out; subst eo11
      have p239 : 0 ≤ (x5_1 : Int) := of_decide_eq_true asmT
      have q239 : x5_1 < (t236.length : Int) := of_decide_eq_true asmT
      obtain ⟨ad239, A239_0, c239_0, e239, hx239_0, hl239_0, hi239_0⟩ := at_T26 (Kd.N_reads' HO_4.out).2.2 x5_1 p239 q239
      cases e239
      obtain ⟨ce239, hce239, hMe239, hcc239⟩ := Kd.N_get HO_4.out z26 x5_1 p239 (by first | exact q239 | exact of_decide_eq_true asmT | (have e_ := (Kd.N_reads' HO_4.out).1; omega)); obtain ⟨ua239_0, uc239_0, rfl, ul239_0, ge239_0⟩ := k26_openF hMe239; have hv239_0 := hcc239 0 _ rfl; rw [Nat.add_zero, show (k26).sz = 1 from rfl, Nat.mul_one] at hv239_0; replace hv239_0 := Option.some.inj (hv239_0.symm.trans hx239_0)
      injection hv239_0 with hva_ hvn_ hvc_
      rw [hva_] at ge239_0; rw [hvc_] at ul239_0; have HL239_0 := asT (show Kd.V k87 87 _ w.heap.size _ _ ((rd_T26 t236 x5_1).f0) from Kd.V_mk ul239_0 ge239_0); clear hva_ hvn_ hvc_ ge239_0 ul239_0 hcc239 hce239; have HR239_0 := Aside0.mk hi239_0; have HC239_0 := Aside0.mk hl239_0; clear hi239_0 hl239_0; replace p239 := eq_true p239; replace q239 := eq_true q239
      go_wp2_with (first | ((with_reducible refine gate_callee (f := 88) rfl ?_); refine goesL_ (some 20) rfl rfl Try.func88 (by kernel_rfl) rfl #[.agg #[.slice A239_0 ((rd_T26 t236 x5_1).f0).length c239_0]] rfl eqT ?_; (with_reducible refine (spec_l6Out.calls k1 _ _ ((rd_T26 t236 x5_1).f0) t240 _ ?side1 ?side2 A8.out).mono ?_); (case side1 => repeat (first | exact (by repeat (first | (with_reducible exact HR239_0.out) | (with_reducible refine Kd.C_alloc ?_ _) | (with_reducible refine Kd.C_drewN ?_ _) | (with_reducible refine Kd.C_drew ?_) | exact HR239_0.out)) | (with_reducible refine Kd.C_alloc ?_ _) | (with_reducible refine Kd.C_drewN ?_ _) | (with_reducible refine Kd.C_drew ?_))); (case side2 => exact HC239_0.out); rintro e w12 ⟨rfl, hb⟩; refine ⟨_, rfl, ?_⟩; replace HO_3 := asT (Kd.R_below (roT HO_3.out) hb); replace HO_4 := asT (Kd.N_below (by (with_reducible repeat (first | apply Kd.N_alloc | apply Kd.N_drewN | apply Kd.N_drew)); exact HO_4.out) hb); replace HL239_0 := asT (Kd.V_below (by (with_reducible repeat (first | apply Kd.V_alloc | apply Kd.V_drewN | apply Kd.V_drew)); exact HL239_0.out) hb); replace HR239_0 := asT (Kd.C_below (by repeat (first | (with_reducible exact HR239_0.out) | (with_reducible refine Kd.C_alloc ?_ _) | (with_reducible refine Kd.C_drewN ?_ _) | (with_reducible refine Kd.C_drew ?_) | exact HR239_0.out)) hb); replace HB := hS HB hb; (try clear hb hb2 hk hi); obtain ⟨Ao13, co13, eo13⟩ := Kd.R_slice HO_3.out; subst eo13) | ((with_reducible refine gate_callee (f := 95) rfl ?_); refine goesL_ (some 23) rfl rfl Try.func95 (by kernel_rfl) rfl #[.slice Ao13 x3_1.length co13, .string t240] rfl eqT ?_; (with_reducible refine (spec_l3Has.calls k1 _ _ x3_1 t240 true _ ?side1 ?side2 A9.out).mono ?_); (case side1 => repeat (first | exact (Kd.R_reads' HO_3.out).2.2 | (with_reducible refine Kd.C_alloc ?_ _) | (with_reducible refine Kd.C_drewN ?_ _) | (with_reducible refine Kd.C_drew ?_))); (case side2 => exact (Kd.R_reads' HO_3.out).2.1); rintro e w' ⟨rfl, ⟨nd, rfl⟩⟩; refine ⟨_, rfl, ?_⟩))
      go_roundg k1
      case measure => have := HK1.out; omega
      case rel => exact ⟨(x3_1), (wrap64 (x5_1 + 1)), rdT, H', ⟨by have := HK1.out; omega⟩, ⟨by (with_reducible repeat (first | apply Kd.R_alloc | apply Kd.R_drewN | apply Kd.R_drew)); exact HO_3.out⟩, ⟨by (with_reducible repeat (first | apply Kd.N_alloc | apply Kd.N_drewN | apply Kd.N_drew)); exact HO_4.out⟩, ⟨hbT HB.out⟩⟩
     ·replace c10 := Bool.eq_false_iff.mpr c10
      subst c10; rw [if_neg nF] at H; have H1 := H; clear H; have H := H1; clear H1
      by_cases c14 : x3_1.length < 8796093022208
      ·rw [if_pos c14] at H
       have LMc14 := Aside0.mk c14; clear c14; obtain ⟨y242, hy242⟩ : ∃ y_ : List ByteArray, y_ = (x3_1 ++ [t240]) := ⟨_, rfl⟩
       replace H : (spec_OutputsOf.l0 k1 y242 t236 (wrap64 (x5_1 + 1))) = some r := by first | (rw [hy242]; with_reducible exact H) | (have H2_ := (Option.bind_some _ _).symm.trans H; rw [hy242]; with_reducible exact H2_) | (have H2_ := (Option.bind_some _ _).symm.trans H; with_reducible exact H2_) | with_reducible exact H | (rw [hy242]; exact H) | exact H
       have Ny242 := Aside0.mk hy242; clear hy242; have H' := Aside0.mk H; clear H; obtain ⟨Ao15, co15, eo15⟩ := Kd.N_slice HO_4.out; subst eo15
       have p239 : 0 ≤ (x5_1 : Int) := of_decide_eq_true asmT
       have q239 : x5_1 < (t236.length : Int) := of_decide_eq_true asmT
       obtain ⟨ad239, A239_0, c239_0, e239, hx239_0, hl239_0, hi239_0⟩ := at_T26 (Kd.N_reads' HO_4.out).2.2 x5_1 p239 q239
       cases e239
       obtain ⟨ce239, hce239, hMe239, hcc239⟩ := Kd.N_get HO_4.out z26 x5_1 p239 (by first | exact q239 | exact of_decide_eq_true asmT | (have e_ := (Kd.N_reads' HO_4.out).1; omega)); obtain ⟨ua239_0, uc239_0, rfl, ul239_0, ge239_0⟩ := k26_openF hMe239; have hv239_0 := hcc239 0 _ rfl; rw [Nat.add_zero, show (k26).sz = 1 from rfl, Nat.mul_one] at hv239_0; replace hv239_0 := Option.some.inj (hv239_0.symm.trans hx239_0)
       injection hv239_0 with hva_ hvn_ hvc_
       rw [hva_] at ge239_0; rw [hvc_] at ul239_0; have HL239_0 := asT (show Kd.V k87 87 _ w.heap.size _ _ ((rd_T26 t236 x5_1).f0) from Kd.V_mk ul239_0 ge239_0); clear hva_ hvn_ hvc_ ge239_0 ul239_0 hcc239 hce239; have HR239_0 := Aside0.mk hi239_0; have HC239_0 := Aside0.mk hl239_0; clear hi239_0 hl239_0; replace p239 := eq_true p239; replace q239 := eq_true q239
       go_wp2_with (first | ((with_reducible refine gate_callee (f := 88) rfl ?_); refine goesL_ (some 20) rfl rfl Try.func88 (by kernel_rfl) rfl #[.agg #[.slice A239_0 ((rd_T26 t236 x5_1).f0).length c239_0]] rfl eqT ?_; (with_reducible refine (spec_l6Out.calls k1 _ _ ((rd_T26 t236 x5_1).f0) t240 _ ?side1 ?side2 A8.out).mono ?_); (case side1 => repeat (first | exact (by repeat (first | (with_reducible exact HR239_0.out) | (with_reducible refine Kd.C_alloc ?_ _) | (with_reducible refine Kd.C_drewN ?_ _) | (with_reducible refine Kd.C_drew ?_) | exact HR239_0.out)) | (with_reducible refine Kd.C_alloc ?_ _) | (with_reducible refine Kd.C_drewN ?_ _) | (with_reducible refine Kd.C_drew ?_))); (case side2 => exact HC239_0.out); rintro e w16 ⟨rfl, hb⟩; refine ⟨_, rfl, ?_⟩; replace HO_3 := asT (Kd.R_below (roT HO_3.out) hb); replace HO_4 := asT (Kd.N_below (by (with_reducible repeat (first | apply Kd.N_alloc | apply Kd.N_drewN | apply Kd.N_drew)); exact HO_4.out) hb); replace HL239_0 := asT (Kd.V_below (by (with_reducible repeat (first | apply Kd.V_alloc | apply Kd.V_drewN | apply Kd.V_drew)); exact HL239_0.out) hb); replace HR239_0 := asT (Kd.C_below (by repeat (first | (with_reducible exact HR239_0.out) | (with_reducible refine Kd.C_alloc ?_ _) | (with_reducible refine Kd.C_drewN ?_ _) | (with_reducible refine Kd.C_drew ?_) | exact HR239_0.out)) hb); replace HB := hS HB hb; (try clear hb hb2 hk hi); obtain ⟨Ao17, co17, eo17⟩ := Kd.R_slice HO_3.out; subst eo17) | ((with_reducible refine gate_callee (f := 95) rfl ?_); refine goesL_ (some 23) rfl rfl Try.func95 (by kernel_rfl) rfl #[.slice Ao17 x3_1.length co17, .string t240] rfl eqT ?_; (with_reducible refine (spec_l3Has.calls k1 _ _ x3_1 t240 false _ ?side1 ?side2 A9.out).mono ?_); (case side1 => repeat (first | exact (Kd.R_reads' HO_3.out).2.2 | (with_reducible refine Kd.C_alloc ?_ _) | (with_reducible refine Kd.C_drewN ?_ _) | (with_reducible refine Kd.C_drew ?_))); (case side2 => exact (Kd.R_reads' HO_3.out).2.1); rintro e w' ⟨rfl, ⟨nd, rfl⟩⟩; refine ⟨_, rfl, ?_⟩) | ((with_reducible refine gate_builtin (b := .append) (xs := #[.tmp 25, .tmp 27]) rfl ?_); at_builtin; refine Kd.R_append Kd.string (w0 := w) w.heap.size rfl (.tmp 25) (.tmp 27) 40 9 (.string ⟨#[]⟩) 16 rfl Try.underlying40 info9 rfl (by decide) (by omega) (.slice Ao17 x3_1.length co17) x3_1 t240 [.string t240] (fun _ => True) (fun _ => False) rfl rfl ?aP (fun _ hk => hk.elim) ?aF ?aO ?aB ?aS ?aL ?_; (case aP => exact rfl); (case aB => exact (hbT HB.out)); (case aF => exact (fun _ _ => trivial)); (case aO => exact (roT HO_3.out)); (case aS => exact (below_size (hbT HB.out))); (case aL => have := LMc14.out; omega); intro v243 w18 ho hb hg hat; rw [← Ny242.out] at ho; replace HO_4 := asT (Kd.N_afterv (ok := (fun _ => True)) (by (with_reducible repeat (first | apply Kd.N_alloc | apply Kd.N_drewN | apply Kd.N_drew)); exact Kd.N_mono HO_4.out (fun _ hk => ⟨trivial, hk⟩)) hg hat); replace HL239_0 := asT (Kd.V_afterv (ok := (fun k_ => some k_ ≠ (.slice (some ad239) t236.length co15 : Value).ownBlock)) (by (with_reducible repeat (first | apply Kd.V_alloc | apply Kd.V_drewN | apply Kd.V_drew)); exact Kd.V_mono HL239_0.out (fun _ hk => ⟨hk.2, hk.1⟩)) hg hat); replace HB := asT (hb); have HO244 := asT (ho); clear HO_3 ho hb hg hat))
       go_roundg k1
       case measure => have := HK1.out; omega
       case rel => exact ⟨(y242), (wrap64 (x5_1 + 1)), rdT, H', ⟨by have := HK1.out; omega⟩, ⟨by (with_reducible repeat (first | apply Kd.R_alloc | apply Kd.R_drewN | apply Kd.R_drew)); exact HO244.out⟩, ⟨by (with_reducible repeat (first | apply Kd.N_alloc | apply Kd.N_drewN | apply Kd.N_drew)); exact Kd.N_mono HO_4.out (fun _ hk => hk.2)⟩, ⟨hbT HB.out⟩⟩
      ·rw [if_neg c14] at H
       exact absurd H (by simp)
    ·rw [if_neg c7] at H
     exact absurd H (by simp)
   ·rw [if_neg c6] at H
    have c6b0 : decide (x5_1 < (t236.length : Int)) = false := decide_eq_false c6
    clear c6
    obtain rfl := Option.some.inj H
    obtain ⟨Ao19, co19, eo19⟩ := Kd.N_slice HO_4.out; subst eo19
    go_wp2
    go_ret
    exact ⟨_, rlT, by (with_reducible repeat (first | apply Kd.R_alloc | apply Kd.R_drewN | apply Kd.R_drew)); exact HO_3.out, hbT HB.out⟩

/-! ### laws_eqStringS: function 70 -/
def laws_eqStringS.l0 : Nat → List ByteArray → List ByteArray → Int → Option (Bool)
 | 0, _, _, _ => none
 | k + 1, x0, x1, x5 => if x5 < (x0.length : Int) then (if 0 ≤ x5 then (if x5 < (x1.length : Int) then (if (rdOf ByteArray.empty x0 x5).toList = (rdOf ByteArray.empty x1 x5).toList then (laws_eqStringS.l0 k x0 x1 (wrap64 (x5 + 1))) else (some false)) else (none)) else (none)) else (some true)
def laws_eqStringS.f (k : Nat) (l0 : List ByteArray) (l1 : List ByteArray) : Option (Bool) := if (l0.length : Int) = (l1.length : Int) then (laws_eqStringS.l0 k l0 l1 0) else (some false)
theorem laws_eqStringS.mono_l : ∀ k, (∀ y0 y1 y2, LeO (laws_eqStringS.l0 k y0 y1 y2) (laws_eqStringS.l0 (k + 1) y0 y1 y2))
 | 0 => fun _ _ _ r h => by simp [laws_eqStringS.l0] at h
 | k + 1 => by
  have ih0 := laws_eqStringS.mono_l k
  ·intro y0 y1 y2
   unfold laws_eqStringS.l0
   with_reducible repeat' first | exact ih0 _ _ _ | exact LeO.refl _ | exact LeO.none _ | refine LeO.ite ?_ ?_ | refine LeO.bind ?_ (fun _ => ?_)
theorem laws_eqStringS.mono : ∀ a0 a1 k, LeO (laws_eqStringS.f k a0 a1) (laws_eqStringS.f (k + 1) a0 a1) := by
 intro a0 a1 k
 have ih0 := laws_eqStringS.mono_l k
 unfold laws_eqStringS.f
 with_reducible repeat' first | exact ih0 _ _ _ | exact LeO.refl _ | exact LeO.none _ | refine LeO.ite ?_ ?_ | refine LeO.bind ?_ (fun _ => ?_)
set_option maxHeartbeats 8000000 in
set_option maxRecDepth 100000 in
theorem laws_eqStringS.calls (k : Nat) (A0 : Option Addr) (c0 : Nat) (l0 : List ByteArray) (A1 : Option Addr) (c1 : Nat) (l1 : List ByteArray) (r : Bool) (w : World) (hr0 : Kd.C Kd.string w A0 l0.length l0) (hc0 : l0.length ≤ c0) (hr1 : Kd.C Kd.string w A1 l1.length l1) (hc1 : l1.length ≤ c1) (h : laws_eqStringS.f k l0 l1 = some r) :
  Calls Try.prog 70 #[.slice A0 l0.length c0, .slice A1 l1.length c1] w fun e w' => e = .returned (.bool r) ∧ Drawn0 w w' := by
 have HR0 := Aside0.mk hr0; have HC0 := Aside0.mk hc0; clear hr0 hc0; have HR1 := Aside0.mk hr1; have HC1 := Aside0.mk hc1; clear hr1 hc1; have H := h; unfold laws_eqStringS.f at H; clear h
 by_cases c3 : (l0.length : Int) = (l1.length : Int)
 ·rw [if_pos c3] at H
  have c3b0 : ((l0.length : Int) == (l1.length : Int)) = true := beq_iff_eq.mpr c3
  have c3b1 : ((l0.length : Int) != (l1.length : Int)) = false := bne_eq_false_iff_eq.mpr c3
  have c3b2 : (l0.length == l1.length) = true := by first | simpa using c3 | (simp at c3 ⊢; omega)
  clear c3; have H' := Aside0.mk H; clear H
  go_enter Try.func70, Try.ntmps70
  go_wp2
  repeat (go_quiet (fail); try go_wp2)
  go_loopg [5] k (fun kq v5 w' => ∃ (x5_1 : Int), v5 = .int .i64 x5_1 ∧ Aside0 (laws_eqStringS.l0 kq l0 l1 x5_1 = some r) ∧ Aside0 (kq ≤ k) ∧ Drawn0 w w')
  case atStart => exact ⟨(0), rdT, H', ⟨Nat.le_refl _⟩, drT⟩
  case round =>
   clear H'; (try clear c1 p2 c3 c3b0 c3b1 c3b2); obtain ⟨x5_1, rfl, HA, HK1, ⟨m1, rfl⟩⟩ := hrel
   cases gk with
   | zero => exact absurd HA.out (by simp [laws_eqStringS.l0])
   | succ k1 =>
    have H := HA.out; clear HA
    simp only [laws_eqStringS.l0] at H
    by_cases c4 : x5_1 < (l0.length : Int)
    ·rw [if_pos c4] at H
     have c4b0 : decide (x5_1 < (l0.length : Int)) = true := decide_eq_true c4
     clear c4
     by_cases c5 : 0 ≤ x5_1
     ·rw [if_pos c5] at H
      have c5b0 : decide (0 ≤ x5_1) = true := decide_eq_true c5
      clear c5
      by_cases c6 : x5_1 < (l1.length : Int)
      ·rw [if_pos c6] at H
       have c6b0 : decide (x5_1 < (l1.length : Int)) = true := decide_eq_true c6
       clear c6
       by_cases c7 : (rdOf ByteArray.empty l0 x5_1).toList = (rdOf ByteArray.empty l1 x5_1).toList
       ·rw [if_pos c7] at H
        have c7b0 : ((rdOf ByteArray.empty l0 x5_1).toList == (rdOf ByteArray.empty l1 x5_1).toList) = true := beq_iff_eq.mpr c7
        have c7b1 : ((rdOf ByteArray.empty l0 x5_1).toList != (rdOf ByteArray.empty l1 x5_1).toList) = false := bne_eq_false_iff_eq.mpr c7
        clear c7; have H' := Aside0.mk H; clear H
        have p245 : 0 ≤ (x5_1 : Int) := of_decide_eq_true asmT
        have q245 : x5_1 < (l0.length : Int) := of_decide_eq_true asmT
        obtain ⟨ad245, e245, hx245_0⟩ := Kd.at_string HR0.out x5_1 p245 q245
        cases e245
        replace p245 := eq_true p245; replace q245 := eq_true q245
        have p246 : 0 ≤ (x5_1 : Int) := of_decide_eq_true asmT
        have q246 : x5_1 < (l1.length : Int) := of_decide_eq_true asmT
        obtain ⟨ad246, e246, hx246_0⟩ := Kd.at_string HR1.out x5_1 p246 q246
        cases e246
        replace p246 := eq_true p246; replace q246 := eq_true q246
        go_wp2
        repeat (go_quiet (fail); try go_wp2)
        go_roundg k1
        case measure => have := HK1.out; omega
        case rel => exact ⟨(wrap64 (x5_1 + 1)), rdT, H', ⟨by have := HK1.out; omega⟩, drT⟩
       ·rw [if_neg c7] at H
        have c7b0 : ((rdOf ByteArray.empty l0 x5_1).toList == (rdOf ByteArray.empty l1 x5_1).toList) = false := beq_eq_false_iff_ne.mpr c7
        have c7b1 : ((rdOf ByteArray.empty l0 x5_1).toList != (rdOf ByteArray.empty l1 x5_1).toList) = true := bne_iff_ne.mpr c7
        obtain rfl := Option.some.inj H
        have p245 : 0 ≤ (x5_1 : Int) := of_decide_eq_true asmT
        have q245 : x5_1 < (l0.length : Int) := of_decide_eq_true asmT
        obtain ⟨ad245, e245, hx245_0⟩ := Kd.at_string HR0.out x5_1 p245 q245
        cases e245
        replace p245 := eq_true p245; replace q245 := eq_true q245
        have p246 : 0 ≤ (x5_1 : Int) := of_decide_eq_true asmT
        have q246 : x5_1 < (l1.length : Int) := of_decide_eq_true asmT
        obtain ⟨ad246, e246, hx246_0⟩ := Kd.at_string HR1.out x5_1 p246 q246
        cases e246
        replace p246 := eq_true p246; replace q246 := eq_true q246
        go_wp2
        repeat (go_quiet (fail); try go_wp2)
        go_ret
        exact ⟨rdT, drT⟩
      ·rw [if_neg c6] at H
       exact absurd H (by simp)
     ·rw [if_neg c5] at H
      exact absurd H (by simp)
    ·rw [if_neg c4] at H
     have c4b0 : decide (x5_1 < (l0.length : Int)) = false := decide_eq_false c4
     clear c4
     obtain rfl := Option.some.inj H
     go_wp2
     repeat (go_quiet (fail); try go_wp2)
     go_ret
     exact ⟨rdT, drT⟩
 ·rw [if_neg c3] at H
  have c3b0 : ((l0.length : Int) == (l1.length : Int)) = false := beq_eq_false_iff_ne.mpr c3
  have c3b1 : ((l0.length : Int) != (l1.length : Int)) = true := bne_iff_ne.mpr c3
  have c3b2 : (l0.length == l1.length) = false := by first | simpa using c3 | (simp at c3 ⊢; omega)
  obtain rfl := Option.some.inj H
  go_enter Try.func70, Try.ntmps70
  go_wp2
  repeat (go_quiet (fail); try go_wp2)
  go_ret
  exact ⟨rdT, drT⟩

end Go.Proofs.Ytmfhaplhgaehhaa.PFnExactOutputsOf
