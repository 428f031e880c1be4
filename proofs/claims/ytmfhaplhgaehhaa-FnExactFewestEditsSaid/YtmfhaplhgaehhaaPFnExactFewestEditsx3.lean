-- Made by gen.py (a program of this session) out of the translation; Lean checks it.
import Derived.Test.YtmfhaplhgaehhaaPFnExactFewestEditsx0
import Derived.Test.YtmfhaplhgaehhaaPFnExactFewestEditsx2
namespace Go.Proofs.Ytmfhaplhgaehhaa.PFnExactFewestEdits
open Go.RowKit Go.Proofs.YtmfhaplhgaehhaaB Go.Proofs.YtmfhaplhgaehhaaW.PrintWords Go.Proofs.YtmfhaplhgaehhaaW.PrintLast Go.Proofs.YtmfhaplhgaehhaaW.PrintMore
attribute [local go_sem] max2_int min2_int max_two min_two max_three min_three max_four min_four   -- for this text's walks alone
set_option linter.unusedVariables false
set_option linter.unusedSimpArgs false

/-! ### spec_IsForm: function 86 -/
def spec_IsForm.f (k : Nat) (a0 : ByteArray) : Option (Bool) := (spec_l2Sounds.f k a0).bind fun t152 => (if t152 = true then (some (decide ((a0.size : Int) ≤ 8))) else (some false))
theorem spec_IsForm.mono : ∀ a0 k, LeO (spec_IsForm.f k a0) (spec_IsForm.f (k + 1) a0) := by
 intro a0 k
 unfold spec_IsForm.f
 with_reducible repeat' first | exact spec_l2Sounds.mono _ _ | exact LeO.refl _ | exact LeO.none _ | refine LeO.ite ?_ ?_ | refine LeO.bind ?_ (fun _ => ?_)
set_option maxHeartbeats 8000000 in
set_option maxRecDepth 100000 in
theorem spec_IsForm.calls (k : Nat) (a0 : ByteArray) (r : Bool) (w : World) (h : spec_IsForm.f k a0 = some r) :
  Calls Try.prog 86 #[.string a0] w fun e w' => e = .returned (.bool r) ∧ Drawn0 w w' := by
 have H := h; unfold spec_IsForm.f at H; clear h; obtain ⟨t152, A2, H⟩ := be H
 by_cases c3 : t152 = true
 ·subst c3
  rw [if_pos rfl] at H; have H1 := H; clear H; have H := H1; clear H1
  obtain rfl := Option.some.inj H
  go_enter Try.func86, Try.ntmps86
  go_wp2_with (first | ((with_reducible refine gate_callee (f := 129) rfl ?_); refine goesL_ (some 4) rfl rfl Try.func129 (by kernel_rfl) rfl #[.string a0] rfl eqT ?_; (with_reducible refine (spec_l2Sounds.calls k a0 true _ A2.out).mono ?_); rintro e w' ⟨rfl, ⟨nd, rfl⟩⟩; refine ⟨_, rfl, ?_⟩))
  go_ret
  exact ⟨rdT, drT⟩
 ·replace c3 := Bool.eq_false_iff.mpr c3
  subst c3; rw [if_neg nF] at H; have H1 := H; clear H; have H := H1; clear H1
  obtain rfl := Option.some.inj H
  go_enter Try.func86, Try.ntmps86
  go_wp2_with (first | ((with_reducible refine gate_callee (f := 129) rfl ?_); refine goesL_ (some 4) rfl rfl Try.func129 (by kernel_rfl) rfl #[.string a0] rfl eqT ?_; (with_reducible refine (spec_l2Sounds.calls k a0 false _ A2.out).mono ?_); rintro e w' ⟨rfl, ⟨nd, rfl⟩⟩; refine ⟨_, rfl, ?_⟩))
  go_ret
  exact ⟨rdT, drT⟩

/-! ### spec_SwapVoice: function 84 -/
def spec_SwapVoice.f (a0 : Int) : Option (Int × Bool) := if a0 = 112 then (some (98, true)) else (if a0 = 98 then (some (112, true)) else (if a0 = 116 then (some (100, true)) else (if a0 = 100 then (some (116, true)) else (some (a0, false)))))
set_option maxHeartbeats 8000000 in
set_option maxRecDepth 100000 in
theorem spec_SwapVoice.calls (a0 : Int) (r1 : Int) (r2 : Bool) (w : World) (h : spec_SwapVoice.f a0 = some (r1, r2)) :
  Calls Try.prog 84 #[.int .u8 a0] w fun e w' => e = .returned (.tuple #[.int .u8 r1, .bool r2]) ∧ Drawn0 w w' := by
 have H := h; unfold spec_SwapVoice.f at H; clear h
 by_cases c2 : a0 = 112
 ·rw [if_pos c2] at H
  have c2b0 : (a0 == 112) = true := beq_iff_eq.mpr c2
  have c2b1 : (a0 != 112) = false := bne_eq_false_iff_eq.mpr c2
  clear c2
  simp only [Option.some.injEq, Prod.mk.injEq] at H
  obtain ⟨rfl, rfl⟩ := H
  go_enter Try.func84, Try.ntmps84
  go_wp2
  go_ret2
  exact ⟨rdT, drT⟩
 ·rw [if_neg c2] at H
  have c2b0 : (a0 == 112) = false := beq_eq_false_iff_ne.mpr c2
  have c2b1 : (a0 != 112) = true := bne_iff_ne.mpr c2
  by_cases c3 : a0 = 98
  ·rw [if_pos c3] at H
   have c3b0 : (a0 == 98) = true := beq_iff_eq.mpr c3
   have c3b1 : (a0 != 98) = false := bne_eq_false_iff_eq.mpr c3
   clear c3
   simp only [Option.some.injEq, Prod.mk.injEq] at H
   obtain ⟨rfl, rfl⟩ := H
   go_enter Try.func84, Try.ntmps84
   go_wp2
   go_ret2
   exact ⟨rdT, drT⟩
  ·rw [if_neg c3] at H
   have c3b0 : (a0 == 98) = false := beq_eq_false_iff_ne.mpr c3
   have c3b1 : (a0 != 98) = true := bne_iff_ne.mpr c3
   by_cases c4 : a0 = 116
   ·rw [if_pos c4] at H
    have c4b0 : (a0 == 116) = true := beq_iff_eq.mpr c4
    have c4b1 : (a0 != 116) = false := bne_eq_false_iff_eq.mpr c4
    clear c4
    simp only [Option.some.injEq, Prod.mk.injEq] at H
    obtain ⟨rfl, rfl⟩ := H
    go_enter Try.func84, Try.ntmps84
    go_wp2
    go_ret2
    exact ⟨rdT, drT⟩
   ·rw [if_neg c4] at H
    have c4b0 : (a0 == 116) = false := beq_eq_false_iff_ne.mpr c4
    have c4b1 : (a0 != 116) = true := bne_iff_ne.mpr c4
    by_cases c5 : a0 = 100
    ·rw [if_pos c5] at H
     have c5b0 : (a0 == 100) = true := beq_iff_eq.mpr c5
     have c5b1 : (a0 != 100) = false := bne_eq_false_iff_eq.mpr c5
     clear c5
     simp only [Option.some.injEq, Prod.mk.injEq] at H
     obtain ⟨rfl, rfl⟩ := H
     go_enter Try.func84, Try.ntmps84
     go_wp2
     go_ret2
     exact ⟨rdT, drT⟩
    ·rw [if_neg c5] at H
     have c5b0 : (a0 == 100) = false := beq_eq_false_iff_ne.mpr c5
     have c5b1 : (a0 != 100) = true := bne_iff_ne.mpr c5
     simp only [Option.some.injEq, Prod.mk.injEq] at H
     obtain ⟨rfl, rfl⟩ := H
     go_enter Try.func84, Try.ntmps84
     go_wp2
     go_ret2
     exact ⟨rdT, drT⟩

/-! ### spec_l7Before: function 134 -/
def spec_l7Before.l0 : Nat → List (S26) → List (S26) → Int → Int → Int → Option ((List (S26)))
 | 0, _, _, _, _, _ => none
 | k + 1, x1, x5, x6, x154000, x154001 => if x6 < (x1.length : Int) then ((some (([(⟨x154000, x154001⟩ : S87)] : List (S87)) : List (S87))).bind fun y157 => (if 0 ≤ x6 then (if y157.length + ((rd_T26 x1 x6).f0).length < 70368744177664 then (if x5.length < 5864062014805 then (spec_l7Before.l0 k x1 (x5 ++ [(⟨(y157 ++ ((rd_T26 x1 x6).f0))⟩ : S26)]) (wrap64 (x6 + 1)) x154000 x154001) else (none)) else (none)) else (none))) else (some x5)
def spec_l7Before.f (k : Nat) (a0_0 : Int) (a0_1 : Int) (l1 : List (S26)) : Option ((List (S26))) := spec_l7Before.l0 k l1 (([] : List (S26))) 0 a0_0 a0_1
theorem spec_l7Before.mono_l : ∀ k, (∀ y0 y1 y2 y3 y4, LeO (spec_l7Before.l0 k y0 y1 y2 y3 y4) (spec_l7Before.l0 (k + 1) y0 y1 y2 y3 y4))
 | 0 => fun _ _ _ _ _ r h => by simp [spec_l7Before.l0] at h
 | k + 1 => by
  have ih0 := spec_l7Before.mono_l k
  ·intro y0 y1 y2 y3 y4
   unfold spec_l7Before.l0
   with_reducible repeat' first | exact ih0 _ _ _ _ _ | exact LeO.refl _ | exact LeO.none _ | refine LeO.ite ?_ ?_ | refine LeO.bind ?_ (fun _ => ?_)
theorem spec_l7Before.mono : ∀ a0 a1 a2 k, LeO (spec_l7Before.f k a0 a1 a2) (spec_l7Before.f (k + 1) a0 a1 a2) := by
 intro a0 a1 a2 k
 have ih0 := spec_l7Before.mono_l k
 unfold spec_l7Before.f
 with_reducible repeat' first | exact ih0 _ _ _ _ _ | exact LeO.refl _ | exact LeO.none _ | refine LeO.ite ?_ ?_ | refine LeO.bind ?_ (fun _ => ?_)
def spec_l7Before.T5 : Bool × List (List Nat × List Nat) := (true, [([], []), ([], []), ([1], [1]), ([], []), ([], []), ([3, 4], [3, 4]), ([5], [5]), ([6], [6]), ([2, 7], [2, 7]), ([8], [8]), ([9], [9]), ([0, 10, 8], [0, 10]), ([11, 11, 0, 1, 2, 3, 4, 5, 6, 7, 8, 9, 10, 11], [0, 11])])
def spec_l7Before.B5 : List Nat := [0, 0, 2, 0, 0, 24, 56, 120, 254, 510, 1022, 2047, 4095]
theorem spec_l7Before.tab5 : rtab .any (opsOf Try.f134 5) = spec_l7Before.T5 := by kernel_rfl
theorem spec_l7Before.bits5 : waitsOk spec_l7Before.T5.2 spec_l7Before.B5 = true := by kernel_rfl
set_option maxHeartbeats 8000000 in
set_option maxRecDepth 100000 in
theorem spec_l7Before.calls (k : Nat) (a0_0 : Int) (a0_1 : Int) (A1 : Option Addr) (c1 : Nat) (l1 : List (S26)) (r : List (S26)) (w : World) (hr1 : Kd.C k26 w A1 l1.length l1) (hc1 : l1.length ≤ c1) (h : spec_l7Before.f k a0_0 a0_1 l1 = some r) :
  Calls Try.prog 134 #[.agg #[.int .u8 a0_0, .int .u8 a0_1], .slice A1 l1.length c1] w fun e w' => ∃ v0_ : Value, e = .returned (v0_) ∧ Kd.S k26 26 w' w.heap.size (fun _ => True) v0_ r ∧ Below w.heap.size w w' := by
 have hu87 := Try.underlying87; have hu26 := Try.underlying26; have HR1 := Aside0.mk hr1; have HC1 := Aside0.mk hc1; clear hr1 hc1; have HB := asT (Below.refl w.heap.size w); have H := h; unfold spec_l7Before.f at H; clear h; obtain ⟨y154, hy154⟩ : ∃ y_ : List (S26), y_ = (([] : List (S26))) := ⟨_, rfl⟩
 replace H : (spec_l7Before.l0 k l1 y154 0 a0_0 a0_1) = some r := by first | (rw [hy154]; with_reducible exact H) | (have H2_ := (Option.bind_some _ _).symm.trans H; rw [hy154]; with_reducible exact H2_) | (have H2_ := (Option.bind_some _ _).symm.trans H; with_reducible exact H2_) | with_reducible exact H | (rw [hy154]; exact H) | exact H
 have Ny154 := Aside0.mk hy154; clear hy154; have H' := Aside0.mk H; clear H
 go_enter Try.func134, Try.ntmps134
 go_wp2_with (first | ((with_reducible refine gate_dst (N := 2) rfl ?_); refine boxT (N := 2) (cs := #[.int .u8 a0_0, .int .u8 a0_1]) (t := 87) ?_; intro gb153 hg w3 hbox hb; have BK153 := asT hbox; have GW153 := asT (geT hg HB.out); have GE153 := GW153; replace HB := hS HB hb; clear hb hbox hg) | ((with_reducible refine gate_dst (N := 7) rfl ?_); refine Kd.S_lit k26 _ 26 ?hg (N := 7) ?hd (xs := ([] : List (S26))) (inner := []) (ok := fun _ => True) (okp := fun _ => True) ?hr ?hp (fun _ hk => hk) trivial (Below.refl _ _) (Nat.le_refl _) (by simp) ?_; (case hd => rfl); (case hg => rfl); (case hr => first | (go_simp; done) | (go_simp; rfl)); (case hp => exact (Reps.none _ _)); intro v155 w4 ho5 hb hg_ hnew_; clear hg_ hnew_; (first | rw [← Ny154.out] at ho5 | (simp only [Int.reduceToNat] at ho5; rw [← Ny154.out] at ho5)); have HO156 := asT (Kd.S_lower (Kd.S_newB ho5 (g := gb153) (o := .cells #[.int .u8 a0_0, .int .u8 a0_1] 87 (0, 0)) (bkT BK153.out)) (below_size (hbT HB.out))); replace BK153 := bS BK153 hb; replace HB := hS HB hb; clear hb ho5))
 go_loopg [5, 6] k (fun kq v5 v6 w' => ∃ (x5_1 : List (S26)) (x6_1 : Int), v6 = .int .i64 x6_1 ∧ Aside0 (spec_l7Before.l0 kq l1 x5_1 x6_1 a0_0 a0_1 = some r) ∧ Aside0 (kq ≤ k) ∧ Aside0 (Kd.S k26 26 w' w.heap.size (fun k_ => k_ ≠ gb153) v5 x5_1) ∧ Aside0 (w'.heap[gb153]? = some (.cells #[.int .u8 a0_0, .int .u8 a0_1] 87 (0, 0))) ∧ Aside0 (Below w.heap.size w w'))
 case atStart => exact ⟨(y154), (0), rdT, H', ⟨Nat.le_refl _⟩, ⟨by (with_reducible repeat (first | apply Kd.S_alloc | apply Kd.S_drewN | apply Kd.S_drew)); exact Kd.S_mono HO156.out (fun _ hk => hk.2)⟩, ⟨by (with_reducible repeat (first | refine blk_drewN ?_ _ | refine blk_drew ?_ | refine blk_alloc ?_ _)); exact BK153.out⟩, ⟨hbT HB.out⟩⟩
 case round =>
  clear H'; (try clear c1 p2); obtain ⟨x5_1, x6_1, rfl, HA, HK1, HO_5, BK153, HB⟩ := hrel
  cases gk with
  | zero => exact absurd HA.out (by simp [spec_l7Before.l0])
  | succ k1 =>
   have H := HA.out; clear HA
   simp only [spec_l7Before.l0] at H
   by_cases c6 : x6_1 < (l1.length : Int)
   ·rw [if_pos c6] at H
    have c6b0 : decide (x6_1 < (l1.length : Int)) = true := decide_eq_true c6
    clear c6; obtain ⟨y157, hy157⟩ : ∃ y_ : List (S87), y_ = (([(⟨a0_0, a0_1⟩ : S87)] : List (S87))) := ⟨_, rfl⟩
    replace H : (if 0 ≤ x6_1 then (if y157.length + ((rd_T26 l1 x6_1).f0).length < 70368744177664 then (if x5_1.length < 5864062014805 then (spec_l7Before.l0 k1 l1 (x5_1 ++ [(⟨(y157 ++ ((rd_T26 l1 x6_1).f0))⟩ : S26)]) (wrap64 (x6_1 + 1)) a0_0 a0_1) else (none)) else (none)) else (none)) = some r := by first | (rw [hy157]; with_reducible exact H) | (have H2_ := (Option.bind_some _ _).symm.trans H; rw [hy157]; with_reducible exact H2_) | (have H2_ := (Option.bind_some _ _).symm.trans H; with_reducible exact H2_) | with_reducible exact H | (rw [hy157]; exact H) | exact H
    have Ny157 := Aside0.mk hy157; clear hy157
    by_cases c7 : 0 ≤ x6_1
    ·rw [if_pos c7] at H
     have c7b0 : decide (0 ≤ x6_1) = true := decide_eq_true c7
     clear c7
     by_cases c8 : y157.length + ((rd_T26 l1 x6_1).f0).length < 70368744177664
     ·rw [if_pos c8] at H
      have LMc8 := Aside0.mk c8; clear c8; obtain ⟨y161, hy161⟩ : ∃ y_ : List (S87), y_ = (y157 ++ ((rd_T26 l1 x6_1).f0)) := ⟨_, rfl⟩
      replace H : (if x5_1.length < 5864062014805 then (spec_l7Before.l0 k1 l1 (x5_1 ++ [(⟨y161⟩ : S26)]) (wrap64 (x6_1 + 1)) a0_0 a0_1) else (none)) = some r := by first | (rw [hy161]; with_reducible exact H) | (have H2_ := (Option.bind_some _ _).symm.trans H; rw [hy161]; with_reducible exact H2_) | (have H2_ := (Option.bind_some _ _).symm.trans H; with_reducible exact H2_) | with_reducible exact H | (rw [hy161]; exact H) | exact H
      have Ny161 := Aside0.mk hy161; clear hy161
      by_cases c9 : x5_1.length < 5864062014805
      ·rw [if_pos c9] at H
       have LMc9 := Aside0.mk c9; clear c9; obtain ⟨y164, hy164⟩ : ∃ y_ : List (S26), y_ = (x5_1 ++ [(⟨y161⟩ : S26)]) := ⟨_, rfl⟩
       replace H : (spec_l7Before.l0 k1 l1 y164 (wrap64 (x6_1 + 1)) a0_0 a0_1) = some r := by first | (rw [hy164]; with_reducible exact H) | (have H2_ := (Option.bind_some _ _).symm.trans H; rw [hy164]; with_reducible exact H2_) | (have H2_ := (Option.bind_some _ _).symm.trans H; with_reducible exact H2_) | with_reducible exact H | (rw [hy164]; exact H) | exact H
       have Ny164 := Aside0.mk hy164; clear hy164; have H' := Aside0.mk H; clear H
       try go_wp2
       replace HO_5 := asT (Kd.S_drew HO_5.out); replace BK153 := asT (blk_drew BK153.out); replace HB := asT (below_drew1 HB.out)
       have p160 : 0 ≤ (x6_1 : Int) := of_decide_eq_true asmT
       have q160 : x6_1 < (l1.length : Int) := of_decide_eq_true asmT
       obtain ⟨ad160, A160_0, c160_0, e160, hx160_0, hl160_0, hi160_0⟩ := at_T26 HR1.out x6_1 p160 q160; have hw160_0 := hx160_0
       cases e160
       replace hx160_0 := hbc HB.out hx160_0; have HR160_0 := Aside0.mk hi160_0; have HC160_0 := Aside0.mk hl160_0; clear hi160_0 hl160_0; replace p160 := eq_true p160; replace q160 := eq_true q160
       refine start_ (n := 13) (S := fun w' => w'.cell? ⟨gb153, 0, none⟩ = some (.int .u8 a0_0) ∧ w'.cell? ⟨gb153, 1, none⟩ = some (.int .u8 a0_1) ∧ w'.cell? (ad160.add (x6_1).toNat) = some (.slice A160_0 ((rd_T26 l1 x6_1).f0).length c160_0)) (ds := []) (bA 13 0) (by kernel_rfl) rfl rfl ⟨bc0 BK153.out, bc1 BK153.out, (hbc HB.out hw160_0 :)⟩ (fun hHeld => ?_); refine with_tabW spec_l7Before.tab5 spec_l7Before.bits5 (fun HT_ HW_ => ?_)
       generalize wr.drew = w10 at HO_5 BK153 HB HR160_0 hx160_0 hHeld ⊢
       refine pA 0 14 13 1 HT_.out ?_ rfl rfl; refine pA 3 17 13 9 HT_.out ?_ rfl rfl; refine pA 4 18 13 25 HT_.out ?_ rfl rfl; refine pA 5 19 13 57 HT_.out ?_ rfl rfl; refine pA 6 20 13 121 HT_.out ?_ rfl rfl; refine tA 1 15 13 123 HT_.out HW_.out hHeld ?_ rfl rfl; refine tA 7 21 13 251 HT_.out HW_.out hHeld ?_ rfl rfl
       refine oA 2 16 13 255 HT_.out (fun K hK => ?_) rfl rfl
       refine Kd.R_lit_step k87 _ 87 ?hg (N := 16) ?hd (xs := ([(⟨a0_0, a0_1⟩ : S87)] : List (S87))) (inner := [.int .u8 a0_0, .int .u8 a0_1]) (ok := fun _ => True) (okp := fun _ => True) ?hr ?hp (fun _ hk => hk) trivial (Below.refl _ _) (Nat.le_refl _) (by simp) ?_; (case hd => rfl); (case hg => rfl); (case hr => first | (go_simp; done) | (go_simp; rfl)); (case hp => exact (Reps.c2 (show Kd.M k87 _ _ _ (⟨a0_0, a0_1⟩ : S87) [.int .u8 a0_0, .int .u8 a0_1] from (k87_mkM _ _ _ (⟨a0_0, a0_1⟩ : S87) )) (Reps.none _ _)))
       intro v158 w11 ho12 hb hg_ hnew_
       clear hg_ hnew_
       (first | rw [← Ny157.out] at ho12 | (simp only [Int.reduceToNat] at ho12; rw [← Ny157.out] at ho12))
       replace HO_5 := asT (Kd.S_elder' (by (with_reducible repeat (first | apply Kd.S_alloc | apply Kd.S_drewN | apply Kd.S_drew)); exact HO_5.out) (Kd.R_base ho12) hb); have HO159 := asT (Kd.R_lower (Kd.R_newB ho12 (g := gb153) (o := .cells #[.int .u8 a0_0, .int .u8 a0_1] 87 (0, 0)) (bkT BK153.out)) (below_size (hbT HB.out))); replace BK153 := bS BK153 hb; replace HB := hS HB hb; clear hb ho12
       refine hK.out _ _ ⟨bc0 BK153.out, bc1 BK153.out, (hbc HB.out hw160_0 :)⟩ (fun hHeld => ?_)
       clear hK K
       refine nB 16 ?_ rfl
       refine oA 8 22 13 511 HT_.out (fun K hK => ?_) rfl rfl
       refine Kd.R_append_rows_step k87 (w0 := w) w.heap.size (by rfl) (.tmp 16) (.tmp 21) 24 87 (.agg #[(.int .u8 0), (.int .u8 0)]) 2 rfl Try.underlying24 info87 rfl (by decide) (by omega) v158 y157 ((rd_T26 l1 x6_1).f0) _ _ _ (fun k_ => k_ ≠ gb153) (fun _ => False) rfl rfl ?aO ?aR (fun _ _ h => h) (fun _ h => h.elim) ?aF ?aB ?aS ?aL ?_
       (case aR => repeat (first | exact (Kd.C_below HR160_0.out HB.out) | (with_reducible refine Kd.C_alloc ?_ _) | (with_reducible refine Kd.C_drewN ?_ _) | (with_reducible refine Kd.C_drew ?_)))
       (case aB => exact (hbT HB.out))
       (case aF => exact (fun k_ hk => Kd.freshB (g := gb153) (o := .cells #[.int .u8 a0_0, .int .u8 a0_1] 87 (0, 0)) (bkT BK153.out) k_ hk))
       (case aO => exact (by (with_reducible repeat (first | apply Kd.R_alloc | apply Kd.R_drewN | apply Kd.R_drew)); exact Kd.R_mono HO159.out (fun _ hk => hk.2)))
       (case aS => exact (below_size (hbT HB.out)))
       (case aL => have := LMc8.out; omega)
       intro v162 w13 ho hb hg hat
       rw [← Ny161.out] at ho; replace HO_5 := asT (Kd.S_after (ok := (fun k_ => k_ ≠ gb153)) (by (with_reducible repeat (first | apply Kd.S_alloc | apply Kd.S_drewN | apply Kd.S_drew)); exact HO_5.out) hg hat); replace BK153 := asT (blk_grown (g := gb153) (o := .cells #[.int .u8 a0_0, .int .u8 a0_1] 87 (0, 0)) (bkT BK153.out) hg (Kd.R_away HO159.out (fun _ hk => hk.2))); replace HB := asT (hb); have HO163 := asT (ho); clear HO159 ho hb hg hat; obtain ⟨Ao14, co14, eo14⟩ := Kd.R_slice HO163.out; (first | subst eo14 | (injection eo14 with f1_ f2_ f3_; have f4_ := f1_.symm; have f5_ := f3_.symm; clear f1_ f2_ f3_; subst f4_; subst f5_))
       refine hK.out _ _ ⟨bc0 BK153.out, bc1 BK153.out, (hbc HB.out hw160_0 :)⟩ (fun hHeld => ?_)
       clear hK K
       refine nB 22 ?_ rfl; refine pA 9 23 13 1023 HT_.out ?_ rfl rfl
       refine oA 10 24 13 2047 HT_.out (fun K hK => ?_) rfl rfl
       refine value_ (w1 := ?_) (v := ?_) (by rfl) rfl ?_ ?_
       rotate_left 2
       ·go_simp
        constructor
        ·rfl
        ·rfl
       refine hK.out _ _ ⟨(blk_cell (blk_alloc BK153.out _) 0).trans rfl, (blk_cell (blk_alloc BK153.out _) 1).trans rfl, (World.cell?_alloc_lt _ _ _ (World.block_lt_of_cell? _ _ (((HB.out.cell (World.block_lt_of_cell? w _ hw160_0)).trans hw160_0)))).trans (((HB.out.cell (World.block_lt_of_cell? w _ hw160_0)).trans hw160_0))⟩ (fun hHeld => ?_)
       clear hK K
       refine nB 24 ?_ rfl
       refine oA 11 25 13 4095 HT_.out (fun K hK => ?_) rfl rfl
       refine Kd.S_append_step k26 (w0 := w) w.heap.size (by rfl) (.tmp 14) (.tmp 24) 35 26 (.agg #[(.slice none 0 0)]) 24 rfl Try.underlying35 info26 rfl (by decide) (by omega) u5 x5_1 (⟨y161⟩ : S26) [.slice Ao14 y161.length co14] (fun k_ => k_ ≠ gb153) (fun k_ => some k_ = (.slice Ao14 y161.length co14 : Value).ownBlock) rfl rfl ?aP (fun k_ hk_ => ((Kd.R_mono (ok' := fun k_ => ((fun k_ => k_ ≠ gb153)) k_ ∧ some k_ ≠ (u5 : Value).ownBlock) (Kd.R_apart' (HO163.out) (Kd.S_typed HO_5.out) (by decide)) (fun k_ hk => ⟨hk.1, hk.2⟩))).1 k_ hk_.symm) ?aF ?aO ?aB ?aS ?aL ?_
       (case aP => exact k26_mkM _ _ _ (⟨y161⟩ : S26) (Kd.R_mono (Kd.R_tight rfl (Kd.R_mono (ok' := fun k_ => ((fun k_ => k_ ≠ gb153)) k_ ∧ some k_ ≠ (u5 : Value).ownBlock) (Kd.R_apart' (HO163.out) (Kd.S_typed HO_5.out) (by decide)) (fun k_ hk => ⟨hk.1, hk.2⟩))) (fun _ h_ => h_)))
       (case aB => exact (hbT HB.out))
       (case aF => exact (fun k_ hk => Kd.freshB (g := gb153) (o := .cells #[.int .u8 a0_0, .int .u8 a0_1] 87 (0, 0)) (bkT BK153.out) k_ hk))
       (case aO => exact (by (with_reducible repeat (first | apply Kd.S_alloc | apply Kd.S_drewN | apply Kd.S_drew)); exact Kd.S_mono HO_5.out (fun k_ hk => ⟨hk.1, fun e_ => hk.2 e_⟩)))
       (case aS => exact (below_size (hbT HB.out)))
       (case aL => have := LMc9.out; omega)
       intro v165 w15 ho hb hg hat
       rw [← Ny164.out] at ho; replace BK153 := asT (blk_grown (g := gb153) (o := .cells #[.int .u8 a0_0, .int .u8 a0_1] 87 (0, 0)) (bkT BK153.out) hg (Kd.S_ne HO_5.out BK153.out (by decide))); replace HB := asT (hb); have HO166 := asT (ho); clear HO_5 HO163 ho hb hg hat
       refine hK.out _ _ ⟨bc0 BK153.out, bc1 BK153.out, (hbc HB.out hw160_0 :)⟩ (fun hHeld => ?_)
       clear hK K
       refine nB 25 ?_ rfl; refine pA 12 5 13 8191 HT_.out ?_ rfl rfl
       refine done_ (done_of HT_.out (by kernel_rfl)) ?_
       try go_wp2
       go_roundg k1
       case measure => have := HK1.out; omega
       case rel => exact ⟨(y164), (wrap64 (x6_1 + 1)), rdT, H', ⟨by have := HK1.out; omega⟩, ⟨by (with_reducible repeat (first | apply Kd.S_alloc | apply Kd.S_drewN | apply Kd.S_drew)); exact HO166.out⟩, ⟨by (with_reducible repeat (first | refine blk_drewN ?_ _ | refine blk_drew ?_ | refine blk_alloc ?_ _)); exact BK153.out⟩, ⟨hbT HB.out⟩⟩
      ·rw [if_neg c9] at H
       exact absurd H (by simp)
     ·rw [if_neg c8] at H
      exact absurd H (by simp)
    ·rw [if_neg c7] at H
     exact absurd H (by simp)
   ·rw [if_neg c6] at H
    have c6b0 : decide (x6_1 < (l1.length : Int)) = false := decide_eq_false c6
    clear c6
    obtain rfl := Option.some.inj H
    go_wp2
    go_ret
    exact ⟨_, rlT, by (with_reducible repeat (first | apply Kd.S_alloc | apply Kd.S_drewN | apply Kd.S_drew)); exact Kd.S_mono HO_5.out (fun _ hk => trivial), hbT HB.out⟩

/-! ### spec_l7From: function 93 -/
mutual
def spec_l7From.j0 : Nat → ByteArray → Int → Int → List (S26) → Option ((List (S26)))
 | 0, _, _, _, _ => none
 | k + 1, x0, x1, x2, x7 => if x2 = 0 then (some x7) else (if x1 < (x0.size : Int) then ((spec_l7From.f k x0 (wrap64 (x1 + 1)) (wrap64 (x2 - 1))).bind fun t182 => (if 0 ≤ x1 then ((spec_l7Before.f k (bt x0 x1) 0 t182).bind fun t185 => (if x7.length + t185.length < 5864062014805 then ((some (x7 ++ t185 : List (S26))).bind fun y188 => ((spec_SwapVoice.f (bt x0 x1)).bind fun bt191 => (if bt191.2 = true then ((spec_l7Before.f k (bt x0 x1) bt191.1 t182).bind fun t193 => (if y188.length + t193.length < 5864062014805 then (spec_l7From.j1 k x0 x1 x2 (y188 ++ t193)) else (none))) else (spec_l7From.j1 k x0 x1 x2 y188)))) else (none))) else (none))) else (spec_l7From.j1 k x0 x1 x2 x7))
def spec_l7From.j1 : Nat → ByteArray → Int → Int → List (S26) → Option ((List (S26)))
 | 0, _, _, _, _ => none
 | k + 1, x0, x1, x2, x7 => (spec_l7From.f k x0 x1 (wrap64 (x2 - 1))).bind fun t199 => (spec_l7From.l0 k x7 t199 0)
def spec_l7From.l0 : Nat → List (S26) → List (S26) → Int → Option ((List (S26)))
 | 0, _, _, _ => none
 | k + 1, x7, x11, x12 => if x12 < 2 then (if 0 ≤ x12 then ((spec_l7Before.f k 0 (bt (⟨#[116, 105]⟩ : ByteArray) x12) x11).bind fun t202 => (if x7.length + t202.length < 5864062014805 then (spec_l7From.l0 k (x7 ++ t202) x11 (wrap64 (x12 + 1))) else (none))) else (none)) else (some x7)
def spec_l7From.f : Nat → ByteArray → Int → Int → Option ((List (S26)))
 | 0, _, _, _ => none
 | k + 1, a0, a1, a2 => (some (([] : List (S26)) : List (S26))).bind fun y167 => (if a1 = (a0.size : Int) then (if y167.length < 5864062014805 then (spec_l7From.j0 k a0 a1 a2 (y167 ++ [(⟨([] : List (S87))⟩ : S26)])) else (none)) else (if 0 ≤ a1 then (if a1 < (a0.size : Int) then ((spec_l7From.f k a0 (wrap64 (a1 + 1)) a2).bind fun t173 => ((spec_l7Before.f k (bt a0 a1) (bt a0 a1) t173).bind fun t176 => (if y167.length + t176.length < 5864062014805 then (spec_l7From.j0 k a0 a1 a2 (y167 ++ t176)) else (none)))) else (none)) else (none)))
end
theorem spec_l7From.mono_l : ∀ k, (∀ y0 y1 y2, LeO (spec_l7From.f k y0 y1 y2) (spec_l7From.f (k + 1) y0 y1 y2)) ∧ (∀ y0 y1 y2 y3, LeO (spec_l7From.j0 k y0 y1 y2 y3) (spec_l7From.j0 (k + 1) y0 y1 y2 y3)) ∧ (∀ y0 y1 y2 y3, LeO (spec_l7From.j1 k y0 y1 y2 y3) (spec_l7From.j1 (k + 1) y0 y1 y2 y3)) ∧ (∀ y0 y1 y2, LeO (spec_l7From.l0 k y0 y1 y2) (spec_l7From.l0 (k + 1) y0 y1 y2))
 | 0 => ⟨fun _ _ _ r h => by simp [spec_l7From.f] at h, fun _ _ _ _ r h => by simp [spec_l7From.j0] at h, fun _ _ _ _ r h => by simp [spec_l7From.j1] at h, fun _ _ _ r h => by simp [spec_l7From.l0] at h⟩
 | k + 1 => by
  obtain ⟨ih0, ih1, ih2, ih3⟩ := spec_l7From.mono_l k; refine ⟨?_, ?_, ?_, ?_⟩
  ·intro y0 y1 y2
   unfold spec_l7From.f
   with_reducible repeat' first | exact ih0 _ _ _ | exact ih1 _ _ _ _ | exact ih2 _ _ _ _ | exact ih3 _ _ _ | exact spec_l7Before.mono _ _ _ _ | exact LeO.refl _ | exact LeO.none _ | refine LeO.ite ?_ ?_ | refine LeO.bind ?_ (fun _ => ?_)
  ·intro y0 y1 y2 y3
   unfold spec_l7From.j0
   with_reducible repeat' first | exact ih0 _ _ _ | exact ih1 _ _ _ _ | exact ih2 _ _ _ _ | exact ih3 _ _ _ | exact spec_l7Before.mono _ _ _ _ | exact LeO.refl _ | exact LeO.none _ | refine LeO.ite ?_ ?_ | refine LeO.bind ?_ (fun _ => ?_)
  ·intro y0 y1 y2 y3
   unfold spec_l7From.j1
   with_reducible repeat' first | exact ih0 _ _ _ | exact ih1 _ _ _ _ | exact ih2 _ _ _ _ | exact ih3 _ _ _ | exact spec_l7Before.mono _ _ _ _ | exact LeO.refl _ | exact LeO.none _ | refine LeO.ite ?_ ?_ | refine LeO.bind ?_ (fun _ => ?_)
  ·intro y0 y1 y2
   unfold spec_l7From.l0
   with_reducible repeat' first | exact ih0 _ _ _ | exact ih1 _ _ _ _ | exact ih2 _ _ _ _ | exact ih3 _ _ _ | exact spec_l7Before.mono _ _ _ _ | exact LeO.refl _ | exact LeO.none _ | refine LeO.ite ?_ ?_ | refine LeO.bind ?_ (fun _ => ?_)
theorem spec_l7From.mono : ∀ a0 a1 a2 k, LeO (spec_l7From.f k a0 a1 a2) (spec_l7From.f (k + 1) a0 a1 a2) := by
 intro a0 a1 a2 k
 obtain ⟨ih0, ih1, ih2, ih3⟩ := spec_l7From.mono_l k
 exact ih0 a0 a1 a2
def spec_l7From.T4 : Bool × List (List Nat × List Nat) := (true, [([], []), ([], []), ([], []), ([1, 2], [1, 2]), ([], []), ([], []), ([4, 5], [4, 5]), ([3, 6], [3, 6]), ([], []), ([], []), ([9], [9]), ([], []), ([8, 10, 11], [8, 10, 11]), ([7, 12, 12], [7, 12]), ([0, 13, 13], [0, 13]), ([14, 14, 0, 1, 2, 3, 4, 5, 6, 7, 8, 9, 10, 11, 12, 13, 14], [0, 14])])
def spec_l7From.B4 : List Nat := [0, 0, 0, 6, 0, 0, 48, 126, 0, 0, 512, 0, 3840, 8190, 16383, 32767]
theorem spec_l7From.tab4 : rtab .any (opsOf Try.f93 4) = spec_l7From.T4 := by kernel_rfl
theorem spec_l7From.bits4 : waitsOk spec_l7From.T4.2 spec_l7From.B4 = true := by kernel_rfl
set_option maxHeartbeats 8000000 in
set_option maxRecDepth 100000 in
theorem spec_l7From.calls (k : Nat) : ∀ (a0 : ByteArray) (a1 : Int) (a2 : Int) (r : List (S26)) (w : World) (h : spec_l7From.f k a0 a1 a2 = some r),
  Calls Try.prog 93 #[.string a0, .int .i64 a1, .int .i64 a2] w fun e w' => ∃ v0_ : Value, e = .returned (v0_) ∧ Kd.N k26 26 w' w.heap.size (fun k_ => (w.heap.size ≤ k_)) v0_ r ∧ Below w.heap.size w w' := by
 induction k using Nat.strongRecOn with
 | _ k ih =>
 intro a0 a1 a2 r w h
 cases k with
 | zero => exact absurd h (by simp [spec_l7From.f])
 | succ k =>
 simp only [spec_l7From.f] at h
 have hu26 := Try.underlying26; have hu87 := Try.underlying87; have HB := asT (Below.refl w.heap.size w)
 have H : ((some (([] : List (S26)) : List (S26))).bind fun y167 => (if a1 = (a0.size : Int) then (if y167.length < 5864062014805 then (spec_l7From.j0 k a0 a1 a2 (y167 ++ [(⟨([] : List (S87))⟩ : S26)])) else (none)) else (if 0 ≤ a1 then (if a1 < (a0.size : Int) then ((spec_l7From.f k a0 (wrap64 (a1 + 1)) a2).bind fun t173 => ((spec_l7Before.f k (bt a0 a1) (bt a0 a1) t173).bind fun t176 => (if y167.length + t176.length < 5864062014805 then (spec_l7From.j0 k a0 a1 a2 (y167 ++ t176)) else (none)))) else (none)) else (none)))) = some r := h
 clear h; obtain ⟨y167, hy167⟩ : ∃ y_ : List (S26), y_ = (([] : List (S26))) := ⟨_, rfl⟩
 replace H : (if a1 = (a0.size : Int) then (if y167.length < 5864062014805 then (spec_l7From.j0 k a0 a1 a2 (y167 ++ [(⟨([] : List (S87))⟩ : S26)])) else (none)) else (if 0 ≤ a1 then (if a1 < (a0.size : Int) then ((spec_l7From.f k a0 (wrap64 (a1 + 1)) a2).bind fun t173 => ((spec_l7Before.f k (bt a0 a1) (bt a0 a1) t173).bind fun t176 => (if y167.length + t176.length < 5864062014805 then (spec_l7From.j0 k a0 a1 a2 (y167 ++ t176)) else (none)))) else (none)) else (none))) = some r := by first | (rw [hy167]; with_reducible exact H) | (have H2_ := (Option.bind_some _ _).symm.trans H; rw [hy167]; with_reducible exact H2_) | (have H2_ := (Option.bind_some _ _).symm.trans H; with_reducible exact H2_) | with_reducible exact H | (rw [hy167]; exact H) | exact H
 have Ny167 := Aside0.mk hy167; clear hy167; have HC4 := Aside0.mk H; clear H
 go_enter Try.func93, Try.ntmps93
 go_upto_if 17 with (first | ((with_reducible refine gate_dst (N := 13) rfl ?_); refine Kd.N_lit k26 _ 26 ?hg (N' := 13) ?hd (xs := ([] : List (S26))) (inner := []) (ok := (fun k_ => (w.heap.size ≤ k_))) (okp := (fun k_ => (w.heap.size ≤ k_))) ?hr ?hp (fun _ hk => hk) ((show ∀ k_, w.heap.size ≤ k_ → (fun k_ => (w.heap.size ≤ k_)) k_ from fun k_ hk => (Nat.le_trans (below_size (hbT HB.out)) hk)) _ (Nat.le_refl _)) (Below.refl _ _) (Nat.le_refl _) (by simp) ?_; (case hd => rfl); (case hg => rfl); (case hr => first | (go_simp; done) | (go_simp; rfl)); (case hp => exact (Reps.none _ _)); intro v168 w5 ho6 hb hg_ hnew_; clear hg_ hnew_; (first | rw [← Ny167.out] at ho6 | (simp only [Int.reduceToNat] at ho6; rw [← Ny167.out] at ho6)); have HO169 := asT (Kd.N_lower ho6 (below_size (hbT HB.out))); replace HB := hS HB hb; clear hb ho6))
 (try simp only [Act.put, sA, sZ, sS])
 go_cut [7] (fun v7 wc => ∃ (kq : Nat) (x7_3 : List (S26)), Aside0 (spec_l7From.j0 kq a0 a1 a2 x7_3 = some r) ∧ Aside0 (kq ≤ k) ∧ Aside0 (Kd.N k26 26 wc w.heap.size (fun k_ => (w.heap.size ≤ k_)) v7 x7_3) ∧ Aside0 (Below w.heap.size w wc))
 case first =>
  have H := HC4.out; clear HC4
  by_cases c7 : a1 = (a0.size : Int)
  ·rw [if_pos c7] at H
   have c7b0 : (a1 == (a0.size : Int)) = true := beq_iff_eq.mpr c7
   have c7b1 : (a1 != (a0.size : Int)) = false := bne_eq_false_iff_eq.mpr c7
   clear c7
   (first | rw [c7b0] | (simp only [i64_w, i32_w]; rw [c7b0]) | skip)
   by_cases c8 : y167.length < 5864062014805
   ·rw [if_pos c8] at H
    have LMc8 := Aside0.mk c8; clear c8; obtain ⟨y170, hy170⟩ : ∃ y_ : List (S26), y_ = (y167 ++ [(⟨([] : List (S87))⟩ : S26)]) := ⟨_, rfl⟩
    replace H : (spec_l7From.j0 k a0 a1 a2 y170) = some r := by first | (rw [hy170]; with_reducible exact H) | (have H2_ := (Option.bind_some _ _).symm.trans H; rw [hy170]; with_reducible exact H2_) | (have H2_ := (Option.bind_some _ _).symm.trans H; with_reducible exact H2_) | with_reducible exact H | (rw [hy170]; exact H) | exact H
    have Ny170 := Aside0.mk hy170; clear hy170; have H' := Aside0.mk H; clear H
    go_wp2_with (first | ((with_reducible refine gate_builtin (b := .append) (xs := #[.tmp 18, .tmp 20]) rfl ?_); at_builtin; refine Kd.N_append k26 (w0 := w) w.heap.size rfl (.tmp 18) (.tmp 20) 35 26 (.agg #[(.slice none 0 0)]) 24 rfl Try.underlying35 info26 rfl (by decide) (by omega) v168 y167 (⟨([] : List (S87))⟩ : S26) [.slice none 0 0] (fun k_ => (w.heap.size ≤ k_)) (fun k_ => ((fun k_ => (w.heap.size ≤ k_))) k_ ∧ some k_ ≠ (v168 : Value).ownBlock) rfl rfl ?aP (fun _ hk => hk) ?aF ?aO ?aB ?aS ?aL ?_; (case aP => exact (k26_mkF _ _ (⟨([] : List (S87))⟩ : S26) (Nat.le_refl _) (Kd.F_nil _ _ _))); (case aB => exact (hbT HB.out)); (case aF => exact (fun k_ hk => (Nat.le_trans (below_size (hbT HB.out)) hk))); (case aO => exact (by (with_reducible repeat (first | apply Kd.N_alloc | apply Kd.N_drewN | apply Kd.N_drew)); exact HO169.out)); (case aS => exact (below_size (hbT HB.out))); (case aL => have := LMc8.out; omega); intro v171 w9 ho hb hg hat; rw [← Ny170.out] at ho; replace HB := asT (hb); have HO172 := asT (ho); clear HO169 ho hb hg hat))
    go_meet
    case rel => exact ⟨_, (y170), H', ⟨by first | omega | exact Nat.le_refl _⟩, ⟨by (with_reducible repeat (first | apply Kd.N_alloc | apply Kd.N_drewN | apply Kd.N_drew)); exact HO172.out⟩, ⟨hbT HB.out⟩⟩
   ·rw [if_neg c8] at H
    exact absurd H (by simp)
  ·rw [if_neg c7] at H
   have c7b0 : (a1 == (a0.size : Int)) = false := beq_eq_false_iff_ne.mpr c7
   have c7b1 : (a1 != (a0.size : Int)) = true := bne_iff_ne.mpr c7
   (first | rw [c7b0] | (simp only [i64_w, i32_w]; rw [c7b0]) | skip)
   by_cases c10 : 0 ≤ a1
   ·rw [if_pos c10] at H
    have c10b0 : decide (0 ≤ a1) = true := decide_eq_true c10
    clear c10
    by_cases c11 : a1 < (a0.size : Int)
    ·rw [if_pos c11] at H
     have c11b0 : decide (a1 < (a0.size : Int)) = true := decide_eq_true c11
     clear c11; obtain ⟨t173, A14, H⟩ := be H; obtain ⟨t176, A15, H⟩ := be H
     by_cases c16 : y167.length + t176.length < 5864062014805
     ·rw [if_pos c16] at H
      have LMc16 := Aside0.mk c16; clear c16; obtain ⟨y179, hy179⟩ : ∃ y_ : List (S26), y_ = (y167 ++ t176) := ⟨_, rfl⟩
      replace H : (spec_l7From.j0 k a0 a1 a2 y179) = some r := by first | (rw [hy179]; with_reducible exact H) | (have H2_ := (Option.bind_some _ _).symm.trans H; rw [hy179]; with_reducible exact H2_) | (have H2_ := (Option.bind_some _ _).symm.trans H; with_reducible exact H2_) | with_reducible exact H | (rw [hy179]; exact H) | exact H
      have Ny179 := Aside0.mk hy179; clear hy179; have H' := Aside0.mk H; clear H
      try go_wp2
      replace HO169 := asT (Kd.N_drew HO169.out); replace HB := asT (below_drew1 HB.out)
      have p12 : 0 ≤ (a1 : Int) := of_decide_eq_true asmT
      have q12 : a1 < (a0.size : Int) := of_decide_eq_true asmT
      have hx12 := bt_at a0 a1; replace p12 := eq_true p12; replace q12 := eq_true q12
      have p13 : 0 ≤ (a1 : Int) := of_decide_eq_true asmT
      have q13 : a1 < (a0.size : Int) := of_decide_eq_true asmT
      have hx13 := bt_at a0 a1; replace p13 := eq_true p13; replace q13 := eq_true q13
      refine start_ (n := 16) (S := fun w' => True) (ds := []) (bA 16 0) (by kernel_rfl) rfl rfl trivial (fun hHeld => ?_); refine with_tabW spec_l7From.tab4 spec_l7From.bits4 (fun HT_ HW_ => ?_)
      generalize w5.drew = w17 at HO169 HB hHeld ⊢
      refine pA 0 22 16 1 HT_.out ?_ rfl rfl; refine pA 1 23 16 3 HT_.out ?_ rfl rfl; refine pA 2 24 16 7 HT_.out ?_ rfl rfl; refine pA 4 26 16 23 HT_.out ?_ rfl rfl; refine pA 5 27 16 55 HT_.out ?_ rfl rfl; refine pA 8 30 16 311 HT_.out ?_ rfl rfl; refine pA 9 31 16 823 HT_.out ?_ rfl rfl; refine pA 10 32 16 1847 HT_.out ?_ rfl rfl; refine pA 11 33 16 3895 HT_.out ?_ rfl rfl
      refine take_ (i := 3) (N := some 25) (v := ?_) (a' := ?_) (bA 16 3903) rfl rfl (take_ofW HT_.out HW_.out (by kernel_rfl)) (fun _ _ _ h => h) (Or.inl ⟨by rfl, ?_⟩) hHeld ?_ ?_
      rotate_left
      ·intro w' _
       go_simp
       (with_reducible rfl)
      rotate_left
      ·simp only [Act.put, sA, sZ, sS, i64_w, i32_w]
       rfl
      refine take_ (i := 6) (N := some 28) (v := ?_) (a' := ?_) (bA 16 3967) rfl rfl (take_ofW HT_.out HW_.out (by kernel_rfl)) (fun _ _ _ h => h) (Or.inl ⟨by rfl, ?_⟩) hHeld ?_ ?_
      rotate_left
      ·intro w' _
       go_simp
       (with_reducible rfl)
      rotate_left
      ·simp only [Act.put, sA, sZ, sS, i64_w, i32_w]
       rfl
      refine pA 7 29 16 4095 HT_.out ?_ rfl rfl
      refine oA 12 34 16 8191 HT_.out (fun K hK => ?_) rfl rfl
      refine goes_ Try.func93 (by kernel_rfl) rfl #[.string a0, .int .i64 (wrap64 (a1 + 1)), .int .i64 a2] (by rfl) rfl rfl eqT ?_
      (with_reducible refine (ih k (by omega) a0 (wrap64 (a1 + 1)) a2 t173 _ A14.out).mono ?_); rintro e w18 ⟨v174, rfl, ho0, hb⟩; refine ⟨_, rfl, ?_⟩; have HO175 := asT (Kd.N_lower (Kd.N_mono (ok' := fun k_ => (w.heap.size ≤ k_) ∧ some k_ ≠ (v168 : Value).ownBlock) ho0 (fun k_ hk_ => ⟨(Nat.le_trans (below_size (hbT HB.out)) hk_), (Kd.fresh' (Kd.N_lt (by (with_reducible repeat (first | apply Kd.N_alloc | apply Kd.N_drewN | apply Kd.N_drew)); exact HO169.out)) k_ hk_)⟩)) (below_size (hbT HB.out))); replace HO169 := asT (Kd.N_elder' (by (with_reducible repeat (first | apply Kd.N_alloc | apply Kd.N_drewN | apply Kd.N_drew)); exact HO169.out) (Kd.N_base ho0) hb); replace HB := hS HB hb; (try clear hb hb2 hk hi ho0); obtain ⟨Ao19, co19, eo19⟩ := Kd.N_slice HO175.out; (first | subst eo19 | (injection eo19 with f1_ f2_ f3_; have f4_ := f1_.symm; have f5_ := f3_.symm; clear f1_ f2_ f3_; subst f4_; subst f5_))
      refine hK.out _ _ trivial (fun hHeld => ?_)
      clear hK K
      refine nB 34 ?_ rfl
      refine oA 13 35 16 16383 HT_.out (fun K hK => ?_) rfl rfl
      refine goes_ Try.func134 (by kernel_rfl) rfl #[.agg #[.int .u8 (bt a0 a1), .int .u8 (bt a0 a1)], .slice Ao19 t173.length co19] (by rfl) rfl rfl eqT ?_
      (with_reducible refine (spec_l7Before.calls k (bt a0 a1) (bt a0 a1) _ _ t173 t176 _ ?side1 ?side2 A15.out).mono ?_); (case side1 => repeat (first | exact (Kd.N_reads' HO175.out).2.2 | (with_reducible refine Kd.C_alloc ?_ _) | (with_reducible refine Kd.C_drewN ?_ _) | (with_reducible refine Kd.C_drew ?_))); (case side2 => exact (Kd.N_reads' HO175.out).2.1); rintro e w20 ⟨v177, rfl, ho0, hb⟩; refine ⟨_, rfl, ?_⟩; have HO178 := asT (Kd.N_lower (Kd.N_mono (ok' := fun k_ => (w.heap.size ≤ k_) ∧ some k_ ≠ (v168 : Value).ownBlock ∧ some k_ ≠ (.slice Ao19 t173.length co19 : Value).ownBlock) (Kd.S_N (Kd.S_bound ho0)) (fun k_ hk_ => ⟨(Nat.le_trans (below_size (hbT HB.out)) hk_.2.1), (Kd.fresh' (Kd.N_lt (by (with_reducible repeat (first | apply Kd.N_alloc | apply Kd.N_drewN | apply Kd.N_drew)); exact HO169.out)) k_ hk_.2.1), (Kd.fresh' (Kd.N_lt (by (with_reducible repeat (first | apply Kd.N_alloc | apply Kd.N_drewN | apply Kd.N_drew)); exact HO175.out)) k_ hk_.2.1)⟩)) (below_size (hbT HB.out))); replace HO169 := asT (Kd.N_elder' (by (with_reducible repeat (first | apply Kd.N_alloc | apply Kd.N_drewN | apply Kd.N_drew)); exact HO169.out) (Kd.S_base ho0) hb); replace HO175 := asT (Kd.N_elder' (by (with_reducible repeat (first | apply Kd.N_alloc | apply Kd.N_drewN | apply Kd.N_drew)); exact HO175.out) (Kd.S_base ho0) hb); replace HB := hS HB hb; (try clear hb hb2 hk hi ho0); obtain ⟨Ao22, co22, eo22⟩ := Kd.N_slice HO178.out; (first | subst eo22 | (injection eo22 with f1_ f2_ f3_; have f4_ := f1_.symm; have f5_ := f3_.symm; clear f1_ f2_ f3_; subst f4_; subst f5_))
      refine hK.out _ _ trivial (fun hHeld => ?_)
      clear hK K
      refine nB 35 ?_ rfl
      refine oA 14 36 16 32767 HT_.out (fun K hK => ?_) rfl rfl
      refine Kd.N_append_rows_step k26 (w0 := w) w.heap.size (by rfl) (.tmp 22) (.tmp 35) 35 26 (.agg #[(.slice none 0 0)]) 24 rfl Try.underlying35 info26 rfl (by decide) (by omega) v168 y167 t176 _ _ _ (fun k_ => (w.heap.size ≤ k_) ∧ some k_ ≠ (.slice Ao19 t173.length co19 : Value).ownBlock) (fun k_ => ((fun k_ => (w.heap.size ≤ k_) ∧ some k_ ≠ (.slice Ao19 t173.length co19 : Value).ownBlock)) k_ ∧ some k_ ≠ (v168 : Value).ownBlock) rfl rfl ?aO ?aR (fun _ hk => hk) ?aF ?aB ?aS ?aL ?_
      (case aR => exact (by skip; exact Kd.N_F (Kd.N_mono (ok' := (fun k_ => ((fun k_ => (w.heap.size ≤ k_) ∧ some k_ ≠ (.slice Ao19 t173.length co19 : Value).ownBlock)) k_ ∧ some k_ ≠ (v168 : Value).ownBlock)) (HO178.out) (fun k_ hk => ⟨⟨hk.1, hk.2.2⟩, hk.2.1⟩))))
      (case aB => exact (hbT HB.out))
      (case aF => exact (fun k_ hk => ⟨(Nat.le_trans (below_size (hbT HB.out)) hk), Kd.fresh' (Kd.N_lt (by (with_reducible repeat (first | apply Kd.N_alloc | apply Kd.N_drewN | apply Kd.N_drew)); exact HO175.out)) k_ hk⟩))
      (case aO => exact (by (with_reducible repeat (first | apply Kd.N_alloc | apply Kd.N_drewN | apply Kd.N_drew)); exact Kd.N_mono HO169.out (fun _ hk => ⟨hk.1.1, hk.1.2⟩)))
      (case aS => exact (below_size (hbT HB.out)))
      (case aL => have := LMc16.out; omega)
      intro v180 w21 ho hb hg hat
      rw [← Ny179.out] at ho; replace HO175 := asT (Kd.N_afterv (ok := (fun k_ => (w.heap.size ≤ k_) ∧ some k_ ≠ (.slice Ao22 t176.length co22 : Value).ownBlock)) (by (with_reducible repeat (first | apply Kd.N_alloc | apply Kd.N_drewN | apply Kd.N_drew)); exact Kd.N_mono HO175.out (fun _ hk => ⟨⟨hk.1.1, hk.2⟩, hk.1.2⟩)) hg hat); replace HO178 := asT (Kd.N_afterv (ok := (fun k_ => (w.heap.size ≤ k_) ∧ some k_ ≠ (.slice Ao19 t173.length co19 : Value).ownBlock)) (by (with_reducible repeat (first | apply Kd.N_alloc | apply Kd.N_drewN | apply Kd.N_drew)); exact Kd.N_mono HO178.out (fun _ hk => ⟨⟨hk.1, hk.2.2⟩, hk.2.1⟩)) hg hat); replace HB := asT (hb); have HO181 := asT (ho); clear HO169 ho hb hg hat
      refine hK.out _ _ trivial (fun hHeld => ?_)
      clear hK K
      refine nB 36 ?_ rfl; refine pA 15 7 16 65535 HT_.out ?_ rfl rfl
      refine done_ (done_of HT_.out (by kernel_rfl)) ?_
      try go_wp2
      go_meet
      case rel => exact ⟨_, (y179), H', ⟨by first | omega | exact Nat.le_refl _⟩, ⟨by (with_reducible repeat (first | apply Kd.N_alloc | apply Kd.N_drewN | apply Kd.N_drew)); exact Kd.N_mono HO181.out (fun _ hk => hk.1)⟩, ⟨hbT HB.out⟩⟩
     ·rw [if_neg c16] at H
      exact absurd H (by simp)
    ·rw [if_neg c11] at H
     exact absurd H (by simp)
   ·rw [if_neg c10] at H
    exact absurd H (by simp)
 case rest =>
  clear HC4; (try clear c1 p1 q1 hx1 p2 p6 c7 c7b0 c7b1 c8 c9 c10 c10b0 c11 c11b0 p12 q12 hx12 c13 p13 q13 hx13 c16 p12 p13 q12 q13); obtain ⟨kq, x7_3, HA, HJ3, HO_7, HB⟩ := hcut
  cases kq with
  | zero => exact absurd HA.out (by simp [spec_l7From.j0])
  | succ kj3 =>
   have H := HA.out; clear HA
   simp only [spec_l7From.j0] at H
   by_cases c23 : a2 = 0
   ·rw [if_pos c23] at H
    have c23b0 : (a2 == 0) = true := beq_iff_eq.mpr c23
    have c23b1 : (a2 != 0) = false := bne_eq_false_iff_eq.mpr c23
    clear c23
    obtain rfl := Option.some.inj H
    go_wp2
    go_ret
    exact ⟨_, rlT, by (with_reducible repeat (first | apply Kd.N_alloc | apply Kd.N_drewN | apply Kd.N_drew)); exact HO_7.out, hbT HB.out⟩
   ·rw [if_neg c23] at H
    have c23b0 : (a2 == 0) = false := beq_eq_false_iff_ne.mpr c23
    have c23b1 : (a2 != 0) = true := bne_iff_ne.mpr c23
    have HC24 := Aside0.mk H; clear H
    go_upto_if 43 with (fail)
    go_cut [7] (fun v7 wc => ∃ (kq : Nat) (x7_23 : List (S26)), Aside0 (spec_l7From.j1 kq a0 a1 a2 x7_23 = some r) ∧ Aside0 (kq ≤ kj3) ∧ Aside0 (Kd.N k26 26 wc w.heap.size (fun k_ => (w.heap.size ≤ k_)) v7 x7_23) ∧ Aside0 (Below w.heap.size w wc))
    case first =>
     have H := HC24.out; clear HC24
     by_cases c25 : a1 < (a0.size : Int)
     ·rw [if_pos c25] at H
      have c25b0 : decide (a1 < (a0.size : Int)) = true := decide_eq_true c25
      clear c25
      (first | rw [c25b0] | (simp only [i64_w, i32_w]; rw [c25b0]) | skip)
      obtain ⟨t182, A26, H⟩ := be H
      by_cases c27 : 0 ≤ a1
      ·rw [if_pos c27] at H
       have c27b0 : decide (0 ≤ a1) = true := decide_eq_true c27
       clear c27; obtain ⟨t185, A29, H⟩ := be H
       by_cases c30 : x7_3.length + t185.length < 5864062014805
       ·rw [if_pos c30] at H
        have LMc30 := Aside0.mk c30; clear c30; obtain ⟨y188, hy188⟩ : ∃ y_ : List (S26), y_ = (x7_3 ++ t185) := ⟨_, rfl⟩
        replace H : ((spec_SwapVoice.f (bt a0 a1)).bind fun bt191 => (if bt191.2 = true then ((spec_l7Before.f kj3 (bt a0 a1) bt191.1 t182).bind fun t193 => (if y188.length + t193.length < 5864062014805 then (spec_l7From.j1 kj3 a0 a1 a2 (y188 ++ t193)) else (none))) else (spec_l7From.j1 kj3 a0 a1 a2 y188))) = some r := by first | (rw [hy188]; with_reducible exact H) | (have H2_ := (Option.bind_some _ _).symm.trans H; rw [hy188]; with_reducible exact H2_) | (have H2_ := (Option.bind_some _ _).symm.trans H; with_reducible exact H2_) | with_reducible exact H | (rw [hy188]; exact H) | exact H
        have Ny188 := Aside0.mk hy188; clear hy188; replace H := Option.bind_eq_some_iff.mp H; obtain ⟨⟨t191, t192⟩, A320, H⟩ := H; replace H : (if t192 = true then ((spec_l7Before.f kj3 (bt a0 a1) t191 t182).bind fun t193 => (if y188.length + t193.length < 5864062014805 then (spec_l7From.j1 kj3 a0 a1 a2 (y188 ++ t193)) else (none))) else (spec_l7From.j1 kj3 a0 a1 a2 y188)) = some r := H; have A32 := Aside0.mk A320; clear A320
        by_cases c33 : t192 = true
        ·subst c33
         rw [if_pos rfl] at H; obtain ⟨t193, A35, H⟩ := be H
         by_cases c36 : y188.length + t193.length < 5864062014805
         ·rw [if_pos c36] at H
          have LMc36 := Aside0.mk c36; clear c36; obtain ⟨y196, hy196⟩ : ∃ y_ : List (S26), y_ = (y188 ++ t193) := ⟨_, rfl⟩
          replace H : (spec_l7From.j1 kj3 a0 a1 a2 y196) = some r := by first | (rw [hy196]; with_reducible exact H) | (have H2_ := (Option.bind_some _ _).symm.trans H; rw [hy196]; with_reducible exact H2_) | (have H2_ := (Option.bind_some _ _).symm.trans H; with_reducible exact H2_) | with_reducible exact H | (rw [hy196]; exact H) | exact H
          have Ny196 := Aside0.mk hy196; clear hy196; have H' := Aside0.mk H; clear H
          go_wp2_with (first | ((with_reducible refine gate_callee (f := 93) rfl ?_); refine goesL_ (some 49) rfl rfl Try.func93 (by kernel_rfl) rfl #[.string a0, .int .i64 (wrap64 (a1 + 1)), .int .i64 (wrap64 (a2 - 1))] rfl eqT ?_; (with_reducible refine (ih kj3 (by have := HJ3.out; omega) a0 (wrap64 (a1 + 1)) (wrap64 (a2 - 1)) t182 _ A26.out).mono ?_); rintro e w37 ⟨v183, rfl, ho0, hb⟩; refine ⟨_, rfl, ?_⟩; have HO184 := asT (Kd.N_lower (Kd.N_mono (ok' := fun k_ => (w.heap.size ≤ k_) ∧ some k_ ≠ (u7 : Value).ownBlock) ho0 (fun k_ hk_ => ⟨(Nat.le_trans (below_size (hbT HB.out)) hk_), (Kd.fresh' (Kd.N_lt (by (with_reducible repeat (first | apply Kd.N_alloc | apply Kd.N_drewN | apply Kd.N_drew)); exact HO_7.out)) k_ hk_)⟩)) (below_size (hbT HB.out))); replace HO_7 := asT (Kd.N_elder' (by (with_reducible repeat (first | apply Kd.N_alloc | apply Kd.N_drewN | apply Kd.N_drew)); exact HO_7.out) (Kd.N_base ho0) hb); replace HB := hS HB hb; (try clear hb hb2 hk hi ho0); have p28 : 0 ≤ (a1 : Int) := of_decide_eq_true asmT; have q28 : a1 < (a0.size : Int) := of_decide_eq_true asmT; have hx28 := bt_at a0 a1; replace p28 := eq_true p28; replace q28 := eq_true q28; obtain ⟨Ao38, co38, eo38⟩ := Kd.N_slice HO184.out; subst eo38) | ((with_reducible refine gate_callee (f := 134) rfl ?_); refine goesL_ (some 56) rfl rfl Try.func134 (by kernel_rfl) rfl #[.agg #[.int .u8 (bt a0 a1), .int .u8 0], .slice Ao38 t182.length co38] rfl eqT ?_; (with_reducible refine (spec_l7Before.calls kj3 (bt a0 a1) 0 _ _ t182 t185 _ ?side1 ?side2 A29.out).mono ?_); (case side1 => repeat (first | exact (Kd.N_reads' HO184.out).2.2 | (with_reducible refine Kd.C_alloc ?_ _) | (with_reducible refine Kd.C_drewN ?_ _) | (with_reducible refine Kd.C_drew ?_))); (case side2 => exact (Kd.N_reads' HO184.out).2.1); rintro e w39 ⟨v186, rfl, ho0, hb⟩; refine ⟨_, rfl, ?_⟩; have HO187 := asT (Kd.N_lower (Kd.N_mono (ok' := fun k_ => (w.heap.size ≤ k_) ∧ some k_ ≠ (u7 : Value).ownBlock ∧ some k_ ≠ (.slice Ao38 t182.length co38 : Value).ownBlock) (Kd.S_N (Kd.S_bound ho0)) (fun k_ hk_ => ⟨(Nat.le_trans (below_size (hbT HB.out)) hk_.2.1), (Kd.fresh' (Kd.N_lt (by (with_reducible repeat (first | apply Kd.N_alloc | apply Kd.N_drewN | apply Kd.N_drew)); exact HO_7.out)) k_ hk_.2.1), (Kd.fresh' (Kd.N_lt (by (with_reducible repeat (first | apply Kd.N_alloc | apply Kd.N_drewN | apply Kd.N_drew)); exact HO184.out)) k_ hk_.2.1)⟩)) (below_size (hbT HB.out))); replace HO_7 := asT (Kd.N_elder' (by (with_reducible repeat (first | apply Kd.N_alloc | apply Kd.N_drewN | apply Kd.N_drew)); exact HO_7.out) (Kd.S_base ho0) hb); replace HO184 := asT (Kd.N_elder' (by (with_reducible repeat (first | apply Kd.N_alloc | apply Kd.N_drewN | apply Kd.N_drew)); exact HO184.out) (Kd.S_base ho0) hb); replace HB := hS HB hb; (try clear hb hb2 hk hi ho0); obtain ⟨Ao41, co41, eo41⟩ := Kd.N_slice HO187.out; subst eo41) | ((with_reducible refine gate_builtin (b := .append) (xs := #[.tmp 50, .tmp 56]) rfl ?_); at_builtin; refine Kd.N_append_rows k26 (w0 := w) w.heap.size rfl (.tmp 50) (.tmp 56) 35 26 (.agg #[(.slice none 0 0)]) 24 rfl Try.underlying35 info26 rfl (by decide) (by omega) u7 x7_3 t185 _ _ _ (fun k_ => (w.heap.size ≤ k_) ∧ some k_ ≠ (.slice Ao38 t182.length co38 : Value).ownBlock) (fun k_ => ((fun k_ => (w.heap.size ≤ k_) ∧ some k_ ≠ (.slice Ao38 t182.length co38 : Value).ownBlock)) k_ ∧ some k_ ≠ (u7 : Value).ownBlock) rfl rfl ?aO ?aR (fun _ hk => hk) ?aF ?aB ?aS ?aL ?_; (case aR => exact (by skip; exact Kd.N_F (Kd.N_mono (ok' := (fun k_ => ((fun k_ => (w.heap.size ≤ k_) ∧ some k_ ≠ (.slice Ao38 t182.length co38 : Value).ownBlock)) k_ ∧ some k_ ≠ (u7 : Value).ownBlock)) (HO187.out) (fun k_ hk => ⟨⟨hk.1, hk.2.2⟩, hk.2.1⟩)))); (case aB => exact (hbT HB.out)); (case aF => exact (fun k_ hk => ⟨(Nat.le_trans (below_size (hbT HB.out)) hk), Kd.fresh' (Kd.N_lt (by (with_reducible repeat (first | apply Kd.N_alloc | apply Kd.N_drewN | apply Kd.N_drew)); exact HO184.out)) k_ hk⟩)); (case aO => exact (by (with_reducible repeat (first | apply Kd.N_alloc | apply Kd.N_drewN | apply Kd.N_drew)); exact Kd.N_mono HO_7.out (fun _ hk => ⟨hk.1.1, hk.1.2⟩))); (case aS => exact (below_size (hbT HB.out))); (case aL => have := LMc30.out; omega); intro v189 w40 ho hb hg hat; rw [← Ny188.out] at ho; replace HO184 := asT (Kd.N_afterv (ok := (fun k_ => (w.heap.size ≤ k_) ∧ some k_ ≠ (.slice Ao41 t185.length co41 : Value).ownBlock)) (by (with_reducible repeat (first | apply Kd.N_alloc | apply Kd.N_drewN | apply Kd.N_drew)); exact Kd.N_mono HO184.out (fun _ hk => ⟨⟨hk.1.1, hk.2⟩, hk.1.2⟩)) hg hat); replace HO187 := asT (Kd.N_afterv (ok := (fun k_ => (w.heap.size ≤ k_) ∧ some k_ ≠ (.slice Ao38 t182.length co38 : Value).ownBlock)) (by (with_reducible repeat (first | apply Kd.N_alloc | apply Kd.N_drewN | apply Kd.N_drew)); exact Kd.N_mono HO187.out (fun _ hk => ⟨⟨hk.1, hk.2.2⟩, hk.2.1⟩)) hg hat); replace HB := asT (hb); have HO190 := asT (ho); clear HO_7 ho hb hg hat; have p31 : 0 ≤ (a1 : Int) := of_decide_eq_true asmT; have q31 : a1 < (a0.size : Int) := of_decide_eq_true asmT; have hx31 := bt_at a0 a1; replace p31 := eq_true p31; replace q31 := eq_true q31) | ((with_reducible refine gate_callee (f := 84) rfl ?_); refine goesL_ (some 62) rfl rfl Try.func84 (by kernel_rfl) rfl #[.int .u8 (bt a0 a1)] rfl eqT ?_; (with_reducible refine (spec_SwapVoice.calls (bt a0 a1) t191 true _ A32.out).mono ?_); rintro e w' ⟨rfl, ⟨nd, rfl⟩⟩; refine ⟨_, rfl, ?_⟩; have p34 : 0 ≤ (a1 : Int) := of_decide_eq_true asmT; have q34 : a1 < (a0.size : Int) := of_decide_eq_true asmT; have hx34 := bt_at a0 a1; replace p34 := eq_true p34; replace q34 := eq_true q34) | ((with_reducible refine gate_callee (f := 134) rfl ?_); refine goesL_ (some 73) rfl rfl Try.func134 (by kernel_rfl) rfl #[.agg #[.int .u8 (bt a0 a1), .int .u8 t191], .slice Ao38 t182.length co38] rfl eqT ?_; (with_reducible refine (spec_l7Before.calls kj3 (bt a0 a1) t191 _ _ t182 t193 _ ?side1 ?side2 A35.out).mono ?_); (case side1 => repeat (first | exact (Kd.N_reads' HO184.out).2.2 | (with_reducible refine Kd.C_alloc ?_ _) | (with_reducible refine Kd.C_drewN ?_ _) | (with_reducible refine Kd.C_drew ?_))); (case side2 => exact (Kd.N_reads' HO184.out).2.1); rintro e w42 ⟨v194, rfl, ho0, hb⟩; refine ⟨_, rfl, ?_⟩; have HO195 := asT (Kd.N_lower (Kd.N_mono (ok' := fun k_ => (w.heap.size ≤ k_) ∧ some k_ ≠ (.slice Ao38 t182.length co38 : Value).ownBlock ∧ some k_ ≠ (.slice Ao41 t185.length co41 : Value).ownBlock ∧ some k_ ≠ (v189 : Value).ownBlock) (Kd.S_N (Kd.S_bound ho0)) (fun k_ hk_ => ⟨(Nat.le_trans (below_size (hbT HB.out)) hk_.2.1), (Kd.fresh' (Kd.N_lt (by (with_reducible repeat (first | apply Kd.N_alloc | apply Kd.N_drewN | apply Kd.N_drew)); exact HO184.out)) k_ hk_.2.1), (Kd.fresh' (Kd.N_lt (by (with_reducible repeat (first | apply Kd.N_alloc | apply Kd.N_drewN | apply Kd.N_drew)); exact HO187.out)) k_ hk_.2.1), (Kd.fresh' (Kd.N_lt (by (with_reducible repeat (first | apply Kd.N_alloc | apply Kd.N_drewN | apply Kd.N_drew)); exact HO190.out)) k_ hk_.2.1)⟩)) (below_size (hbT HB.out))); replace HO184 := asT (Kd.N_elder' (by (with_reducible repeat (first | apply Kd.N_alloc | apply Kd.N_drewN | apply Kd.N_drew)); exact HO184.out) (Kd.S_base ho0) hb); replace HO187 := asT (Kd.N_elder' (by (with_reducible repeat (first | apply Kd.N_alloc | apply Kd.N_drewN | apply Kd.N_drew)); exact HO187.out) (Kd.S_base ho0) hb); replace HO190 := asT (Kd.N_elder' (by (with_reducible repeat (first | apply Kd.N_alloc | apply Kd.N_drewN | apply Kd.N_drew)); exact HO190.out) (Kd.S_base ho0) hb); replace HB := hS HB hb; (try clear hb hb2 hk hi ho0); obtain ⟨Ao44, co44, eo44⟩ := Kd.N_slice HO195.out; subst eo44) | ((with_reducible refine gate_builtin (b := .append) (xs := #[.tmp 66, .tmp 73]) rfl ?_); at_builtin; refine Kd.N_append_rows k26 (w0 := w) w.heap.size rfl (.tmp 66) (.tmp 73) 35 26 (.agg #[(.slice none 0 0)]) 24 rfl Try.underlying35 info26 rfl (by decide) (by omega) v189 y188 t193 _ _ _ (fun k_ => (w.heap.size ≤ k_) ∧ some k_ ≠ (.slice Ao38 t182.length co38 : Value).ownBlock) (fun k_ => ((fun k_ => (w.heap.size ≤ k_) ∧ some k_ ≠ (.slice Ao38 t182.length co38 : Value).ownBlock)) k_ ∧ some k_ ≠ (v189 : Value).ownBlock) rfl rfl ?aO ?aR (fun _ hk => hk) ?aF ?aB ?aS ?aL ?_; (case aR => exact (by skip; exact Kd.N_F (Kd.N_mono (ok' := (fun k_ => ((fun k_ => (w.heap.size ≤ k_) ∧ some k_ ≠ (.slice Ao38 t182.length co38 : Value).ownBlock)) k_ ∧ some k_ ≠ (v189 : Value).ownBlock)) (HO195.out) (fun k_ hk => ⟨⟨hk.1, hk.2.1⟩, hk.2.2.2⟩)))); (case aB => exact (hbT HB.out)); (case aF => exact (fun k_ hk => ⟨(Nat.le_trans (below_size (hbT HB.out)) hk), Kd.fresh' (Kd.N_lt (by (with_reducible repeat (first | apply Kd.N_alloc | apply Kd.N_drewN | apply Kd.N_drew)); exact HO184.out)) k_ hk⟩)); (case aO => exact (by (with_reducible repeat (first | apply Kd.N_alloc | apply Kd.N_drewN | apply Kd.N_drew)); exact Kd.N_mono HO190.out (fun _ hk => ⟨hk.1.1, hk.1.2⟩))); (case aS => exact (below_size (hbT HB.out))); (case aL => have := LMc36.out; omega); intro v197 w43 ho hb hg hat; rw [← Ny196.out] at ho; replace HO184 := asT (Kd.N_afterv (ok := (fun k_ => (w.heap.size ≤ k_) ∧ some k_ ≠ (.slice Ao41 t185.length co41 : Value).ownBlock ∧ some k_ ≠ (.slice Ao44 t193.length co44 : Value).ownBlock)) (by (with_reducible repeat (first | apply Kd.N_alloc | apply Kd.N_drewN | apply Kd.N_drew)); exact Kd.N_mono HO184.out (fun _ hk => ⟨⟨hk.1.1.1, ⟨hk.1.1.2, hk.2⟩⟩, hk.1.2⟩)) hg hat); replace HO187 := asT (Kd.N_afterv (ok := (fun k_ => (w.heap.size ≤ k_) ∧ some k_ ≠ (.slice Ao38 t182.length co38 : Value).ownBlock ∧ some k_ ≠ (.slice Ao44 t193.length co44 : Value).ownBlock)) (by (with_reducible repeat (first | apply Kd.N_alloc | apply Kd.N_drewN | apply Kd.N_drew)); exact Kd.N_mono HO187.out (fun _ hk => ⟨⟨hk.1.1.1, ⟨hk.1.1.2, hk.2⟩⟩, hk.1.2⟩)) hg hat); replace HO195 := asT (Kd.N_afterv (ok := (fun k_ => (w.heap.size ≤ k_) ∧ some k_ ≠ (.slice Ao38 t182.length co38 : Value).ownBlock ∧ some k_ ≠ (.slice Ao41 t185.length co41 : Value).ownBlock)) (by (with_reducible repeat (first | apply Kd.N_alloc | apply Kd.N_drewN | apply Kd.N_drew)); exact Kd.N_mono HO195.out (fun _ hk => ⟨⟨hk.1, ⟨hk.2.1, hk.2.2.1⟩⟩, hk.2.2.2⟩)) hg hat); replace HB := asT (hb); have HO198 := asT (ho); clear HO190 ho hb hg hat))
          go_meet
          case rel => exact ⟨_, (y196), H', ⟨by have := HJ3.out; first | omega | exact Nat.le_refl _⟩, ⟨by (with_reducible repeat (first | apply Kd.N_alloc | apply Kd.N_drewN | apply Kd.N_drew)); exact Kd.N_mono HO198.out (fun _ hk => hk.1)⟩, ⟨hbT HB.out⟩⟩
         ·rw [if_neg c36] at H
          exact absurd H (by simp)
        ·replace c33 := Bool.eq_false_iff.mpr c33
         subst c33; rw [if_neg nF] at H; have H' := Aside0.mk H; clear H
         go_wp2_with (first | ((with_reducible refine gate_callee (f := 93) rfl ?_); refine goesL_ (some 49) rfl rfl Try.func93 (by kernel_rfl) rfl #[.string a0, .int .i64 (wrap64 (a1 + 1)), .int .i64 (wrap64 (a2 - 1))] rfl eqT ?_; (with_reducible refine (ih kj3 (by have := HJ3.out; omega) a0 (wrap64 (a1 + 1)) (wrap64 (a2 - 1)) t182 _ A26.out).mono ?_); rintro e w45 ⟨v183, rfl, ho0, hb⟩; refine ⟨_, rfl, ?_⟩; have HO184 := asT (Kd.N_lower (Kd.N_mono (ok' := fun k_ => (w.heap.size ≤ k_) ∧ some k_ ≠ (u7 : Value).ownBlock) ho0 (fun k_ hk_ => ⟨(Nat.le_trans (below_size (hbT HB.out)) hk_), (Kd.fresh' (Kd.N_lt (by (with_reducible repeat (first | apply Kd.N_alloc | apply Kd.N_drewN | apply Kd.N_drew)); exact HO_7.out)) k_ hk_)⟩)) (below_size (hbT HB.out))); replace HO_7 := asT (Kd.N_elder' (by (with_reducible repeat (first | apply Kd.N_alloc | apply Kd.N_drewN | apply Kd.N_drew)); exact HO_7.out) (Kd.N_base ho0) hb); replace HB := hS HB hb; (try clear hb hb2 hk hi ho0); have p28 : 0 ≤ (a1 : Int) := of_decide_eq_true asmT; have q28 : a1 < (a0.size : Int) := of_decide_eq_true asmT; have hx28 := bt_at a0 a1; replace p28 := eq_true p28; replace q28 := eq_true q28; obtain ⟨Ao46, co46, eo46⟩ := Kd.N_slice HO184.out; subst eo46) | ((with_reducible refine gate_callee (f := 134) rfl ?_); refine goesL_ (some 56) rfl rfl Try.func134 (by kernel_rfl) rfl #[.agg #[.int .u8 (bt a0 a1), .int .u8 0], .slice Ao46 t182.length co46] rfl eqT ?_; (with_reducible refine (spec_l7Before.calls kj3 (bt a0 a1) 0 _ _ t182 t185 _ ?side1 ?side2 A29.out).mono ?_); (case side1 => repeat (first | exact (Kd.N_reads' HO184.out).2.2 | (with_reducible refine Kd.C_alloc ?_ _) | (with_reducible refine Kd.C_drewN ?_ _) | (with_reducible refine Kd.C_drew ?_))); (case side2 => exact (Kd.N_reads' HO184.out).2.1); rintro e w47 ⟨v186, rfl, ho0, hb⟩; refine ⟨_, rfl, ?_⟩; have HO187 := asT (Kd.N_lower (Kd.N_mono (ok' := fun k_ => (w.heap.size ≤ k_) ∧ some k_ ≠ (u7 : Value).ownBlock ∧ some k_ ≠ (.slice Ao46 t182.length co46 : Value).ownBlock) (Kd.S_N (Kd.S_bound ho0)) (fun k_ hk_ => ⟨(Nat.le_trans (below_size (hbT HB.out)) hk_.2.1), (Kd.fresh' (Kd.N_lt (by (with_reducible repeat (first | apply Kd.N_alloc | apply Kd.N_drewN | apply Kd.N_drew)); exact HO_7.out)) k_ hk_.2.1), (Kd.fresh' (Kd.N_lt (by (with_reducible repeat (first | apply Kd.N_alloc | apply Kd.N_drewN | apply Kd.N_drew)); exact HO184.out)) k_ hk_.2.1)⟩)) (below_size (hbT HB.out))); replace HO_7 := asT (Kd.N_elder' (by (with_reducible repeat (first | apply Kd.N_alloc | apply Kd.N_drewN | apply Kd.N_drew)); exact HO_7.out) (Kd.S_base ho0) hb); replace HO184 := asT (Kd.N_elder' (by (with_reducible repeat (first | apply Kd.N_alloc | apply Kd.N_drewN | apply Kd.N_drew)); exact HO184.out) (Kd.S_base ho0) hb); replace HB := hS HB hb; (try clear hb hb2 hk hi ho0); obtain ⟨Ao49, co49, eo49⟩ := Kd.N_slice HO187.out; subst eo49) | ((with_reducible refine gate_builtin (b := .append) (xs := #[.tmp 50, .tmp 56]) rfl ?_); at_builtin; refine Kd.N_append_rows k26 (w0 := w) w.heap.size rfl (.tmp 50) (.tmp 56) 35 26 (.agg #[(.slice none 0 0)]) 24 rfl Try.underlying35 info26 rfl (by decide) (by omega) u7 x7_3 t185 _ _ _ (fun k_ => (w.heap.size ≤ k_) ∧ some k_ ≠ (.slice Ao46 t182.length co46 : Value).ownBlock) (fun k_ => ((fun k_ => (w.heap.size ≤ k_) ∧ some k_ ≠ (.slice Ao46 t182.length co46 : Value).ownBlock)) k_ ∧ some k_ ≠ (u7 : Value).ownBlock) rfl rfl ?aO ?aR (fun _ hk => hk) ?aF ?aB ?aS ?aL ?_; (case aR => exact (by skip; exact Kd.N_F (Kd.N_mono (ok' := (fun k_ => ((fun k_ => (w.heap.size ≤ k_) ∧ some k_ ≠ (.slice Ao46 t182.length co46 : Value).ownBlock)) k_ ∧ some k_ ≠ (u7 : Value).ownBlock)) (HO187.out) (fun k_ hk => ⟨⟨hk.1, hk.2.2⟩, hk.2.1⟩)))); (case aB => exact (hbT HB.out)); (case aF => exact (fun k_ hk => ⟨(Nat.le_trans (below_size (hbT HB.out)) hk), Kd.fresh' (Kd.N_lt (by (with_reducible repeat (first | apply Kd.N_alloc | apply Kd.N_drewN | apply Kd.N_drew)); exact HO184.out)) k_ hk⟩)); (case aO => exact (by (with_reducible repeat (first | apply Kd.N_alloc | apply Kd.N_drewN | apply Kd.N_drew)); exact Kd.N_mono HO_7.out (fun _ hk => ⟨hk.1.1, hk.1.2⟩))); (case aS => exact (below_size (hbT HB.out))); (case aL => have := LMc30.out; omega); intro v189 w48 ho hb hg hat; rw [← Ny188.out] at ho; replace HO184 := asT (Kd.N_afterv (ok := (fun k_ => (w.heap.size ≤ k_) ∧ some k_ ≠ (.slice Ao49 t185.length co49 : Value).ownBlock)) (by (with_reducible repeat (first | apply Kd.N_alloc | apply Kd.N_drewN | apply Kd.N_drew)); exact Kd.N_mono HO184.out (fun _ hk => ⟨⟨hk.1.1, hk.2⟩, hk.1.2⟩)) hg hat); replace HO187 := asT (Kd.N_afterv (ok := (fun k_ => (w.heap.size ≤ k_) ∧ some k_ ≠ (.slice Ao46 t182.length co46 : Value).ownBlock)) (by (with_reducible repeat (first | apply Kd.N_alloc | apply Kd.N_drewN | apply Kd.N_drew)); exact Kd.N_mono HO187.out (fun _ hk => ⟨⟨hk.1, hk.2.2⟩, hk.2.1⟩)) hg hat); replace HB := asT (hb); have HO190 := asT (ho); clear HO_7 ho hb hg hat; have p31 : 0 ≤ (a1 : Int) := of_decide_eq_true asmT; have q31 : a1 < (a0.size : Int) := of_decide_eq_true asmT; have hx31 := bt_at a0 a1; replace p31 := eq_true p31; replace q31 := eq_true q31) | ((with_reducible refine gate_callee (f := 84) rfl ?_); refine goesL_ (some 62) rfl rfl Try.func84 (by kernel_rfl) rfl #[.int .u8 (bt a0 a1)] rfl eqT ?_; (with_reducible refine (spec_SwapVoice.calls (bt a0 a1) t191 false _ A32.out).mono ?_); rintro e w' ⟨rfl, ⟨nd, rfl⟩⟩; refine ⟨_, rfl, ?_⟩))
         go_meet
         case rel => exact ⟨_, (y188), H', ⟨by have := HJ3.out; first | omega | exact Nat.le_refl _⟩, ⟨by (with_reducible repeat (first | apply Kd.N_alloc | apply Kd.N_drewN | apply Kd.N_drew)); exact Kd.N_mono HO190.out (fun _ hk => hk.1)⟩, ⟨hbT HB.out⟩⟩
       ·rw [if_neg c30] at H
        exact absurd H (by simp)
      ·rw [if_neg c27] at H
       exact absurd H (by simp)
     ·rw [if_neg c25] at H
      have c25b0 : decide (a1 < (a0.size : Int)) = false := decide_eq_false c25
      clear c25
      (first | rw [c25b0] | (simp only [i64_w, i32_w]; rw [c25b0]) | skip)
      have H' := Aside0.mk H; clear H
      go_wp2
      go_meet
      case rel => exact ⟨_, (x7_3), H', ⟨by have := HJ3.out; first | omega | exact Nat.le_refl _⟩, ⟨by (with_reducible repeat (first | apply Kd.N_alloc | apply Kd.N_drewN | apply Kd.N_drew)); exact HO_7.out⟩, ⟨hbT HB.out⟩⟩
    case rest =>
     clear HC24; (try clear c1 p1 q1 hx1 c2 p2 q2 hx2 c3 p3 q3 hx3 p6 c7 c7b0 c7b1 c8 c9 c10 c10b0 c11 c11b0 p12 q12 hx12 c13 p13 q13 hx13 c16 c23 c23b0 c23b1 c25 c25b0 c27 c27b0 p28 q28 hx28 c30 p31 q31 hx31 c33 p34 q34 hx34 c36 p1 p12 p13 p2 p28 p31 p34 p6 q1 q12 q13 q28 q31 q34); obtain ⟨kq, x7_23, HA, HJ23, HO_7, HB⟩ := hcut
     cases kq with
     | zero => exact absurd HA.out (by simp [spec_l7From.j1])
     | succ kj23 =>
      have H := HA.out; clear HA
      simp only [spec_l7From.j1] at H
      obtain ⟨t199, A50, H⟩ := be H; have H' := Aside0.mk H; clear H
      go_wp2_with (first | ((with_reducible refine gate_callee (f := 93) rfl ?_); refine goesL_ (some 79) rfl rfl Try.func93 (by kernel_rfl) rfl #[.string a0, .int .i64 a1, .int .i64 (wrap64 (a2 - 1))] rfl eqT ?_; (with_reducible refine (ih kj23 (by have := HJ3.out; have := HJ23.out; omega) a0 a1 (wrap64 (a2 - 1)) t199 _ A50.out).mono ?_); rintro e w51 ⟨v200, rfl, ho0, hb⟩; refine ⟨_, rfl, ?_⟩; have HO201 := asT (Kd.N_lower (Kd.N_mono (ok' := fun k_ => (w.heap.size ≤ k_) ∧ some k_ ≠ (u7 : Value).ownBlock) ho0 (fun k_ hk_ => ⟨(Nat.le_trans (below_size (hbT HB.out)) hk_), (Kd.fresh' (Kd.N_lt (by (with_reducible repeat (first | apply Kd.N_alloc | apply Kd.N_drewN | apply Kd.N_drew)); exact HO_7.out)) k_ hk_)⟩)) (below_size (hbT HB.out))); replace HO_7 := asT (Kd.N_elder' (by (with_reducible repeat (first | apply Kd.N_alloc | apply Kd.N_drewN | apply Kd.N_drew)); exact HO_7.out) (Kd.N_base ho0) hb); replace HB := hS HB hb; (try clear hb hb2 hk hi ho0)))
      go_loopg [7, 12] kj23 (fun kq v7 v12 w' => ∃ (x7_3 : List (S26)) (x12_3 : Int), v12 = .int .i64 x12_3 ∧ Aside0 (spec_l7From.l0 kq x7_3 t199 x12_3 = some r) ∧ Aside0 (kq ≤ kj23) ∧ Aside0 (Kd.N k26 26 w' w.heap.size (fun k_ => (w.heap.size ≤ k_) ∧ some k_ ≠ (v200 : Value).ownBlock) v7 x7_3) ∧ Aside0 (Kd.N k26 26 w' w.heap.size (fun k_ => (w.heap.size ≤ k_) ∧ some k_ ≠ (v7 : Value).ownBlock) v200 t199) ∧ Aside0 (Below w.heap.size w w'))
      case atStart => exact ⟨(x7_23), (0), rdT, H', ⟨Nat.le_refl _⟩, ⟨by (with_reducible repeat (first | apply Kd.N_alloc | apply Kd.N_drewN | apply Kd.N_drew)); exact HO_7.out⟩, ⟨by (with_reducible repeat (first | apply Kd.N_alloc | apply Kd.N_drewN | apply Kd.N_drew)); exact HO201.out⟩, ⟨hbT HB.out⟩⟩
      case round =>
       clear H'; (try clear c1 p1 q1 hx1 c2 p2 q2 hx2 c3 p3 q3 hx3 p6 c7 c7b0 c7b1 c8 c9 c10 c10b0 c11 c11b0 p12 q12 hx12 c13 p13 q13 hx13 c16 c23 c23b0 c23b1 c25 c25b0 c27 c27b0 p28 q28 hx28 c30 p31 q31 hx31 c33 p34 q34 hx34 c36 p1 p12 p13 p2 p28 p3 p31 p34 p6 q1 q12 q13 q2 q28 q3 q31 q34); obtain ⟨x7_3, x12_3, rfl, HA, HK3, HO_7, HO_11, HB⟩ := hrel
       cases gk with
       | zero => exact absurd HA.out (by simp [spec_l7From.l0])
       | succ k3 =>
        have H := HA.out; clear HA
        simp only [spec_l7From.l0] at H
        by_cases c52 : x12_3 < 2
        ·rw [if_pos c52] at H
         have c52b0 : decide (x12_3 < 2) = true := decide_eq_true c52
         clear c52
         by_cases c53 : 0 ≤ x12_3
         ·rw [if_pos c53] at H
          have c53b0 : decide (0 ≤ x12_3) = true := decide_eq_true c53
          clear c53; obtain ⟨t202, A55, H⟩ := be H
          by_cases c56 : x7_3.length + t202.length < 5864062014805
          ·rw [if_pos c56] at H
           have LMc56 := Aside0.mk c56; clear c56; obtain ⟨y205, hy205⟩ : ∃ y_ : List (S26), y_ = (x7_3 ++ t202) := ⟨_, rfl⟩
           replace H : (spec_l7From.l0 k3 y205 t199 (wrap64 (x12_3 + 1))) = some r := by first | (rw [hy205]; with_reducible exact H) | (have H2_ := (Option.bind_some _ _).symm.trans H; rw [hy205]; with_reducible exact H2_) | (have H2_ := (Option.bind_some _ _).symm.trans H; with_reducible exact H2_) | with_reducible exact H | (rw [hy205]; exact H) | exact H
           have Ny205 := Aside0.mk hy205; clear hy205; have H' := Aside0.mk H; clear H
           have p54 : 0 ≤ (x12_3 : Int) := of_decide_eq_true asmT
           have q54 : x12_3 < (2 : Int) := of_decide_eq_true asmT
           have hx54 := bt_at (⟨#[116, 105]⟩ : ByteArray) x12_3; replace p54 := eq_true p54; replace q54 := eq_true q54; obtain ⟨Ao57, co57, eo57⟩ := Kd.N_slice HO_11.out; subst eo57
           go_wp2_with (first | ((with_reducible refine gate_callee (f := 134) rfl ?_); refine goesL_ (some 89) rfl rfl Try.func134 (by kernel_rfl) rfl #[.agg #[.int .u8 0, .int .u8 (bt (⟨#[116, 105]⟩ : ByteArray) x12_3)], .slice Ao57 t199.length co57] rfl eqT ?_; (with_reducible refine (spec_l7Before.calls k3 0 (bt (⟨#[116, 105]⟩ : ByteArray) x12_3) _ _ t199 t202 _ ?side1 ?side2 A55.out).mono ?_); (case side1 => repeat (first | exact (Kd.N_reads' HO_11.out).2.2 | (with_reducible refine Kd.C_alloc ?_ _) | (with_reducible refine Kd.C_drewN ?_ _) | (with_reducible refine Kd.C_drew ?_))); (case side2 => exact (Kd.N_reads' HO_11.out).2.1); rintro e w58 ⟨v203, rfl, ho0, hb⟩; refine ⟨_, rfl, ?_⟩; have HO204 := asT (Kd.N_lower (Kd.N_mono (ok' := fun k_ => (w.heap.size ≤ k_) ∧ some k_ ≠ (u7 : Value).ownBlock ∧ some k_ ≠ (.slice Ao57 t199.length co57 : Value).ownBlock) (Kd.S_N (Kd.S_bound ho0)) (fun k_ hk_ => ⟨(Nat.le_trans (below_size (hbT HB.out)) hk_.2.1), (Kd.fresh' (Kd.N_lt (by (with_reducible repeat (first | apply Kd.N_alloc | apply Kd.N_drewN | apply Kd.N_drew)); exact HO_7.out)) k_ hk_.2.1), (Kd.fresh' (Kd.N_lt (by (with_reducible repeat (first | apply Kd.N_alloc | apply Kd.N_drewN | apply Kd.N_drew)); exact HO_11.out)) k_ hk_.2.1)⟩)) (below_size (hbT HB.out))); replace HO_7 := asT (Kd.N_elder' (by (with_reducible repeat (first | apply Kd.N_alloc | apply Kd.N_drewN | apply Kd.N_drew)); exact HO_7.out) (Kd.S_base ho0) hb); replace HO_11 := asT (Kd.N_elder' (by (with_reducible repeat (first | apply Kd.N_alloc | apply Kd.N_drewN | apply Kd.N_drew)); exact HO_11.out) (Kd.S_base ho0) hb); replace HB := hS HB hb; (try clear hb hb2 hk hi ho0); obtain ⟨Ao60, co60, eo60⟩ := Kd.N_slice HO204.out; subst eo60) | ((with_reducible refine gate_builtin (b := .append) (xs := #[.tmp 84, .tmp 89]) rfl ?_); at_builtin; refine Kd.N_append_rows k26 (w0 := w) w.heap.size rfl (.tmp 84) (.tmp 89) 35 26 (.agg #[(.slice none 0 0)]) 24 rfl Try.underlying35 info26 rfl (by decide) (by omega) u7 x7_3 t202 _ _ _ (fun k_ => (w.heap.size ≤ k_) ∧ some k_ ≠ (.slice Ao57 t199.length co57 : Value).ownBlock) (fun k_ => ((fun k_ => (w.heap.size ≤ k_) ∧ some k_ ≠ (.slice Ao57 t199.length co57 : Value).ownBlock)) k_ ∧ some k_ ≠ (u7 : Value).ownBlock) rfl rfl ?aO ?aR (fun _ hk => hk) ?aF ?aB ?aS ?aL ?_; (case aR => exact (by skip; exact Kd.N_F (Kd.N_mono (ok' := (fun k_ => ((fun k_ => (w.heap.size ≤ k_) ∧ some k_ ≠ (.slice Ao57 t199.length co57 : Value).ownBlock)) k_ ∧ some k_ ≠ (u7 : Value).ownBlock)) (HO204.out) (fun k_ hk => ⟨⟨hk.1, hk.2.2⟩, hk.2.1⟩)))); (case aB => exact (hbT HB.out)); (case aF => exact (fun k_ hk => ⟨(Nat.le_trans (below_size (hbT HB.out)) hk), Kd.fresh' (Kd.N_lt (by (with_reducible repeat (first | apply Kd.N_alloc | apply Kd.N_drewN | apply Kd.N_drew)); exact HO_11.out)) k_ hk⟩)); (case aO => exact (by (with_reducible repeat (first | apply Kd.N_alloc | apply Kd.N_drewN | apply Kd.N_drew)); exact Kd.N_mono HO_7.out (fun _ hk => ⟨hk.1.1, hk.1.2⟩))); (case aS => exact (below_size (hbT HB.out))); (case aL => have := LMc56.out; omega); intro v206 w59 ho hb hg hat; rw [← Ny205.out] at ho; replace HO_11 := asT (Kd.N_afterv (ok := (fun k_ => (w.heap.size ≤ k_) ∧ some k_ ≠ (.slice Ao60 t202.length co60 : Value).ownBlock)) (by (with_reducible repeat (first | apply Kd.N_alloc | apply Kd.N_drewN | apply Kd.N_drew)); exact Kd.N_mono HO_11.out (fun _ hk => ⟨⟨hk.1.1, hk.2⟩, hk.1.2⟩)) hg hat); replace HO204 := asT (Kd.N_afterv (ok := (fun k_ => (w.heap.size ≤ k_) ∧ some k_ ≠ (.slice Ao57 t199.length co57 : Value).ownBlock)) (by (with_reducible repeat (first | apply Kd.N_alloc | apply Kd.N_drewN | apply Kd.N_drew)); exact Kd.N_mono HO204.out (fun _ hk => ⟨⟨hk.1, hk.2.2⟩, hk.2.1⟩)) hg hat); replace HB := asT (hb); have HO207 := asT (ho); clear HO_7 ho hb hg hat))
           go_roundg k3
           case measure => have := HJ3.out; have := HJ23.out; have := HK3.out; omega
           case rel => exact ⟨(y205), (wrap64 (x12_3 + 1)), rdT, H', ⟨by have := HJ3.out; have := HJ23.out; have := HK3.out; omega⟩, ⟨by (with_reducible repeat (first | apply Kd.N_alloc | apply Kd.N_drewN | apply Kd.N_drew)); exact HO207.out⟩, ⟨by (with_reducible repeat (first | apply Kd.N_alloc | apply Kd.N_drewN | apply Kd.N_drew)); exact Kd.N_mono HO_11.out (fun _ hk => ⟨hk.1.1, hk.2⟩)⟩, ⟨hbT HB.out⟩⟩
          ·rw [if_neg c56] at H
           exact absurd H (by simp)
         ·rw [if_neg c53] at H
          exact absurd H (by simp)
        ·rw [if_neg c52] at H
         have c52b0 : decide (x12_3 < 2) = false := decide_eq_false c52
         clear c52
         obtain rfl := Option.some.inj H
         go_wp2
         go_ret
         exact ⟨_, rlT, by (with_reducible repeat (first | apply Kd.N_alloc | apply Kd.N_drewN | apply Kd.N_drew)); exact Kd.N_mono HO_7.out (fun _ hk => hk.1), hbT HB.out⟩

/-! ### spec_Generate: function 28 -/
def spec_Generate.f (k : Nat) (a0 : ByteArray) : Option ((List (S26))) := (spec_IsForm.f k a0).bind fun t208 => (if t208 = true then (if (a0.size : Int) > 4 then (some (([] : List (S26)))) else ((spec_l7From.f k a0 0 2).bind fun t212 => (some t212))) else (some (([] : List (S26)))))
theorem spec_Generate.mono : ∀ a0 k, LeO (spec_Generate.f k a0) (spec_Generate.f (k + 1) a0) := by
 intro a0 k
 unfold spec_Generate.f
 with_reducible repeat' first | exact spec_IsForm.mono _ _ | exact spec_l7From.mono _ _ _ _ | exact LeO.refl _ | exact LeO.none _ | refine LeO.ite ?_ ?_ | refine LeO.bind ?_ (fun _ => ?_)
set_option maxHeartbeats 8000000 in
set_option maxRecDepth 100000 in
theorem spec_Generate.calls (k : Nat) (a0 : ByteArray) (r : List (S26)) (w : World) (h : spec_Generate.f k a0 = some r) :
  Calls Try.prog 28 #[.string a0] w fun e w' => ∃ v0_ : Value, e = .returned (v0_) ∧ Kd.N k26 26 w' w.heap.size (fun k_ => (w.heap.size ≤ k_)) v0_ r ∧ Below w.heap.size w w' := by
 have HB := asT (Below.refl w.heap.size w); have H := h; unfold spec_Generate.f at H; clear h; obtain ⟨t208, A2, H⟩ := be H
 by_cases c3 : t208 = true
 ·subst c3
  rw [if_pos rfl] at H; have H1 := H; clear H; have H := H1; clear H1
  by_cases c4 : (a0.size : Int) > 4
  ·rw [if_pos c4] at H
   have c4b0 : decide (4 < (a0.size : Int)) = true := decide_eq_true c4
   have c4b1 : decide (4 < a0.size) = true := decide_eq_true (by omega)
   clear c4; obtain ⟨y209, hy209⟩ : ∃ y_ : List (S26), y_ = (([] : List (S26))) := ⟨_, rfl⟩
   replace H : (some y209) = some r := by first | (rw [hy209]; with_reducible exact H) | (have H2_ := (Option.bind_some _ _).symm.trans H; rw [hy209]; with_reducible exact H2_) | (have H2_ := (Option.bind_some _ _).symm.trans H; with_reducible exact H2_) | with_reducible exact H | (rw [hy209]; exact H) | exact H
   have Ny209 := Aside0.mk hy209; clear hy209
   obtain rfl := Option.some.inj H
   go_enter Try.func28, Try.ntmps28
   go_wp2_with (first | ((with_reducible refine gate_callee (f := 86) rfl ?_); refine goesL_ (some 4) rfl rfl Try.func86 (by kernel_rfl) rfl #[.string a0] rfl eqT ?_; (with_reducible refine (spec_IsForm.calls k a0 true _ A2.out).mono ?_); rintro e w' ⟨rfl, ⟨nd, rfl⟩⟩; refine ⟨_, rfl, ?_⟩) | ((with_reducible refine gate_dst (N := 11) rfl ?_); (try (refine gate_guard (by rfl) ?_; dsimp only)); refine Kd.N_lit k26 _ 26 ?hg (N' := 11) ?hd (xs := ([] : List (S26))) (inner := []) (ok := (fun k_ => (w.heap.size ≤ k_))) (okp := (fun k_ => (w.heap.size ≤ k_))) ?hr ?hp (fun _ hk => hk) ((show ∀ k_, w.heap.size ≤ k_ → (fun k_ => (w.heap.size ≤ k_)) k_ from fun k_ hk => (Nat.le_trans (below_size (hbT HB.out)) hk)) _ (Nat.le_refl _)) (Below.refl _ _) (Nat.le_refl _) (by simp) ?_; (case hd => rfl); (case hg => rfl); (case hr => first | (go_simp; done) | (go_simp; rfl)); (case hp => exact (Reps.none _ _)); intro v210 w5 ho6 hb hg_ hnew_; clear hg_ hnew_; (first | rw [← Ny209.out] at ho6 | (simp only [Int.reduceToNat] at ho6; rw [← Ny209.out] at ho6)); have HO211 := asT (Kd.N_lower ho6 (below_size (hbT HB.out))); replace HB := hS HB hb; clear hb ho6))
   go_ret
   exact ⟨_, rlT, by (with_reducible repeat (first | apply Kd.N_alloc | apply Kd.N_drewN | apply Kd.N_drew)); exact HO211.out, hbT HB.out⟩
  ·rw [if_neg c4] at H
   have c4b0 : decide (4 < (a0.size : Int)) = false := decide_eq_false c4
   have c4b1 : decide (4 < a0.size) = false := decide_eq_false (by omega)
   clear c4; obtain ⟨t212, A7, H⟩ := be H
   obtain rfl := Option.some.inj H
   go_enter Try.func28, Try.ntmps28
   go_wp2_with (first | ((with_reducible refine gate_callee (f := 86) rfl ?_); refine goesL_ (some 4) rfl rfl Try.func86 (by kernel_rfl) rfl #[.string a0] rfl eqT ?_; (with_reducible refine (spec_IsForm.calls k a0 true _ A2.out).mono ?_); rintro e w' ⟨rfl, ⟨nd, rfl⟩⟩; refine ⟨_, rfl, ?_⟩) | ((with_reducible refine gate_callee (f := 93) rfl ?_); refine goesL_ (some 13) rfl rfl Try.func93 (by kernel_rfl) rfl #[.string a0, .int .i64 0, .int .i64 2] rfl eqT ?_; (with_reducible refine (spec_l7From.calls k a0 0 2 t212 _ A7.out).mono ?_); rintro e w8 ⟨v213, rfl, ho0, hb⟩; refine ⟨_, rfl, ?_⟩; have HO214 := asT (Kd.N_lower (Kd.N_mono (ok' := fun k_ => (w.heap.size ≤ k_)) ho0 (fun k_ hk_ => (Nat.le_trans (below_size (hbT HB.out)) hk_))) (below_size (hbT HB.out))); replace HB := hS HB hb; (try clear hb hb2 hk hi ho0)))
   go_ret
   exact ⟨_, rlT, by (with_reducible repeat (first | apply Kd.N_alloc | apply Kd.N_drewN | apply Kd.N_drew)); exact HO214.out, hbT HB.out⟩
 ·replace c3 := Bool.eq_false_iff.mpr c3
  subst c3; rw [if_neg nF] at H; obtain ⟨y215, hy215⟩ : ∃ y_ : List (S26), y_ = (([] : List (S26))) := ⟨_, rfl⟩
  replace H : (some y215) = some r := by first | (rw [hy215]; with_reducible exact H) | (have H2_ := (Option.bind_some _ _).symm.trans H; rw [hy215]; with_reducible exact H2_) | (have H2_ := (Option.bind_some _ _).symm.trans H; with_reducible exact H2_) | with_reducible exact H | (rw [hy215]; exact H) | exact H
  have Ny215 := Aside0.mk hy215; clear hy215
  obtain rfl := Option.some.inj H
  go_enter Try.func28, Try.ntmps28
  go_wp2_with (first | ((with_reducible refine gate_callee (f := 86) rfl ?_); refine goesL_ (some 4) rfl rfl Try.func86 (by kernel_rfl) rfl #[.string a0] rfl eqT ?_; (with_reducible refine (spec_IsForm.calls k a0 false _ A2.out).mono ?_); rintro e w' ⟨rfl, ⟨nd, rfl⟩⟩; refine ⟨_, rfl, ?_⟩) | ((with_reducible refine gate_dst (N := 11) rfl ?_); (try (refine gate_guard (by rfl) ?_; dsimp only)); refine Kd.N_lit k26 _ 26 ?hg (N' := 11) ?hd (xs := ([] : List (S26))) (inner := []) (ok := (fun k_ => (w.heap.size ≤ k_))) (okp := (fun k_ => (w.heap.size ≤ k_))) ?hr ?hp (fun _ hk => hk) ((show ∀ k_, w.heap.size ≤ k_ → (fun k_ => (w.heap.size ≤ k_)) k_ from fun k_ hk => (Nat.le_trans (below_size (hbT HB.out)) hk)) _ (Nat.le_refl _)) (Below.refl _ _) (Nat.le_refl _) (by simp) ?_; (case hd => rfl); (case hg => rfl); (case hr => first | (go_simp; done) | (go_simp; rfl)); (case hp => exact (Reps.none _ _)); intro v216 w9 ho10 hb hg_ hnew_; clear hg_ hnew_; (first | rw [← Ny215.out] at ho10 | (simp only [Int.reduceToNat] at ho10; rw [← Ny215.out] at ho10)); have HO217 := asT (Kd.N_lower ho10 (below_size (hbT HB.out))); replace HB := hS HB hb; clear hb ho10))
  go_ret
  exact ⟨_, rlT, by (with_reducible repeat (first | apply Kd.N_alloc | apply Kd.N_drewN | apply Kd.N_drew)); exact HO217.out, hbT HB.out⟩

/-! ### spec_l6Out: function 88 -/
def spec_l6Out.l0 : Nat → List Int → Int → List (S87) → Option (ByteArray)
 | 0, _, _, _ => none
 | k + 1, x3, x4, x219000 => if x4 < (x219000.length : Int) then (if 0 ≤ x4 then (if ((rd_T87 x219000 x4).f1) = 0 then (spec_l6Out.l0 k x3 (wrap64 (x4 + 1)) x219000) else (if x3.length < 140737488355328 then (spec_l6Out.l0 k (x3 ++ [(rd_T87 x219000 x4).f1]) (wrap64 (x4 + 1)) x219000) else (none))) else (none)) else (some (strOfNums x3))
def spec_l6Out.f (k : Nat) (l0_0 : List (S87)) : Option (ByteArray) := spec_l6Out.l0 k (([] : List Int)) 0 l0_0
theorem spec_l6Out.mono_l : ∀ k, (∀ y0 y1 y2, LeO (spec_l6Out.l0 k y0 y1 y2) (spec_l6Out.l0 (k + 1) y0 y1 y2))
 | 0 => fun _ _ _ r h => by simp [spec_l6Out.l0] at h
 | k + 1 => by
  have ih0 := spec_l6Out.mono_l k
  ·intro y0 y1 y2
   unfold spec_l6Out.l0
   with_reducible repeat' first | exact ih0 _ _ _ | exact LeO.refl _ | exact LeO.none _ | refine LeO.ite ?_ ?_ | refine LeO.bind ?_ (fun _ => ?_)
theorem spec_l6Out.mono : ∀ a0 k, LeO (spec_l6Out.f k a0) (spec_l6Out.f (k + 1) a0) := by
 intro a0 k
 have ih0 := spec_l6Out.mono_l k
 unfold spec_l6Out.f
 with_reducible repeat' first | exact ih0 _ _ _ | exact LeO.refl _ | exact LeO.none _ | refine LeO.ite ?_ ?_ | refine LeO.bind ?_ (fun _ => ?_)
set_option maxHeartbeats 8000000 in
set_option maxRecDepth 100000 in
theorem spec_l6Out.calls (k : Nat) (A0_0 : Option Addr) (c0_0 : Nat) (l0_0 : List (S87)) (r : ByteArray) (w : World) (hr0_0 : Kd.C k87 w A0_0 l0_0.length l0_0) (hc0_0 : l0_0.length ≤ c0_0) (h : spec_l6Out.f k l0_0 = some r) :
  Calls Try.prog 88 #[.agg #[.slice A0_0 l0_0.length c0_0]] w fun e w' => e = .returned (.string r) ∧ Below w.heap.size w w' := by
 have hu26 := Try.underlying26; have HR0_0 := Aside0.mk hr0_0; have HC0_0 := Aside0.mk hc0_0; clear hr0_0 hc0_0; have HB := asT (Below.refl w.heap.size w); have H := h; unfold spec_l6Out.f at H; clear h; obtain ⟨y219, hy219⟩ : ∃ y_ : List Int, y_ = (([] : List Int)) := ⟨_, rfl⟩
 replace H : (spec_l6Out.l0 k y219 0 l0_0) = some r := by first | (rw [hy219]; with_reducible exact H) | (have H2_ := (Option.bind_some _ _).symm.trans H; rw [hy219]; with_reducible exact H2_) | (have H2_ := (Option.bind_some _ _).symm.trans H; with_reducible exact H2_) | with_reducible exact H | (rw [hy219]; exact H) | exact H
 have Ny219 := Aside0.mk hy219; clear hy219; have H' := Aside0.mk H; clear H
 go_enter Try.func88, Try.ntmps88
 go_wp2_with (first | ((with_reducible refine gate_dst (N := 1) rfl ?_); refine boxT (N := 1) (cs := #[.slice A0_0 l0_0.length c0_0]) (t := 26) ?_; intro gb218 hg w2 hbox hb; have BK218 := asT hbox; have GW218 := asT (geT hg HB.out); have GE218 := GW218; replace HB := hS HB hb; clear hb hbox hg) | ((with_reducible refine gate_dst (N := 5) rfl ?_); refine Kd.R_lit (Kd.int .u8) _ 5 ?hg (N := 5) ?hd (xs := ([] : List Int)) (inner := []) (ok := fun _ => True) (okp := fun _ => True) ?hr ?hp (fun _ hk => hk) trivial (Below.refl _ _) (Nat.le_refl _) (by simp) ?_; (case hd => rfl); (case hg => rfl); (case hr => first | (go_simp; done) | (go_simp; rfl)); (case hp => exact (Reps.none _ _)); intro v220 w3 ho4 hb hg_ hnew_; clear hg_ hnew_; (first | rw [← Ny219.out] at ho4 | (simp only [Int.reduceToNat] at ho4; rw [← Ny219.out] at ho4)); have HO221 := asT (Kd.R_lower ho4 (below_size (hbT HB.out))); replace BK218 := bS BK218 hb; replace HB := hS HB hb; clear hb ho4))
 go_loopg [3, 4] k (fun kq v3 v4 w' => ∃ (x3_1 : List Int) (x4_1 : Int), v4 = .int .i64 x4_1 ∧ Aside0 (spec_l6Out.l0 kq x3_1 x4_1 l0_0 = some r) ∧ Aside0 (kq ≤ k) ∧ Aside0 (Kd.R (Kd.int .u8) 5 w' w.heap.size (fun _ => True) v3 x3_1) ∧ Aside0 (w'.heap[gb218]? = some (.cells #[(.slice A0_0 l0_0.length c0_0)] 26 (0, 0))) ∧ Aside0 (Below w.heap.size w w'))
 case atStart => exact ⟨(y219), (0), rdT, H', ⟨Nat.le_refl _⟩, ⟨by (with_reducible repeat (first | apply Kd.R_alloc | apply Kd.R_drewN | apply Kd.R_drew)); exact HO221.out⟩, ⟨by (with_reducible repeat (first | refine blk_drewN ?_ _ | refine blk_drew ?_ | refine blk_alloc ?_ _)); exact BK218.out⟩, ⟨hbT HB.out⟩⟩
 case round =>
  clear H'; (try clear p2); obtain ⟨x3_1, x4_1, rfl, HA, HK1, HO_3, BK218, HB⟩ := hrel
  cases gk with
  | zero => exact absurd HA.out (by simp [spec_l6Out.l0])
  | succ k1 =>
   have H := HA.out; clear HA
   simp only [spec_l6Out.l0] at H
   by_cases c5 : x4_1 < (l0_0.length : Int)
   ·rw [if_pos c5] at H
    have c5b0 : decide (x4_1 < (l0_0.length : Int)) = true := decide_eq_true c5
    clear c5
    by_cases c6 : 0 ≤ x4_1
    ·rw [if_pos c6] at H
     have c6b0 : decide (0 ≤ x4_1) = true := decide_eq_true c6
     clear c6
     by_cases c7 : ((rd_T87 l0_0 x4_1).f1) = 0
     ·rw [if_pos c7] at H
      have c7b0 : (((rd_T87 l0_0 x4_1).f1) == 0) = true := beq_iff_eq.mpr c7
      have c7b1 : (((rd_T87 l0_0 x4_1).f1) != 0) = false := bne_eq_false_iff_eq.mpr c7
      clear c7; have H' := Aside0.mk H; clear H
      have hcz8_0 := bc0 BK218.out
      have hfz8_0 := blk_frozen BK218.out 0
      have p222 : 0 ≤ (x4_1 : Int) := of_decide_eq_true asmT
      have q222 : x4_1 < (l0_0.length : Int) := of_decide_eq_true asmT
      obtain ⟨ad222, e222, hx222_0, hx222_1⟩ := at_T87 HR0_0.out x4_1 p222 q222
      cases e222
      replace hx222_0 := hbc HB.out hx222_0; replace hx222_1 := hbc HB.out hx222_1; replace p222 := eq_true p222; replace q222 := eq_true q222
      go_wp2
      go_roundg k1
      case measure => have := HK1.out; omega
      case rel => exact ⟨(x3_1), (wrap64 (x4_1 + 1)), rdT, H', ⟨by have := HK1.out; omega⟩, ⟨by (with_reducible repeat (first | apply Kd.R_alloc | apply Kd.R_drewN | apply Kd.R_drew)); exact HO_3.out⟩, ⟨by (with_reducible repeat (first | refine blk_drewN ?_ _ | refine blk_drew ?_ | refine blk_alloc ?_ _)); exact BK218.out⟩, ⟨hbT HB.out⟩⟩
     ·rw [if_neg c7] at H
      have c7b0 : (((rd_T87 l0_0 x4_1).f1) == 0) = false := beq_eq_false_iff_ne.mpr c7
      have c7b1 : (((rd_T87 l0_0 x4_1).f1) != 0) = true := bne_iff_ne.mpr c7
      by_cases c9 : x3_1.length < 140737488355328
      ·rw [if_pos c9] at H
       have LMc9 := Aside0.mk c9; clear c9; obtain ⟨y224, hy224⟩ : ∃ y_ : List Int, y_ = (x3_1 ++ [(rd_T87 l0_0 x4_1).f1]) := ⟨_, rfl⟩
       replace H : (spec_l6Out.l0 k1 y224 (wrap64 (x4_1 + 1)) l0_0) = some r := by first | (rw [hy224]; with_reducible exact H) | (have H2_ := (Option.bind_some _ _).symm.trans H; rw [hy224]; with_reducible exact H2_) | (have H2_ := (Option.bind_some _ _).symm.trans H; with_reducible exact H2_) | with_reducible exact H | (rw [hy224]; exact H) | exact H
       have Ny224 := Aside0.mk hy224; clear hy224; have H' := Aside0.mk H; clear H
       have hcz10_0 := bc0 BK218.out
       have hfz10_0 := blk_frozen BK218.out 0
       have p222 : 0 ≤ (x4_1 : Int) := of_decide_eq_true asmT
       have q222 : x4_1 < (l0_0.length : Int) := of_decide_eq_true asmT
       obtain ⟨ad222, e222, hx222_0, hx222_1⟩ := at_T87 HR0_0.out x4_1 p222 q222
       cases e222
       replace hx222_0 := hbc HB.out hx222_0; replace hx222_1 := hbc HB.out hx222_1; replace p222 := eq_true p222; replace q222 := eq_true q222
       have p223 : 0 ≤ (x4_1 : Int) := of_decide_eq_true asmT
       have q223 : x4_1 < (l0_0.length : Int) := of_decide_eq_true asmT
       obtain ⟨ad223, e223, hx223_0, hx223_1⟩ := at_T87 HR0_0.out x4_1 p223 q223
       obtain rfl : ad222 = ad223 := (by injection e223)
       replace hx223_0 := hbc HB.out hx223_0; replace hx223_1 := hbc HB.out hx223_1; replace p223 := eq_true p223; replace q223 := eq_true q223
       go_wp2_with (first | ((with_reducible refine gate_builtin (b := .append) (xs := #[.tmp 20, .tmp 27]) rfl ?_); at_builtin; refine Kd.R_append (Kd.int .u8) (w0 := w) w.heap.size rfl (.tmp 20) (.tmp 27) 22 5 (.int .u8 0) 1 rfl Try.underlying22 info5 rfl (by decide) (by omega) u3 x3_1 ((rd_T87 l0_0 x4_1).f1) [.int .u8 ((rd_T87 l0_0 x4_1).f1)] (fun _ => True) (fun _ => False) rfl rfl ?aP (fun _ hk => hk.elim) ?aF ?aO ?aB ?aS ?aL ?_; (case aP => exact rfl); (case aB => exact (hbT HB.out)); (case aF => exact (fun _ _ => trivial)); (case aO => exact (roT HO_3.out)); (case aS => exact (below_size (hbT HB.out))); (case aL => have := LMc9.out; omega); intro v225 w11 ho hb hg hat; rw [← Ny224.out] at ho; replace BK218 := asT (blk_grown (g := gb218) (o := .cells #[.slice (some ad222) l0_0.length c0_0] 26 (0, 0)) (bkT BK218.out) hg (Kd.R_ne HO_3.out BK218.out (by decide))); replace HB := asT (hb); have HO226 := asT (ho); clear HO_3 ho hb hg hat))
       go_roundg k1
       case measure => have := HK1.out; omega
       case rel => exact ⟨(y224), (wrap64 (x4_1 + 1)), rdT, H', ⟨by have := HK1.out; omega⟩, ⟨by (with_reducible repeat (first | apply Kd.R_alloc | apply Kd.R_drewN | apply Kd.R_drew)); exact HO226.out⟩, ⟨by (with_reducible repeat (first | refine blk_drewN ?_ _ | refine blk_drew ?_ | refine blk_alloc ?_ _)); exact BK218.out⟩, ⟨hbT HB.out⟩⟩
      ·rw [if_neg c9] at H
       exact absurd H (by simp)
    ·rw [if_neg c6] at H
     exact absurd H (by simp)
   ·rw [if_neg c5] at H
    have c5b0 : decide (x4_1 < (l0_0.length : Int)) = false := decide_eq_false c5
    clear c5
    obtain rfl := Option.some.inj H
    have hcz12_0 := bc0 BK218.out
    have hfz12_0 := blk_frozen BK218.out 0; have hcv13 := own_string (P := Try.prog) Try.underlying22 Try.underlying5 Try.underlying9 (Kd.own_of_R HO_3.out)
    go_wp2
    go_ret
    exact ⟨rlT, hbT HB.out⟩

/-! ### spec_FewestEdits: function 45 -/
def spec_FewestEdits.l0 : Nat → ByteArray → Int → List (S26) → Int → Option (Int)
 | 0, _, _, _, _ => none
 | k + 1, x1, x5, x6, x7 => if x7 < (x6.length : Int) then (if 0 ≤ x7 then ((spec_CountEdits.f k ((rd_T26 x6 x7).f0)).bind fun t231 => ((spec_l6Out.f k ((rd_T26 x6 x7).f0)).bind fun t233 => (if t233.toList = x1.toList then (if x5 < 0 then (spec_FewestEdits.l0 k x1 t231 x6 (wrap64 (x7 + 1))) else (if t231 < x5 then (spec_FewestEdits.l0 k x1 t231 x6 (wrap64 (x7 + 1))) else (spec_FewestEdits.l0 k x1 x5 x6 (wrap64 (x7 + 1))))) else (spec_FewestEdits.l0 k x1 x5 x6 (wrap64 (x7 + 1)))))) else (none)) else (some x5)
def spec_FewestEdits.f (k : Nat) (a0 : ByteArray) (a1 : ByteArray) : Option (Int) := (spec_Generate.f k a0).bind fun t227 => (spec_FewestEdits.l0 k a1 (-1) t227 0)
theorem spec_FewestEdits.mono_l : ∀ k, (∀ y0 y1 y2 y3, LeO (spec_FewestEdits.l0 k y0 y1 y2 y3) (spec_FewestEdits.l0 (k + 1) y0 y1 y2 y3))
 | 0 => fun _ _ _ _ r h => by simp [spec_FewestEdits.l0] at h
 | k + 1 => by
  have ih0 := spec_FewestEdits.mono_l k
  ·intro y0 y1 y2 y3
   unfold spec_FewestEdits.l0
   with_reducible repeat' first | exact ih0 _ _ _ _ | exact spec_CountEdits.mono _ _ | exact spec_Generate.mono _ _ | exact spec_l6Out.mono _ _ | exact LeO.refl _ | exact LeO.none _ | refine LeO.ite ?_ ?_ | refine LeO.bind ?_ (fun _ => ?_)
theorem spec_FewestEdits.mono : ∀ a0 a1 k, LeO (spec_FewestEdits.f k a0 a1) (spec_FewestEdits.f (k + 1) a0 a1) := by
 intro a0 a1 k
 have ih0 := spec_FewestEdits.mono_l k
 unfold spec_FewestEdits.f
 with_reducible repeat' first | exact ih0 _ _ _ _ | exact spec_CountEdits.mono _ _ | exact spec_Generate.mono _ _ | exact spec_l6Out.mono _ _ | exact LeO.refl _ | exact LeO.none _ | refine LeO.ite ?_ ?_ | refine LeO.bind ?_ (fun _ => ?_)
set_option maxHeartbeats 8000000 in
set_option maxRecDepth 100000 in
theorem spec_FewestEdits.calls (k : Nat) (a0 : ByteArray) (a1 : ByteArray) (r : Int) (w : World) (h : spec_FewestEdits.f k a0 a1 = some r) :
  Calls Try.prog 45 #[.string a0, .string a1] w fun e w' => e = .returned (.int .i64 r) ∧ Below w.heap.size w w' := by
 have hu26 := Try.underlying26; have HB := asT (Below.refl w.heap.size w); have H := h; unfold spec_FewestEdits.f at H; clear h; obtain ⟨t227, A3, H⟩ := be H; have H' := Aside0.mk H; clear H
 go_enter Try.func45, Try.ntmps45
 go_wp2_with (first | ((with_reducible refine gate_callee (f := 28) rfl ?_); refine goesL_ (some 10) rfl rfl Try.func28 (by kernel_rfl) rfl #[.string a0] rfl eqT ?_; (with_reducible refine (spec_Generate.calls k a0 t227 _ A3.out).mono ?_); rintro e w4 ⟨v228, rfl, ho0, hb⟩; refine ⟨_, rfl, ?_⟩; have HO229 := asT (Kd.N_lower (Kd.N_mono (ok' := fun k_ => True) ho0 (fun k_ hk_ => trivial)) (below_size (hbT HB.out))); replace HB := hS HB hb; (try clear hb hb2 hk hi ho0)))
 go_loopg [5, 7] k (fun kq v5 v7 w' => ∃ (x5_1 : Int) (x7_1 : Int), v5 = .int .i64 x5_1 ∧ v7 = .int .i64 x7_1 ∧ Aside0 (spec_FewestEdits.l0 kq a1 x5_1 t227 x7_1 = some r) ∧ Aside0 (kq ≤ k) ∧ Aside0 (Kd.N k26 26 w' w.heap.size (fun _ => True) v228 t227) ∧ Aside0 (Below w.heap.size w w'))
 case atStart => exact ⟨((-1)), (0), rdT, rdT, H', ⟨Nat.le_refl _⟩, ⟨by (with_reducible repeat (first | apply Kd.N_alloc | apply Kd.N_drewN | apply Kd.N_drew)); exact HO229.out⟩, ⟨hbT HB.out⟩⟩
 case round =>
  clear H'; (try clear c2 p2 c4); obtain ⟨x5_1, x7_1, rfl, rfl, HA, HK1, HO_6, HB⟩ := hrel
  cases gk with
  | zero => exact absurd HA.out (by simp [spec_FewestEdits.l0])
  | succ k1 =>
   have H := HA.out; clear HA
   simp only [spec_FewestEdits.l0] at H
   by_cases c5 : x7_1 < (t227.length : Int)
   ·rw [if_pos c5] at H
    have c5b0 : decide (x7_1 < (t227.length : Int)) = true := decide_eq_true c5
    clear c5
    by_cases c6 : 0 ≤ x7_1
    ·rw [if_pos c6] at H
     have c6b0 : decide (0 ≤ x7_1) = true := decide_eq_true c6
     clear c6; obtain ⟨t231, A7, H⟩ := be H; obtain ⟨t233, A8, H⟩ := be H
     by_cases c9 : t233.toList = a1.toList
     ·rw [if_pos c9] at H
      have c9b0 : (t233.toList == a1.toList) = true := beq_iff_eq.mpr c9
      have c9b1 : (t233.toList != a1.toList) = false := bne_eq_false_iff_eq.mpr c9
      clear c9
      by_cases c10 : x5_1 < 0
      ·rw [if_pos c10] at H
       have c10b0 : decide (x5_1 < 0) = true := decide_eq_true c10
       clear c10; have H' := Aside0.mk H; clear H; obtain ⟨Ao11, co11, eo11⟩ := Kd.N_slice HO_6.out; subst eo11
       have p230 : 0 ≤ (x7_1 : Int) := of_decide_eq_true asmT
       have q230 : x7_1 < (t227.length : Int) := of_decide_eq_true asmT
       obtain ⟨ad230, A230_0, c230_0, e230, hx230_0, hl230_0, hi230_0⟩ := at_T26 (Kd.N_reads' HO_6.out).2.2 x7_1 p230 q230
       cases e230
       obtain ⟨ce230, hce230, hMe230, hcc230⟩ := Kd.N_get HO_6.out z26 x7_1 p230 (by first | exact q230 | exact of_decide_eq_true asmT | (have e_ := (Kd.N_reads' HO_6.out).1; omega)); obtain ⟨ua230_0, uc230_0, rfl, ul230_0, ge230_0⟩ := k26_openF hMe230; have hv230_0 := hcc230 0 _ rfl; rw [Nat.add_zero, show (k26).sz = 1 from rfl, Nat.mul_one] at hv230_0; replace hv230_0 := Option.some.inj (hv230_0.symm.trans hx230_0)
       injection hv230_0 with hva_ hvn_ hvc_
       rw [hva_] at ge230_0; rw [hvc_] at ul230_0; have HL230_0 := asT (show Kd.V k87 87 _ w.heap.size _ _ ((rd_T26 t227 x7_1).f0) from Kd.V_mk ul230_0 ge230_0); clear hva_ hvn_ hvc_ ge230_0 ul230_0 hcc230 hce230; have HR230_0 := Aside0.mk hi230_0; have HC230_0 := Aside0.mk hl230_0; clear hi230_0 hl230_0; replace p230 := eq_true p230; replace q230 := eq_true q230
       go_wp2_with (first | ((with_reducible refine gate_callee (f := 25) rfl ?_); refine goesL_ (some 21) rfl rfl Try.func25 (by kernel_rfl) rfl #[.agg #[.slice A230_0 ((rd_T26 t227 x7_1).f0).length c230_0]] rfl eqT ?_; (with_reducible refine (spec_CountEdits.calls k1 _ _ ((rd_T26 t227 x7_1).f0) t231 _ ?side1 ?side2 A7.out).mono ?_); (case side1 => repeat (first | exact (by repeat (first | (with_reducible exact HR230_0.out) | (with_reducible refine Kd.C_alloc ?_ _) | (with_reducible refine Kd.C_drewN ?_ _) | (with_reducible refine Kd.C_drew ?_) | exact HR230_0.out)) | (with_reducible refine Kd.C_alloc ?_ _) | (with_reducible refine Kd.C_drewN ?_ _) | (with_reducible refine Kd.C_drew ?_))); (case side2 => exact HC230_0.out); rintro e w12 ⟨rfl, hb⟩; refine ⟨_, rfl, ?_⟩; replace HO_6 := asT (Kd.N_below (by (with_reducible repeat (first | apply Kd.N_alloc | apply Kd.N_drewN | apply Kd.N_drew)); exact HO_6.out) hb); replace HL230_0 := asT (Kd.V_below (by (with_reducible repeat (first | apply Kd.V_alloc | apply Kd.V_drewN | apply Kd.V_drew)); exact HL230_0.out) hb); replace HR230_0 := asT (Kd.C_below (by repeat (first | (with_reducible exact HR230_0.out) | (with_reducible refine Kd.C_alloc ?_ _) | (with_reducible refine Kd.C_drewN ?_ _) | (with_reducible refine Kd.C_drew ?_) | exact HR230_0.out)) hb); replace HB := hS HB hb; (try clear hb hb2 hk hi); have p232 : 0 ≤ (x7_1 : Int) := of_decide_eq_true asmT; have q232 : x7_1 < (t227.length : Int) := of_decide_eq_true asmT; obtain ⟨ad232, A232_0, c232_0, e232, hx232_0, hl232_0, hi232_0⟩ := at_T26 (Kd.N_reads' HO_6.out).2.2 x7_1 p232 q232; obtain rfl : ad230 = ad232 := (by injection e232); obtain ⟨ce232, hce232, hMe232, hcc232⟩ := Kd.N_get HO_6.out z26 x7_1 p232 (by first | exact q232 | exact of_decide_eq_true asmT | (have e_ := (Kd.N_reads' HO_6.out).1; omega)); obtain ⟨ua232_0, uc232_0, rfl, ul232_0, ge232_0⟩ := k26_openF hMe232; have hv232_0 := hcc232 0 _ rfl; rw [Nat.add_zero, show (k26).sz = 1 from rfl, Nat.mul_one] at hv232_0; replace hv232_0 := Option.some.inj (hv232_0.symm.trans hx232_0); injection hv232_0 with hva_ hvn_ hvc_; rw [hva_] at ge232_0; rw [hvc_] at ul232_0; have HL232_0 := asT (show Kd.V k87 87 _ w.heap.size _ _ ((rd_T26 t227 x7_1).f0) from Kd.V_mk ul232_0 ge232_0); clear hva_ hvn_ hvc_ ge232_0 ul232_0 hcc232 hce232; have HR232_0 := Aside0.mk hi232_0; have HC232_0 := Aside0.mk hl232_0; clear hi232_0 hl232_0; replace p232 := eq_true p232; replace q232 := eq_true q232) | ((with_reducible refine gate_callee (f := 88) rfl ?_); refine goesL_ (some 26) rfl rfl Try.func88 (by kernel_rfl) rfl #[.agg #[.slice A232_0 ((rd_T26 t227 x7_1).f0).length c232_0]] rfl eqT ?_; (with_reducible refine (spec_l6Out.calls k1 _ _ ((rd_T26 t227 x7_1).f0) t233 _ ?side1 ?side2 A8.out).mono ?_); (case side1 => repeat (first | exact (by repeat (first | (with_reducible exact HR232_0.out) | (with_reducible refine Kd.C_alloc ?_ _) | (with_reducible refine Kd.C_drewN ?_ _) | (with_reducible refine Kd.C_drew ?_) | exact HR232_0.out)) | (with_reducible refine Kd.C_alloc ?_ _) | (with_reducible refine Kd.C_drewN ?_ _) | (with_reducible refine Kd.C_drew ?_))); (case side2 => exact HC232_0.out); rintro e w13 ⟨rfl, hb⟩; refine ⟨_, rfl, ?_⟩; replace HO_6 := asT (Kd.N_below (by (with_reducible repeat (first | apply Kd.N_alloc | apply Kd.N_drewN | apply Kd.N_drew)); exact HO_6.out) hb); replace HL230_0 := asT (Kd.V_below (by (with_reducible repeat (first | apply Kd.V_alloc | apply Kd.V_drewN | apply Kd.V_drew)); exact HL230_0.out) hb); replace HL232_0 := asT (Kd.V_below (by (with_reducible repeat (first | apply Kd.V_alloc | apply Kd.V_drewN | apply Kd.V_drew)); exact HL232_0.out) hb); replace HR230_0 := asT (Kd.C_below (by repeat (first | (with_reducible exact HR230_0.out) | (with_reducible refine Kd.C_alloc ?_ _) | (with_reducible refine Kd.C_drewN ?_ _) | (with_reducible refine Kd.C_drew ?_) | exact HR230_0.out)) hb); replace HR232_0 := asT (Kd.C_below (by repeat (first | (with_reducible exact HR232_0.out) | (with_reducible refine Kd.C_alloc ?_ _) | (with_reducible refine Kd.C_drewN ?_ _) | (with_reducible refine Kd.C_drew ?_) | exact HR232_0.out)) hb); replace HB := hS HB hb; (try clear hb hb2 hk hi)))
       go_roundg k1
       case measure => have := HK1.out; omega
       case rel => exact ⟨(t231), (wrap64 (x7_1 + 1)), rdT, rdT, H', ⟨by have := HK1.out; omega⟩, ⟨by (with_reducible repeat (first | apply Kd.N_alloc | apply Kd.N_drewN | apply Kd.N_drew)); exact HO_6.out⟩, ⟨hbT HB.out⟩⟩
      ·rw [if_neg c10] at H
       have c10b0 : decide (x5_1 < 0) = false := decide_eq_false c10
       clear c10
       by_cases c14 : t231 < x5_1
       ·rw [if_pos c14] at H
        have c14b0 : decide (t231 < x5_1) = true := decide_eq_true c14
        clear c14; have H' := Aside0.mk H; clear H; obtain ⟨Ao15, co15, eo15⟩ := Kd.N_slice HO_6.out; subst eo15
        have p230 : 0 ≤ (x7_1 : Int) := of_decide_eq_true asmT
        have q230 : x7_1 < (t227.length : Int) := of_decide_eq_true asmT
        obtain ⟨ad230, A230_0, c230_0, e230, hx230_0, hl230_0, hi230_0⟩ := at_T26 (Kd.N_reads' HO_6.out).2.2 x7_1 p230 q230
        cases e230
        obtain ⟨ce230, hce230, hMe230, hcc230⟩ := Kd.N_get HO_6.out z26 x7_1 p230 (by first | exact q230 | exact of_decide_eq_true asmT | (have e_ := (Kd.N_reads' HO_6.out).1; omega)); obtain ⟨ua230_0, uc230_0, rfl, ul230_0, ge230_0⟩ := k26_openF hMe230; have hv230_0 := hcc230 0 _ rfl; rw [Nat.add_zero, show (k26).sz = 1 from rfl, Nat.mul_one] at hv230_0; replace hv230_0 := Option.some.inj (hv230_0.symm.trans hx230_0)
        injection hv230_0 with hva_ hvn_ hvc_
        rw [hva_] at ge230_0; rw [hvc_] at ul230_0; have HL230_0 := asT (show Kd.V k87 87 _ w.heap.size _ _ ((rd_T26 t227 x7_1).f0) from Kd.V_mk ul230_0 ge230_0); clear hva_ hvn_ hvc_ ge230_0 ul230_0 hcc230 hce230; have HR230_0 := Aside0.mk hi230_0; have HC230_0 := Aside0.mk hl230_0; clear hi230_0 hl230_0; replace p230 := eq_true p230; replace q230 := eq_true q230
        go_wp2_with (first | ((with_reducible refine gate_callee (f := 25) rfl ?_); refine goesL_ (some 21) rfl rfl Try.func25 (by kernel_rfl) rfl #[.agg #[.slice A230_0 ((rd_T26 t227 x7_1).f0).length c230_0]] rfl eqT ?_; (with_reducible refine (spec_CountEdits.calls k1 _ _ ((rd_T26 t227 x7_1).f0) t231 _ ?side1 ?side2 A7.out).mono ?_); (case side1 => repeat (first | exact (by repeat (first | (with_reducible exact HR230_0.out) | (with_reducible refine Kd.C_alloc ?_ _) | (with_reducible refine Kd.C_drewN ?_ _) | (with_reducible refine Kd.C_drew ?_) | exact HR230_0.out)) | (with_reducible refine Kd.C_alloc ?_ _) | (with_reducible refine Kd.C_drewN ?_ _) | (with_reducible refine Kd.C_drew ?_))); (case side2 => exact HC230_0.out); rintro e w16 ⟨rfl, hb⟩; refine ⟨_, rfl, ?_⟩; replace HO_6 := asT (Kd.N_below (by (with_reducible repeat (first | apply Kd.N_alloc | apply Kd.N_drewN | apply Kd.N_drew)); exact HO_6.out) hb); replace HL230_0 := asT (Kd.V_below (by (with_reducible repeat (first | apply Kd.V_alloc | apply Kd.V_drewN | apply Kd.V_drew)); exact HL230_0.out) hb); replace HR230_0 := asT (Kd.C_below (by repeat (first | (with_reducible exact HR230_0.out) | (with_reducible refine Kd.C_alloc ?_ _) | (with_reducible refine Kd.C_drewN ?_ _) | (with_reducible refine Kd.C_drew ?_) | exact HR230_0.out)) hb); replace HB := hS HB hb; (try clear hb hb2 hk hi); have p232 : 0 ≤ (x7_1 : Int) := of_decide_eq_true asmT; have q232 : x7_1 < (t227.length : Int) := of_decide_eq_true asmT; obtain ⟨ad232, A232_0, c232_0, e232, hx232_0, hl232_0, hi232_0⟩ := at_T26 (Kd.N_reads' HO_6.out).2.2 x7_1 p232 q232; obtain rfl : ad230 = ad232 := (by injection e232); obtain ⟨ce232, hce232, hMe232, hcc232⟩ := Kd.N_get HO_6.out z26 x7_1 p232 (by first | exact q232 | exact of_decide_eq_true asmT | (have e_ := (Kd.N_reads' HO_6.out).1; omega)); obtain ⟨ua232_0, uc232_0, rfl, ul232_0, ge232_0⟩ := k26_openF hMe232; have hv232_0 := hcc232 0 _ rfl; rw [Nat.add_zero, show (k26).sz = 1 from rfl, Nat.mul_one] at hv232_0; replace hv232_0 := Option.some.inj (hv232_0.symm.trans hx232_0); injection hv232_0 with hva_ hvn_ hvc_; rw [hva_] at ge232_0; rw [hvc_] at ul232_0; have HL232_0 := asT (show Kd.V k87 87 _ w.heap.size _ _ ((rd_T26 t227 x7_1).f0) from Kd.V_mk ul232_0 ge232_0); clear hva_ hvn_ hvc_ ge232_0 ul232_0 hcc232 hce232; have HR232_0 := Aside0.mk hi232_0; have HC232_0 := Aside0.mk hl232_0; clear hi232_0 hl232_0; replace p232 := eq_true p232; replace q232 := eq_true q232) | ((with_reducible refine gate_callee (f := 88) rfl ?_); refine goesL_ (some 26) rfl rfl Try.func88 (by kernel_rfl) rfl #[.agg #[.slice A232_0 ((rd_T26 t227 x7_1).f0).length c232_0]] rfl eqT ?_; (with_reducible refine (spec_l6Out.calls k1 _ _ ((rd_T26 t227 x7_1).f0) t233 _ ?side1 ?side2 A8.out).mono ?_); (case side1 => repeat (first | exact (by repeat (first | (with_reducible exact HR232_0.out) | (with_reducible refine Kd.C_alloc ?_ _) | (with_reducible refine Kd.C_drewN ?_ _) | (with_reducible refine Kd.C_drew ?_) | exact HR232_0.out)) | (with_reducible refine Kd.C_alloc ?_ _) | (with_reducible refine Kd.C_drewN ?_ _) | (with_reducible refine Kd.C_drew ?_))); (case side2 => exact HC232_0.out); rintro e w17 ⟨rfl, hb⟩; refine ⟨_, rfl, ?_⟩; replace HO_6 := asT (Kd.N_below (by (with_reducible repeat (first | apply Kd.N_alloc | apply Kd.N_drewN | apply Kd.N_drew)); exact HO_6.out) hb); replace HL230_0 := asT (Kd.V_below (by (with_reducible repeat (first | apply Kd.V_alloc | apply Kd.V_drewN | apply Kd.V_drew)); exact HL230_0.out) hb); replace HL232_0 := asT (Kd.V_below (by (with_reducible repeat (first | apply Kd.V_alloc | apply Kd.V_drewN | apply Kd.V_drew)); exact HL232_0.out) hb); replace HR230_0 := asT (Kd.C_below (by repeat (first | (with_reducible exact HR230_0.out) | (with_reducible refine Kd.C_alloc ?_ _) | (with_reducible refine Kd.C_drewN ?_ _) | (with_reducible refine Kd.C_drew ?_) | exact HR230_0.out)) hb); replace HR232_0 := asT (Kd.C_below (by repeat (first | (with_reducible exact HR232_0.out) | (with_reducible refine Kd.C_alloc ?_ _) | (with_reducible refine Kd.C_drewN ?_ _) | (with_reducible refine Kd.C_drew ?_) | exact HR232_0.out)) hb); replace HB := hS HB hb; (try clear hb hb2 hk hi)))
        go_roundg k1
        case measure => have := HK1.out; omega
        case rel => exact ⟨(t231), (wrap64 (x7_1 + 1)), rdT, rdT, H', ⟨by have := HK1.out; omega⟩, ⟨by (with_reducible repeat (first | apply Kd.N_alloc | apply Kd.N_drewN | apply Kd.N_drew)); exact HO_6.out⟩, ⟨hbT HB.out⟩⟩
       ·rw [if_neg c14] at H
        have c14b0 : decide (t231 < x5_1) = false := decide_eq_false c14
        clear c14; have H' := Aside0.mk H; clear H; obtain ⟨Ao18, co18, eo18⟩ := Kd.N_slice HO_6.out; subst eo18
        have p230 : 0 ≤ (x7_1 : Int) := of_decide_eq_true asmT
        have q230 : x7_1 < (t227.length : Int) := of_decide_eq_true asmT
        obtain ⟨ad230, A230_0, c230_0, e230, hx230_0, hl230_0, hi230_0⟩ := at_T26 (Kd.N_reads' HO_6.out).2.2 x7_1 p230 q230
        cases e230
        obtain ⟨ce230, hce230, hMe230, hcc230⟩ := Kd.N_get HO_6.out z26 x7_1 p230 (by first | exact q230 | exact of_decide_eq_true asmT | (have e_ := (Kd.N_reads' HO_6.out).1; omega)); obtain ⟨ua230_0, uc230_0, rfl, ul230_0, ge230_0⟩ := k26_openF hMe230; have hv230_0 := hcc230 0 _ rfl; rw [Nat.add_zero, show (k26).sz = 1 from rfl, Nat.mul_one] at hv230_0; replace hv230_0 := Option.some.inj (hv230_0.symm.trans hx230_0)
        injection hv230_0 with hva_ hvn_ hvc_
        rw [hva_] at ge230_0; rw [hvc_] at ul230_0; have HL230_0 := asT (show Kd.V k87 87 _ w.heap.size _ _ ((rd_T26 t227 x7_1).f0) from Kd.V_mk ul230_0 ge230_0); clear hva_ hvn_ hvc_ ge230_0 ul230_0 hcc230 hce230; have HR230_0 := Aside0.mk hi230_0; have HC230_0 := Aside0.mk hl230_0; clear hi230_0 hl230_0; replace p230 := eq_true p230; replace q230 := eq_true q230
        go_wp2_with (first | ((with_reducible refine gate_callee (f := 25) rfl ?_); refine goesL_ (some 21) rfl rfl Try.func25 (by kernel_rfl) rfl #[.agg #[.slice A230_0 ((rd_T26 t227 x7_1).f0).length c230_0]] rfl eqT ?_; (with_reducible refine (spec_CountEdits.calls k1 _ _ ((rd_T26 t227 x7_1).f0) t231 _ ?side1 ?side2 A7.out).mono ?_); (case side1 => repeat (first | exact (by repeat (first | (with_reducible exact HR230_0.out) | (with_reducible refine Kd.C_alloc ?_ _) | (with_reducible refine Kd.C_drewN ?_ _) | (with_reducible refine Kd.C_drew ?_) | exact HR230_0.out)) | (with_reducible refine Kd.C_alloc ?_ _) | (with_reducible refine Kd.C_drewN ?_ _) | (with_reducible refine Kd.C_drew ?_))); (case side2 => exact HC230_0.out); rintro e w19 ⟨rfl, hb⟩; refine ⟨_, rfl, ?_⟩; replace HO_6 := asT (Kd.N_below (by (with_reducible repeat (first | apply Kd.N_alloc | apply Kd.N_drewN | apply Kd.N_drew)); exact HO_6.out) hb); replace HL230_0 := asT (Kd.V_below (by (with_reducible repeat (first | apply Kd.V_alloc | apply Kd.V_drewN | apply Kd.V_drew)); exact HL230_0.out) hb); replace HR230_0 := asT (Kd.C_below (by repeat (first | (with_reducible exact HR230_0.out) | (with_reducible refine Kd.C_alloc ?_ _) | (with_reducible refine Kd.C_drewN ?_ _) | (with_reducible refine Kd.C_drew ?_) | exact HR230_0.out)) hb); replace HB := hS HB hb; (try clear hb hb2 hk hi); have p232 : 0 ≤ (x7_1 : Int) := of_decide_eq_true asmT; have q232 : x7_1 < (t227.length : Int) := of_decide_eq_true asmT; obtain ⟨ad232, A232_0, c232_0, e232, hx232_0, hl232_0, hi232_0⟩ := at_T26 (Kd.N_reads' HO_6.out).2.2 x7_1 p232 q232; obtain rfl : ad230 = ad232 := (by injection e232); obtain ⟨ce232, hce232, hMe232, hcc232⟩ := Kd.N_get HO_6.out z26 x7_1 p232 (by first | exact q232 | exact of_decide_eq_true asmT | (have e_ := (Kd.N_reads' HO_6.out).1; omega)); obtain ⟨ua232_0, uc232_0, rfl, ul232_0, ge232_0⟩ := k26_openF hMe232; have hv232_0 := hcc232 0 _ rfl; rw [Nat.add_zero, show (k26).sz = 1 from rfl, Nat.mul_one] at hv232_0; replace hv232_0 := Option.some.inj (hv232_0.symm.trans hx232_0); injection hv232_0 with hva_ hvn_ hvc_; rw [hva_] at ge232_0; rw [hvc_] at ul232_0; have HL232_0 := asT (show Kd.V k87 87 _ w.heap.size _ _ ((rd_T26 t227 x7_1).f0) from Kd.V_mk ul232_0 ge232_0); clear hva_ hvn_ hvc_ ge232_0 ul232_0 hcc232 hce232; have HR232_0 := Aside0.mk hi232_0; have HC232_0 := Aside0.mk hl232_0; clear hi232_0 hl232_0; replace p232 := eq_true p232; replace q232 := eq_true q232) | ((with_reducible refine gate_callee (f := 88) rfl ?_); refine goesL_ (some 26) rfl rfl Try.func88 (by kernel_rfl) rfl #[.agg #[.slice A232_0 ((rd_T26 t227 x7_1).f0).length c232_0]] rfl eqT ?_; (with_reducible refine (spec_l6Out.calls k1 _ _ ((rd_T26 t227 x7_1).f0) t233 _ ?side1 ?side2 A8.out).mono ?_); (case side1 => repeat (first | exact (by repeat (first | (with_reducible exact HR232_0.out) | (with_reducible refine Kd.C_alloc ?_ _) | (with_reducible refine Kd.C_drewN ?_ _) | (with_reducible refine Kd.C_drew ?_) | exact HR232_0.out)) | (with_reducible refine Kd.C_alloc ?_ _) | (with_reducible refine Kd.C_drewN ?_ _) | (with_reducible refine Kd.C_drew ?_))); (case side2 => exact HC232_0.out); rintro e w20 ⟨rfl, hb⟩; refine ⟨_, rfl, ?_⟩; replace HO_6 := asT (Kd.N_below (by (with_reducible repeat (first | apply Kd.N_alloc | apply Kd.N_drewN | apply Kd.N_drew)); exact HO_6.out) hb); replace HL230_0 := asT (Kd.V_below (by (with_reducible repeat (first | apply Kd.V_alloc | apply Kd.V_drewN | apply Kd.V_drew)); exact HL230_0.out) hb); replace HL232_0 := asT (Kd.V_below (by (with_reducible repeat (first | apply Kd.V_alloc | apply Kd.V_drewN | apply Kd.V_drew)); exact HL232_0.out) hb); replace HR230_0 := asT (Kd.C_below (by repeat (first | (with_reducible exact HR230_0.out) | (with_reducible refine Kd.C_alloc ?_ _) | (with_reducible refine Kd.C_drewN ?_ _) | (with_reducible refine Kd.C_drew ?_) | exact HR230_0.out)) hb); replace HR232_0 := asT (Kd.C_below (by repeat (first | (with_reducible exact HR232_0.out) | (with_reducible refine Kd.C_alloc ?_ _) | (with_reducible refine Kd.C_drewN ?_ _) | (with_reducible refine Kd.C_drew ?_) | exact HR232_0.out)) hb); replace HB := hS HB hb; (try clear hb hb2 hk hi)))
        go_roundg k1
        case measure => have := HK1.out; omega
        case rel => exact ⟨(x5_1), (wrap64 (x7_1 + 1)), rdT, rdT, H', ⟨by have := HK1.out; omega⟩, ⟨by (with_reducible repeat (first | apply Kd.N_alloc | apply Kd.N_drewN | apply Kd.N_drew)); exact HO_6.out⟩, ⟨hbT HB.out⟩⟩
     ·rw [if_neg c9] at H
      have c9b0 : (t233.toList == a1.toList) = false := beq_eq_false_iff_ne.mpr c9
      have c9b1 : (t233.toList != a1.toList) = true := bne_iff_ne.mpr c9
      have H' := Aside0.mk H; clear H; obtain ⟨Ao21, co21, eo21⟩ := Kd.N_slice HO_6.out; subst eo21
      have p230 : 0 ≤ (x7_1 : Int) := of_decide_eq_true asmT
      have q230 : x7_1 < (t227.length : Int) := of_decide_eq_true asmT
      obtain ⟨ad230, A230_0, c230_0, e230, hx230_0, hl230_0, hi230_0⟩ := at_T26 (Kd.N_reads' HO_6.out).2.2 x7_1 p230 q230
      cases e230
      obtain ⟨ce230, hce230, hMe230, hcc230⟩ := Kd.N_get HO_6.out z26 x7_1 p230 (by first | exact q230 | exact of_decide_eq_true asmT | (have e_ := (Kd.N_reads' HO_6.out).1; omega)); obtain ⟨ua230_0, uc230_0, rfl, ul230_0, ge230_0⟩ := k26_openF hMe230; have hv230_0 := hcc230 0 _ rfl; rw [Nat.add_zero, show (k26).sz = 1 from rfl, Nat.mul_one] at hv230_0; replace hv230_0 := Option.some.inj (hv230_0.symm.trans hx230_0)
      injection hv230_0 with hva_ hvn_ hvc_
      rw [hva_] at ge230_0; rw [hvc_] at ul230_0; have HL230_0 := asT (show Kd.V k87 87 _ w.heap.size _ _ ((rd_T26 t227 x7_1).f0) from Kd.V_mk ul230_0 ge230_0); clear hva_ hvn_ hvc_ ge230_0 ul230_0 hcc230 hce230; have HR230_0 := Aside0.mk hi230_0; have HC230_0 := Aside0.mk hl230_0; clear hi230_0 hl230_0; replace p230 := eq_true p230; replace q230 := eq_true q230
      go_wp2_with (first | ((with_reducible refine gate_callee (f := 25) rfl ?_); refine goesL_ (some 21) rfl rfl Try.func25 (by kernel_rfl) rfl #[.agg #[.slice A230_0 ((rd_T26 t227 x7_1).f0).length c230_0]] rfl eqT ?_; (with_reducible refine (spec_CountEdits.calls k1 _ _ ((rd_T26 t227 x7_1).f0) t231 _ ?side1 ?side2 A7.out).mono ?_); (case side1 => repeat (first | exact (by repeat (first | (with_reducible exact HR230_0.out) | (with_reducible refine Kd.C_alloc ?_ _) | (with_reducible refine Kd.C_drewN ?_ _) | (with_reducible refine Kd.C_drew ?_) | exact HR230_0.out)) | (with_reducible refine Kd.C_alloc ?_ _) | (with_reducible refine Kd.C_drewN ?_ _) | (with_reducible refine Kd.C_drew ?_))); (case side2 => exact HC230_0.out); rintro e w22 ⟨rfl, hb⟩; refine ⟨_, rfl, ?_⟩; replace HO_6 := asT (Kd.N_below (by (with_reducible repeat (first | apply Kd.N_alloc | apply Kd.N_drewN | apply Kd.N_drew)); exact HO_6.out) hb); replace HL230_0 := asT (Kd.V_below (by (with_reducible repeat (first | apply Kd.V_alloc | apply Kd.V_drewN | apply Kd.V_drew)); exact HL230_0.out) hb); replace HR230_0 := asT (Kd.C_below (by repeat (first | (with_reducible exact HR230_0.out) | (with_reducible refine Kd.C_alloc ?_ _) | (with_reducible refine Kd.C_drewN ?_ _) | (with_reducible refine Kd.C_drew ?_) | exact HR230_0.out)) hb); replace HB := hS HB hb; (try clear hb hb2 hk hi); have p232 : 0 ≤ (x7_1 : Int) := of_decide_eq_true asmT; have q232 : x7_1 < (t227.length : Int) := of_decide_eq_true asmT; obtain ⟨ad232, A232_0, c232_0, e232, hx232_0, hl232_0, hi232_0⟩ := at_T26 (Kd.N_reads' HO_6.out).2.2 x7_1 p232 q232; obtain rfl : ad230 = ad232 := (by injection e232); obtain ⟨ce232, hce232, hMe232, hcc232⟩ := Kd.N_get HO_6.out z26 x7_1 p232 (by first | exact q232 | exact of_decide_eq_true asmT | (have e_ := (Kd.N_reads' HO_6.out).1; omega)); obtain ⟨ua232_0, uc232_0, rfl, ul232_0, ge232_0⟩ := k26_openF hMe232; have hv232_0 := hcc232 0 _ rfl; rw [Nat.add_zero, show (k26).sz = 1 from rfl, Nat.mul_one] at hv232_0; replace hv232_0 := Option.some.inj (hv232_0.symm.trans hx232_0); injection hv232_0 with hva_ hvn_ hvc_; rw [hva_] at ge232_0; rw [hvc_] at ul232_0; have HL232_0 := asT (show Kd.V k87 87 _ w.heap.size _ _ ((rd_T26 t227 x7_1).f0) from Kd.V_mk ul232_0 ge232_0); clear hva_ hvn_ hvc_ ge232_0 ul232_0 hcc232 hce232; have HR232_0 := Aside0.mk hi232_0; have HC232_0 := Aside0.mk hl232_0; clear hi232_0 hl232_0; replace p232 := eq_true p232; replace q232 := eq_true q232) | ((with_reducible refine gate_callee (f := 88) rfl ?_); refine goesL_ (some 26) rfl rfl Try.func88 (by kernel_rfl) rfl #[.agg #[.slice A232_0 ((rd_T26 t227 x7_1).f0).length c232_0]] rfl eqT ?_; (with_reducible refine (spec_l6Out.calls k1 _ _ ((rd_T26 t227 x7_1).f0) t233 _ ?side1 ?side2 A8.out).mono ?_); (case side1 => repeat (first | exact (by repeat (first | (with_reducible exact HR232_0.out) | (with_reducible refine Kd.C_alloc ?_ _) | (with_reducible refine Kd.C_drewN ?_ _) | (with_reducible refine Kd.C_drew ?_) | exact HR232_0.out)) | (with_reducible refine Kd.C_alloc ?_ _) | (with_reducible refine Kd.C_drewN ?_ _) | (with_reducible refine Kd.C_drew ?_))); (case side2 => exact HC232_0.out); rintro e w23 ⟨rfl, hb⟩; refine ⟨_, rfl, ?_⟩; replace HO_6 := asT (Kd.N_below (by (with_reducible repeat (first | apply Kd.N_alloc | apply Kd.N_drewN | apply Kd.N_drew)); exact HO_6.out) hb); replace HL230_0 := asT (Kd.V_below (by (with_reducible repeat (first | apply Kd.V_alloc | apply Kd.V_drewN | apply Kd.V_drew)); exact HL230_0.out) hb); replace HL232_0 := asT (Kd.V_below (by (with_reducible repeat (first | apply Kd.V_alloc | apply Kd.V_drewN | apply Kd.V_drew)); exact HL232_0.out) hb); replace HR230_0 := asT (Kd.C_below (by repeat (first | (with_reducible exact HR230_0.out) | (with_reducible refine Kd.C_alloc ?_ _) | (with_reducible refine Kd.C_drewN ?_ _) | (with_reducible refine Kd.C_drew ?_) | exact HR230_0.out)) hb); replace HR232_0 := asT (Kd.C_below (by repeat (first | (with_reducible exact HR232_0.out) | (with_reducible refine Kd.C_alloc ?_ _) | (with_reducible refine Kd.C_drewN ?_ _) | (with_reducible refine Kd.C_drew ?_) | exact HR232_0.out)) hb); replace HB := hS HB hb; (try clear hb hb2 hk hi)))
      go_roundg k1
      case measure => have := HK1.out; omega
      case rel => exact ⟨(x5_1), (wrap64 (x7_1 + 1)), rdT, rdT, H', ⟨by have := HK1.out; omega⟩, ⟨by (with_reducible repeat (first | apply Kd.N_alloc | apply Kd.N_drewN | apply Kd.N_drew)); exact HO_6.out⟩, ⟨hbT HB.out⟩⟩
    ·rw [if_neg c6] at H
     exact absurd H (by simp)
   ·rw [if_neg c5] at H
    have c5b0 : decide (x7_1 < (t227.length : Int)) = false := decide_eq_false c5
    clear c5
    obtain rfl := Option.some.inj H
    obtain ⟨Ao24, co24, eo24⟩ := Kd.N_slice HO_6.out; subst eo24
    go_wp2
    go_ret
    exact ⟨rlT, hbT HB.out⟩

/-! ### laws_FnExactFewestEdits: function 7 -/
def laws_FnExactFewestEdits.f (k : Nat) (a0 : ByteArray) (a1 : ByteArray) : Option (Bool) := if (a0.size : Int) > 1048576 then (some true) else (if (a1.size : Int) > 1048576 then (some true) else ((spec_FewestEdits.f k a0 a1).bind fun t234 => ((impl_FewestEdits.f k a0 a1).bind fun t235 => (if t235 = t234 then (some true) else (none)))))
theorem laws_FnExactFewestEdits.mono : ∀ a0 a1 k, LeO (laws_FnExactFewestEdits.f k a0 a1) (laws_FnExactFewestEdits.f (k + 1) a0 a1) := by
 intro a0 a1 k
 unfold laws_FnExactFewestEdits.f
 with_reducible repeat' first | exact impl_FewestEdits.mono _ _ _ | exact spec_FewestEdits.mono _ _ _ | exact LeO.refl _ | exact LeO.none _ | refine LeO.ite ?_ ?_ | refine LeO.bind ?_ (fun _ => ?_)
set_option maxHeartbeats 8000000 in
set_option maxRecDepth 100000 in
theorem laws_FnExactFewestEdits.calls (k : Nat) (a0 : ByteArray) (a1 : ByteArray) (r : Bool) (w : World) (h : laws_FnExactFewestEdits.f k a0 a1 = some r) :
  Calls Try.prog 7 #[.string a0, .string a1] w fun e w' => e = .returned (.bool r) ∧ Below w.heap.size w w' := by
 have HB := asT (Below.refl w.heap.size w); have H := h; unfold laws_FnExactFewestEdits.f at H; clear h
 by_cases c3 : (a0.size : Int) > 1048576
 ·rw [if_pos c3] at H
  have c3b0 : decide (1048576 < (a0.size : Int)) = true := decide_eq_true c3
  have c3b1 : decide (1048576 < a0.size) = true := decide_eq_true (by omega)
  clear c3
  obtain rfl := Option.some.inj H
  go_enter Try.func7, Try.ntmps7
  go_wp2
  go_ret
  exact ⟨rlT, hbT HB.out⟩
 ·rw [if_neg c3] at H
  have c3b0 : decide (1048576 < (a0.size : Int)) = false := decide_eq_false c3
  have c3b1 : decide (1048576 < a0.size) = false := decide_eq_false (by omega)
  clear c3
  by_cases c4 : (a1.size : Int) > 1048576
  ·rw [if_pos c4] at H
   have c4b0 : decide (1048576 < (a1.size : Int)) = true := decide_eq_true c4
   have c4b1 : decide (1048576 < a1.size) = true := decide_eq_true (by omega)
   clear c4
   obtain rfl := Option.some.inj H
   go_enter Try.func7, Try.ntmps7
   go_wp2
   go_ret
   exact ⟨rlT, hbT HB.out⟩
  ·rw [if_neg c4] at H
   have c4b0 : decide (1048576 < (a1.size : Int)) = false := decide_eq_false c4
   have c4b1 : decide (1048576 < a1.size) = false := decide_eq_false (by omega)
   clear c4; obtain ⟨t234, A5, H⟩ := be H; obtain ⟨t235, A6, H⟩ := be H
   by_cases c7 : t235 = t234
   ·rw [if_pos c7] at H
    have c7b0 : (t235 == t234) = true := beq_iff_eq.mpr c7
    have c7b1 : (t235 != t234) = false := bne_eq_false_iff_eq.mpr c7
    clear c7
    obtain rfl := Option.some.inj H
    go_enter Try.func7, Try.ntmps7
    go_wp2_with (first | ((with_reducible refine gate_callee (f := 45) rfl ?_); refine goesL_ (some 15) rfl rfl Try.func45 (by kernel_rfl) rfl #[.string a0, .string a1] rfl eqT ?_; (with_reducible refine (spec_FewestEdits.calls k a0 a1 t234 _ A5.out).mono ?_); rintro e w8 ⟨rfl, hb⟩; refine ⟨_, rfl, ?_⟩; replace HB := hS HB hb; (try clear hb hb2 hk hi)) | ((with_reducible refine gate_callee (f := 39) rfl ?_); refine goesL_ (some 18) rfl rfl Try.func39 (by kernel_rfl) rfl #[.string a0, .string a1] rfl eqT ?_; (with_reducible refine (impl_FewestEdits.calls k a0 a1 t235 _ A6.out).mono ?_); rintro e w9 ⟨rfl, hb⟩; refine ⟨_, rfl, ?_⟩; replace HB := hS HB hb; (try clear hb hb2 hk hi)))
    go_ret
    exact ⟨rlT, hbT HB.out⟩
   ·rw [if_neg c7] at H
    exact absurd H (by simp)


/-- THE ONE PURE STATEMENT of laws_FnExactFewestEdits -/
def laws_FnExactFewestEdits.Pure : Prop := ∀ (a0 : ByteArray) (a1 : ByteArray), BdStr a0 → BdStr a1 → ∃ k, laws_FnExactFewestEdits.f k a0 a1 = some true

end Go.Proofs.Ytmfhaplhgaehhaa.PFnExactFewestEdits
