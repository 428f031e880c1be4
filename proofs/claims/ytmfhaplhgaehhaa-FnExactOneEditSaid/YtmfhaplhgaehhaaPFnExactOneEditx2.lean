-- Made by gen.py (a program of this session) out of the translation; Lean checks it.
import Derived.Test.YtmfhaplhgaehhaaPFnExactOneEditx0
import Derived.Test.YtmfhaplhgaehhaaPFnExactOneEditx1
namespace Go.Proofs.Ytmfhaplhgaehhaa.PFnExactOneEdit
open Go.RowKit Go.Proofs.YtmfhaplhgaehhaaB Go.Proofs.YtmfhaplhgaehhaaW.PrintWords Go.Proofs.YtmfhaplhgaehhaaW.PrintLast Go.Proofs.YtmfhaplhgaehhaaW.PrintMore
attribute [local go_sem] max2_int min2_int max_two min_two max_three min_three max_four min_four   -- for this text's walks alone
set_option linter.unusedVariables false
set_option linter.unusedSimpArgs false

/-! ### spec_IsForm: function 86 -/
def spec_IsForm.f (k : Nat) (a0 : ByteArray) : Option (Bool) := (spec_l2Sounds.f k a0).bind fun t111 => (if t111 = true then (some (decide ((a0.size : Int) ≤ 8))) else (some false))
theorem spec_IsForm.mono : ∀ a0 k, LeO (spec_IsForm.f k a0) (spec_IsForm.f (k + 1) a0) := by
 intro a0 k
 unfold spec_IsForm.f
 with_reducible repeat' first | exact spec_l2Sounds.mono _ _ | exact LeO.refl _ | exact LeO.none _ | refine LeO.ite ?_ ?_ | refine LeO.bind ?_ (fun _ => ?_)
set_option maxHeartbeats 8000000 in
set_option maxRecDepth 100000 in
theorem spec_IsForm.calls (k : Nat) (a0 : ByteArray) (r : Bool) (w : World) (h : spec_IsForm.f k a0 = some r) :
  Calls Try.prog 86 #[.string a0] w fun e w' => e = .returned (.bool r) ∧ Drawn0 w w' := by
 have H := h; unfold spec_IsForm.f at H; clear h; obtain ⟨t111, A2, H⟩ := be H
 by_cases c3 : t111 = true
 ·subst c3
  rw [if_pos rfl] at H; have H1 := H; clear H; have H := H1; clear H1
  obtain rfl := Option.some.inj H
  go_enter Try.func86, Try.ntmps86
  go_wp2_with (first | ((with_reducible refine gate_callee (f := 129) rfl ?_); refine goesL_ (some 4) rfl rfl Try.func129 (by kernel_rfl) rfl #[.string a0] rfl eqT ?_; (with_reducible refine (spec_l2Sounds.calls k a0 true _ A2.out).mono ?_); rintro e w' ⟨rfl, ⟨nd, rfl⟩⟩; refine ⟨_, rfl, ?_⟩))
  go_ret
  exact ⟨rdT, drT⟩
 ·replace c3 := Bool.eq_false_iff.mpr c3
  subst c3; rw [if_neg nF] at H; have H1 := H; clear H; have H := H1; clear H1
  obtain rfl := Option.some.inj H
  go_enter Try.func86, Try.ntmps86
  go_wp2_with (first | ((with_reducible refine gate_callee (f := 129) rfl ?_); refine goesL_ (some 4) rfl rfl Try.func129 (by kernel_rfl) rfl #[.string a0] rfl eqT ?_; (with_reducible refine (spec_l2Sounds.calls k a0 false _ A2.out).mono ?_); rintro e w' ⟨rfl, ⟨nd, rfl⟩⟩; refine ⟨_, rfl, ?_⟩))
  go_ret
  exact ⟨rdT, drT⟩

/-! ### spec_SwapVoice: function 84 -/
def spec_SwapVoice.f (a0 : Int) : Option (Int × Bool) := if a0 = 112 then (some (98, true)) else (if a0 = 98 then (some (112, true)) else (if a0 = 116 then (some (100, true)) else (if a0 = 100 then (some (116, true)) else (some (a0, false)))))
set_option maxHeartbeats 8000000 in
set_option maxRecDepth 100000 in
theorem spec_SwapVoice.calls (a0 : Int) (r1 : Int) (r2 : Bool) (w : World) (h : spec_SwapVoice.f a0 = some (r1, r2)) :
  Calls Try.prog 84 #[.int .u8 a0] w fun e w' => e = .returned (.tuple #[.int .u8 r1, .bool r2]) ∧ Drawn0 w w' := by
 have H := h; unfold spec_SwapVoice.f at H; clear h
 by_cases c2 : a0 = 112
 ·rw [if_pos c2] at H
  have c2b0 : (a0 == 112) = true := beq_iff_eq.mpr c2
  have c2b1 : (a0 != 112) = false := bne_eq_false_iff_eq.mpr c2
  clear c2
  simp only [Option.some.injEq, Prod.mk.injEq] at H
  obtain ⟨rfl, rfl⟩ := H
  go_enter Try.func84, Try.ntmps84
  go_wp2
  go_ret2
  exact ⟨rdT, drT⟩
 ·rw [if_neg c2] at H
  have c2b0 : (a0 == 112) = false := beq_eq_false_iff_ne.mpr c2
  have c2b1 : (a0 != 112) = true := bne_iff_ne.mpr c2
  by_cases c3 : a0 = 98
  ·rw [if_pos c3] at H
   have c3b0 : (a0 == 98) = true := beq_iff_eq.mpr c3
   have c3b1 : (a0 != 98) = false := bne_eq_false_iff_eq.mpr c3
   clear c3
   simp only [Option.some.injEq, Prod.mk.injEq] at H
   obtain ⟨rfl, rfl⟩ := H
   go_enter Try.func84, Try.ntmps84
   go_wp2
   go_ret2
   exact ⟨rdT, drT⟩
  ·rw [if_neg c3] at H
   have c3b0 : (a0 == 98) = false := beq_eq_false_iff_ne.mpr c3
   have c3b1 : (a0 != 98) = true := bne_iff_ne.mpr c3
   by_cases c4 : a0 = 116
   ·rw [if_pos c4] at H
    have c4b0 : (a0 == 116) = true := beq_iff_eq.mpr c4
    have c4b1 : (a0 != 116) = false := bne_eq_false_iff_eq.mpr c4
    clear c4
    simp only [Option.some.injEq, Prod.mk.injEq] at H
    obtain ⟨rfl, rfl⟩ := H
    go_enter Try.func84, Try.ntmps84
    go_wp2
    go_ret2
    exact ⟨rdT, drT⟩
   ·rw [if_neg c4] at H
    have c4b0 : (a0 == 116) = false := beq_eq_false_iff_ne.mpr c4
    have c4b1 : (a0 != 116) = true := bne_iff_ne.mpr c4
    by_cases c5 : a0 = 100
    ·rw [if_pos c5] at H
     have c5b0 : (a0 == 100) = true := beq_iff_eq.mpr c5
     have c5b1 : (a0 != 100) = false := bne_eq_false_iff_eq.mpr c5
     clear c5
     simp only [Option.some.injEq, Prod.mk.injEq] at H
     obtain ⟨rfl, rfl⟩ := H
     go_enter Try.func84, Try.ntmps84
     go_wp2
     go_ret2
     exact ⟨rdT, drT⟩
    ·rw [if_neg c5] at H
     have c5b0 : (a0 == 100) = false := beq_eq_false_iff_ne.mpr c5
     have c5b1 : (a0 != 100) = true := bne_iff_ne.mpr c5
     simp only [Option.some.injEq, Prod.mk.injEq] at H
     obtain ⟨rfl, rfl⟩ := H
     go_enter Try.func84, Try.ntmps84
     go_wp2
     go_ret2
     exact ⟨rdT, drT⟩

/-! ### spec_l7Before: function 134 -/
def spec_l7Before.l0 : Nat → List (S26) → List (S26) → Int → Int → Int → Option ((List (S26)))
 | 0, _, _, _, _, _ => none
 | k + 1, x1, x5, x6, x113000, x113001 => if x6 < (x1.length : Int) then ((some (([(⟨x113000, x113001⟩ : S87)] : List (S87)) : List (S87))).bind fun y116 => (if 0 ≤ x6 then (if y116.length + ((rd_T26 x1 x6).f0).length < 70368744177664 then (if x5.length < 5864062014805 then (spec_l7Before.l0 k x1 (x5 ++ [(⟨(y116 ++ ((rd_T26 x1 x6).f0))⟩ : S26)]) (wrap64 (x6 + 1)) x113000 x113001) else (none)) else (none)) else (none))) else (some x5)
def spec_l7Before.f (k : Nat) (a0_0 : Int) (a0_1 : Int) (l1 : List (S26)) : Option ((List (S26))) := spec_l7Before.l0 k l1 (([] : List (S26))) 0 a0_0 a0_1
theorem spec_l7Before.mono_l : ∀ k, (∀ y0 y1 y2 y3 y4, LeO (spec_l7Before.l0 k y0 y1 y2 y3 y4) (spec_l7Before.l0 (k + 1) y0 y1 y2 y3 y4))
 | 0 => fun _ _ _ _ _ r h => by simp [spec_l7Before.l0] at h
 | k + 1 => by
  have ih0 := spec_l7Before.mono_l k
  ·intro y0 y1 y2 y3 y4
   unfold spec_l7Before.l0
   with_reducible repeat' first | exact ih0 _ _ _ _ _ | exact LeO.refl _ | exact LeO.none _ | refine LeO.ite ?_ ?_ | refine LeO.bind ?_ (fun _ => ?_)
theorem spec_l7Before.mono : ∀ a0 a1 a2 k, LeO (spec_l7Before.f k a0 a1 a2) (spec_l7Before.f (k + 1) a0 a1 a2) := by
 intro a0 a1 a2 k
 have ih0 := spec_l7Before.mono_l k
 unfold spec_l7Before.f
 with_reducible repeat' first | exact ih0 _ _ _ _ _ | exact LeO.refl _ | exact LeO.none _ | refine LeO.ite ?_ ?_ | refine LeO.bind ?_ (fun _ => ?_)
def spec_l7Before.T5 : Bool × List (List Nat × List Nat) := (true, [([], []), ([], []), ([1], [1]), ([], []), ([], []), ([3, 4], [3, 4]), ([5], [5]), ([6], [6]), ([2, 7], [2, 7]), ([8], [8]), ([9], [9]), ([0, 10, 8], [0, 10]), ([11, 11, 0, 1, 2, 3, 4, 5, 6, 7, 8, 9, 10, 11], [0, 11])])
def spec_l7Before.B5 : List Nat := [0, 0, 2, 0, 0, 24, 56, 120, 254, 510, 1022, 2047, 4095]
theorem spec_l7Before.tab5 : rtab .any (opsOf Try.f134 5) = spec_l7Before.T5 := by kernel_rfl
theorem spec_l7Before.bits5 : waitsOk spec_l7Before.T5.2 spec_l7Before.B5 = true := by kernel_rfl
set_option maxHeartbeats 8000000 in
set_option maxRecDepth 100000 in
theorem spec_l7Before.calls (k : Nat) (a0_0 : Int) (a0_1 : Int) (A1 : Option Addr) (c1 : Nat) (l1 : List (S26)) (r : List (S26)) (w : World) (hr1 : Kd.C k26 w A1 l1.length l1) (hc1 : l1.length ≤ c1) (h : spec_l7Before.f k a0_0 a0_1 l1 = some r) :
  Calls Try.prog 134 #[.agg #[.int .u8 a0_0, .int .u8 a0_1], .slice A1 l1.length c1] w fun e w' => ∃ v0_ : Value, e = .returned (v0_) ∧ Kd.S k26 26 w' w.heap.size (fun _ => True) v0_ r ∧ Below w.heap.size w w' := by
 have hu87 := Try.underlying87; have hu26 := Try.underlying26; have HR1 := Aside0.mk hr1; have HC1 := Aside0.mk hc1; clear hr1 hc1; have HB := asT (Below.refl w.heap.size w); have H := h; unfold spec_l7Before.f at H; clear h; obtain ⟨y113, hy113⟩ : ∃ y_ : List (S26), y_ = (([] : List (S26))) := ⟨_, rfl⟩
 replace H : (spec_l7Before.l0 k l1 y113 0 a0_0 a0_1) = some r := by first | (rw [hy113]; with_reducible exact H) | (have H2_ := (Option.bind_some _ _).symm.trans H; rw [hy113]; with_reducible exact H2_) | (have H2_ := (Option.bind_some _ _).symm.trans H; with_reducible exact H2_) | with_reducible exact H | (rw [hy113]; exact H) | exact H
 have Ny113 := Aside0.mk hy113; clear hy113; have H' := Aside0.mk H; clear H
 go_enter Try.func134, Try.ntmps134
 go_wp2_with (first | ((with_reducible refine gate_dst (N := 2) rfl ?_); refine boxT (N := 2) (cs := #[.int .u8 a0_0, .int .u8 a0_1]) (t := 87) ?_; intro gb112 hg w3 hbox hb; have BK112 := asT hbox; have GW112 := asT (geT hg HB.out); have GE112 := GW112; replace HB := hS HB hb; clear hb hbox hg) | ((with_reducible refine gate_dst (N := 7) rfl ?_); refine Kd.S_lit k26 _ 26 ?hg (N := 7) ?hd (xs := ([] : List (S26))) (inner := []) (ok := fun _ => True) (okp := fun _ => True) ?hr ?hp (fun _ hk => hk) trivial (Below.refl _ _) (Nat.le_refl _) (by simp) ?_; (case hd => rfl); (case hg => rfl); (case hr => first | (go_simp; done) | (go_simp; rfl)); (case hp => exact (Reps.none _ _)); intro v114 w4 ho5 hb hg_ hnew_; clear hg_ hnew_; (first | rw [← Ny113.out] at ho5 | (simp only [Int.reduceToNat] at ho5; rw [← Ny113.out] at ho5)); have HO115 := asT (Kd.S_lower (Kd.S_newB ho5 (g := gb112) (o := .cells #[.int .u8 a0_0, .int .u8 a0_1] 87 (0, 0)) (bkT BK112.out)) (below_size (hbT HB.out))); replace BK112 := bS BK112 hb; replace HB := hS HB hb; clear hb ho5))
 go_loopg [5, 6] k (fun kq v5 v6 w' => ∃ (x5_1 : List (S26)) (x6_1 : Int), v6 = .int .i64 x6_1 ∧ Aside0 (spec_l7Before.l0 kq l1 x5_1 x6_1 a0_0 a0_1 = some r) ∧ Aside0 (kq ≤ k) ∧ Aside0 (Kd.S k26 26 w' w.heap.size (fun k_ => k_ ≠ gb112) v5 x5_1) ∧ Aside0 (w'.heap[gb112]? = some (.cells #[.int .u8 a0_0, .int .u8 a0_1] 87 (0, 0))) ∧ Aside0 (Below w.heap.size w w'))
 case atStart => exact ⟨(y113), (0), rdT, H', ⟨Nat.le_refl _⟩, ⟨by (with_reducible repeat (first | apply Kd.S_alloc | apply Kd.S_drewN | apply Kd.S_drew)); exact Kd.S_mono HO115.out (fun _ hk => hk.2)⟩, ⟨by (with_reducible repeat (first | refine blk_drewN ?_ _ | refine blk_drew ?_ | refine blk_alloc ?_ _)); exact BK112.out⟩, ⟨hbT HB.out⟩⟩
 case round =>
  clear H'; (try clear c1 p2); obtain ⟨x5_1, x6_1, rfl, HA, HK1, HO_5, BK112, HB⟩ := hrel
  cases gk with
  | zero => exact absurd HA.out (by simp [spec_l7Before.l0])
  | succ k1 =>
   have H := HA.out; clear HA
   simp only [spec_l7Before.l0] at H
   by_cases c6 : x6_1 < (l1.length : Int)
   ·rw [if_pos c6] at H
    have c6b0 : decide (x6_1 < (l1.length : Int)) = true := decide_eq_true c6
    clear c6; obtain ⟨y116, hy116⟩ : ∃ y_ : List (S87), y_ = (([(⟨a0_0, a0_1⟩ : S87)] : List (S87))) := ⟨_, rfl⟩
    replace H : (if 0 ≤ x6_1 then (if y116.length + ((rd_T26 l1 x6_1).f0).length < 70368744177664 then (if x5_1.length < 5864062014805 then (spec_l7Before.l0 k1 l1 (x5_1 ++ [(⟨(y116 ++ ((rd_T26 l1 x6_1).f0))⟩ : S26)]) (wrap64 (x6_1 + 1)) a0_0 a0_1) else (none)) else (none)) else (none)) = some r := by first | (rw [hy116]; with_reducible exact H) | (have H2_ := (Option.bind_some _ _).symm.trans H; rw [hy116]; with_reducible exact H2_) | (have H2_ := (Option.bind_some _ _).symm.trans H; with_reducible exact H2_) | with_reducible exact H | (rw [hy116]; exact H) | exact H
    have Ny116 := Aside0.mk hy116; clear hy116
    by_cases c7 : 0 ≤ x6_1
    ·rw [if_pos c7] at H
     have c7b0 : decide (0 ≤ x6_1) = true := decide_eq_true c7
     clear c7
     by_cases c8 : y116.length + ((rd_T26 l1 x6_1).f0).length < 70368744177664
     ·rw [if_pos c8] at H
      have LMc8 := Aside0.mk c8; clear c8; obtain ⟨y120, hy120⟩ : ∃ y_ : List (S87), y_ = (y116 ++ ((rd_T26 l1 x6_1).f0)) := ⟨_, rfl⟩
      replace H : (if x5_1.length < 5864062014805 then (spec_l7Before.l0 k1 l1 (x5_1 ++ [(⟨y120⟩ : S26)]) (wrap64 (x6_1 + 1)) a0_0 a0_1) else (none)) = some r := by first | (rw [hy120]; with_reducible exact H) | (have H2_ := (Option.bind_some _ _).symm.trans H; rw [hy120]; with_reducible exact H2_) | (have H2_ := (Option.bind_some _ _).symm.trans H; with_reducible exact H2_) | with_reducible exact H | (rw [hy120]; exact H) | exact H
      have Ny120 := Aside0.mk hy120; clear hy120
      by_cases c9 : x5_1.length < 5864062014805
      ·rw [if_pos c9] at H
       have LMc9 := Aside0.mk c9; clear c9; obtain ⟨y123, hy123⟩ : ∃ y_ : List (S26), y_ = (x5_1 ++ [(⟨y120⟩ : S26)]) := ⟨_, rfl⟩
       replace H : (spec_l7Before.l0 k1 l1 y123 (wrap64 (x6_1 + 1)) a0_0 a0_1) = some r := by first | (rw [hy123]; with_reducible exact H) | (have H2_ := (Option.bind_some _ _).symm.trans H; rw [hy123]; with_reducible exact H2_) | (have H2_ := (Option.bind_some _ _).symm.trans H; with_reducible exact H2_) | with_reducible exact H | (rw [hy123]; exact H) | exact H
       have Ny123 := Aside0.mk hy123; clear hy123; have H' := Aside0.mk H; clear H
       try go_wp2
       replace HO_5 := asT (Kd.S_drew HO_5.out); replace BK112 := asT (blk_drew BK112.out); replace HB := asT (below_drew1 HB.out)
       have p119 : 0 ≤ (x6_1 : Int) := of_decide_eq_true asmT
       have q119 : x6_1 < (l1.length : Int) := of_decide_eq_true asmT
       obtain ⟨ad119, A119_0, c119_0, e119, hx119_0, hl119_0, hi119_0⟩ := at_T26 HR1.out x6_1 p119 q119; have hw119_0 := hx119_0
       cases e119
       replace hx119_0 := hbc HB.out hx119_0; have HR119_0 := Aside0.mk hi119_0; have HC119_0 := Aside0.mk hl119_0; clear hi119_0 hl119_0; replace p119 := eq_true p119; replace q119 := eq_true q119
       refine start_ (n := 13) (S := fun w' => w'.cell? ⟨gb112, 0, none⟩ = some (.int .u8 a0_0) ∧ w'.cell? ⟨gb112, 1, none⟩ = some (.int .u8 a0_1) ∧ w'.cell? (ad119.add (x6_1).toNat) = some (.slice A119_0 ((rd_T26 l1 x6_1).f0).length c119_0)) (ds := []) (bA 13 0) (by kernel_rfl) rfl rfl ⟨bc0 BK112.out, bc1 BK112.out, (hbc HB.out hw119_0 :)⟩ (fun hHeld => ?_); refine with_tabW spec_l7Before.tab5 spec_l7Before.bits5 (fun HT_ HW_ => ?_)
       generalize wr.drew = w10 at HO_5 BK112 HB HR119_0 hx119_0 hHeld ⊢
       refine pA 0 14 13 1 HT_.out ?_ rfl rfl; refine pA 3 17 13 9 HT_.out ?_ rfl rfl; refine pA 4 18 13 25 HT_.out ?_ rfl rfl; refine pA 5 19 13 57 HT_.out ?_ rfl rfl; refine pA 6 20 13 121 HT_.out ?_ rfl rfl; refine tA 1 15 13 123 HT_.out HW_.out hHeld ?_ rfl rfl; refine tA 7 21 13 251 HT_.out HW_.out hHeld ?_ rfl rfl
       refine oA 2 16 13 255 HT_.out (fun K hK => ?_) rfl rfl
       refine Kd.R_lit_step k87 _ 87 ?hg (N := 16) ?hd (xs := ([(⟨a0_0, a0_1⟩ : S87)] : List (S87))) (inner := [.int .u8 a0_0, .int .u8 a0_1]) (ok := fun _ => True) (okp := fun _ => True) ?hr ?hp (fun _ hk => hk) trivial (Below.refl _ _) (Nat.le_refl _) (by simp) ?_; (case hd => rfl); (case hg => rfl); (case hr => first | (go_simp; done) | (go_simp; rfl)); (case hp => exact (Reps.c2 (show Kd.M k87 _ _ _ (⟨a0_0, a0_1⟩ : S87) [.int .u8 a0_0, .int .u8 a0_1] from (k87_mkM _ _ _ (⟨a0_0, a0_1⟩ : S87) )) (Reps.none _ _)))
       intro v117 w11 ho12 hb hg_ hnew_
       clear hg_ hnew_
       (first | rw [← Ny116.out] at ho12 | (simp only [Int.reduceToNat] at ho12; rw [← Ny116.out] at ho12))
       replace HO_5 := asT (Kd.S_elder' (by (with_reducible repeat (first | apply Kd.S_alloc | apply Kd.S_drewN | apply Kd.S_drew)); exact HO_5.out) (Kd.R_base ho12) hb); have HO118 := asT (Kd.R_lower (Kd.R_newB ho12 (g := gb112) (o := .cells #[.int .u8 a0_0, .int .u8 a0_1] 87 (0, 0)) (bkT BK112.out)) (below_size (hbT HB.out))); replace BK112 := bS BK112 hb; replace HB := hS HB hb; clear hb ho12
       refine hK.out _ _ ⟨bc0 BK112.out, bc1 BK112.out, (hbc HB.out hw119_0 :)⟩ (fun hHeld => ?_)
       clear hK K
       refine nB 16 ?_ rfl
       refine oA 8 22 13 511 HT_.out (fun K hK => ?_) rfl rfl
       refine Kd.R_append_rows_step k87 (w0 := w) w.heap.size (by rfl) (.tmp 16) (.tmp 21) 24 87 (.agg #[(.int .u8 0), (.int .u8 0)]) 2 rfl Try.underlying24 info87 rfl (by decide) (by omega) v117 y116 ((rd_T26 l1 x6_1).f0) _ _ _ (fun k_ => k_ ≠ gb112) (fun _ => False) rfl rfl ?aO ?aR (fun _ _ h => h) (fun _ h => h.elim) ?aF ?aB ?aS ?aL ?_
       (case aR => repeat (first | exact (Kd.C_below HR119_0.out HB.out) | (with_reducible refine Kd.C_alloc ?_ _) | (with_reducible refine Kd.C_drewN ?_ _) | (with_reducible refine Kd.C_drew ?_)))
       (case aB => exact (hbT HB.out))
       (case aF => exact (fun k_ hk => Kd.freshB (g := gb112) (o := .cells #[.int .u8 a0_0, .int .u8 a0_1] 87 (0, 0)) (bkT BK112.out) k_ hk))
       (case aO => exact (by (with_reducible repeat (first | apply Kd.R_alloc | apply Kd.R_drewN | apply Kd.R_drew)); exact Kd.R_mono HO118.out (fun _ hk => hk.2)))
       (case aS => exact (below_size (hbT HB.out)))
       (case aL => have := LMc8.out; omega)
       intro v121 w13 ho hb hg hat
       rw [← Ny120.out] at ho; replace HO_5 := asT (Kd.S_after (ok := (fun k_ => k_ ≠ gb112)) (by (with_reducible repeat (first | apply Kd.S_alloc | apply Kd.S_drewN | apply Kd.S_drew)); exact HO_5.out) hg hat); replace BK112 := asT (blk_grown (g := gb112) (o := .cells #[.int .u8 a0_0, .int .u8 a0_1] 87 (0, 0)) (bkT BK112.out) hg (Kd.R_away HO118.out (fun _ hk => hk.2))); replace HB := asT (hb); have HO122 := asT (ho); clear HO118 ho hb hg hat; obtain ⟨Ao14, co14, eo14⟩ := Kd.R_slice HO122.out; (first | subst eo14 | (injection eo14 with f1_ f2_ f3_; have f4_ := f1_.symm; have f5_ := f3_.symm; clear f1_ f2_ f3_; subst f4_; subst f5_))
       refine hK.out _ _ ⟨bc0 BK112.out, bc1 BK112.out, (hbc HB.out hw119_0 :)⟩ (fun hHeld => ?_)
       clear hK K
       refine nB 22 ?_ rfl; refine pA 9 23 13 1023 HT_.out ?_ rfl rfl
       refine oA 10 24 13 2047 HT_.out (fun K hK => ?_) rfl rfl
       refine value_ (w1 := ?_) (v := ?_) (by rfl) rfl ?_ ?_
       rotate_left 2
       ·go_simp
        constructor
        ·rfl
        ·rfl
       refine hK.out _ _ ⟨(blk_cell (blk_alloc BK112.out _) 0).trans rfl, (blk_cell (blk_alloc BK112.out _) 1).trans rfl, (World.cell?_alloc_lt _ _ _ (World.block_lt_of_cell? _ _ (((HB.out.cell (World.block_lt_of_cell? w _ hw119_0)).trans hw119_0)))).trans (((HB.out.cell (World.block_lt_of_cell? w _ hw119_0)).trans hw119_0))⟩ (fun hHeld => ?_)
       clear hK K
       refine nB 24 ?_ rfl
       refine oA 11 25 13 4095 HT_.out (fun K hK => ?_) rfl rfl
       refine Kd.S_append_step k26 (w0 := w) w.heap.size (by rfl) (.tmp 14) (.tmp 24) 35 26 (.agg #[(.slice none 0 0)]) 24 rfl Try.underlying35 info26 rfl (by decide) (by omega) u5 x5_1 (⟨y120⟩ : S26) [.slice Ao14 y120.length co14] (fun k_ => k_ ≠ gb112) (fun k_ => some k_ = (.slice Ao14 y120.length co14 : Value).ownBlock) rfl rfl ?aP (fun k_ hk_ => ((Kd.R_mono (ok' := fun k_ => ((fun k_ => k_ ≠ gb112)) k_ ∧ some k_ ≠ (u5 : Value).ownBlock) (Kd.R_apart' (HO122.out) (Kd.S_typed HO_5.out) (by decide)) (fun k_ hk => ⟨hk.1, hk.2⟩))).1 k_ hk_.symm) ?aF ?aO ?aB ?aS ?aL ?_
       (case aP => exact k26_mkM _ _ _ (⟨y120⟩ : S26) (Kd.R_mono (Kd.R_tight rfl (Kd.R_mono (ok' := fun k_ => ((fun k_ => k_ ≠ gb112)) k_ ∧ some k_ ≠ (u5 : Value).ownBlock) (Kd.R_apart' (HO122.out) (Kd.S_typed HO_5.out) (by decide)) (fun k_ hk => ⟨hk.1, hk.2⟩))) (fun _ h_ => h_)))
       (case aB => exact (hbT HB.out))
       (case aF => exact (fun k_ hk => Kd.freshB (g := gb112) (o := .cells #[.int .u8 a0_0, .int .u8 a0_1] 87 (0, 0)) (bkT BK112.out) k_ hk))
       (case aO => exact (by (with_reducible repeat (first | apply Kd.S_alloc | apply Kd.S_drewN | apply Kd.S_drew)); exact Kd.S_mono HO_5.out (fun k_ hk => ⟨hk.1, fun e_ => hk.2 e_⟩)))
       (case aS => exact (below_size (hbT HB.out)))
       (case aL => have := LMc9.out; omega)
       intro v124 w15 ho hb hg hat
       rw [← Ny123.out] at ho; replace BK112 := asT (blk_grown (g := gb112) (o := .cells #[.int .u8 a0_0, .int .u8 a0_1] 87 (0, 0)) (bkT BK112.out) hg (Kd.S_ne HO_5.out BK112.out (by decide))); replace HB := asT (hb); have HO125 := asT (ho); clear HO_5 HO122 ho hb hg hat
       refine hK.out _ _ ⟨bc0 BK112.out, bc1 BK112.out, (hbc HB.out hw119_0 :)⟩ (fun hHeld => ?_)
       clear hK K
       refine nB 25 ?_ rfl; refine pA 12 5 13 8191 HT_.out ?_ rfl rfl
       refine done_ (done_of HT_.out (by kernel_rfl)) ?_
       try go_wp2
       go_roundg k1
       case measure => have := HK1.out; omega
       case rel => exact ⟨(y123), (wrap64 (x6_1 + 1)), rdT, H', ⟨by have := HK1.out; omega⟩, ⟨by (with_reducible repeat (first | apply Kd.S_alloc | apply Kd.S_drewN | apply Kd.S_drew)); exact HO125.out⟩, ⟨by (with_reducible repeat (first | refine blk_drewN ?_ _ | refine blk_drew ?_ | refine blk_alloc ?_ _)); exact BK112.out⟩, ⟨hbT HB.out⟩⟩
      ·rw [if_neg c9] at H
       exact absurd H (by simp)
     ·rw [if_neg c8] at H
      exact absurd H (by simp)
    ·rw [if_neg c7] at H
     exact absurd H (by simp)
   ·rw [if_neg c6] at H
    have c6b0 : decide (x6_1 < (l1.length : Int)) = false := decide_eq_false c6
    clear c6
    obtain rfl := Option.some.inj H
    go_wp2
    go_ret
    exact ⟨_, rlT, by (with_reducible repeat (first | apply Kd.S_alloc | apply Kd.S_drewN | apply Kd.S_drew)); exact Kd.S_mono HO_5.out (fun _ hk => trivial), hbT HB.out⟩

/-! ### spec_l7From: function 93 -/
mutual
def spec_l7From.j0 : Nat → ByteArray → Int → Int → List (S26) → Option ((List (S26)))
 | 0, _, _, _, _ => none
 | k + 1, x0, x1, x2, x7 => if x2 = 0 then (some x7) else (if x1 < (x0.size : Int) then ((spec_l7From.f k x0 (wrap64 (x1 + 1)) (wrap64 (x2 - 1))).bind fun t141 => (if 0 ≤ x1 then ((spec_l7Before.f k (bt x0 x1) 0 t141).bind fun t144 => (if x7.length + t144.length < 5864062014805 then ((some (x7 ++ t144 : List (S26))).bind fun y147 => ((spec_SwapVoice.f (bt x0 x1)).bind fun bt150 => (if bt150.2 = true then ((spec_l7Before.f k (bt x0 x1) bt150.1 t141).bind fun t152 => (if y147.length + t152.length < 5864062014805 then (spec_l7From.j1 k x0 x1 x2 (y147 ++ t152)) else (none))) else (spec_l7From.j1 k x0 x1 x2 y147)))) else (none))) else (none))) else (spec_l7From.j1 k x0 x1 x2 x7))
def spec_l7From.j1 : Nat → ByteArray → Int → Int → List (S26) → Option ((List (S26)))
 | 0, _, _, _, _ => none
 | k + 1, x0, x1, x2, x7 => (spec_l7From.f k x0 x1 (wrap64 (x2 - 1))).bind fun t158 => (spec_l7From.l0 k x7 t158 0)
def spec_l7From.l0 : Nat → List (S26) → List (S26) → Int → Option ((List (S26)))
 | 0, _, _, _ => none
 | k + 1, x7, x11, x12 => if x12 < 2 then (if 0 ≤ x12 then ((spec_l7Before.f k 0 (bt (⟨#[116, 105]⟩ : ByteArray) x12) x11).bind fun t161 => (if x7.length + t161.length < 5864062014805 then (spec_l7From.l0 k (x7 ++ t161) x11 (wrap64 (x12 + 1))) else (none))) else (none)) else (some x7)
def spec_l7From.f : Nat → ByteArray → Int → Int → Option ((List (S26)))
 | 0, _, _, _ => none
 | k + 1, a0, a1, a2 => (some (([] : List (S26)) : List (S26))).bind fun y126 => (if a1 = (a0.size : Int) then (if y126.length < 5864062014805 then (spec_l7From.j0 k a0 a1 a2 (y126 ++ [(⟨([] : List (S87))⟩ : S26)])) else (none)) else (if 0 ≤ a1 then (if a1 < (a0.size : Int) then ((spec_l7From.f k a0 (wrap64 (a1 + 1)) a2).bind fun t132 => ((spec_l7Before.f k (bt a0 a1) (bt a0 a1) t132).bind fun t135 => (if y126.length + t135.length < 5864062014805 then (spec_l7From.j0 k a0 a1 a2 (y126 ++ t135)) else (none)))) else (none)) else (none)))
end
theorem spec_l7From.mono_l : ∀ k, (∀ y0 y1 y2, LeO (spec_l7From.f k y0 y1 y2) (spec_l7From.f (k + 1) y0 y1 y2)) ∧ (∀ y0 y1 y2 y3, LeO (spec_l7From.j0 k y0 y1 y2 y3) (spec_l7From.j0 (k + 1) y0 y1 y2 y3)) ∧ (∀ y0 y1 y2 y3, LeO (spec_l7From.j1 k y0 y1 y2 y3) (spec_l7From.j1 (k + 1) y0 y1 y2 y3)) ∧ (∀ y0 y1 y2, LeO (spec_l7From.l0 k y0 y1 y2) (spec_l7From.l0 (k + 1) y0 y1 y2))
 | 0 => ⟨fun _ _ _ r h => by simp [spec_l7From.f] at h, fun _ _ _ _ r h => by simp [spec_l7From.j0] at h, fun _ _ _ _ r h => by simp [spec_l7From.j1] at h, fun _ _ _ r h => by simp [spec_l7From.l0] at h⟩
 | k + 1 => by
  obtain ⟨ih0, ih1, ih2, ih3⟩ := spec_l7From.mono_l k; refine ⟨?_, ?_, ?_, ?_⟩
  ·intro y0 y1 y2
   unfold spec_l7From.f
   with_reducible repeat' first | exact ih0 _ _ _ | exact ih1 _ _ _ _ | exact ih2 _ _ _ _ | exact ih3 _ _ _ | exact spec_l7Before.mono _ _ _ _ | exact LeO.refl _ | exact LeO.none _ | refine LeO.ite ?_ ?_ | refine LeO.bind ?_ (fun _ => ?_)
  ·intro y0 y1 y2 y3
   unfold spec_l7From.j0
   with_reducible repeat' first | exact ih0 _ _ _ | exact ih1 _ _ _ _ | exact ih2 _ _ _ _ | exact ih3 _ _ _ | exact spec_l7Before.mono _ _ _ _ | exact LeO.refl _ | exact LeO.none _ | refine LeO.ite ?_ ?_ | refine LeO.bind ?_ (fun _ => ?_)
  ·intro y0 y1 y2 y3
   unfold spec_l7From.j1
   with_reducible repeat' first | exact ih0 _ _ _ | exact ih1 _ _ _ _ | exact ih2 _ _ _ _ | exact ih3 _ _ _ | exact spec_l7Before.mono _ _ _ _ | exact LeO.refl _ | exact LeO.none _ | refine LeO.ite ?_ ?_ | refine LeO.bind ?_ (fun _ => ?_)
  ·intro y0 y1 y2
   unfold spec_l7From.l0
   with_reducible repeat' first | exact ih0 _ _ _ | exact ih1 _ _ _ _ | exact ih2 _ _ _ _ | exact ih3 _ _ _ | exact spec_l7Before.mono _ _ _ _ | exact LeO.refl _ | exact LeO.none _ | refine LeO.ite ?_ ?_ | refine LeO.bind ?_ (fun _ => ?_)
theorem spec_l7From.mono : ∀ a0 a1 a2 k, LeO (spec_l7From.f k a0 a1 a2) (spec_l7From.f (k + 1) a0 a1 a2) := by
 intro a0 a1 a2 k
 obtain ⟨ih0, ih1, ih2, ih3⟩ := spec_l7From.mono_l k
 exact ih0 a0 a1 a2
def spec_l7From.T4 : Bool × List (List Nat × List Nat) := (true, [([], []), ([], []), ([], []), ([1, 2], [1, 2]), ([], []), ([], []), ([4, 5], [4, 5]), ([3, 6], [3, 6]), ([], []), ([], []), ([9], [9]), ([], []), ([8, 10, 11], [8, 10, 11]), ([7, 12, 12], [7, 12]), ([0, 13, 13], [0, 13]), ([14, 14, 0, 1, 2, 3, 4, 5, 6, 7, 8, 9, 10, 11, 12, 13, 14], [0, 14])])
def spec_l7From.B4 : List Nat := [0, 0, 0, 6, 0, 0, 48, 126, 0, 0, 512, 0, 3840, 8190, 16383, 32767]
theorem spec_l7From.tab4 : rtab .any (opsOf Try.f93 4) = spec_l7From.T4 := by kernel_rfl
theorem spec_l7From.bits4 : waitsOk spec_l7From.T4.2 spec_l7From.B4 = true := by kernel_rfl
set_option maxHeartbeats 8000000 in
set_option maxRecDepth 100000 in
theorem spec_l7From.calls (k : Nat) : ∀ (a0 : ByteArray) (a1 : Int) (a2 : Int) (r : List (S26)) (w : World) (h : spec_l7From.f k a0 a1 a2 = some r),
  Calls Try.prog 93 #[.string a0, .int .i64 a1, .int .i64 a2] w fun e w' => ∃ v0_ : Value, e = .returned (v0_) ∧ Kd.N k26 26 w' w.heap.size (fun k_ => (w.heap.size ≤ k_)) v0_ r ∧ Below w.heap.size w w' := by
 induction k using Nat.strongRecOn with
 | _ k ih =>
 intro a0 a1 a2 r w h
 cases k with
 | zero => exact absurd h (by simp [spec_l7From.f])
 | succ k =>
 simp only [spec_l7From.f] at h
 have hu26 := Try.underlying26; have hu87 := Try.underlying87; have HB := asT (Below.refl w.heap.size w)
 have H : ((some (([] : List (S26)) : List (S26))).bind fun y126 => (if a1 = (a0.size : Int) then (if y126.length < 5864062014805 then (spec_l7From.j0 k a0 a1 a2 (y126 ++ [(⟨([] : List (S87))⟩ : S26)])) else (none)) else (if 0 ≤ a1 then (if a1 < (a0.size : Int) then ((spec_l7From.f k a0 (wrap64 (a1 + 1)) a2).bind fun t132 => ((spec_l7Before.f k (bt a0 a1) (bt a0 a1) t132).bind fun t135 => (if y126.length + t135.length < 5864062014805 then (spec_l7From.j0 k a0 a1 a2 (y126 ++ t135)) else (none)))) else (none)) else (none)))) = some r := h
 clear h; obtain ⟨y126, hy126⟩ : ∃ y_ : List (S26), y_ = (([] : List (S26))) := ⟨_, rfl⟩
 replace H : (if a1 = (a0.size : Int) then (if y126.length < 5864062014805 then (spec_l7From.j0 k a0 a1 a2 (y126 ++ [(⟨([] : List (S87))⟩ : S26)])) else (none)) else (if 0 ≤ a1 then (if a1 < (a0.size : Int) then ((spec_l7From.f k a0 (wrap64 (a1 + 1)) a2).bind fun t132 => ((spec_l7Before.f k (bt a0 a1) (bt a0 a1) t132).bind fun t135 => (if y126.length + t135.length < 5864062014805 then (spec_l7From.j0 k a0 a1 a2 (y126 ++ t135)) else (none)))) else (none)) else (none))) = some r := by first | (rw [hy126]; with_reducible exact H) | (have H2_ := (Option.bind_some _ _).symm.trans H; rw [hy126]; with_reducible exact H2_) | (have H2_ := (Option.bind_some _ _).symm.trans H; with_reducible exact H2_) | with_reducible exact H | (rw [hy126]; exact H) | exact H
 have Ny126 := Aside0.mk hy126; clear hy126; have HC4 := Aside0.mk H; clear H
 go_enter Try.func93, Try.ntmps93
 go_upto_if 17 with (first | ((with_reducible refine gate_dst (N := 13) rfl ?_); refine Kd.N_lit k26 _ 26 ?hg (N' := 13) ?hd (xs := ([] : List (S26))) (inner := []) (ok := (fun k_ => (w.heap.size ≤ k_))) (okp := (fun k_ => (w.heap.size ≤ k_))) ?hr ?hp (fun _ hk => hk) ((show ∀ k_, w.heap.size ≤ k_ → (fun k_ => (w.heap.size ≤ k_)) k_ from fun k_ hk => (Nat.le_trans (below_size (hbT HB.out)) hk)) _ (Nat.le_refl _)) (Below.refl _ _) (Nat.le_refl _) (by simp) ?_; (case hd => rfl); (case hg => rfl); (case hr => first | (go_simp; done) | (go_simp; rfl)); (case hp => exact (Reps.none _ _)); intro v127 w5 ho6 hb hg_ hnew_; clear hg_ hnew_; (first | rw [← Ny126.out] at ho6 | (simp only [Int.reduceToNat] at ho6; rw [← Ny126.out] at ho6)); have HO128 := asT (Kd.N_lower ho6 (below_size (hbT HB.out))); replace HB := hS HB hb; clear hb ho6))
 (try simp only [Act.put, sA, sZ, sS])
 go_cut [7] (fun v7 wc => ∃ (kq : Nat) (x7_3 : List (S26)), Aside0 (spec_l7From.j0 kq a0 a1 a2 x7_3 = some r) ∧ Aside0 (kq ≤ k) ∧ Aside0 (Kd.N k26 26 wc w.heap.size (fun k_ => (w.heap.size ≤ k_)) v7 x7_3) ∧ Aside0 (Below w.heap.size w wc))
 case first =>
  have H := HC4.out; clear HC4
  by_cases c7 : a1 = (a0.size : Int)
  ·rw [if_pos c7] at H
   have c7b0 : (a1 == (a0.size : Int)) = true := beq_iff_eq.mpr c7
   have c7b1 : (a1 != (a0.size : Int)) = false := bne_eq_false_iff_eq.mpr c7
   clear c7
   (first | rw [c7b0] | (simp only [i64_w, i32_w]; rw [c7b0]) | skip)
   by_cases c8 : y126.length < 5864062014805
   ·rw [if_pos c8] at H
    have LMc8 := Aside0.mk c8; clear c8; obtain ⟨y129, hy129⟩ : ∃ y_ : List (S26), y_ = (y126 ++ [(⟨([] : List (S87))⟩ : S26)]) := ⟨_, rfl⟩
    replace H : (spec_l7From.j0 k a0 a1 a2 y129) = some r := by first | (rw [hy129]; with_reducible exact H) | (have H2_ := (Option.bind_some _ _).symm.trans H; rw [hy129]; with_reducible exact H2_) | (have H2_ := (Option.bind_some _ _).symm.trans H; with_reducible exact H2_) | with_reducible exact H | (rw [hy129]; exact H) | exact H
    have Ny129 := Aside0.mk hy129; clear hy129; have H' := Aside0.mk H; clear H
    go_wp2_with (first | ((with_reducible refine gate_builtin (b := .append) (xs := #[.tmp 18, .tmp 20]) rfl ?_); at_builtin; refine Kd.N_append k26 (w0 := w) w.heap.size rfl (.tmp 18) (.tmp 20) 35 26 (.agg #[(.slice none 0 0)]) 24 rfl Try.underlying35 info26 rfl (by decide) (by omega) v127 y126 (⟨([] : List (S87))⟩ : S26) [.slice none 0 0] (fun k_ => (w.heap.size ≤ k_)) (fun k_ => ((fun k_ => (w.heap.size ≤ k_))) k_ ∧ some k_ ≠ (v127 : Value).ownBlock) rfl rfl ?aP (fun _ hk => hk) ?aF ?aO ?aB ?aS ?aL ?_; (case aP => exact (k26_mkF _ _ (⟨([] : List (S87))⟩ : S26) (Nat.le_refl _) (Kd.F_nil _ _ _))); (case aB => exact (hbT HB.out)); (case aF => exact (fun k_ hk => (Nat.le_trans (below_size (hbT HB.out)) hk))); (case aO => exact (by (with_reducible repeat (first | apply Kd.N_alloc | apply Kd.N_drewN | apply Kd.N_drew)); exact HO128.out)); (case aS => exact (below_size (hbT HB.out))); (case aL => have := LMc8.out; omega); intro v130 w9 ho hb hg hat; rw [← Ny129.out] at ho; replace HB := asT (hb); have HO131 := asT (ho); clear HO128 ho hb hg hat))
    go_meet
    case rel => exact ⟨_, (y129), H', ⟨by first | omega | exact Nat.le_refl _⟩, ⟨by (with_reducible repeat (first | apply Kd.N_alloc | apply Kd.N_drewN | apply Kd.N_drew)); exact HO131.out⟩, ⟨hbT HB.out⟩⟩
   ·rw [if_neg c8] at H
    exact absurd H (by simp)
  ·rw [if_neg c7] at H
   have c7b0 : (a1 == (a0.size : Int)) = false := beq_eq_false_iff_ne.mpr c7
   have c7b1 : (a1 != (a0.size : Int)) = true := bne_iff_ne.mpr c7
   (first | rw [c7b0] | (simp only [i64_w, i32_w]; rw [c7b0]) | skip)
   by_cases c10 : 0 ≤ a1
   ·rw [if_pos c10] at H
    have c10b0 : decide (0 ≤ a1) = true := decide_eq_true c10
    clear c10
    by_cases c11 : a1 < (a0.size : Int)
    ·rw [if_pos c11] at H
     have c11b0 : decide (a1 < (a0.size : Int)) = true := decide_eq_true c11
     clear c11; obtain ⟨t132, A14, H⟩ := be H; obtain ⟨t135, A15, H⟩ := be H
     by_cases c16 : y126.length + t135.length < 5864062014805
     ·rw [if_pos c16] at H
      have LMc16 := Aside0.mk c16; clear c16; obtain ⟨y138, hy138⟩ : ∃ y_ : List (S26), y_ = (y126 ++ t135) := ⟨_, rfl⟩
      replace H : (spec_l7From.j0 k a0 a1 a2 y138) = some r := by first | (rw [hy138]; with_reducible exact H) | (have H2_ := (Option.bind_some _ _).symm.trans H; rw [hy138]; with_reducible exact H2_) | (have H2_ := (Option.bind_some _ _).symm.trans H; with_reducible exact H2_) | with_reducible exact H | (rw [hy138]; exact H) | exact H
      have Ny138 := Aside0.mk hy138; clear hy138; have H' := Aside0.mk H; clear H
      try go_wp2
      replace HO128 := asT (Kd.N_drew HO128.out); replace HB := asT (below_drew1 HB.out)
      have p12 : 0 ≤ (a1 : Int) := of_decide_eq_true asmT
      have q12 : a1 < (a0.size : Int) := of_decide_eq_true asmT
      have hx12 := bt_at a0 a1; replace p12 := eq_true p12; replace q12 := eq_true q12
      have p13 : 0 ≤ (a1 : Int) := of_decide_eq_true asmT
      have q13 : a1 < (a0.size : Int) := of_decide_eq_true asmT
      have hx13 := bt_at a0 a1; replace p13 := eq_true p13; replace q13 := eq_true q13
      refine start_ (n := 16) (S := fun w' => True) (ds := []) (bA 16 0) (by kernel_rfl) rfl rfl trivial (fun hHeld => ?_); refine with_tabW spec_l7From.tab4 spec_l7From.bits4 (fun HT_ HW_ => ?_)
      generalize w5.drew = w17 at HO128 HB hHeld ⊢
      refine pA 0 22 16 1 HT_.out ?_ rfl rfl; refine pA 1 23 16 3 HT_.out ?_ rfl rfl; refine pA 2 24 16 7 HT_.out ?_ rfl rfl; refine pA 4 26 16 23 HT_.out ?_ rfl rfl; refine pA 5 27 16 55 HT_.out ?_ rfl rfl; refine pA 8 30 16 311 HT_.out ?_ rfl rfl; refine pA 9 31 16 823 HT_.out ?_ rfl rfl; refine pA 10 32 16 1847 HT_.out ?_ rfl rfl; refine pA 11 33 16 3895 HT_.out ?_ rfl rfl
      refine take_ (i := 3) (N := some 25) (v := ?_) (a' := ?_) (bA 16 3903) rfl rfl (take_ofW HT_.out HW_.out (by kernel_rfl)) (fun _ _ _ h => h) (Or.inl ⟨by rfl, ?_⟩) hHeld ?_ ?_
      rotate_left
      ·intro w' _
       go_simp
       (with_reducible rfl)
      rotate_left
      ·simp only [Act.put, sA, sZ, sS, i64_w, i32_w]
       rfl
      refine take_ (i := 6) (N := some 28) (v := ?_) (a' := ?_) (bA 16 3967) rfl rfl (take_ofW HT_.out HW_.out (by kernel_rfl)) (fun _ _ _ h => h) (Or.inl ⟨by rfl, ?_⟩) hHeld ?_ ?_
      rotate_left
      ·intro w' _
       go_simp
       (with_reducible rfl)
      rotate_left
      ·simp only [Act.put, sA, sZ, sS, i64_w, i32_w]
       rfl
      refine pA 7 29 16 4095 HT_.out ?_ rfl rfl
      refine oA 12 34 16 8191 HT_.out (fun K hK => ?_) rfl rfl
      refine goes_ Try.func93 (by kernel_rfl) rfl #[.string a0, .int .i64 (wrap64 (a1 + 1)), .int .i64 a2] (by rfl) rfl rfl eqT ?_
      (with_reducible refine (ih k (by omega) a0 (wrap64 (a1 + 1)) a2 t132 _ A14.out).mono ?_); rintro e w18 ⟨v133, rfl, ho0, hb⟩; refine ⟨_, rfl, ?_⟩; have HO134 := asT (Kd.N_lower (Kd.N_mono (ok' := fun k_ => (w.heap.size ≤ k_) ∧ some k_ ≠ (v127 : Value).ownBlock) ho0 (fun k_ hk_ => ⟨(Nat.le_trans (below_size (hbT HB.out)) hk_), (Kd.fresh' (Kd.N_lt (by (with_reducible repeat (first | apply Kd.N_alloc | apply Kd.N_drewN | apply Kd.N_drew)); exact HO128.out)) k_ hk_)⟩)) (below_size (hbT HB.out))); replace HO128 := asT (Kd.N_elder' (by (with_reducible repeat (first | apply Kd.N_alloc | apply Kd.N_drewN | apply Kd.N_drew)); exact HO128.out) (Kd.N_base ho0) hb); replace HB := hS HB hb; (try clear hb hb2 hk hi ho0); obtain ⟨Ao19, co19, eo19⟩ := Kd.N_slice HO134.out; (first | subst eo19 | (injection eo19 with f1_ f2_ f3_; have f4_ := f1_.symm; have f5_ := f3_.symm; clear f1_ f2_ f3_; subst f4_; subst f5_))
      refine hK.out _ _ trivial (fun hHeld => ?_)
      clear hK K
      refine nB 34 ?_ rfl
      refine oA 13 35 16 16383 HT_.out (fun K hK => ?_) rfl rfl
      refine goes_ Try.func134 (by kernel_rfl) rfl #[.agg #[.int .u8 (bt a0 a1), .int .u8 (bt a0 a1)], .slice Ao19 t132.length co19] (by rfl) rfl rfl eqT ?_
      (with_reducible refine (spec_l7Before.calls k (bt a0 a1) (bt a0 a1) _ _ t132 t135 _ ?side1 ?side2 A15.out).mono ?_); (case side1 => repeat (first | exact (Kd.N_reads' HO134.out).2.2 | (with_reducible refine Kd.C_alloc ?_ _) | (with_reducible refine Kd.C_drewN ?_ _) | (with_reducible refine Kd.C_drew ?_))); (case side2 => exact (Kd.N_reads' HO134.out).2.1); rintro e w20 ⟨v136, rfl, ho0, hb⟩; refine ⟨_, rfl, ?_⟩; have HO137 := asT (Kd.N_lower (Kd.N_mono (ok' := fun k_ => (w.heap.size ≤ k_) ∧ some k_ ≠ (v127 : Value).ownBlock ∧ some k_ ≠ (.slice Ao19 t132.length co19 : Value).ownBlock) (Kd.S_N (Kd.S_bound ho0)) (fun k_ hk_ => ⟨(Nat.le_trans (below_size (hbT HB.out)) hk_.2.1), (Kd.fresh' (Kd.N_lt (by (with_reducible repeat (first | apply Kd.N_alloc | apply Kd.N_drewN | apply Kd.N_drew)); exact HO128.out)) k_ hk_.2.1), (Kd.fresh' (Kd.N_lt (by (with_reducible repeat (first | apply Kd.N_alloc | apply Kd.N_drewN | apply Kd.N_drew)); exact HO134.out)) k_ hk_.2.1)⟩)) (below_size (hbT HB.out))); replace HO128 := asT (Kd.N_elder' (by (with_reducible repeat (first | apply Kd.N_alloc | apply Kd.N_drewN | apply Kd.N_drew)); exact HO128.out) (Kd.S_base ho0) hb); replace HO134 := asT (Kd.N_elder' (by (with_reducible repeat (first | apply Kd.N_alloc | apply Kd.N_drewN | apply Kd.N_drew)); exact HO134.out) (Kd.S_base ho0) hb); replace HB := hS HB hb; (try clear hb hb2 hk hi ho0); obtain ⟨Ao22, co22, eo22⟩ := Kd.N_slice HO137.out; (first | subst eo22 | (injection eo22 with f1_ f2_ f3_; have f4_ := f1_.symm; have f5_ := f3_.symm; clear f1_ f2_ f3_; subst f4_; subst f5_))
      refine hK.out _ _ trivial (fun hHeld => ?_)
      clear hK K
      refine nB 35 ?_ rfl
      refine oA 14 36 16 32767 HT_.out (fun K hK => ?_) rfl rfl
      refine Kd.N_append_rows_step k26 (w0 := w) w.heap.size (by rfl) (.tmp 22) (.tmp 35) 35 26 (.agg #[(.slice none 0 0)]) 24 rfl Try.underlying35 info26 rfl (by decide) (by omega) v127 y126 t135 _ _ _ (fun k_ => (w.heap.size ≤ k_) ∧ some k_ ≠ (.slice Ao19 t132.length co19 : Value).ownBlock) (fun k_ => ((fun k_ => (w.heap.size ≤ k_) ∧ some k_ ≠ (.slice Ao19 t132.length co19 : Value).ownBlock)) k_ ∧ some k_ ≠ (v127 : Value).ownBlock) rfl rfl ?aO ?aR (fun _ hk => hk) ?aF ?aB ?aS ?aL ?_
      (case aR => exact (by skip; exact Kd.N_F (Kd.N_mono (ok' := (fun k_ => ((fun k_ => (w.heap.size ≤ k_) ∧ some k_ ≠ (.slice Ao19 t132.length co19 : Value).ownBlock)) k_ ∧ some k_ ≠ (v127 : Value).ownBlock)) (HO137.out) (fun k_ hk => ⟨⟨hk.1, hk.2.2⟩, hk.2.1⟩))))
      (case aB => exact (hbT HB.out))
      (case aF => exact (fun k_ hk => ⟨(Nat.le_trans (below_size (hbT HB.out)) hk), Kd.fresh' (Kd.N_lt (by (with_reducible repeat (first | apply Kd.N_alloc | apply Kd.N_drewN | apply Kd.N_drew)); exact HO134.out)) k_ hk⟩))
      (case aO => exact (by (with_reducible repeat (first | apply Kd.N_alloc | apply Kd.N_drewN | apply Kd.N_drew)); exact Kd.N_mono HO128.out (fun _ hk => ⟨hk.1.1, hk.1.2⟩)))
      (case aS => exact (below_size (hbT HB.out)))
      (case aL => have := LMc16.out; omega)
      intro v139 w21 ho hb hg hat
      rw [← Ny138.out] at ho; replace HO134 := asT (Kd.N_afterv (ok := (fun k_ => (w.heap.size ≤ k_) ∧ some k_ ≠ (.slice Ao22 t135.length co22 : Value).ownBlock)) (by (with_reducible repeat (first | apply Kd.N_alloc | apply Kd.N_drewN | apply Kd.N_drew)); exact Kd.N_mono HO134.out (fun _ hk => ⟨⟨hk.1.1, hk.2⟩, hk.1.2⟩)) hg hat); replace HO137 := asT (Kd.N_afterv (ok := (fun k_ => (w.heap.size ≤ k_) ∧ some k_ ≠ (.slice Ao19 t132.length co19 : Value).ownBlock)) (by (with_reducible repeat (first | apply Kd.N_alloc | apply Kd.N_drewN | apply Kd.N_drew)); exact Kd.N_mono HO137.out (fun _ hk => ⟨⟨hk.1, hk.2.2⟩, hk.2.1⟩)) hg hat); replace HB := asT (hb); have HO140 := asT (ho); clear HO128 ho hb hg hat
      refine hK.out _ _ trivial (fun hHeld => ?_)
      clear hK K
      refine nB 36 ?_ rfl; refine pA 15 7 16 65535 HT_.out ?_ rfl rfl
      refine done_ (done_of HT_.out (by kernel_rfl)) ?_
      try go_wp2
      go_meet
      case rel => exact ⟨_, (y138), H', ⟨by first | omega | exact Nat.le_refl _⟩, ⟨by (with_reducible repeat (first | apply Kd.N_alloc | apply Kd.N_drewN | apply Kd.N_drew)); exact Kd.N_mono HO140.out (fun _ hk => hk.1)⟩, ⟨hbT HB.out⟩⟩
     ·rw [if_neg c16] at H
      exact absurd H (by simp)
    ·rw [if_neg c11] at H
     exact absurd H (by simp)
   ·rw [if_neg c10] at H
    exact absurd H (by simp)
 case rest =>
  clear HC4; (try clear c1 p1 q1 hx1 p2 p6 c7 c7b0 c7b1 c8 c9 c10 c10b0 c11 c11b0 p12 q12 hx12 c13 p13 q13 hx13 c16 p12 p13 q12 q13); obtain ⟨kq, x7_3, HA, HJ3, HO_7, HB⟩ := hcut
  cases kq with
  | zero => exact absurd HA.out (by simp [spec_l7From.j0])
  | succ kj3 =>
   have H := HA.out; clear HA
   simp only [spec_l7From.j0] at H
   by_cases c23 : a2 = 0
   ·rw [if_pos c23] at H
    have c23b0 : (a2 == 0) = true := beq_iff_eq.mpr c23
    have c23b1 : (a2 != 0) = false := bne_eq_false_iff_eq.mpr c23
    clear c23
    obtain rfl := Option.some.inj H
    go_wp2
    go_ret
    exact ⟨_, rlT, by (with_reducible repeat (first | apply Kd.N_alloc | apply Kd.N_drewN | apply Kd.N_drew)); exact HO_7.out, hbT HB.out⟩
   ·rw [if_neg c23] at H
    have c23b0 : (a2 == 0) = false := beq_eq_false_iff_ne.mpr c23
    have c23b1 : (a2 != 0) = true := bne_iff_ne.mpr c23
    have HC24 := Aside0.mk H; clear H
    go_upto_if 43 with (fail)
    go_cut [7] (fun v7 wc => ∃ (kq : Nat) (x7_23 : List (S26)), Aside0 (spec_l7From.j1 kq a0 a1 a2 x7_23 = some r) ∧ Aside0 (kq ≤ kj3) ∧ Aside0 (Kd.N k26 26 wc w.heap.size (fun k_ => (w.heap.size ≤ k_)) v7 x7_23) ∧ Aside0 (Below w.heap.size w wc))
    case first =>
     have H := HC24.out; clear HC24
     by_cases c25 : a1 < (a0.size : Int)
     ·rw [if_pos c25] at H
      have c25b0 : decide (a1 < (a0.size : Int)) = true := decide_eq_true c25
      clear c25
      (first | rw [c25b0] | (simp only [i64_w, i32_w]; rw [c25b0]) | skip)
      obtain ⟨t141, A26, H⟩ := be H
      by_cases c27 : 0 ≤ a1
      ·rw [if_pos c27] at H
       have c27b0 : decide (0 ≤ a1) = true := decide_eq_true c27
       clear c27; obtain ⟨t144, A29, H⟩ := be H
       by_cases c30 : x7_3.length + t144.length < 5864062014805
       ·rw [if_pos c30] at H
        have LMc30 := Aside0.mk c30; clear c30; obtain ⟨y147, hy147⟩ : ∃ y_ : List (S26), y_ = (x7_3 ++ t144) := ⟨_, rfl⟩
        replace H : ((spec_SwapVoice.f (bt a0 a1)).bind fun bt150 => (if bt150.2 = true then ((spec_l7Before.f kj3 (bt a0 a1) bt150.1 t141).bind fun t152 => (if y147.length + t152.length < 5864062014805 then (spec_l7From.j1 kj3 a0 a1 a2 (y147 ++ t152)) else (none))) else (spec_l7From.j1 kj3 a0 a1 a2 y147))) = some r := by first | (rw [hy147]; with_reducible exact H) | (have H2_ := (Option.bind_some _ _).symm.trans H; rw [hy147]; with_reducible exact H2_) | (have H2_ := (Option.bind_some _ _).symm.trans H; with_reducible exact H2_) | with_reducible exact H | (rw [hy147]; exact H) | exact H
        have Ny147 := Aside0.mk hy147; clear hy147; replace H := Option.bind_eq_some_iff.mp H; obtain ⟨⟨t150, t151⟩, A320, H⟩ := H; replace H : (if t151 = true then ((spec_l7Before.f kj3 (bt a0 a1) t150 t141).bind fun t152 => (if y147.length + t152.length < 5864062014805 then (spec_l7From.j1 kj3 a0 a1 a2 (y147 ++ t152)) else (none))) else (spec_l7From.j1 kj3 a0 a1 a2 y147)) = some r := H; have A32 := Aside0.mk A320; clear A320
        by_cases c33 : t151 = true
        ·subst c33
         rw [if_pos rfl] at H; obtain ⟨t152, A35, H⟩ := be H
         by_cases c36 : y147.length + t152.length < 5864062014805
         ·rw [if_pos c36] at H
          have LMc36 := Aside0.mk c36; clear c36; obtain ⟨y155, hy155⟩ : ∃ y_ : List (S26), y_ = (y147 ++ t152) := ⟨_, rfl⟩
          replace H : (spec_l7From.j1 kj3 a0 a1 a2 y155) = some r := by first | (rw [hy155]; with_reducible exact H) | (have H2_ := (Option.bind_some _ _).symm.trans H; rw [hy155]; with_reducible exact H2_) | (have H2_ := (Option.bind_some _ _).symm.trans H; with_reducible exact H2_) | with_reducible exact H | (rw [hy155]; exact H) | exact H
          have Ny155 := Aside0.mk hy155; clear hy155; have H' := Aside0.mk H; clear H
          go_wp2_with (first | ((with_reducible refine gate_callee (f := 93) rfl ?_); refine goesL_ (some 49) rfl rfl Try.func93 (by kernel_rfl) rfl #[.string a0, .int .i64 (wrap64 (a1 + 1)), .int .i64 (wrap64 (a2 - 1))] rfl eqT ?_; (with_reducible refine (ih kj3 (by have := HJ3.out; omega) a0 (wrap64 (a1 + 1)) (wrap64 (a2 - 1)) t141 _ A26.out).mono ?_); rintro e w37 ⟨v142, rfl, ho0, hb⟩; refine ⟨_, rfl, ?_⟩; have HO143 := asT (Kd.N_lower (Kd.N_mono (ok' := fun k_ => (w.heap.size ≤ k_) ∧ some k_ ≠ (u7 : Value).ownBlock) ho0 (fun k_ hk_ => ⟨(Nat.le_trans (below_size (hbT HB.out)) hk_), (Kd.fresh' (Kd.N_lt (by (with_reducible repeat (first | apply Kd.N_alloc | apply Kd.N_drewN | apply Kd.N_drew)); exact HO_7.out)) k_ hk_)⟩)) (below_size (hbT HB.out))); replace HO_7 := asT (Kd.N_elder' (by (with_reducible repeat (first | apply Kd.N_alloc | apply Kd.N_drewN | apply Kd.N_drew)); exact HO_7.out) (Kd.N_base ho0) hb); replace HB := hS HB hb; (try clear hb hb2 hk hi ho0); have p28 : 0 ≤ (a1 : Int) := of_decide_eq_true asmT; have q28 : a1 < (a0.size : Int) := of_decide_eq_true asmT; have hx28 := bt_at a0 a1; replace p28 := eq_true p28; replace q28 := eq_true q28; obtain ⟨Ao38, co38, eo38⟩ := Kd.N_slice HO143.out; subst eo38) | ((with_reducible refine gate_callee (f := 134) rfl ?_); refine goesL_ (some 56) rfl rfl Try.func134 (by kernel_rfl) rfl #[.agg #[.int .u8 (bt a0 a1), .int .u8 0], .slice Ao38 t141.length co38] rfl eqT ?_; (with_reducible refine (spec_l7Before.calls kj3 (bt a0 a1) 0 _ _ t141 t144 _ ?side1 ?side2 A29.out).mono ?_); (case side1 => repeat (first | exact (Kd.N_reads' HO143.out).2.2 | (with_reducible refine Kd.C_alloc ?_ _) | (with_reducible refine Kd.C_drewN ?_ _) | (with_reducible refine Kd.C_drew ?_))); (case side2 => exact (Kd.N_reads' HO143.out).2.1); rintro e w39 ⟨v145, rfl, ho0, hb⟩; refine ⟨_, rfl, ?_⟩; have HO146 := asT (Kd.N_lower (Kd.N_mono (ok' := fun k_ => (w.heap.size ≤ k_) ∧ some k_ ≠ (u7 : Value).ownBlock ∧ some k_ ≠ (.slice Ao38 t141.length co38 : Value).ownBlock) (Kd.S_N (Kd.S_bound ho0)) (fun k_ hk_ => ⟨(Nat.le_trans (below_size (hbT HB.out)) hk_.2.1), (Kd.fresh' (Kd.N_lt (by (with_reducible repeat (first | apply Kd.N_alloc | apply Kd.N_drewN | apply Kd.N_drew)); exact HO_7.out)) k_ hk_.2.1), (Kd.fresh' (Kd.N_lt (by (with_reducible repeat (first | apply Kd.N_alloc | apply Kd.N_drewN | apply Kd.N_drew)); exact HO143.out)) k_ hk_.2.1)⟩)) (below_size (hbT HB.out))); replace HO_7 := asT (Kd.N_elder' (by (with_reducible repeat (first | apply Kd.N_alloc | apply Kd.N_drewN | apply Kd.N_drew)); exact HO_7.out) (Kd.S_base ho0) hb); replace HO143 := asT (Kd.N_elder' (by (with_reducible repeat (first | apply Kd.N_alloc | apply Kd.N_drewN | apply Kd.N_drew)); exact HO143.out) (Kd.S_base ho0) hb); replace HB := hS HB hb; (try clear hb hb2 hk hi ho0); obtain ⟨Ao41, co41, eo41⟩ := Kd.N_slice HO146.out; subst eo41) | ((with_reducible refine gate_builtin (b := .append) (xs := #[.tmp 50, .tmp 56]) rfl ?_); at_builtin; refine Kd.N_append_rows k26 (w0 := w) w.heap.size rfl (.tmp 50) (.tmp 56) 35 26 (.agg #[(.slice none 0 0)]) 24 rfl Try.underlying35 info26 rfl (by decide) (by omega) u7 x7_3 t144 _ _ _ (fun k_ => (w.heap.size ≤ k_) ∧ some k_ ≠ (.slice Ao38 t141.length co38 : Value).ownBlock) (fun k_ => ((fun k_ => (w.heap.size ≤ k_) ∧ some k_ ≠ (.slice Ao38 t141.length co38 : Value).ownBlock)) k_ ∧ some k_ ≠ (u7 : Value).ownBlock) rfl rfl ?aO ?aR (fun _ hk => hk) ?aF ?aB ?aS ?aL ?_; (case aR => exact (by skip; exact Kd.N_F (Kd.N_mono (ok' := (fun k_ => ((fun k_ => (w.heap.size ≤ k_) ∧ some k_ ≠ (.slice Ao38 t141.length co38 : Value).ownBlock)) k_ ∧ some k_ ≠ (u7 : Value).ownBlock)) (HO146.out) (fun k_ hk => ⟨⟨hk.1, hk.2.2⟩, hk.2.1⟩)))); (case aB => exact (hbT HB.out)); (case aF => exact (fun k_ hk => ⟨(Nat.le_trans (below_size (hbT HB.out)) hk), Kd.fresh' (Kd.N_lt (by (with_reducible repeat (first | apply Kd.N_alloc | apply Kd.N_drewN | apply Kd.N_drew)); exact HO143.out)) k_ hk⟩)); (case aO => exact (by (with_reducible repeat (first | apply Kd.N_alloc | apply Kd.N_drewN | apply Kd.N_drew)); exact Kd.N_mono HO_7.out (fun _ hk => ⟨hk.1.1, hk.1.2⟩))); (case aS => exact (below_size (hbT HB.out))); (case aL => have := LMc30.out; omega); intro v148 w40 ho hb hg hat; rw [← Ny147.out] at ho; replace HO143 := asT (Kd.N_afterv (ok := (fun k_ => (w.heap.size ≤ k_) ∧ some k_ ≠ (.slice Ao41 t144.length co41 : Value).ownBlock)) (by (with_reducible repeat (first | apply Kd.N_alloc | apply Kd.N_drewN | apply Kd.N_drew)); exact Kd.N_mono HO143.out (fun _ hk => ⟨⟨hk.1.1, hk.2⟩, hk.1.2⟩)) hg hat); replace HO146 := asT (Kd.N_afterv (ok := (fun k_ => (w.heap.size ≤ k_) ∧ some k_ ≠ (.slice Ao38 t141.length co38 : Value).ownBlock)) (by (with_reducible repeat (first | apply Kd.N_alloc | apply Kd.N_drewN | apply Kd.N_drew)); exact Kd.N_mono HO146.out (fun _ hk => ⟨⟨hk.1, hk.2.2⟩, hk.2.1⟩)) hg hat); replace HB := asT (hb); have HO149 := asT (ho); clear HO_7 ho hb hg hat; have p31 : 0 ≤ (a1 : Int) := of_decide_eq_true asmT; have q31 : a1 < (a0.size : Int) := of_decide_eq_true asmT; have hx31 := bt_at a0 a1; replace p31 := eq_true p31; replace q31 := eq_true q31) | ((with_reducible refine gate_callee (f := 84) rfl ?_); refine goesL_ (some 62) rfl rfl Try.func84 (by kernel_rfl) rfl #[.int .u8 (bt a0 a1)] rfl eqT ?_; (with_reducible refine (spec_SwapVoice.calls (bt a0 a1) t150 true _ A32.out).mono ?_); rintro e w' ⟨rfl, ⟨nd, rfl⟩⟩; refine ⟨_, rfl, ?_⟩; have p34 : 0 ≤ (a1 : Int) := of_decide_eq_true asmT; have q34 : a1 < (a0.size : Int) := of_decide_eq_true asmT; have hx34 := bt_at a0 a1; replace p34 := eq_true p34; replace q34 := eq_true q34) | ((with_reducible refine gate_callee (f := 134) rfl ?_); refine goesL_ (some 73) rfl rfl Try.func134 (by kernel_rfl) rfl #[.agg #[.int .u8 (bt a0 a1), .int .u8 t150], .slice Ao38 t141.length co38] rfl eqT ?_; (with_reducible refine (spec_l7Before.calls kj3 (bt a0 a1) t150 _ _ t141 t152 _ ?side1 ?side2 A35.out).mono ?_); (case side1 => repeat (first | exact (Kd.N_reads' HO143.out).2.2 | (with_reducible refine Kd.C_alloc ?_ _) | (with_reducible refine Kd.C_drewN ?_ _) | (with_reducible refine Kd.C_drew ?_))); (case side2 => exact (Kd.N_reads' HO143.out).2.1); rintro e w42 ⟨v153, rfl, ho0, hb⟩; refine ⟨_, rfl, ?_⟩; have HO154 := asT (Kd.N_lower (Kd.N_mono (ok' := fun k_ => (w.heap.size ≤ k_) ∧ some k_ ≠ (.slice Ao38 t141.length co38 : Value).ownBlock ∧ some k_ ≠ (.slice Ao41 t144.length co41 : Value).ownBlock ∧ some k_ ≠ (v148 : Value).ownBlock) (Kd.S_N (Kd.S_bound ho0)) (fun k_ hk_ => ⟨(Nat.le_trans (below_size (hbT HB.out)) hk_.2.1), (Kd.fresh' (Kd.N_lt (by (with_reducible repeat (first | apply Kd.N_alloc | apply Kd.N_drewN | apply Kd.N_drew)); exact HO143.out)) k_ hk_.2.1), (Kd.fresh' (Kd.N_lt (by (with_reducible repeat (first | apply Kd.N_alloc | apply Kd.N_drewN | apply Kd.N_drew)); exact HO146.out)) k_ hk_.2.1), (Kd.fresh' (Kd.N_lt (by (with_reducible repeat (first | apply Kd.N_alloc | apply Kd.N_drewN | apply Kd.N_drew)); exact HO149.out)) k_ hk_.2.1)⟩)) (below_size (hbT HB.out))); replace HO143 := asT (Kd.N_elder' (by (with_reducible repeat (first | apply Kd.N_alloc | apply Kd.N_drewN | apply Kd.N_drew)); exact HO143.out) (Kd.S_base ho0) hb); replace HO146 := asT (Kd.N_elder' (by (with_reducible repeat (first | apply Kd.N_alloc | apply Kd.N_drewN | apply Kd.N_drew)); exact HO146.out) (Kd.S_base ho0) hb); replace HO149 := asT (Kd.N_elder' (by (with_reducible repeat (first | apply Kd.N_alloc | apply Kd.N_drewN | apply Kd.N_drew)); exact HO149.out) (Kd.S_base ho0) hb); replace HB := hS HB hb; (try clear hb hb2 hk hi ho0); obtain ⟨Ao44, co44, eo44⟩ := Kd.N_slice HO154.out; subst eo44) | ((with_reducible refine gate_builtin (b := .append) (xs := #[.tmp 66, .tmp 73]) rfl ?_); at_builtin; refine Kd.N_append_rows k26 (w0 := w) w.heap.size rfl (.tmp 66) (.tmp 73) 35 26 (.agg #[(.slice none 0 0)]) 24 rfl Try.underlying35 info26 rfl (by decide) (by omega) v148 y147 t152 _ _ _ (fun k_ => (w.heap.size ≤ k_) ∧ some k_ ≠ (.slice Ao38 t141.length co38 : Value).ownBlock) (fun k_ => ((fun k_ => (w.heap.size ≤ k_) ∧ some k_ ≠ (.slice Ao38 t141.length co38 : Value).ownBlock)) k_ ∧ some k_ ≠ (v148 : Value).ownBlock) rfl rfl ?aO ?aR (fun _ hk => hk) ?aF ?aB ?aS ?aL ?_; (case aR => exact (by skip; exact Kd.N_F (Kd.N_mono (ok' := (fun k_ => ((fun k_ => (w.heap.size ≤ k_) ∧ some k_ ≠ (.slice Ao38 t141.length co38 : Value).ownBlock)) k_ ∧ some k_ ≠ (v148 : Value).ownBlock)) (HO154.out) (fun k_ hk => ⟨⟨hk.1, hk.2.1⟩, hk.2.2.2⟩)))); (case aB => exact (hbT HB.out)); (case aF => exact (fun k_ hk => ⟨(Nat.le_trans (below_size (hbT HB.out)) hk), Kd.fresh' (Kd.N_lt (by (with_reducible repeat (first | apply Kd.N_alloc | apply Kd.N_drewN | apply Kd.N_drew)); exact HO143.out)) k_ hk⟩)); (case aO => exact (by (with_reducible repeat (first | apply Kd.N_alloc | apply Kd.N_drewN | apply Kd.N_drew)); exact Kd.N_mono HO149.out (fun _ hk => ⟨hk.1.1, hk.1.2⟩))); (case aS => exact (below_size (hbT HB.out))); (case aL => have := LMc36.out; omega); intro v156 w43 ho hb hg hat; rw [← Ny155.out] at ho; replace HO143 := asT (Kd.N_afterv (ok := (fun k_ => (w.heap.size ≤ k_) ∧ some k_ ≠ (.slice Ao41 t144.length co41 : Value).ownBlock ∧ some k_ ≠ (.slice Ao44 t152.length co44 : Value).ownBlock)) (by (with_reducible repeat (first | apply Kd.N_alloc | apply Kd.N_drewN | apply Kd.N_drew)); exact Kd.N_mono HO143.out (fun _ hk => ⟨⟨hk.1.1.1, ⟨hk.1.1.2, hk.2⟩⟩, hk.1.2⟩)) hg hat); replace HO146 := asT (Kd.N_afterv (ok := (fun k_ => (w.heap.size ≤ k_) ∧ some k_ ≠ (.slice Ao38 t141.length co38 : Value).ownBlock ∧ some k_ ≠ (.slice Ao44 t152.length co44 : Value).ownBlock)) (by (with_reducible repeat (first | apply Kd.N_alloc | apply Kd.N_drewN | apply Kd.N_drew)); exact Kd.N_mono HO146.out (fun _ hk => ⟨⟨hk.1.1.1, ⟨hk.1.1.2, hk.2⟩⟩, hk.1.2⟩)) hg hat); replace HO154 := asT (Kd.N_afterv (ok := (fun k_ => (w.heap.size ≤ k_) ∧ some k_ ≠ (.slice Ao38 t141.length co38 : Value).ownBlock ∧ some k_ ≠ (.slice Ao41 t144.length co41 : Value).ownBlock)) (by (with_reducible repeat (first | apply Kd.N_alloc | apply Kd.N_drewN | apply Kd.N_drew)); exact Kd.N_mono HO154.out (fun _ hk => ⟨⟨hk.1, ⟨hk.2.1, hk.2.2.1⟩⟩, hk.2.2.2⟩)) hg hat); replace HB := asT (hb); have HO157 := asT (ho); clear HO149 ho hb hg hat))
          go_meet
          case rel => exact ⟨_, (y155), H', ⟨by have := HJ3.out; first | omega | exact Nat.le_refl _⟩, ⟨by (with_reducible repeat (first | apply Kd.N_alloc | apply Kd.N_drewN | apply Kd.N_drew)); exact Kd.N_mono HO157.out (fun _ hk => hk.1)⟩, ⟨hbT HB.out⟩⟩
         ·rw [if_neg c36] at H
          exact absurd H (by simp)
        ·replace c33 := Bool.eq_false_iff.mpr c33
         subst c33; rw [if_neg nF] at H; have H' := Aside0.mk H; clear H
         go_wp2_with (first | ((with_reducible refine gate_callee (f := 93) rfl ?_); refine goesL_ (some 49) rfl rfl Try.func93 (by kernel_rfl) rfl #[.string a0, .int .i64 (wrap64 (a1 + 1)), .int .i64 (wrap64 (a2 - 1))] rfl eqT ?_; (with_reducible refine (ih kj3 (by have := HJ3.out; omega) a0 (wrap64 (a1 + 1)) (wrap64 (a2 - 1)) t141 _ A26.out).mono ?_); rintro e w45 ⟨v142, rfl, ho0, hb⟩; refine ⟨_, rfl, ?_⟩; have HO143 := asT (Kd.N_lower (Kd.N_mono (ok' := fun k_ => (w.heap.size ≤ k_) ∧ some k_ ≠ (u7 : Value).ownBlock) ho0 (fun k_ hk_ => ⟨(Nat.le_trans (below_size (hbT HB.out)) hk_), (Kd.fresh' (Kd.N_lt (by (with_reducible repeat (first | apply Kd.N_alloc | apply Kd.N_drewN | apply Kd.N_drew)); exact HO_7.out)) k_ hk_)⟩)) (below_size (hbT HB.out))); replace HO_7 := asT (Kd.N_elder' (by (with_reducible repeat (first | apply Kd.N_alloc | apply Kd.N_drewN | apply Kd.N_drew)); exact HO_7.out) (Kd.N_base ho0) hb); replace HB := hS HB hb; (try clear hb hb2 hk hi ho0); have p28 : 0 ≤ (a1 : Int) := of_decide_eq_true asmT; have q28 : a1 < (a0.size : Int) := of_decide_eq_true asmT; have hx28 := bt_at a0 a1; replace p28 := eq_true p28; replace q28 := eq_true q28; obtain ⟨Ao46, co46, eo46⟩ := Kd.N_slice HO143.out; subst eo46) | ((with_reducible refine gate_callee (f := 134) rfl ?_); refine goesL_ (some 56) rfl rfl Try.func134 (by kernel_rfl) rfl #[.agg #[.int .u8 (bt a0 a1), .int .u8 0], .slice Ao46 t141.length co46] rfl eqT ?_; (with_reducible refine (spec_l7Before.calls kj3 (bt a0 a1) 0 _ _ t141 t144 _ ?side1 ?side2 A29.out).mono ?_); (case side1 => repeat (first | exact (Kd.N_reads' HO143.out).2.2 | (with_reducible refine Kd.C_alloc ?_ _) | (with_reducible refine Kd.C_drewN ?_ _) | (with_reducible refine Kd.C_drew ?_))); (case side2 => exact (Kd.N_reads' HO143.out).2.1); rintro e w47 ⟨v145, rfl, ho0, hb⟩; refine ⟨_, rfl, ?_⟩; have HO146 := asT (Kd.N_lower (Kd.N_mono (ok' := fun k_ => (w.heap.size ≤ k_) ∧ some k_ ≠ (u7 : Value).ownBlock ∧ some k_ ≠ (.slice Ao46 t141.length co46 : Value).ownBlock) (Kd.S_N (Kd.S_bound ho0)) (fun k_ hk_ => ⟨(Nat.le_trans (below_size (hbT HB.out)) hk_.2.1), (Kd.fresh' (Kd.N_lt (by (with_reducible repeat (first | apply Kd.N_alloc | apply Kd.N_drewN | apply Kd.N_drew)); exact HO_7.out)) k_ hk_.2.1), (Kd.fresh' (Kd.N_lt (by (with_reducible repeat (first | apply Kd.N_alloc | apply Kd.N_drewN | apply Kd.N_drew)); exact HO143.out)) k_ hk_.2.1)⟩)) (below_size (hbT HB.out))); replace HO_7 := asT (Kd.N_elder' (by (with_reducible repeat (first | apply Kd.N_alloc | apply Kd.N_drewN | apply Kd.N_drew)); exact HO_7.out) (Kd.S_base ho0) hb); replace HO143 := asT (Kd.N_elder' (by (with_reducible repeat (first | apply Kd.N_alloc | apply Kd.N_drewN | apply Kd.N_drew)); exact HO143.out) (Kd.S_base ho0) hb); replace HB := hS HB hb; (try clear hb hb2 hk hi ho0); obtain ⟨Ao49, co49, eo49⟩ := Kd.N_slice HO146.out; subst eo49) | ((with_reducible refine gate_builtin (b := .append) (xs := #[.tmp 50, .tmp 56]) rfl ?_); at_builtin; refine Kd.N_append_rows k26 (w0 := w) w.heap.size rfl (.tmp 50) (.tmp 56) 35 26 (.agg #[(.slice none 0 0)]) 24 rfl Try.underlying35 info26 rfl (by decide) (by omega) u7 x7_3 t144 _ _ _ (fun k_ => (w.heap.size ≤ k_) ∧ some k_ ≠ (.slice Ao46 t141.length co46 : Value).ownBlock) (fun k_ => ((fun k_ => (w.heap.size ≤ k_) ∧ some k_ ≠ (.slice Ao46 t141.length co46 : Value).ownBlock)) k_ ∧ some k_ ≠ (u7 : Value).ownBlock) rfl rfl ?aO ?aR (fun _ hk => hk) ?aF ?aB ?aS ?aL ?_; (case aR => exact (by skip; exact Kd.N_F (Kd.N_mono (ok' := (fun k_ => ((fun k_ => (w.heap.size ≤ k_) ∧ some k_ ≠ (.slice Ao46 t141.length co46 : Value).ownBlock)) k_ ∧ some k_ ≠ (u7 : Value).ownBlock)) (HO146.out) (fun k_ hk => ⟨⟨hk.1, hk.2.2⟩, hk.2.1⟩)))); (case aB => exact (hbT HB.out)); (case aF => exact (fun k_ hk => ⟨(Nat.le_trans (below_size (hbT HB.out)) hk), Kd.fresh' (Kd.N_lt (by (with_reducible repeat (first | apply Kd.N_alloc | apply Kd.N_drewN | apply Kd.N_drew)); exact HO143.out)) k_ hk⟩)); (case aO => exact (by (with_reducible repeat (first | apply Kd.N_alloc | apply Kd.N_drewN | apply Kd.N_drew)); exact Kd.N_mono HO_7.out (fun _ hk => ⟨hk.1.1, hk.1.2⟩))); (case aS => exact (below_size (hbT HB.out))); (case aL => have := LMc30.out; omega); intro v148 w48 ho hb hg hat; rw [← Ny147.out] at ho; replace HO143 := asT (Kd.N_afterv (ok := (fun k_ => (w.heap.size ≤ k_) ∧ some k_ ≠ (.slice Ao49 t144.length co49 : Value).ownBlock)) (by (with_reducible repeat (first | apply Kd.N_alloc | apply Kd.N_drewN | apply Kd.N_drew)); exact Kd.N_mono HO143.out (fun _ hk => ⟨⟨hk.1.1, hk.2⟩, hk.1.2⟩)) hg hat); replace HO146 := asT (Kd.N_afterv (ok := (fun k_ => (w.heap.size ≤ k_) ∧ some k_ ≠ (.slice Ao46 t141.length co46 : Value).ownBlock)) (by (with_reducible repeat (first | apply Kd.N_alloc | apply Kd.N_drewN | apply Kd.N_drew)); exact Kd.N_mono HO146.out (fun _ hk => ⟨⟨hk.1, hk.2.2⟩, hk.2.1⟩)) hg hat); replace HB := asT (hb); have HO149 := asT (ho); clear HO_7 ho hb hg hat; have p31 : 0 ≤ (a1 : Int) := of_decide_eq_true asmT; have q31 : a1 < (a0.size : Int) := of_decide_eq_true asmT; have hx31 := bt_at a0 a1; replace p31 := eq_true p31; replace q31 := eq_true q31) | ((with_reducible refine gate_callee (f := 84) rfl ?_); refine goesL_ (some 62) rfl rfl Try.func84 (by kernel_rfl) rfl #[.int .u8 (bt a0 a1)] rfl eqT ?_; (with_reducible refine (spec_SwapVoice.calls (bt a0 a1) t150 false _ A32.out).mono ?_); rintro e w' ⟨rfl, ⟨nd, rfl⟩⟩; refine ⟨_, rfl, ?_⟩))
         go_meet
         case rel => exact ⟨_, (y147), H', ⟨by have := HJ3.out; first | omega | exact Nat.le_refl _⟩, ⟨by (with_reducible repeat (first | apply Kd.N_alloc | apply Kd.N_drewN | apply Kd.N_drew)); exact Kd.N_mono HO149.out (fun _ hk => hk.1)⟩, ⟨hbT HB.out⟩⟩
       ·rw [if_neg c30] at H
        exact absurd H (by simp)
      ·rw [if_neg c27] at H
       exact absurd H (by simp)
     ·rw [if_neg c25] at H
      have c25b0 : decide (a1 < (a0.size : Int)) = false := decide_eq_false c25
      clear c25
      (first | rw [c25b0] | (simp only [i64_w, i32_w]; rw [c25b0]) | skip)
      have H' := Aside0.mk H; clear H
      go_wp2
      go_meet
      case rel => exact ⟨_, (x7_3), H', ⟨by have := HJ3.out; first | omega | exact Nat.le_refl _⟩, ⟨by (with_reducible repeat (first | apply Kd.N_alloc | apply Kd.N_drewN | apply Kd.N_drew)); exact HO_7.out⟩, ⟨hbT HB.out⟩⟩
    case rest =>
     clear HC24; (try clear c1 p1 q1 hx1 c2 p2 q2 hx2 c3 p3 q3 hx3 p6 c7 c7b0 c7b1 c8 c9 c10 c10b0 c11 c11b0 p12 q12 hx12 c13 p13 q13 hx13 c16 c23 c23b0 c23b1 c25 c25b0 c27 c27b0 p28 q28 hx28 c30 p31 q31 hx31 c33 p34 q34 hx34 c36 p1 p12 p13 p2 p28 p31 p34 p6 q1 q12 q13 q28 q31 q34); obtain ⟨kq, x7_23, HA, HJ23, HO_7, HB⟩ := hcut
     cases kq with
     | zero => exact absurd HA.out (by simp [spec_l7From.j1])
     | succ kj23 =>
      have H := HA.out; clear HA
      simp only [spec_l7From.j1] at H
      obtain ⟨t158, A50, H⟩ := be H; have H' := Aside0.mk H; clear H
      go_wp2_with (first | ((with_reducible refine gate_callee (f := 93) rfl ?_); refine goesL_ (some 79) rfl rfl Try.func93 (by kernel_rfl) rfl #[.string a0, .int .i64 a1, .int .i64 (wrap64 (a2 - 1))] rfl eqT ?_; (with_reducible refine (ih kj23 (by have := HJ3.out; have := HJ23.out; omega) a0 a1 (wrap64 (a2 - 1)) t158 _ A50.out).mono ?_); rintro e w51 ⟨v159, rfl, ho0, hb⟩; refine ⟨_, rfl, ?_⟩; have HO160 := asT (Kd.N_lower (Kd.N_mono (ok' := fun k_ => (w.heap.size ≤ k_) ∧ some k_ ≠ (u7 : Value).ownBlock) ho0 (fun k_ hk_ => ⟨(Nat.le_trans (below_size (hbT HB.out)) hk_), (Kd.fresh' (Kd.N_lt (by (with_reducible repeat (first | apply Kd.N_alloc | apply Kd.N_drewN | apply Kd.N_drew)); exact HO_7.out)) k_ hk_)⟩)) (below_size (hbT HB.out))); replace HO_7 := asT (Kd.N_elder' (by (with_reducible repeat (first | apply Kd.N_alloc | apply Kd.N_drewN | apply Kd.N_drew)); exact HO_7.out) (Kd.N_base ho0) hb); replace HB := hS HB hb; (try clear hb hb2 hk hi ho0)))
      go_loopg [7, 12] kj23 (fun kq v7 v12 w' => ∃ (x7_3 : List (S26)) (x12_3 : Int), v12 = .int .i64 x12_3 ∧ Aside0 (spec_l7From.l0 kq x7_3 t158 x12_3 = some r) ∧ Aside0 (kq ≤ kj23) ∧ Aside0 (Kd.N k26 26 w' w.heap.size (fun k_ => (w.heap.size ≤ k_) ∧ some k_ ≠ (v159 : Value).ownBlock) v7 x7_3) ∧ Aside0 (Kd.N k26 26 w' w.heap.size (fun k_ => (w.heap.size ≤ k_) ∧ some k_ ≠ (v7 : Value).ownBlock) v159 t158) ∧ Aside0 (Below w.heap.size w w'))
      case atStart => exact ⟨(x7_23), (0), rdT, H', ⟨Nat.le_refl _⟩, ⟨by (with_reducible repeat (first | apply Kd.N_alloc | apply Kd.N_drewN | apply Kd.N_drew)); exact HO_7.out⟩, ⟨by (with_reducible repeat (first | apply Kd.N_alloc | apply Kd.N_drewN | apply Kd.N_drew)); exact HO160.out⟩, ⟨hbT HB.out⟩⟩
      case round =>
       clear H'; (try clear c1 p1 q1 hx1 c2 p2 q2 hx2 c3 p3 q3 hx3 p6 c7 c7b0 c7b1 c8 c9 c10 c10b0 c11 c11b0 p12 q12 hx12 c13 p13 q13 hx13 c16 c23 c23b0 c23b1 c25 c25b0 c27 c27b0 p28 q28 hx28 c30 p31 q31 hx31 c33 p34 q34 hx34 c36 p1 p12 p13 p2 p28 p3 p31 p34 p6 q1 q12 q13 q2 q28 q3 q31 q34); obtain ⟨x7_3, x12_3, rfl, HA, HK3, HO_7, HO_11, HB⟩ := hrel
       cases gk with
       | zero => exact absurd HA.out (by simp [spec_l7From.l0])
       | succ k3 =>
        have H := HA.out; clear HA
        simp only [spec_l7From.l0] at H
        by_cases c52 : x12_3 < 2
        ·rw [if_pos c52] at H
         have c52b0 : decide (x12_3 < 2) = true := decide_eq_true c52
         clear c52
         by_cases c53 : 0 ≤ x12_3
         ·rw [if_pos c53] at H
          have c53b0 : decide (0 ≤ x12_3) = true := decide_eq_true c53
          clear c53; obtain ⟨t161, A55, H⟩ := be H
          by_cases c56 : x7_3.length + t161.length < 5864062014805
          ·rw [if_pos c56] at H
           have LMc56 := Aside0.mk c56; clear c56; obtain ⟨y164, hy164⟩ : ∃ y_ : List (S26), y_ = (x7_3 ++ t161) := ⟨_, rfl⟩
           replace H : (spec_l7From.l0 k3 y164 t158 (wrap64 (x12_3 + 1))) = some r := by first | (rw [hy164]; with_reducible exact H) | (have H2_ := (Option.bind_some _ _).symm.trans H; rw [hy164]; with_reducible exact H2_) | (have H2_ := (Option.bind_some _ _).symm.trans H; with_reducible exact H2_) | with_reducible exact H | (rw [hy164]; exact H) | exact H
           have Ny164 := Aside0.mk hy164; clear hy164; have H' := Aside0.mk H; clear H
           have p54 : 0 ≤ (x12_3 : Int) := of_decide_eq_true asmT
           have q54 : x12_3 < (2 : Int) := of_decide_eq_true asmT
           have hx54 := bt_at (⟨#[116, 105]⟩ : ByteArray) x12_3; replace p54 := eq_true p54; replace q54 := eq_true q54; obtain ⟨Ao57, co57, eo57⟩ := Kd.N_slice HO_11.out; subst eo57
           go_wp2_with (first | ((with_reducible refine gate_callee (f := 134) rfl ?_); refine goesL_ (some 89) rfl rfl Try.func134 (by kernel_rfl) rfl #[.agg #[.int .u8 0, .int .u8 (bt (⟨#[116, 105]⟩ : ByteArray) x12_3)], .slice Ao57 t158.length co57] rfl eqT ?_; (with_reducible refine (spec_l7Before.calls k3 0 (bt (⟨#[116, 105]⟩ : ByteArray) x12_3) _ _ t158 t161 _ ?side1 ?side2 A55.out).mono ?_); (case side1 => repeat (first | exact (Kd.N_reads' HO_11.out).2.2 | (with_reducible refine Kd.C_alloc ?_ _) | (with_reducible refine Kd.C_drewN ?_ _) | (with_reducible refine Kd.C_drew ?_))); (case side2 => exact (Kd.N_reads' HO_11.out).2.1); rintro e w58 ⟨v162, rfl, ho0, hb⟩; refine ⟨_, rfl, ?_⟩; have HO163 := asT (Kd.N_lower (Kd.N_mono (ok' := fun k_ => (w.heap.size ≤ k_) ∧ some k_ ≠ (u7 : Value).ownBlock ∧ some k_ ≠ (.slice Ao57 t158.length co57 : Value).ownBlock) (Kd.S_N (Kd.S_bound ho0)) (fun k_ hk_ => ⟨(Nat.le_trans (below_size (hbT HB.out)) hk_.2.1), (Kd.fresh' (Kd.N_lt (by (with_reducible repeat (first | apply Kd.N_alloc | apply Kd.N_drewN | apply Kd.N_drew)); exact HO_7.out)) k_ hk_.2.1), (Kd.fresh' (Kd.N_lt (by (with_reducible repeat (first | apply Kd.N_alloc | apply Kd.N_drewN | apply Kd.N_drew)); exact HO_11.out)) k_ hk_.2.1)⟩)) (below_size (hbT HB.out))); replace HO_7 := asT (Kd.N_elder' (by (with_reducible repeat (first | apply Kd.N_alloc | apply Kd.N_drewN | apply Kd.N_drew)); exact HO_7.out) (Kd.S_base ho0) hb); replace HO_11 := asT (Kd.N_elder' (by (with_reducible repeat (first | apply Kd.N_alloc | apply Kd.N_drewN | apply Kd.N_drew)); exact HO_11.out) (Kd.S_base ho0) hb); replace HB := hS HB hb; (try clear hb hb2 hk hi ho0); obtain ⟨Ao60, co60, eo60⟩ := Kd.N_slice HO163.out; subst eo60) | ((with_reducible refine gate_builtin (b := .append) (xs := #[.tmp 84, .tmp 89]) rfl ?_); at_builtin; refine Kd.N_append_rows k26 (w0 := w) w.heap.size rfl (.tmp 84) (.tmp 89) 35 26 (.agg #[(.slice none 0 0)]) 24 rfl Try.underlying35 info26 rfl (by decide) (by omega) u7 x7_3 t161 _ _ _ (fun k_ => (w.heap.size ≤ k_) ∧ some k_ ≠ (.slice Ao57 t158.length co57 : Value).ownBlock) (fun k_ => ((fun k_ => (w.heap.size ≤ k_) ∧ some k_ ≠ (.slice Ao57 t158.length co57 : Value).ownBlock)) k_ ∧ some k_ ≠ (u7 : Value).ownBlock) rfl rfl ?aO ?aR (fun _ hk => hk) ?aF ?aB ?aS ?aL ?_; (case aR => exact (by skip; exact Kd.N_F (Kd.N_mono (ok' := (fun k_ => ((fun k_ => (w.heap.size ≤ k_) ∧ some k_ ≠ (.slice Ao57 t158.length co57 : Value).ownBlock)) k_ ∧ some k_ ≠ (u7 : Value).ownBlock)) (HO163.out) (fun k_ hk => ⟨⟨hk.1, hk.2.2⟩, hk.2.1⟩)))); (case aB => exact (hbT HB.out)); (case aF => exact (fun k_ hk => ⟨(Nat.le_trans (below_size (hbT HB.out)) hk), Kd.fresh' (Kd.N_lt (by (with_reducible repeat (first | apply Kd.N_alloc | apply Kd.N_drewN | apply Kd.N_drew)); exact HO_11.out)) k_ hk⟩)); (case aO => exact (by (with_reducible repeat (first | apply Kd.N_alloc | apply Kd.N_drewN | apply Kd.N_drew)); exact Kd.N_mono HO_7.out (fun _ hk => ⟨hk.1.1, hk.1.2⟩))); (case aS => exact (below_size (hbT HB.out))); (case aL => have := LMc56.out; omega); intro v165 w59 ho hb hg hat; rw [← Ny164.out] at ho; replace HO_11 := asT (Kd.N_afterv (ok := (fun k_ => (w.heap.size ≤ k_) ∧ some k_ ≠ (.slice Ao60 t161.length co60 : Value).ownBlock)) (by (with_reducible repeat (first | apply Kd.N_alloc | apply Kd.N_drewN | apply Kd.N_drew)); exact Kd.N_mono HO_11.out (fun _ hk => ⟨⟨hk.1.1, hk.2⟩, hk.1.2⟩)) hg hat); replace HO163 := asT (Kd.N_afterv (ok := (fun k_ => (w.heap.size ≤ k_) ∧ some k_ ≠ (.slice Ao57 t158.length co57 : Value).ownBlock)) (by (with_reducible repeat (first | apply Kd.N_alloc | apply Kd.N_drewN | apply Kd.N_drew)); exact Kd.N_mono HO163.out (fun _ hk => ⟨⟨hk.1, hk.2.2⟩, hk.2.1⟩)) hg hat); replace HB := asT (hb); have HO166 := asT (ho); clear HO_7 ho hb hg hat))
           go_roundg k3
           case measure => have := HJ3.out; have := HJ23.out; have := HK3.out; omega
           case rel => exact ⟨(y164), (wrap64 (x12_3 + 1)), rdT, H', ⟨by have := HJ3.out; have := HJ23.out; have := HK3.out; omega⟩, ⟨by (with_reducible repeat (first | apply Kd.N_alloc | apply Kd.N_drewN | apply Kd.N_drew)); exact HO166.out⟩, ⟨by (with_reducible repeat (first | apply Kd.N_alloc | apply Kd.N_drewN | apply Kd.N_drew)); exact Kd.N_mono HO_11.out (fun _ hk => ⟨hk.1.1, hk.2⟩)⟩, ⟨hbT HB.out⟩⟩
          ·rw [if_neg c56] at H
           exact absurd H (by simp)
         ·rw [if_neg c53] at H
          exact absurd H (by simp)
        ·rw [if_neg c52] at H
         have c52b0 : decide (x12_3 < 2) = false := decide_eq_false c52
         clear c52
         obtain rfl := Option.some.inj H
         go_wp2
         go_ret
         exact ⟨_, rlT, by (with_reducible repeat (first | apply Kd.N_alloc | apply Kd.N_drewN | apply Kd.N_drew)); exact Kd.N_mono HO_7.out (fun _ hk => hk.1), hbT HB.out⟩

/-! ### spec_OneEdit: function 48 -/
def spec_OneEdit.f (k : Nat) (a0 : ByteArray) : Option ((List (S26))) := (spec_IsForm.f k a0).bind fun t167 => (if t167 = true then (if (a0.size : Int) > 7 then (some (([] : List (S26)))) else ((spec_l7From.f k a0 0 1).bind fun t171 => (some t171))) else (some (([] : List (S26)))))
theorem spec_OneEdit.mono : ∀ a0 k, LeO (spec_OneEdit.f k a0) (spec_OneEdit.f (k + 1) a0) := by
 intro a0 k
 unfold spec_OneEdit.f
 with_reducible repeat' first | exact spec_IsForm.mono _ _ | exact spec_l7From.mono _ _ _ _ | exact LeO.refl _ | exact LeO.none _ | refine LeO.ite ?_ ?_ | refine LeO.bind ?_ (fun _ => ?_)
set_option maxHeartbeats 8000000 in
set_option maxRecDepth 100000 in
theorem spec_OneEdit.calls (k : Nat) (a0 : ByteArray) (r : List (S26)) (w : World) (h : spec_OneEdit.f k a0 = some r) :
  Calls Try.prog 48 #[.string a0] w fun e w' => ∃ v0_ : Value, e = .returned (v0_) ∧ Kd.N k26 26 w' w.heap.size (fun k_ => (w.heap.size ≤ k_)) v0_ r ∧ Below w.heap.size w w' := by
 have HB := asT (Below.refl w.heap.size w); have H := h; unfold spec_OneEdit.f at H; clear h; obtain ⟨t167, A2, H⟩ := be H
 by_cases c3 : t167 = true
 ·subst c3
  rw [if_pos rfl] at H; have H1 := H; clear H; have H := H1; clear H1
  by_cases c4 : (a0.size : Int) > 7
  ·rw [if_pos c4] at H
   have c4b0 : decide (7 < (a0.size : Int)) = true := decide_eq_true c4
   have c4b1 : decide (7 < a0.size) = true := decide_eq_true (by omega)
   clear c4; obtain ⟨y168, hy168⟩ : ∃ y_ : List (S26), y_ = (([] : List (S26))) := ⟨_, rfl⟩
   replace H : (some y168) = some r := by first | (rw [hy168]; with_reducible exact H) | (have H2_ := (Option.bind_some _ _).symm.trans H; rw [hy168]; with_reducible exact H2_) | (have H2_ := (Option.bind_some _ _).symm.trans H; with_reducible exact H2_) | with_reducible exact H | (rw [hy168]; exact H) | exact H
   have Ny168 := Aside0.mk hy168; clear hy168
   obtain rfl := Option.some.inj H
   go_enter Try.func48, Try.ntmps48
   go_wp2_with (first | ((with_reducible refine gate_callee (f := 86) rfl ?_); refine goesL_ (some 4) rfl rfl Try.func86 (by kernel_rfl) rfl #[.string a0] rfl eqT ?_; (with_reducible refine (spec_IsForm.calls k a0 true _ A2.out).mono ?_); rintro e w' ⟨rfl, ⟨nd, rfl⟩⟩; refine ⟨_, rfl, ?_⟩) | ((with_reducible refine gate_dst (N := 11) rfl ?_); (try (refine gate_guard (by rfl) ?_; dsimp only)); refine Kd.N_lit k26 _ 26 ?hg (N' := 11) ?hd (xs := ([] : List (S26))) (inner := []) (ok := (fun k_ => (w.heap.size ≤ k_))) (okp := (fun k_ => (w.heap.size ≤ k_))) ?hr ?hp (fun _ hk => hk) ((show ∀ k_, w.heap.size ≤ k_ → (fun k_ => (w.heap.size ≤ k_)) k_ from fun k_ hk => (Nat.le_trans (below_size (hbT HB.out)) hk)) _ (Nat.le_refl _)) (Below.refl _ _) (Nat.le_refl _) (by simp) ?_; (case hd => rfl); (case hg => rfl); (case hr => first | (go_simp; done) | (go_simp; rfl)); (case hp => exact (Reps.none _ _)); intro v169 w5 ho6 hb hg_ hnew_; clear hg_ hnew_; (first | rw [← Ny168.out] at ho6 | (simp only [Int.reduceToNat] at ho6; rw [← Ny168.out] at ho6)); have HO170 := asT (Kd.N_lower ho6 (below_size (hbT HB.out))); replace HB := hS HB hb; clear hb ho6))
   go_ret
   exact ⟨_, rlT, by (with_reducible repeat (first | apply Kd.N_alloc | apply Kd.N_drewN | apply Kd.N_drew)); exact HO170.out, hbT HB.out⟩
  ·rw [if_neg c4] at H
   have c4b0 : decide (7 < (a0.size : Int)) = false := decide_eq_false c4
   have c4b1 : decide (7 < a0.size) = false := decide_eq_false (by omega)
   clear c4; obtain ⟨t171, A7, H⟩ := be H
   obtain rfl := Option.some.inj H
   go_enter Try.func48, Try.ntmps48
   go_wp2_with (first | ((with_reducible refine gate_callee (f := 86) rfl ?_); refine goesL_ (some 4) rfl rfl Try.func86 (by kernel_rfl) rfl #[.string a0] rfl eqT ?_; (with_reducible refine (spec_IsForm.calls k a0 true _ A2.out).mono ?_); rintro e w' ⟨rfl, ⟨nd, rfl⟩⟩; refine ⟨_, rfl, ?_⟩) | ((with_reducible refine gate_callee (f := 93) rfl ?_); refine goesL_ (some 13) rfl rfl Try.func93 (by kernel_rfl) rfl #[.string a0, .int .i64 0, .int .i64 1] rfl eqT ?_; (with_reducible refine (spec_l7From.calls k a0 0 1 t171 _ A7.out).mono ?_); rintro e w8 ⟨v172, rfl, ho0, hb⟩; refine ⟨_, rfl, ?_⟩; have HO173 := asT (Kd.N_lower (Kd.N_mono (ok' := fun k_ => (w.heap.size ≤ k_)) ho0 (fun k_ hk_ => (Nat.le_trans (below_size (hbT HB.out)) hk_))) (below_size (hbT HB.out))); replace HB := hS HB hb; (try clear hb hb2 hk hi ho0)))
   go_ret
   exact ⟨_, rlT, by (with_reducible repeat (first | apply Kd.N_alloc | apply Kd.N_drewN | apply Kd.N_drew)); exact HO173.out, hbT HB.out⟩
 ·replace c3 := Bool.eq_false_iff.mpr c3
  subst c3; rw [if_neg nF] at H; obtain ⟨y174, hy174⟩ : ∃ y_ : List (S26), y_ = (([] : List (S26))) := ⟨_, rfl⟩
  replace H : (some y174) = some r := by first | (rw [hy174]; with_reducible exact H) | (have H2_ := (Option.bind_some _ _).symm.trans H; rw [hy174]; with_reducible exact H2_) | (have H2_ := (Option.bind_some _ _).symm.trans H; with_reducible exact H2_) | with_reducible exact H | (rw [hy174]; exact H) | exact H
  have Ny174 := Aside0.mk hy174; clear hy174
  obtain rfl := Option.some.inj H
  go_enter Try.func48, Try.ntmps48
  go_wp2_with (first | ((with_reducible refine gate_callee (f := 86) rfl ?_); refine goesL_ (some 4) rfl rfl Try.func86 (by kernel_rfl) rfl #[.string a0] rfl eqT ?_; (with_reducible refine (spec_IsForm.calls k a0 false _ A2.out).mono ?_); rintro e w' ⟨rfl, ⟨nd, rfl⟩⟩; refine ⟨_, rfl, ?_⟩) | ((with_reducible refine gate_dst (N := 11) rfl ?_); (try (refine gate_guard (by rfl) ?_; dsimp only)); refine Kd.N_lit k26 _ 26 ?hg (N' := 11) ?hd (xs := ([] : List (S26))) (inner := []) (ok := (fun k_ => (w.heap.size ≤ k_))) (okp := (fun k_ => (w.heap.size ≤ k_))) ?hr ?hp (fun _ hk => hk) ((show ∀ k_, w.heap.size ≤ k_ → (fun k_ => (w.heap.size ≤ k_)) k_ from fun k_ hk => (Nat.le_trans (below_size (hbT HB.out)) hk)) _ (Nat.le_refl _)) (Below.refl _ _) (Nat.le_refl _) (by simp) ?_; (case hd => rfl); (case hg => rfl); (case hr => first | (go_simp; done) | (go_simp; rfl)); (case hp => exact (Reps.none _ _)); intro v175 w9 ho10 hb hg_ hnew_; clear hg_ hnew_; (first | rw [← Ny174.out] at ho10 | (simp only [Int.reduceToNat] at ho10; rw [← Ny174.out] at ho10)); have HO176 := asT (Kd.N_lower ho10 (below_size (hbT HB.out))); replace HB := hS HB hb; clear hb ho10))
  go_ret
  exact ⟨_, rlT, by (with_reducible repeat (first | apply Kd.N_alloc | apply Kd.N_drewN | apply Kd.N_drew)); exact HO176.out, hbT HB.out⟩

/-! ### laws_eqLink: function 143 -/
def laws_eqLink.f (a0_0 : Int) (a0_1 : Int) (a1_0 : Int) (a1_1 : Int) : Option (Bool) := if a0_0 = a1_0 then (if a0_1 = a1_1 then (some true) else (some false)) else (some false)
set_option maxHeartbeats 8000000 in
set_option maxRecDepth 100000 in
theorem laws_eqLink.calls (a0_0 : Int) (a0_1 : Int) (a1_0 : Int) (a1_1 : Int) (r : Bool) (w : World) (h : laws_eqLink.f a0_0 a0_1 a1_0 a1_1 = some r) :
  Calls Try.prog 143 #[.agg #[.int .u8 a0_0, .int .u8 a0_1], .agg #[.int .u8 a1_0, .int .u8 a1_1]] w fun e w' => e = .returned (.bool r) ∧ Below w.heap.size w w' := by
 have hu87 := Try.underlying87; have HB := asT (Below.refl w.heap.size w); have H := h; unfold laws_eqLink.f at H; clear h
 by_cases c3 : a0_0 = a1_0
 ·rw [if_pos c3] at H
  have c3b0 : (a0_0 == a1_0) = true := beq_iff_eq.mpr c3
  have c3b1 : (a0_0 != a1_0) = false := bne_eq_false_iff_eq.mpr c3
  clear c3
  by_cases c4 : a0_1 = a1_1
  ·rw [if_pos c4] at H
   have c4b0 : (a0_1 == a1_1) = true := beq_iff_eq.mpr c4
   have c4b1 : (a0_1 != a1_1) = false := bne_eq_false_iff_eq.mpr c4
   clear c4
   obtain rfl := Option.some.inj H
   go_enter Try.func143, Try.ntmps143
   go_wp2_with (first | ((with_reducible refine gate_dst (N := 2) rfl ?_); refine boxT (N := 2) (cs := #[.int .u8 a0_0, .int .u8 a0_1]) (t := 87) ?_; intro gb177 hg w5 hbox hb; have BK177 := asT hbox; have GW177 := asT (geT hg HB.out); have GE177 := GW177; replace HB := hS HB hb; clear hb hbox hg) | ((with_reducible refine gate_dst (N := 3) rfl ?_); refine boxT (N := 3) (cs := #[.int .u8 a1_0, .int .u8 a1_1]) (t := 87) ?_; intro gb178 hg w6 hbox hb; have BK178 := asT (hbox); have GW178 := asT (geT hg HB.out); have GE178 := asT (geT hg HB.out); replace HB := hS HB hb; have NB177_178 := asT ((by rw [hg]; exact Nat.ne_of_lt (blk_lt (bkT BK177.out)) : gb177 ≠ gb178)); have NB178_177 := asT ((by rw [hg]; exact Nat.ne_of_gt (blk_lt (bkT BK177.out)) : gb178 ≠ gb177)); replace BK177 := bS BK177 hb; clear hb hbox hg; have hnb7 := NB177_178.out; have hnc7 := NB178_177.out; obtain ⟨hcz8_0, hcz8_1, hfz8_0, hfz8_1⟩ := bx2 BK177.out; obtain ⟨hcz9_0, hcz9_1, hfz9_0, hfz9_1⟩ := bx2 BK178.out))
   go_ret
   exact ⟨rlT, hbT HB.out⟩
  ·rw [if_neg c4] at H
   have c4b0 : (a0_1 == a1_1) = false := beq_eq_false_iff_ne.mpr c4
   have c4b1 : (a0_1 != a1_1) = true := bne_iff_ne.mpr c4
   obtain rfl := Option.some.inj H
   go_enter Try.func143, Try.ntmps143
   go_wp2_with (first | ((with_reducible refine gate_dst (N := 2) rfl ?_); refine boxT (N := 2) (cs := #[.int .u8 a0_0, .int .u8 a0_1]) (t := 87) ?_; intro gb177 hg w10 hbox hb; have BK177 := asT hbox; have GW177 := asT (geT hg HB.out); have GE177 := GW177; replace HB := hS HB hb; clear hb hbox hg) | ((with_reducible refine gate_dst (N := 3) rfl ?_); refine boxT (N := 3) (cs := #[.int .u8 a1_0, .int .u8 a1_1]) (t := 87) ?_; intro gb178 hg w11 hbox hb; have BK178 := asT (hbox); have GW178 := asT (geT hg HB.out); have GE178 := asT (geT hg HB.out); replace HB := hS HB hb; have NB177_178 := asT ((by rw [hg]; exact Nat.ne_of_lt (blk_lt (bkT BK177.out)) : gb177 ≠ gb178)); have NB178_177 := asT ((by rw [hg]; exact Nat.ne_of_gt (blk_lt (bkT BK177.out)) : gb178 ≠ gb177)); replace BK177 := bS BK177 hb; clear hb hbox hg; have hnb12 := NB177_178.out; have hnc12 := NB178_177.out; obtain ⟨hcz13_0, hcz13_1, hfz13_0, hfz13_1⟩ := bx2 BK177.out; obtain ⟨hcz14_0, hcz14_1, hfz14_0, hfz14_1⟩ := bx2 BK178.out))
   go_ret
   exact ⟨rlT, hbT HB.out⟩
 ·rw [if_neg c3] at H
  have c3b0 : (a0_0 == a1_0) = false := beq_eq_false_iff_ne.mpr c3
  have c3b1 : (a0_0 != a1_0) = true := bne_iff_ne.mpr c3
  obtain rfl := Option.some.inj H
  go_enter Try.func143, Try.ntmps143
  go_wp2_with (first | ((with_reducible refine gate_dst (N := 2) rfl ?_); refine boxT (N := 2) (cs := #[.int .u8 a0_0, .int .u8 a0_1]) (t := 87) ?_; intro gb177 hg w15 hbox hb; have BK177 := asT hbox; have GW177 := asT (geT hg HB.out); have GE177 := GW177; replace HB := hS HB hb; clear hb hbox hg) | ((with_reducible refine gate_dst (N := 3) rfl ?_); refine boxT (N := 3) (cs := #[.int .u8 a1_0, .int .u8 a1_1]) (t := 87) ?_; intro gb178 hg w16 hbox hb; have BK178 := asT (hbox); have GW178 := asT (geT hg HB.out); have GE178 := asT (geT hg HB.out); replace HB := hS HB hb; have NB177_178 := asT ((by rw [hg]; exact Nat.ne_of_lt (blk_lt (bkT BK177.out)) : gb177 ≠ gb178)); have NB178_177 := asT ((by rw [hg]; exact Nat.ne_of_gt (blk_lt (bkT BK177.out)) : gb178 ≠ gb177)); replace BK177 := bS BK177 hb; clear hb hbox hg; have hnb17 := NB177_178.out; have hnc17 := NB178_177.out; obtain ⟨hcz18_0, hcz18_1, hfz18_0, hfz18_1⟩ := bx2 BK177.out; obtain ⟨hcz19_0, hcz19_1, hfz19_0, hfz19_1⟩ := bx2 BK178.out))
  go_ret
  exact ⟨rlT, hbT HB.out⟩

/-! ### laws_eqLinkS: function 121 -/
def laws_eqLinkS.l0 : Nat → List (S87) → List (S87) → Int → Option (Bool)
 | 0, _, _, _ => none
 | k + 1, x0, x1, x5 => if x5 < (x0.length : Int) then (if 0 ≤ x5 then (if x5 < (x1.length : Int) then ((laws_eqLink.f ((rd_T87 x0 x5).f0) ((rd_T87 x0 x5).f1) ((rd_T87 x1 x5).f0) ((rd_T87 x1 x5).f1)).bind fun t181 => (if t181 = true then (laws_eqLinkS.l0 k x0 x1 (wrap64 (x5 + 1))) else (some false))) else (none)) else (none)) else (some true)
def laws_eqLinkS.f (k : Nat) (l0 : List (S87)) (l1 : List (S87)) : Option (Bool) := if (l0.length : Int) = (l1.length : Int) then (laws_eqLinkS.l0 k l0 l1 0) else (some false)
theorem laws_eqLinkS.mono_l : ∀ k, (∀ y0 y1 y2, LeO (laws_eqLinkS.l0 k y0 y1 y2) (laws_eqLinkS.l0 (k + 1) y0 y1 y2))
 | 0 => fun _ _ _ r h => by simp [laws_eqLinkS.l0] at h
 | k + 1 => by
  have ih0 := laws_eqLinkS.mono_l k
  ·intro y0 y1 y2
   unfold laws_eqLinkS.l0
   with_reducible repeat' first | exact ih0 _ _ _ | exact LeO.refl _ | exact LeO.none _ | refine LeO.ite ?_ ?_ | refine LeO.bind ?_ (fun _ => ?_)
theorem laws_eqLinkS.mono : ∀ a0 a1 k, LeO (laws_eqLinkS.f k a0 a1) (laws_eqLinkS.f (k + 1) a0 a1) := by
 intro a0 a1 k
 have ih0 := laws_eqLinkS.mono_l k
 unfold laws_eqLinkS.f
 with_reducible repeat' first | exact ih0 _ _ _ | exact LeO.refl _ | exact LeO.none _ | refine LeO.ite ?_ ?_ | refine LeO.bind ?_ (fun _ => ?_)
def laws_eqLinkS.T6 : Bool × List (List Nat × List Nat) := (true, [([], []), ([], []), ([0, 1], [0, 1]), ([2], [2]), ([], []), ([], []), ([4, 5], [4, 5]), ([6], [6]), ([3, 7], [3, 7]), ([8], [8])])
def laws_eqLinkS.B6 : List Nat := [0, 0, 3, 7, 0, 0, 48, 112, 255, 511]
theorem laws_eqLinkS.tab6 : rtab .any (opsOf Try.f121 6) = laws_eqLinkS.T6 := by kernel_rfl
theorem laws_eqLinkS.bits6 : waitsOk laws_eqLinkS.T6.2 laws_eqLinkS.B6 = true := by kernel_rfl
set_option maxHeartbeats 8000000 in
set_option maxRecDepth 100000 in
theorem laws_eqLinkS.calls (k : Nat) (A0 : Option Addr) (c0 : Nat) (l0 : List (S87)) (A1 : Option Addr) (c1 : Nat) (l1 : List (S87)) (r : Bool) (w : World) (hr0 : Kd.C k87 w A0 l0.length l0) (hc0 : l0.length ≤ c0) (hr1 : Kd.C k87 w A1 l1.length l1) (hc1 : l1.length ≤ c1) (h : laws_eqLinkS.f k l0 l1 = some r) :
  Calls Try.prog 121 #[.slice A0 l0.length c0, .slice A1 l1.length c1] w fun e w' => e = .returned (.bool r) ∧ Below w.heap.size w w' := by
 have hu87 := Try.underlying87; have HR0 := Aside0.mk hr0; have HC0 := Aside0.mk hc0; clear hr0 hc0; have HR1 := Aside0.mk hr1; have HC1 := Aside0.mk hc1; clear hr1 hc1; have HB := asT (Below.refl w.heap.size w); have H := h; unfold laws_eqLinkS.f at H; clear h
 by_cases c3 : (l0.length : Int) = (l1.length : Int)
 ·rw [if_pos c3] at H
  have c3b0 : ((l0.length : Int) == (l1.length : Int)) = true := beq_iff_eq.mpr c3
  have c3b1 : ((l0.length : Int) != (l1.length : Int)) = false := bne_eq_false_iff_eq.mpr c3
  have c3b2 : (l0.length == l1.length) = true := by first | simpa using c3 | (simp at c3 ⊢; omega)
  clear c3; have H' := Aside0.mk H; clear H
  go_enter Try.func121, Try.ntmps121
  go_wp2
  go_loopg [5] k (fun kq v5 w' => ∃ (x5_1 : Int), v5 = .int .i64 x5_1 ∧ Aside0 (laws_eqLinkS.l0 kq l0 l1 x5_1 = some r) ∧ Aside0 (kq ≤ k) ∧ Aside0 (Below w.heap.size w w'))
  case atStart => exact ⟨(0), rdT, H', ⟨Nat.le_refl _⟩, ⟨hbT HB.out⟩⟩
  case round =>
   clear H'; (try clear c1 p2 c3 c3b0 c3b1 c3b2); obtain ⟨x5_1, rfl, HA, HK1, HB⟩ := hrel
   cases gk with
   | zero => exact absurd HA.out (by simp [laws_eqLinkS.l0])
   | succ k1 =>
    have H := HA.out; clear HA
    simp only [laws_eqLinkS.l0] at H
    by_cases c4 : x5_1 < (l0.length : Int)
    ·rw [if_pos c4] at H
     have c4b0 : decide (x5_1 < (l0.length : Int)) = true := decide_eq_true c4
     clear c4
     by_cases c5 : 0 ≤ x5_1
     ·rw [if_pos c5] at H
      have c5b0 : decide (0 ≤ x5_1) = true := decide_eq_true c5
      clear c5
      by_cases c6 : x5_1 < (l1.length : Int)
      ·rw [if_pos c6] at H
       have c6b0 : decide (x5_1 < (l1.length : Int)) = true := decide_eq_true c6
       clear c6; obtain ⟨t181, A7, H⟩ := be H
       by_cases c8 : t181 = true
       ·subst c8
        rw [if_pos rfl] at H; have H' := Aside0.mk H; clear H
        try go_wp2
        replace HB := asT (below_drew1 HB.out)
        have p179 : 0 ≤ (x5_1 : Int) := of_decide_eq_true asmT
        have q179 : x5_1 < (l0.length : Int) := of_decide_eq_true asmT
        obtain ⟨ad179, e179, hx179_0, hx179_1⟩ := at_T87 HR0.out x5_1 p179 q179; have hw179_1 := hx179_1; have hw179_0 := hx179_0
        cases e179
        replace hx179_0 := hbc HB.out hx179_0; replace hx179_1 := hbc HB.out hx179_1; replace p179 := eq_true p179; replace q179 := eq_true q179
        have p180 : 0 ≤ (x5_1 : Int) := of_decide_eq_true asmT
        have q180 : x5_1 < (l1.length : Int) := of_decide_eq_true asmT
        obtain ⟨ad180, e180, hx180_0, hx180_1⟩ := at_T87 HR1.out x5_1 p180 q180; have hw180_1 := hx180_1; have hw180_0 := hx180_0
        cases e180
        replace hx180_0 := hbc HB.out hx180_0; replace hx180_1 := hbc HB.out hx180_1; replace p180 := eq_true p180; replace q180 := eq_true q180
        refine start_ (n := 10) (S := fun w' => w'.cell? (ad179.add ((x5_1).toNat * 2)) = some (.int .u8 ((rd_T87 l0 x5_1).f0)) ∧ w'.cell? ⟨(ad179.add ((x5_1).toNat * 2)).block, (ad179.add ((x5_1).toNat * 2)).off + 1, none⟩ = some (.int .u8 ((rd_T87 l0 x5_1).f1)) ∧ w'.cell? (ad180.add ((x5_1).toNat * 2)) = some (.int .u8 ((rd_T87 l1 x5_1).f0)) ∧ w'.cell? ⟨(ad180.add ((x5_1).toNat * 2)).block, (ad180.add ((x5_1).toNat * 2)).off + 1, none⟩ = some (.int .u8 ((rd_T87 l1 x5_1).f1))) (ds := []) (bA 10 0) (by kernel_rfl) rfl rfl ⟨(hbc HB.out hw179_0 :), (hbc HB.out hw179_1 :), (hbc HB.out hw180_0 :), (hbc HB.out hw180_1 :)⟩ (fun hHeld => ?_); refine with_tabW laws_eqLinkS.tab6 laws_eqLinkS.bits6 (fun HT_ HW_ => ?_)
        generalize wr.drew = w9 at HB hx179_0 hx179_1 hx180_0 hx180_1 hHeld ⊢
        refine pA 0 17 10 1 HT_.out ?_ rfl rfl; refine pA 1 18 10 3 HT_.out ?_ rfl rfl; refine pA 2 19 10 7 HT_.out ?_ rfl rfl; refine pA 4 21 10 23 HT_.out ?_ rfl rfl; refine pA 5 22 10 55 HT_.out ?_ rfl rfl; refine pA 6 23 10 119 HT_.out ?_ rfl rfl; refine tA 3 20 10 127 HT_.out HW_.out hHeld ?_ rfl rfl; refine tA 7 24 10 255 HT_.out HW_.out hHeld ?_ rfl rfl
        refine oA 8 25 10 511 HT_.out (fun K hK => ?_) rfl rfl
        refine goes_ Try.func143 (by kernel_rfl) rfl #[.agg #[.int .u8 ((rd_T87 l0 x5_1).f0), .int .u8 ((rd_T87 l0 x5_1).f1)], .agg #[.int .u8 ((rd_T87 l1 x5_1).f0), .int .u8 ((rd_T87 l1 x5_1).f1)]] (by rfl) rfl rfl eqT ?_
        (with_reducible refine (laws_eqLink.calls ((rd_T87 l0 x5_1).f0) ((rd_T87 l0 x5_1).f1) ((rd_T87 l1 x5_1).f0) ((rd_T87 l1 x5_1).f1) true _ A7.out).mono ?_); rintro e w10 ⟨rfl, hb⟩; refine ⟨_, rfl, ?_⟩; replace HB := hS HB hb; (try clear hb hb2 hk hi)
        refine hK.out _ _ ⟨(hbc HB.out hw179_0 :), (hbc HB.out hw179_1 :), (hbc HB.out hw180_0 :), (hbc HB.out hw180_1 :)⟩ (fun hHeld => ?_)
        clear hK K
        refine nB 25 ?_ rfl; refine pA 9 26 10 1023 HT_.out ?_ rfl rfl
        refine done_ (done_of HT_.out (by kernel_rfl)) ?_
        try go_wp2
        go_roundg k1
        case measure => have := HK1.out; omega
        case rel => exact ⟨(wrap64 (x5_1 + 1)), rdT, H', ⟨by have := HK1.out; omega⟩, ⟨hbT HB.out⟩⟩
       ·replace c8 := Bool.eq_false_iff.mpr c8
        subst c8; rw [if_neg nF] at H; have H1 := H; clear H; have H := H1; clear H1
        obtain rfl := Option.some.inj H
        try go_wp2
        replace HB := asT (below_drew1 HB.out)
        have p179 : 0 ≤ (x5_1 : Int) := of_decide_eq_true asmT
        have q179 : x5_1 < (l0.length : Int) := of_decide_eq_true asmT
        obtain ⟨ad179, e179, hx179_0, hx179_1⟩ := at_T87 HR0.out x5_1 p179 q179; have hw179_1 := hx179_1; have hw179_0 := hx179_0
        cases e179
        replace hx179_0 := hbc HB.out hx179_0; replace hx179_1 := hbc HB.out hx179_1; replace p179 := eq_true p179; replace q179 := eq_true q179
        have p180 : 0 ≤ (x5_1 : Int) := of_decide_eq_true asmT
        have q180 : x5_1 < (l1.length : Int) := of_decide_eq_true asmT
        obtain ⟨ad180, e180, hx180_0, hx180_1⟩ := at_T87 HR1.out x5_1 p180 q180; have hw180_1 := hx180_1; have hw180_0 := hx180_0
        cases e180
        replace hx180_0 := hbc HB.out hx180_0; replace hx180_1 := hbc HB.out hx180_1; replace p180 := eq_true p180; replace q180 := eq_true q180
        refine start_ (n := 10) (S := fun w' => w'.cell? (ad179.add ((x5_1).toNat * 2)) = some (.int .u8 ((rd_T87 l0 x5_1).f0)) ∧ w'.cell? ⟨(ad179.add ((x5_1).toNat * 2)).block, (ad179.add ((x5_1).toNat * 2)).off + 1, none⟩ = some (.int .u8 ((rd_T87 l0 x5_1).f1)) ∧ w'.cell? (ad180.add ((x5_1).toNat * 2)) = some (.int .u8 ((rd_T87 l1 x5_1).f0)) ∧ w'.cell? ⟨(ad180.add ((x5_1).toNat * 2)).block, (ad180.add ((x5_1).toNat * 2)).off + 1, none⟩ = some (.int .u8 ((rd_T87 l1 x5_1).f1))) (ds := []) (bA 10 0) (by kernel_rfl) rfl rfl ⟨(hbc HB.out hw179_0 :), (hbc HB.out hw179_1 :), (hbc HB.out hw180_0 :), (hbc HB.out hw180_1 :)⟩ (fun hHeld => ?_); refine with_tabW laws_eqLinkS.tab6 laws_eqLinkS.bits6 (fun HT_ HW_ => ?_)
        generalize wr.drew = w11 at HB hx179_0 hx179_1 hx180_0 hx180_1 hHeld ⊢
        refine pA 0 17 10 1 HT_.out ?_ rfl rfl; refine pA 1 18 10 3 HT_.out ?_ rfl rfl; refine pA 2 19 10 7 HT_.out ?_ rfl rfl; refine pA 4 21 10 23 HT_.out ?_ rfl rfl; refine pA 5 22 10 55 HT_.out ?_ rfl rfl; refine pA 6 23 10 119 HT_.out ?_ rfl rfl; refine tA 3 20 10 127 HT_.out HW_.out hHeld ?_ rfl rfl; refine tA 7 24 10 255 HT_.out HW_.out hHeld ?_ rfl rfl
        refine oA 8 25 10 511 HT_.out (fun K hK => ?_) rfl rfl
        refine goes_ Try.func143 (by kernel_rfl) rfl #[.agg #[.int .u8 ((rd_T87 l0 x5_1).f0), .int .u8 ((rd_T87 l0 x5_1).f1)], .agg #[.int .u8 ((rd_T87 l1 x5_1).f0), .int .u8 ((rd_T87 l1 x5_1).f1)]] (by rfl) rfl rfl eqT ?_
        (with_reducible refine (laws_eqLink.calls ((rd_T87 l0 x5_1).f0) ((rd_T87 l0 x5_1).f1) ((rd_T87 l1 x5_1).f0) ((rd_T87 l1 x5_1).f1) false _ A7.out).mono ?_); rintro e w12 ⟨rfl, hb⟩; refine ⟨_, rfl, ?_⟩; replace HB := hS HB hb; (try clear hb hb2 hk hi)
        refine hK.out _ _ ⟨(hbc HB.out hw179_0 :), (hbc HB.out hw179_1 :), (hbc HB.out hw180_0 :), (hbc HB.out hw180_1 :)⟩ (fun hHeld => ?_)
        clear hK K
        refine nB 25 ?_ rfl; refine pA 9 26 10 1023 HT_.out ?_ rfl rfl
        refine done_ (done_of HT_.out (by kernel_rfl)) ?_
        try go_wp2
        go_ret
        exact ⟨rlT, hbT HB.out⟩
      ·rw [if_neg c6] at H
       exact absurd H (by simp)
     ·rw [if_neg c5] at H
      exact absurd H (by simp)
    ·rw [if_neg c4] at H
     have c4b0 : decide (x5_1 < (l0.length : Int)) = false := decide_eq_false c4
     clear c4
     obtain rfl := Option.some.inj H
     go_wp2
     go_ret
     exact ⟨rlT, hbT HB.out⟩
 ·rw [if_neg c3] at H
  have c3b0 : ((l0.length : Int) == (l1.length : Int)) = false := beq_eq_false_iff_ne.mpr c3
  have c3b1 : ((l0.length : Int) != (l1.length : Int)) = true := bne_iff_ne.mpr c3
  have c3b2 : (l0.length == l1.length) = false := by first | simpa using c3 | (simp at c3 ⊢; omega)
  obtain rfl := Option.some.inj H
  go_enter Try.func121, Try.ntmps121
  go_wp2
  go_ret
  exact ⟨rlT, hbT HB.out⟩

/-! ### laws_eqCandidate: function 69 -/
def laws_eqCandidate.f (k : Nat) (l0_0 : List (S87)) (l1_0 : List (S87)) : Option (Bool) := (laws_eqLinkS.f k l0_0 l1_0).bind fun t184 => (if t184 = true then (some true) else (some false))
theorem laws_eqCandidate.mono : ∀ a0 a1 k, LeO (laws_eqCandidate.f k a0 a1) (laws_eqCandidate.f (k + 1) a0 a1) := by
 intro a0 a1 k
 unfold laws_eqCandidate.f
 with_reducible repeat' first | exact laws_eqLinkS.mono _ _ _ | exact LeO.refl _ | exact LeO.none _ | refine LeO.ite ?_ ?_ | refine LeO.bind ?_ (fun _ => ?_)
set_option maxHeartbeats 8000000 in
set_option maxRecDepth 100000 in
theorem laws_eqCandidate.calls (k : Nat) (A0_0 : Option Addr) (c0_0 : Nat) (l0_0 : List (S87)) (A1_0 : Option Addr) (c1_0 : Nat) (l1_0 : List (S87)) (r : Bool) (w : World) (hr0_0 : Kd.C k87 w A0_0 l0_0.length l0_0) (hc0_0 : l0_0.length ≤ c0_0) (hr1_0 : Kd.C k87 w A1_0 l1_0.length l1_0) (hc1_0 : l1_0.length ≤ c1_0) (h : laws_eqCandidate.f k l0_0 l1_0 = some r) :
  Calls Try.prog 69 #[.agg #[.slice A0_0 l0_0.length c0_0], .agg #[.slice A1_0 l1_0.length c1_0]] w fun e w' => e = .returned (.bool r) ∧ Below w.heap.size w w' := by
 have hu26 := Try.underlying26; have HR0_0 := Aside0.mk hr0_0; have HC0_0 := Aside0.mk hc0_0; clear hr0_0 hc0_0; have HR1_0 := Aside0.mk hr1_0; have HC1_0 := Aside0.mk hc1_0; clear hr1_0 hc1_0; have HB := asT (Below.refl w.heap.size w); have H := h; unfold laws_eqCandidate.f at H; clear h; obtain ⟨t184, A3, H⟩ := be H
 by_cases c4 : t184 = true
 ·subst c4
  rw [if_pos rfl] at H; have H1 := H; clear H; have H := H1; clear H1
  obtain rfl := Option.some.inj H
  go_enter Try.func69, Try.ntmps69
  go_wp2_with (first | ((with_reducible refine gate_dst (N := 2) rfl ?_); refine boxT (N := 2) (cs := #[.slice A0_0 l0_0.length c0_0]) (t := 26) ?_; intro gb182 hg w5 hbox hb; have BK182 := asT hbox; have GW182 := asT (geT hg HB.out); have GE182 := GW182; replace HB := hS HB hb; clear hb hbox hg) | ((with_reducible refine gate_dst (N := 3) rfl ?_); refine boxT (N := 3) (cs := #[.slice A1_0 l1_0.length c1_0]) (t := 26) ?_; intro gb183 hg w6 hbox hb; have BK183 := asT (hbox); have GW183 := asT (geT hg HB.out); have GE183 := asT (geT hg HB.out); replace HB := hS HB hb; have NB182_183 := asT ((by rw [hg]; exact Nat.ne_of_lt (blk_lt (bkT BK182.out)) : gb182 ≠ gb183)); have NB183_182 := asT ((by rw [hg]; exact Nat.ne_of_gt (blk_lt (bkT BK182.out)) : gb183 ≠ gb182)); replace BK182 := bS BK182 hb; clear hb hbox hg; have hnb7 := NB182_183.out; have hnc7 := NB183_182.out; obtain ⟨hcz8_0, hfz8_0⟩ := bx1 BK182.out; obtain ⟨hcz9_0, hfz9_0⟩ := bx1 BK183.out) | ((with_reducible refine gate_callee (f := 121) rfl ?_); refine goesL_ (some 9) rfl rfl Try.func121 (by kernel_rfl) rfl #[.slice A0_0 l0_0.length c0_0, .slice A1_0 l1_0.length c1_0] rfl eqT ?_; (with_reducible refine (laws_eqLinkS.calls k _ _ l0_0 _ _ l1_0 true _ ?side1 ?side2 ?side3 ?side4 A3.out).mono ?_); (case side1 => exact crT HR0_0.out HB.out); (case side2 => exact HC0_0.out); (case side3 => exact crT HR1_0.out HB.out); (case side4 => exact HC1_0.out); rintro e w10 ⟨rfl, hb⟩; refine ⟨_, rfl, ?_⟩; replace BK182 := bS BK182 hb; replace BK183 := bS BK183 hb; replace HB := hS HB hb; (try clear hb hb2 hk hi)))
  go_ret
  exact ⟨rlT, hbT HB.out⟩
 ·replace c4 := Bool.eq_false_iff.mpr c4
  subst c4; rw [if_neg nF] at H; have H1 := H; clear H; have H := H1; clear H1
  obtain rfl := Option.some.inj H
  go_enter Try.func69, Try.ntmps69
  go_wp2_with (first | ((with_reducible refine gate_dst (N := 2) rfl ?_); refine boxT (N := 2) (cs := #[.slice A0_0 l0_0.length c0_0]) (t := 26) ?_; intro gb182 hg w11 hbox hb; have BK182 := asT hbox; have GW182 := asT (geT hg HB.out); have GE182 := GW182; replace HB := hS HB hb; clear hb hbox hg) | ((with_reducible refine gate_dst (N := 3) rfl ?_); refine boxT (N := 3) (cs := #[.slice A1_0 l1_0.length c1_0]) (t := 26) ?_; intro gb183 hg w12 hbox hb; have BK183 := asT (hbox); have GW183 := asT (geT hg HB.out); have GE183 := asT (geT hg HB.out); replace HB := hS HB hb; have NB182_183 := asT ((by rw [hg]; exact Nat.ne_of_lt (blk_lt (bkT BK182.out)) : gb182 ≠ gb183)); have NB183_182 := asT ((by rw [hg]; exact Nat.ne_of_gt (blk_lt (bkT BK182.out)) : gb183 ≠ gb182)); replace BK182 := bS BK182 hb; clear hb hbox hg; have hnb13 := NB182_183.out; have hnc13 := NB183_182.out; obtain ⟨hcz14_0, hfz14_0⟩ := bx1 BK182.out; obtain ⟨hcz15_0, hfz15_0⟩ := bx1 BK183.out) | ((with_reducible refine gate_callee (f := 121) rfl ?_); refine goesL_ (some 9) rfl rfl Try.func121 (by kernel_rfl) rfl #[.slice A0_0 l0_0.length c0_0, .slice A1_0 l1_0.length c1_0] rfl eqT ?_; (with_reducible refine (laws_eqLinkS.calls k _ _ l0_0 _ _ l1_0 false _ ?side1 ?side2 ?side3 ?side4 A3.out).mono ?_); (case side1 => exact crT HR0_0.out HB.out); (case side2 => exact HC0_0.out); (case side3 => exact crT HR1_0.out HB.out); (case side4 => exact HC1_0.out); rintro e w16 ⟨rfl, hb⟩; refine ⟨_, rfl, ?_⟩; replace BK182 := bS BK182 hb; replace BK183 := bS BK183 hb; replace HB := hS HB hb; (try clear hb hb2 hk hi)))
  go_ret
  exact ⟨rlT, hbT HB.out⟩

/-! ### laws_eqCandidateS: function 64 -/
def laws_eqCandidateS.l0 : Nat → List (S26) → List (S26) → Int → Option (Bool)
 | 0, _, _, _ => none
 | k + 1, x0, x1, x5 => if x5 < (x0.length : Int) then (if 0 ≤ x5 then (if x5 < (x1.length : Int) then ((laws_eqCandidate.f k ((rd_T26 x0 x5).f0) ((rd_T26 x1 x5).f0)).bind fun t187 => (if t187 = true then (laws_eqCandidateS.l0 k x0 x1 (wrap64 (x5 + 1))) else (some false))) else (none)) else (none)) else (some true)
def laws_eqCandidateS.f (k : Nat) (l0 : List (S26)) (l1 : List (S26)) : Option (Bool) := if (l0.length : Int) = (l1.length : Int) then (laws_eqCandidateS.l0 k l0 l1 0) else (some false)
theorem laws_eqCandidateS.mono_l : ∀ k, (∀ y0 y1 y2, LeO (laws_eqCandidateS.l0 k y0 y1 y2) (laws_eqCandidateS.l0 (k + 1) y0 y1 y2))
 | 0 => fun _ _ _ r h => by simp [laws_eqCandidateS.l0] at h
 | k + 1 => by
  have ih0 := laws_eqCandidateS.mono_l k
  ·intro y0 y1 y2
   unfold laws_eqCandidateS.l0
   with_reducible repeat' first | exact ih0 _ _ _ | exact laws_eqCandidate.mono _ _ _ | exact LeO.refl _ | exact LeO.none _ | refine LeO.ite ?_ ?_ | refine LeO.bind ?_ (fun _ => ?_)
theorem laws_eqCandidateS.mono : ∀ a0 a1 k, LeO (laws_eqCandidateS.f k a0 a1) (laws_eqCandidateS.f (k + 1) a0 a1) := by
 intro a0 a1 k
 have ih0 := laws_eqCandidateS.mono_l k
 unfold laws_eqCandidateS.f
 with_reducible repeat' first | exact ih0 _ _ _ | exact laws_eqCandidate.mono _ _ _ | exact LeO.refl _ | exact LeO.none _ | refine LeO.ite ?_ ?_ | refine LeO.bind ?_ (fun _ => ?_)
def laws_eqCandidateS.T6 : Bool × List (List Nat × List Nat) := (true, [([], []), ([], []), ([0, 1], [0, 1]), ([2], [2]), ([], []), ([], []), ([4, 5], [4, 5]), ([6], [6]), ([3, 7], [3, 7]), ([8], [8])])
def laws_eqCandidateS.B6 : List Nat := [0, 0, 3, 7, 0, 0, 48, 112, 255, 511]
theorem laws_eqCandidateS.tab6 : rtab .any (opsOf Try.f64 6) = laws_eqCandidateS.T6 := by kernel_rfl
theorem laws_eqCandidateS.bits6 : waitsOk laws_eqCandidateS.T6.2 laws_eqCandidateS.B6 = true := by kernel_rfl
set_option maxHeartbeats 8000000 in
set_option maxRecDepth 100000 in
theorem laws_eqCandidateS.calls (k : Nat) (A0 : Option Addr) (c0 : Nat) (l0 : List (S26)) (A1 : Option Addr) (c1 : Nat) (l1 : List (S26)) (r : Bool) (w : World) (hr0 : Kd.C k26 w A0 l0.length l0) (hc0 : l0.length ≤ c0) (hr1 : Kd.C k26 w A1 l1.length l1) (hc1 : l1.length ≤ c1) (h : laws_eqCandidateS.f k l0 l1 = some r) :
  Calls Try.prog 64 #[.slice A0 l0.length c0, .slice A1 l1.length c1] w fun e w' => e = .returned (.bool r) ∧ Below w.heap.size w w' := by
 have hu26 := Try.underlying26; have HR0 := Aside0.mk hr0; have HC0 := Aside0.mk hc0; clear hr0 hc0; have HR1 := Aside0.mk hr1; have HC1 := Aside0.mk hc1; clear hr1 hc1; have HB := asT (Below.refl w.heap.size w); have H := h; unfold laws_eqCandidateS.f at H; clear h
 by_cases c3 : (l0.length : Int) = (l1.length : Int)
 ·rw [if_pos c3] at H
  have c3b0 : ((l0.length : Int) == (l1.length : Int)) = true := beq_iff_eq.mpr c3
  have c3b1 : ((l0.length : Int) != (l1.length : Int)) = false := bne_eq_false_iff_eq.mpr c3
  have c3b2 : (l0.length == l1.length) = true := by first | simpa using c3 | (simp at c3 ⊢; omega)
  clear c3; have H' := Aside0.mk H; clear H
  go_enter Try.func64, Try.ntmps64
  go_wp2
  go_loopg [5] k (fun kq v5 w' => ∃ (x5_1 : Int), v5 = .int .i64 x5_1 ∧ Aside0 (laws_eqCandidateS.l0 kq l0 l1 x5_1 = some r) ∧ Aside0 (kq ≤ k) ∧ Aside0 (Below w.heap.size w w'))
  case atStart => exact ⟨(0), rdT, H', ⟨Nat.le_refl _⟩, ⟨hbT HB.out⟩⟩
  case round =>
   clear H'; (try clear c1 p2 c3 c3b0 c3b1 c3b2); obtain ⟨x5_1, rfl, HA, HK1, HB⟩ := hrel
   cases gk with
   | zero => exact absurd HA.out (by simp [laws_eqCandidateS.l0])
   | succ k1 =>
    have H := HA.out; clear HA
    simp only [laws_eqCandidateS.l0] at H
    by_cases c4 : x5_1 < (l0.length : Int)
    ·rw [if_pos c4] at H
     have c4b0 : decide (x5_1 < (l0.length : Int)) = true := decide_eq_true c4
     clear c4
     by_cases c5 : 0 ≤ x5_1
     ·rw [if_pos c5] at H
      have c5b0 : decide (0 ≤ x5_1) = true := decide_eq_true c5
      clear c5
      by_cases c6 : x5_1 < (l1.length : Int)
      ·rw [if_pos c6] at H
       have c6b0 : decide (x5_1 < (l1.length : Int)) = true := decide_eq_true c6
       clear c6; obtain ⟨t187, A7, H⟩ := be H
       by_cases c8 : t187 = true
       ·subst c8
        rw [if_pos rfl] at H; have H' := Aside0.mk H; clear H
        try go_wp2
        replace HB := asT (below_drew1 HB.out)
        have p185 : 0 ≤ (x5_1 : Int) := of_decide_eq_true asmT
        have q185 : x5_1 < (l0.length : Int) := of_decide_eq_true asmT
        obtain ⟨ad185, A185_0, c185_0, e185, hx185_0, hl185_0, hi185_0⟩ := at_T26 HR0.out x5_1 p185 q185; have hw185_0 := hx185_0
        cases e185
        replace hx185_0 := hbc HB.out hx185_0; have HR185_0 := Aside0.mk hi185_0; have HC185_0 := Aside0.mk hl185_0; clear hi185_0 hl185_0; replace p185 := eq_true p185; replace q185 := eq_true q185
        have p186 : 0 ≤ (x5_1 : Int) := of_decide_eq_true asmT
        have q186 : x5_1 < (l1.length : Int) := of_decide_eq_true asmT
        obtain ⟨ad186, A186_0, c186_0, e186, hx186_0, hl186_0, hi186_0⟩ := at_T26 HR1.out x5_1 p186 q186; have hw186_0 := hx186_0
        cases e186
        replace hx186_0 := hbc HB.out hx186_0; have HR186_0 := Aside0.mk hi186_0; have HC186_0 := Aside0.mk hl186_0; clear hi186_0 hl186_0; replace p186 := eq_true p186; replace q186 := eq_true q186
        refine start_ (n := 10) (S := fun w' => w'.cell? (ad185.add (x5_1).toNat) = some (.slice A185_0 ((rd_T26 l0 x5_1).f0).length c185_0) ∧ w'.cell? (ad186.add (x5_1).toNat) = some (.slice A186_0 ((rd_T26 l1 x5_1).f0).length c186_0)) (ds := []) (bA 10 0) (by kernel_rfl) rfl rfl ⟨(hbc HB.out hw185_0 :), (hbc HB.out hw186_0 :)⟩ (fun hHeld => ?_); refine with_tabW laws_eqCandidateS.tab6 laws_eqCandidateS.bits6 (fun HT_ HW_ => ?_)
        generalize wr.drew = w9 at HB HR185_0 HR186_0 hx185_0 hx186_0 hHeld ⊢
        refine pA 0 17 10 1 HT_.out ?_ rfl rfl; refine pA 1 18 10 3 HT_.out ?_ rfl rfl; refine pA 2 19 10 7 HT_.out ?_ rfl rfl; refine pA 4 21 10 23 HT_.out ?_ rfl rfl; refine pA 5 22 10 55 HT_.out ?_ rfl rfl; refine pA 6 23 10 119 HT_.out ?_ rfl rfl; refine tA 3 20 10 127 HT_.out HW_.out hHeld ?_ rfl rfl; refine tA 7 24 10 255 HT_.out HW_.out hHeld ?_ rfl rfl
        refine oA 8 25 10 511 HT_.out (fun K hK => ?_) rfl rfl
        refine goes_ Try.func69 (by kernel_rfl) rfl #[.agg #[.slice A185_0 ((rd_T26 l0 x5_1).f0).length c185_0], .agg #[.slice A186_0 ((rd_T26 l1 x5_1).f0).length c186_0]] (by rfl) rfl rfl eqT ?_
        (with_reducible refine (laws_eqCandidate.calls k1 _ _ ((rd_T26 l0 x5_1).f0) _ _ ((rd_T26 l1 x5_1).f0) true _ ?side1 ?side2 ?side3 ?side4 A7.out).mono ?_); (case side1 => exact crT HR185_0.out HB.out); (case side2 => exact HC185_0.out); (case side3 => exact crT HR186_0.out HB.out); (case side4 => exact HC186_0.out); rintro e w10 ⟨rfl, hb⟩; refine ⟨_, rfl, ?_⟩; replace HB := hS HB hb; (try clear hb hb2 hk hi)
        refine hK.out _ _ ⟨(hbc HB.out hw185_0 :), (hbc HB.out hw186_0 :)⟩ (fun hHeld => ?_)
        clear hK K
        refine nB 25 ?_ rfl; refine pA 9 26 10 1023 HT_.out ?_ rfl rfl
        refine done_ (done_of HT_.out (by kernel_rfl)) ?_
        try go_wp2
        go_roundg k1
        case measure => have := HK1.out; omega
        case rel => exact ⟨(wrap64 (x5_1 + 1)), rdT, H', ⟨by have := HK1.out; omega⟩, ⟨hbT HB.out⟩⟩
       ·replace c8 := Bool.eq_false_iff.mpr c8
        subst c8; rw [if_neg nF] at H; have H1 := H; clear H; have H := H1; clear H1
        obtain rfl := Option.some.inj H
        try go_wp2
        replace HB := asT (below_drew1 HB.out)
        have p185 : 0 ≤ (x5_1 : Int) := of_decide_eq_true asmT
        have q185 : x5_1 < (l0.length : Int) := of_decide_eq_true asmT
        obtain ⟨ad185, A185_0, c185_0, e185, hx185_0, hl185_0, hi185_0⟩ := at_T26 HR0.out x5_1 p185 q185; have hw185_0 := hx185_0
        cases e185
        replace hx185_0 := hbc HB.out hx185_0; have HR185_0 := Aside0.mk hi185_0; have HC185_0 := Aside0.mk hl185_0; clear hi185_0 hl185_0; replace p185 := eq_true p185; replace q185 := eq_true q185
        have p186 : 0 ≤ (x5_1 : Int) := of_decide_eq_true asmT
        have q186 : x5_1 < (l1.length : Int) := of_decide_eq_true asmT
        obtain ⟨ad186, A186_0, c186_0, e186, hx186_0, hl186_0, hi186_0⟩ := at_T26 HR1.out x5_1 p186 q186; have hw186_0 := hx186_0
        cases e186
        replace hx186_0 := hbc HB.out hx186_0; have HR186_0 := Aside0.mk hi186_0; have HC186_0 := Aside0.mk hl186_0; clear hi186_0 hl186_0; replace p186 := eq_true p186; replace q186 := eq_true q186
        refine start_ (n := 10) (S := fun w' => w'.cell? (ad185.add (x5_1).toNat) = some (.slice A185_0 ((rd_T26 l0 x5_1).f0).length c185_0) ∧ w'.cell? (ad186.add (x5_1).toNat) = some (.slice A186_0 ((rd_T26 l1 x5_1).f0).length c186_0)) (ds := []) (bA 10 0) (by kernel_rfl) rfl rfl ⟨(hbc HB.out hw185_0 :), (hbc HB.out hw186_0 :)⟩ (fun hHeld => ?_); refine with_tabW laws_eqCandidateS.tab6 laws_eqCandidateS.bits6 (fun HT_ HW_ => ?_)
        generalize wr.drew = w11 at HB HR185_0 HR186_0 hx185_0 hx186_0 hHeld ⊢
        refine pA 0 17 10 1 HT_.out ?_ rfl rfl; refine pA 1 18 10 3 HT_.out ?_ rfl rfl; refine pA 2 19 10 7 HT_.out ?_ rfl rfl; refine pA 4 21 10 23 HT_.out ?_ rfl rfl; refine pA 5 22 10 55 HT_.out ?_ rfl rfl; refine pA 6 23 10 119 HT_.out ?_ rfl rfl; refine tA 3 20 10 127 HT_.out HW_.out hHeld ?_ rfl rfl; refine tA 7 24 10 255 HT_.out HW_.out hHeld ?_ rfl rfl
        refine oA 8 25 10 511 HT_.out (fun K hK => ?_) rfl rfl
        refine goes_ Try.func69 (by kernel_rfl) rfl #[.agg #[.slice A185_0 ((rd_T26 l0 x5_1).f0).length c185_0], .agg #[.slice A186_0 ((rd_T26 l1 x5_1).f0).length c186_0]] (by rfl) rfl rfl eqT ?_
        (with_reducible refine (laws_eqCandidate.calls k1 _ _ ((rd_T26 l0 x5_1).f0) _ _ ((rd_T26 l1 x5_1).f0) false _ ?side1 ?side2 ?side3 ?side4 A7.out).mono ?_); (case side1 => exact crT HR185_0.out HB.out); (case side2 => exact HC185_0.out); (case side3 => exact crT HR186_0.out HB.out); (case side4 => exact HC186_0.out); rintro e w12 ⟨rfl, hb⟩; refine ⟨_, rfl, ?_⟩; replace HB := hS HB hb; (try clear hb hb2 hk hi)
        refine hK.out _ _ ⟨(hbc HB.out hw185_0 :), (hbc HB.out hw186_0 :)⟩ (fun hHeld => ?_)
        clear hK K
        refine nB 25 ?_ rfl; refine pA 9 26 10 1023 HT_.out ?_ rfl rfl
        refine done_ (done_of HT_.out (by kernel_rfl)) ?_
        try go_wp2
        go_ret
        exact ⟨rlT, hbT HB.out⟩
      ·rw [if_neg c6] at H
       exact absurd H (by simp)
     ·rw [if_neg c5] at H
      exact absurd H (by simp)
    ·rw [if_neg c4] at H
     have c4b0 : decide (x5_1 < (l0.length : Int)) = false := decide_eq_false c4
     clear c4
     obtain rfl := Option.some.inj H
     go_wp2
     go_ret
     exact ⟨rlT, hbT HB.out⟩
 ·rw [if_neg c3] at H
  have c3b0 : ((l0.length : Int) == (l1.length : Int)) = false := beq_eq_false_iff_ne.mpr c3
  have c3b1 : ((l0.length : Int) != (l1.length : Int)) = true := bne_iff_ne.mpr c3
  have c3b2 : (l0.length == l1.length) = false := by first | simpa using c3 | (simp at c3 ⊢; omega)
  obtain rfl := Option.some.inj H
  go_enter Try.func64, Try.ntmps64
  go_wp2
  go_ret
  exact ⟨rlT, hbT HB.out⟩

end Go.Proofs.Ytmfhaplhgaehhaa.PFnExactOneEdit
