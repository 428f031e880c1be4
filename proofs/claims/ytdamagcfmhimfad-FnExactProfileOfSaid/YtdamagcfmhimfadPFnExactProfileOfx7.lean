-- Made by gen.py (a program of this session) out of the translation; Lean checks it.
import Derived.Test.YtdamagcfmhimfadPFnExactProfileOfx0
import Derived.Test.YtdamagcfmhimfadPFnExactProfileOfx3
import Derived.Test.YtdamagcfmhimfadPFnExactProfileOfx6
namespace Go.Proofs.Ytdamagcfmhimfad.PFnExactProfileOf
open Go.RowKit Go.Proofs.YtdamagcfmhimfadB Go.Proofs.YtdamagcfmhimfadW.PrintWords Go.Proofs.YtdamagcfmhimfadW.PrintLast Go.Proofs.YtdamagcfmhimfadW.PrintMore
attribute [local go_sem] max2_int min2_int max_two min_two max_three min_three max_four min_four   -- for this text's walks alone
set_option linter.unusedVariables false
set_option linter.unusedSimpArgs false

/-! ### spec_ProfileOf: function 33 -/
def spec_ProfileOf.l0 : Nat → List ByteArray → List Int → Int → List (S83) → Option (List Int)
 | 0, _, _, _, _ => none
 | k + 1, x0, x5, x6, x236000 => if x6 < (x0.length : Int) then ((spec_AreConstraints.f k x0).bind fun t239 => (if t239 = true then ((spec_IsCandidate.f k x236000).bind fun t240 => (if t240 = true then (if 0 ≤ x6 then ((spec_ViolationsOf.f k (rdOf ByteArray.empty x0 x6) x236000).bind fun t242 => (if x5.length < 17592186044416 then (spec_ProfileOf.l0 k x0 (x5 ++ [t242]) (wrap64 (x6 + 1)) x236000) else (none))) else (none)) else (some x5))) else (some x5))) else (some x5)
def spec_ProfileOf.f (k : Nat) (l0 : List ByteArray) (l1_0 : List (S83)) : Option (List Int) := spec_ProfileOf.l0 k l0 (([] : List Int)) 0 l1_0
theorem spec_ProfileOf.mono_l : ∀ k, (∀ y0 y1 y2 y3, LeO (spec_ProfileOf.l0 k y0 y1 y2 y3) (spec_ProfileOf.l0 (k + 1) y0 y1 y2 y3))
 | 0 => fun _ _ _ _ r h => by simp [spec_ProfileOf.l0] at h
 | k + 1 => by
  have ih0 := spec_ProfileOf.mono_l k
  ·intro y0 y1 y2 y3
   unfold spec_ProfileOf.l0
   repeat' first
   | (with_reducible exact ih0 _ _ _ _)
   | (with_reducible exact spec_AreConstraints.mono _ _)
   | (with_reducible exact spec_IsCandidate.mono _ _)
   | (with_reducible exact spec_ViolationsOf.mono _ _ _)
   | (with_reducible exact LeO.refl _)
   | (with_reducible exact LeO.none _)
   | (with_reducible refine LeO.ite ?_ ?_)
   | (with_reducible refine LeO.bind ?_ (fun _ => ?_))
   | exact ih0 _ _ _ _
   | exact spec_AreConstraints.mono _ _
   | exact spec_IsCandidate.mono _ _
   | exact spec_ViolationsOf.mono _ _ _
   | exact LeO.none _
   | refine LeO.ite ?_ ?_
   | refine LeO.bind ?_ (fun _ => ?_)
theorem spec_ProfileOf.mono : ∀ a0 a1 k, LeO (spec_ProfileOf.f k a0 a1) (spec_ProfileOf.f (k + 1) a0 a1) := by
 intro a0 a1 k
 have ih0 := spec_ProfileOf.mono_l k
 unfold spec_ProfileOf.f
 repeat' first
   | (with_reducible exact ih0 _ _ _ _)
   | (with_reducible exact spec_AreConstraints.mono _ _)
   | (with_reducible exact spec_IsCandidate.mono _ _)
   | (with_reducible exact spec_ViolationsOf.mono _ _ _)
   | (with_reducible exact LeO.refl _)
   | (with_reducible exact LeO.none _)
   | (with_reducible refine LeO.ite ?_ ?_)
   | (with_reducible refine LeO.bind ?_ (fun _ => ?_))
   | exact ih0 _ _ _ _
   | exact spec_AreConstraints.mono _ _
   | exact spec_IsCandidate.mono _ _
   | exact spec_ViolationsOf.mono _ _ _
   | exact LeO.none _
   | refine LeO.ite ?_ ?_
   | refine LeO.bind ?_ (fun _ => ?_)
def spec_ProfileOf.T5 : Bool × List (List Nat × List Nat) := (true, [([], []), ([], []), ([], []), ([1, 2], [1, 2]), ([3], [3]), ([], []), ([4, 5], [4, 5]), ([6], [6]), ([0, 7, 6], [0, 7]), ([8, 8, 0, 1, 2, 3, 4, 5, 6, 7, 8], [0, 8])])
def spec_ProfileOf.B5 : List Nat := [0, 0, 0, 6, 14, 0, 62, 126, 255, 511]
theorem spec_ProfileOf.tab5 : rtab .any (opsOf Try.f33 5) = spec_ProfileOf.T5 := by kernel_rfl
theorem spec_ProfileOf.bits5 : waitsOk spec_ProfileOf.T5.2 spec_ProfileOf.B5 = true := by kernel_rfl
set_option maxHeartbeats 8000000 in
set_option maxRecDepth 100000 in
theorem spec_ProfileOf.calls (k : Nat) (A0 : Option Addr) (c0 : Nat) (l0 : List ByteArray) (A1_0 : Option Addr) (c1_0 : Nat) (l1_0 : List (S83)) (r : List Int) (w : World) (hr0 : Kd.C Kd.string w A0 l0.length l0) (hc0 : l0.length ≤ c0) (hr1_0 : Kd.C k83 w A1_0 l1_0.length l1_0) (hc1_0 : l1_0.length ≤ c1_0) (h : spec_ProfileOf.f k l0 l1_0 = some r) :
  Calls Try.prog 33 #[.slice A0 l0.length c0, .agg #[.slice A1_0 l1_0.length c1_0]] w fun e w' => ∃ v0_ : Value, e = .returned (v0_) ∧ Kd.R (Kd.int .i64) 3 w' w.heap.size (fun _ => True) v0_ r ∧ Below w.heap.size w w' := by
 have hu34 := Try.underlying34; have HR0 := Aside0.mk hr0; have HC0 := Aside0.mk hc0; clear hr0 hc0; have HR1_0 := Aside0.mk hr1_0; have HC1_0 := Aside0.mk hc1_0; clear hr1_0 hc1_0; have HB := asT (Below.refl w.heap.size w)
 have H : (spec_ProfileOf.l0 k l0 (([] : List Int)) 0 l1_0) = some r := h
 clear h; obtain ⟨y236, hy236⟩ : ∃ y_ : List Int, y_ = (([] : List Int)) := ⟨_, rfl⟩
 replace H : (spec_ProfileOf.l0 k l0 y236 0 l1_0) = some r := by first | (rw [hy236]; with_reducible exact H) | (have H2_ := (Option.bind_some _ _).symm.trans H; rw [hy236]; with_reducible exact H2_) | (have H2_ := (Option.bind_some _ _).symm.trans H; with_reducible exact H2_) | with_reducible exact H | (rw [hy236]; exact H) | exact H
 have Ny236 := Aside0.mk hy236; clear hy236; have H' := Aside0.mk H; clear H
 go_enter Try.func33, Try.ntmps33
 go_wp2_with (first | ((with_reducible refine gate_dst (N := 3) rfl ?_); refine boxT (N := 3) (cs := #[.slice A1_0 l1_0.length c1_0]) (t := 34) ?_; intro gb235 hg w3 hbox hb; have n0_ := asT (below_step (hbT HB.out) hb); have n1_ := asT (hbox); have n2_ := asT (geT hg HB.out); have n3_ := asT (geT hg HB.out); clear HB; have HB := n0_; have BK235 := n1_; have GW235 := n2_; have GE235 := n3_; clear n0_ n1_ n2_ n3_ hb hbox hg) | ((with_reducible refine gate_dst (N := 7) rfl ?_); refine Kd.R_lit (Kd.int .i64) _ 3 ?hg (N := 7) ?hd (xs := ([] : List Int)) (inner := []) (ok := fun _ => True) (okp := fun _ => True) ?hr ?hp (fun _ hk => hk) trivial (Below.refl _ _) (Nat.le_refl _) (by simp) ?_; (case hd => rfl); (case hg => rfl); (case hr => first | (go_simp; done) | (go_simp; rfl)); (case hp => exact (Reps.none _ _)); intro v237 w4 ho5 hb hg_ hnew_; clear hg_ hnew_; (first | rw [← Ny236.out] at ho5 | (simp only [Int.reduceToNat] at ho5; rw [← Ny236.out] at ho5)); have n0_ := asT (Kd.R_lower ho5 (below_size (hbT HB.out))); have n1_ := asT (blk_below (bkT BK235.out) hb); have n2_ := asT (below_step (hbT HB.out) hb); clear BK235 HB; have HO238 := n0_; have BK235 := n1_; have HB := n2_; clear n0_ n1_ n2_ hb ho5))
 go_loopg [5, 6] k (fun kq v5 v6 w' => ∃ (x5_1 : List Int) (x6_1 : Int), v6 = .int .i64 x6_1 ∧ Aside0 (spec_ProfileOf.l0 kq l0 x5_1 x6_1 l1_0 = some r) ∧ Aside0 (kq ≤ k) ∧ Aside0 (Kd.R (Kd.int .i64) 3 w' w.heap.size (fun _ => True) v5 x5_1) ∧ Aside0 (w'.heap[gb235]? = some (.cells #[(.slice A1_0 l1_0.length c1_0)] 34 (0, 0))) ∧ Aside0 (Below w.heap.size w w'))
 case atStart => exact ⟨(y236), (0), rdT, H', ⟨Nat.le_refl _⟩, ⟨by (with_reducible repeat (first | apply Kd.R_alloc | apply Kd.R_drewN | apply Kd.R_drew)); exact HO238.out⟩, ⟨by (with_reducible repeat (first | refine blk_drewN ?_ _ | refine blk_drew ?_ | refine blk_alloc ?_ _)); exact BK235.out⟩, ⟨hbT HB.out⟩⟩
 case round =>
  clear H'; (try clear c1); (try clear p2); (try clear c3); obtain ⟨x5_1, x6_1, rfl, HA, HK1, HO_5, BK235, HB⟩ := hrel
  cases gk with
  | zero => exact absurd HA.out (by simp [spec_ProfileOf.l0])
  | succ k1 =>
   have H := HA.out; clear HA
   simp only [spec_ProfileOf.l0] at H
   by_cases c6 : x6_1 < (l0.length : Int)
   ·rw [if_pos c6] at H
    have c6b0 : decide (x6_1 < (l0.length : Int)) = true := decide_eq_true c6
    clear c6; replace H := Option.bind_eq_some_iff.mp H; obtain ⟨t239, A70, H⟩ := H; replace H : (if t239 = true then ((spec_IsCandidate.f k1 l1_0).bind fun t240 => (if t240 = true then (if 0 ≤ x6_1 then ((spec_ViolationsOf.f k1 (rdOf ByteArray.empty l0 x6_1) l1_0).bind fun t242 => (if x5_1.length < 17592186044416 then (spec_ProfileOf.l0 k1 l0 (x5_1 ++ [t242]) (wrap64 (x6_1 + 1)) l1_0) else (none))) else (none)) else (some x5_1))) else (some x5_1)) = some r := H; have A7 := Aside0.mk A70; clear A70
    by_cases c8 : t239 = true
    ·subst c8
     have H1 : ((spec_IsCandidate.f k1 l1_0).bind fun t240 => (if t240 = true then (if 0 ≤ x6_1 then ((spec_ViolationsOf.f k1 (rdOf ByteArray.empty l0 x6_1) l1_0).bind fun t242 => (if x5_1.length < 17592186044416 then (spec_ProfileOf.l0 k1 l0 (x5_1 ++ [t242]) (wrap64 (x6_1 + 1)) l1_0) else (none))) else (none)) else (some x5_1))) = some r := by rw [if_pos rfl] at H; exact H
     clear H; have H := H1; clear H1; replace H := Option.bind_eq_some_iff.mp H; obtain ⟨t240, A90, H⟩ := H; replace H : (if t240 = true then (if 0 ≤ x6_1 then ((spec_ViolationsOf.f k1 (rdOf ByteArray.empty l0 x6_1) l1_0).bind fun t242 => (if x5_1.length < 17592186044416 then (spec_ProfileOf.l0 k1 l0 (x5_1 ++ [t242]) (wrap64 (x6_1 + 1)) l1_0) else (none))) else (none)) else (some x5_1)) = some r := H; have A9 := Aside0.mk A90; clear A90
     by_cases c10 : t240 = true
     ·subst c10
      have H1 : (if 0 ≤ x6_1 then ((spec_ViolationsOf.f k1 (rdOf ByteArray.empty l0 x6_1) l1_0).bind fun t242 => (if x5_1.length < 17592186044416 then (spec_ProfileOf.l0 k1 l0 (x5_1 ++ [t242]) (wrap64 (x6_1 + 1)) l1_0) else (none))) else (none)) = some r := by rw [if_pos rfl] at H; exact H
      clear H; have H := H1; clear H1
      by_cases c11 : 0 ≤ x6_1
      ·rw [if_pos c11] at H
       have c11b0 : decide (0 ≤ x6_1) = true := decide_eq_true c11
       clear c11; replace H := Option.bind_eq_some_iff.mp H; obtain ⟨t242, A120, H⟩ := H; replace H : (if x5_1.length < 17592186044416 then (spec_ProfileOf.l0 k1 l0 (x5_1 ++ [t242]) (wrap64 (x6_1 + 1)) l1_0) else (none)) = some r := H; have A12 := Aside0.mk A120; clear A120
       by_cases c13 : x5_1.length < 17592186044416
       ·rw [if_pos c13] at H
        have LMc13 := Aside0.mk c13; clear c13; obtain ⟨y243, hy243⟩ : ∃ y_ : List Int, y_ = (x5_1 ++ [t242]) := ⟨_, rfl⟩
        replace H : (spec_ProfileOf.l0 k1 l0 y243 (wrap64 (x6_1 + 1)) l1_0) = some r := by first | (rw [hy243]; with_reducible exact H) | (have H2_ := (Option.bind_some _ _).symm.trans H; rw [hy243]; with_reducible exact H2_) | (have H2_ := (Option.bind_some _ _).symm.trans H; with_reducible exact H2_) | with_reducible exact H | (rw [hy243]; exact H) | exact H
        have Ny243 := Aside0.mk hy243; clear hy243; have H' := Aside0.mk H; clear H
        try go_wp2_with (first | (go_at_call 71; (with_reducible refine (spec_AreConstraints.calls k1 _ _ l0 true _ ?side1 ?side2 A7.out).mono ?_); (case side1 => exact crT HR0.out HB.out); (case side2 => exact HC0.out); rintro e w14 ⟨rfl, hb⟩; have n0_ := asT (Kd.R_below (roT HO_5.out) hb); have n1_ := asT (blk_below (bkT BK235.out) hb); have n2_ := asT (below_step (hbT HB.out) hb); clear HO_5 BK235 HB; have HO_5 := n0_; have BK235 := n1_; have HB := n2_; clear n0_ n1_ n2_; (try clear hb); (try clear hb2); (try clear hk); (try clear hi); have hcz15_0 : w14.cell? ⟨gb235, 0, none⟩ = some (.slice A1_0 l1_0.length c1_0) := (blk_cell BK235.out 0).trans rfl; have hfz15_0 := blk_frozen BK235.out 0) | (go_at_call 42; (with_reducible refine (spec_IsCandidate.calls k1 _ _ l1_0 true _ ?side1 ?side2 A9.out).mono ?_); (case side1 => exact crT HR1_0.out HB.out); (case side2 => exact HC1_0.out); rintro e w16 ⟨rfl, hb⟩; have n0_ := asT (Kd.R_below (roT HO_5.out) hb); have n1_ := asT (blk_below (bkT BK235.out) hb); have n2_ := asT (below_step (hbT HB.out) hb); clear HO_5 BK235 HB; have HO_5 := n0_; have BK235 := n1_; have HB := n2_; clear n0_ n1_ n2_; (try clear hb); (try clear hb2); (try clear hk); (try clear hi)))
        have n0_ := asT (Kd.R_drew HO_5.out); have n1_ := asT (blk_drew BK235.out); have n2_ := asT (below_drew1 HB.out); clear HO_5 BK235 HB; have HO_5 := n0_; have BK235 := n1_; have HB := n2_; clear n0_ n1_ n2_
        have p241 : 0 ≤ (x6_1 : Int) := of_decide_eq_true asmT
        have q241 : x6_1 < (l0.length : Int) := of_decide_eq_true asmT
        obtain ⟨ad241, e241, hx241_0⟩ := Kd.at_string HR0.out x6_1 p241 q241; have hw241_0 := hx241_0
        cases e241
        replace hx241_0 := (HB.out.cell (World.block_lt_of_cell? w _ hx241_0)).trans hx241_0; replace p241 := eq_true p241; replace q241 := eq_true q241
        refine start_ (n := 10) (S := fun w' => w'.cell? ⟨gb235, 0, none⟩ = some (.slice A1_0 l1_0.length c1_0) ∧ w'.cell? (ad241.add (x6_1).toNat) = some (.string (rdOf ByteArray.empty l0 x6_1))) (ds := []) #[false, false, false, false, false, false, false, false, false, false] (by kernel_rfl) rfl rfl ⟨(blk_cell BK235.out 0).trans rfl, ((HB.out.cell (World.block_lt_of_cell? w _ hw241_0)).trans hw241_0)⟩ (fun hHeld => ?_); refine with_tabW spec_ProfileOf.tab5 spec_ProfileOf.bits5 (fun HT_ HW_ => ?_)
        generalize w16.drew = w17 at HO_5 BK235 HB hx241_0 hHeld ⊢
        refine pure_ (i := 0) (N := some 22) (v := ?_) (a' := ?_) #[true, false, false, false, false, false, false, false, false, false] rfl rfl (any_of HT_.out (by kernel_rfl)) (fun _ _ _ h => h) (Or.inl ⟨by rfl, ?_⟩) ?_ ?_
        rotate_left
        ·intro w'
         go_simp
         (with_reducible rfl)
        rotate_left
        ·simp only [Act.put, List.setIfInBounds_toArray, List.set_cons_zero, List.set_cons_succ, i64_w, i32_w]
         rfl
        refine pure_ (i := 1) (N := some 23) (v := ?_) (a' := ?_) #[true, true, false, false, false, false, false, false, false, false] rfl rfl (any_of HT_.out (by kernel_rfl)) (fun _ _ _ h => h) (Or.inl ⟨by rfl, ?_⟩) ?_ ?_
        rotate_left
        ·intro w'
         go_simp
         (with_reducible rfl)
        rotate_left
        ·simp only [Act.put, List.setIfInBounds_toArray, List.set_cons_zero, List.set_cons_succ, i64_w, i32_w]
         rfl
        refine pure_ (i := 2) (N := some 24) (v := ?_) (a' := ?_) #[true, true, true, false, false, false, false, false, false, false] rfl rfl (any_of HT_.out (by kernel_rfl)) (fun _ _ _ h => h) (Or.inl ⟨by rfl, ?_⟩) ?_ ?_
        rotate_left
        ·intro w'
         go_simp
         (with_reducible rfl)
        rotate_left
        ·simp only [Act.put, List.setIfInBounds_toArray, List.set_cons_zero, List.set_cons_succ, i64_w, i32_w]
         rfl
        refine pure_ (i := 3) (N := some 25) (v := ?_) (a' := ?_) #[true, true, true, true, false, false, false, false, false, false] rfl rfl (any_of HT_.out (by kernel_rfl)) (fun _ _ _ h => h) (Or.inl ⟨by rfl, ?_⟩) ?_ ?_
        rotate_left
        ·intro w'
         go_simp
         (with_reducible rfl)
        rotate_left
        ·simp only [Act.put, List.setIfInBounds_toArray, List.set_cons_zero, List.set_cons_succ, i64_w, i32_w]
         rfl
        refine take_ (i := 4) (N := some 26) (v := ?_) (a' := ?_) #[true, true, true, true, true, false, false, false, false, false] rfl rfl (take_ofW HT_.out HW_.out (by kernel_rfl)) (fun _ _ _ h => h) (Or.inl ⟨by rfl, ?_⟩) hHeld ?_ ?_
        rotate_left
        ·rintro w' ⟨s0, s1⟩
         go_simp
         (with_reducible rfl)
        rotate_left
        ·simp only [Act.put, List.setIfInBounds_toArray, List.set_cons_zero, List.set_cons_succ, i64_w, i32_w]
         rfl
        refine take_ (i := 5) (N := some 27) (v := ?_) (a' := ?_) #[true, true, true, true, true, true, false, false, false, false] rfl rfl (take_ofW HT_.out HW_.out (by kernel_rfl)) (fun _ _ _ h => h) (Or.inl ⟨by rfl, ?_⟩) hHeld ?_ ?_
        rotate_left
        ·rintro w' ⟨s0, s1⟩
         go_simp
         (with_reducible rfl)
        rotate_left
        ·simp only [Act.put, List.setIfInBounds_toArray, List.set_cons_zero, List.set_cons_succ, i64_w, i32_w]
         rfl
        refine one_ (i := 6) (N := some 28) #[true, true, true, true, true, true, true, false, false, false] rfl rfl (one_of HT_.out (by kernel_rfl)) (by decide) (fun K hK => ?_)
        refine goes_ Try.func14 (by kernel_rfl) rfl #[.string (rdOf ByteArray.empty l0 x6_1), .agg #[.slice A1_0 l1_0.length c1_0]] (by rfl) rfl rfl eqT ?_
        (with_reducible refine (spec_ViolationsOf.calls k1 (rdOf ByteArray.empty l0 x6_1) _ _ l1_0 t242 _ ?side1 ?side2 A12.out).mono ?_); (case side1 => exact crT HR1_0.out HB.out); (case side2 => exact HC1_0.out); rintro e w18 ⟨rfl, hb⟩; refine ⟨_, rfl, ?_⟩; have n0_ := asT (Kd.R_below (roT HO_5.out) hb); have n1_ := asT (blk_below (bkT BK235.out) hb); have n2_ := asT (below_step (hbT HB.out) hb); clear HO_5 BK235 HB; have HO_5 := n0_; have BK235 := n1_; have HB := n2_; clear n0_ n1_ n2_; (try clear hb); (try clear hb2); (try clear hk); (try clear hi)
        refine hK.out _ _ ⟨(blk_cell BK235.out 0).trans rfl, ((HB.out.cell (World.block_lt_of_cell? w _ hw241_0)).trans hw241_0)⟩ (fun hHeld => ?_)
        clear hK K
        refine norm_ (a' := ?_) ?_ ?_
        rotate_left
        ·show Act.put _ (some 28) _ = _
         simp only [Act.put, List.setIfInBounds_toArray, List.set_cons_zero, List.set_cons_succ, i64_w, i32_w]
         rfl
        refine one_ (i := 7) (N := some 29) #[true, true, true, true, true, true, true, true, false, false] rfl rfl (one_of HT_.out (by kernel_rfl)) (by decide) (fun K hK => ?_)
        refine value_ (w1 := ?_) (v := ?_) (by rfl) rfl ?_ ?_
        rotate_left 2
        ·go_simp
         constructor
         ·rfl
         ·rfl
        refine hK.out _ _ ⟨(blk_cell (blk_alloc BK235.out _) 0).trans rfl, (World.cell?_alloc_lt _ _ _ (World.block_lt_of_cell? _ _ (((HB.out.cell (World.block_lt_of_cell? w _ hw241_0)).trans hw241_0)))).trans (((HB.out.cell (World.block_lt_of_cell? w _ hw241_0)).trans hw241_0))⟩ (fun hHeld => ?_)
        clear hK K
        refine norm_ (a' := ?_) ?_ ?_
        rotate_left
        ·show Act.put _ (some 29) _ = _
         simp only [Act.put, List.setIfInBounds_toArray, List.set_cons_zero, List.set_cons_succ, i64_w, i32_w]
         rfl
        refine one_ (i := 8) (N := some 30) #[true, true, true, true, true, true, true, true, true, false] rfl rfl (one_of HT_.out (by kernel_rfl)) (by decide) (fun K hK => ?_)
        refine Kd.R_append_step (Kd.int .i64) (w0 := w) w.heap.size (by rfl) (.tmp 22) (.tmp 29) 22 3 (.int .i64 0) 8 rfl Try.underlying22 info3 rfl (by decide) (by omega) u5 x5_1 t242 [.int .i64 t242] (fun _ => True) (fun _ => False) rfl rfl ?aP (fun _ hk => hk.elim) ?aF ?aO ?aB ?aS ?aL ?_
        (case aP => exact rfl)
        (case aB => exact (hbT HB.out))
        (case aF => exact (fun _ _ => trivial))
        (case aO => exact (roT HO_5.out))
        (case aS => exact (below_size (hbT HB.out)))
        (case aL => have := LMc13.out; omega)
        intro v244 w19 ho hb hg hat
        rw [← Ny243.out] at ho; have n0_ := asT (blk_grown (g := gb235) (o := .cells #[.slice A1_0 l1_0.length c1_0] 34 (0, 0)) (bkT BK235.out) hg (Kd.R_ne HO_5.out BK235.out (by decide))); have n1_ := asT (hb); have n2_ := asT (ho); clear BK235 HB HO_5; have BK235 := n0_; have HB := n1_; have HO245 := n2_; clear n0_ n1_ n2_ ho hb hg hat
        refine hK.out _ _ ⟨(blk_cell BK235.out 0).trans rfl, ((HB.out.cell (World.block_lt_of_cell? w _ hw241_0)).trans hw241_0)⟩ (fun hHeld => ?_)
        clear hK K
        refine norm_ (a' := ?_) ?_ ?_
        rotate_left
        ·show Act.put _ (some 30) _ = _
         simp only [Act.put, List.setIfInBounds_toArray, List.set_cons_zero, List.set_cons_succ, i64_w, i32_w]
         rfl
        refine pure_ (i := 9) (N := some 5) (v := ?_) (a' := ?_) #[true, true, true, true, true, true, true, true, true, true] rfl rfl (any_of HT_.out (by kernel_rfl)) (fun _ _ _ h => h) (Or.inl ⟨by rfl, ?_⟩) ?_ ?_
        rotate_left
        ·intro w'
         go_simp
         (with_reducible rfl)
        rotate_left
        ·simp only [Act.put, List.setIfInBounds_toArray, List.set_cons_zero, List.set_cons_succ, i64_w, i32_w]
         rfl
        refine done_ (done_of HT_.out (by kernel_rfl)) ?_
        try go_wp2
        go_roundg k1
        case measure => have := HK1.out; omega
        case rel => exact ⟨(y243), (wrap64 (x6_1 + 1)), rdT, H', ⟨by have := HK1.out; omega⟩, ⟨by (with_reducible repeat (first | apply Kd.R_alloc | apply Kd.R_drewN | apply Kd.R_drew)); exact HO245.out⟩, ⟨by (with_reducible repeat (first | refine blk_drewN ?_ _ | refine blk_drew ?_ | refine blk_alloc ?_ _)); exact BK235.out⟩, ⟨hbT HB.out⟩⟩
       ·rw [if_neg c13] at H
        exact absurd H (by simp)
      ·rw [if_neg c11] at H
       exact absurd H (by simp)
     ·replace c10 := Bool.eq_false_iff.mpr c10
      subst c10
      have H1 : (some x5_1) = some r := by rw [if_neg (show ¬ (false = true) by decide)] at H; exact H
      clear H; have H := H1; clear H1
      obtain rfl := Option.some.inj H
      go_wp2_with (first | (go_at_call 71; (with_reducible refine (spec_AreConstraints.calls k1 _ _ l0 true _ ?side1 ?side2 A7.out).mono ?_); (case side1 => exact crT HR0.out HB.out); (case side2 => exact HC0.out); rintro e w20 ⟨rfl, hb⟩; have n0_ := asT (Kd.R_below (roT HO_5.out) hb); have n1_ := asT (blk_below (bkT BK235.out) hb); have n2_ := asT (below_step (hbT HB.out) hb); clear HO_5 BK235 HB; have HO_5 := n0_; have BK235 := n1_; have HB := n2_; clear n0_ n1_ n2_; (try clear hb); (try clear hb2); (try clear hk); (try clear hi); have hcz21_0 : w20.cell? ⟨gb235, 0, none⟩ = some (.slice A1_0 l1_0.length c1_0) := (blk_cell BK235.out 0).trans rfl; have hfz21_0 := blk_frozen BK235.out 0) | (go_at_call 42; (with_reducible refine (spec_IsCandidate.calls k1 _ _ l1_0 false _ ?side1 ?side2 A9.out).mono ?_); (case side1 => exact crT HR1_0.out HB.out); (case side2 => exact HC1_0.out); rintro e w22 ⟨rfl, hb⟩; have n0_ := asT (Kd.R_below (roT HO_5.out) hb); have n1_ := asT (blk_below (bkT BK235.out) hb); have n2_ := asT (below_step (hbT HB.out) hb); clear HO_5 BK235 HB; have HO_5 := n0_; have BK235 := n1_; have HB := n2_; clear n0_ n1_ n2_; (try clear hb); (try clear hb2); (try clear hk); (try clear hi)))
      go_ret
      exact ⟨_, rlT, by (with_reducible repeat (first | apply Kd.R_alloc | apply Kd.R_drewN | apply Kd.R_drew)); exact HO_5.out, hbT HB.out⟩
    ·replace c8 := Bool.eq_false_iff.mpr c8
     subst c8
     have H1 : (some x5_1) = some r := by rw [if_neg (show ¬ (false = true) by decide)] at H; exact H
     clear H; have H := H1; clear H1
     obtain rfl := Option.some.inj H
     go_wp2_with (first | (go_at_call 71; (with_reducible refine (spec_AreConstraints.calls k1 _ _ l0 false _ ?side1 ?side2 A7.out).mono ?_); (case side1 => exact crT HR0.out HB.out); (case side2 => exact HC0.out); rintro e w23 ⟨rfl, hb⟩; have n0_ := asT (Kd.R_below (roT HO_5.out) hb); have n1_ := asT (blk_below (bkT BK235.out) hb); have n2_ := asT (below_step (hbT HB.out) hb); clear HO_5 BK235 HB; have HO_5 := n0_; have BK235 := n1_; have HB := n2_; clear n0_ n1_ n2_; (try clear hb); (try clear hb2); (try clear hk); (try clear hi)))
     go_ret
     exact ⟨_, rlT, by (with_reducible repeat (first | apply Kd.R_alloc | apply Kd.R_drewN | apply Kd.R_drew)); exact HO_5.out, hbT HB.out⟩
   ·rw [if_neg c6] at H
    have c6b0 : decide (x6_1 < (l0.length : Int)) = false := decide_eq_false c6
    clear c6
    obtain rfl := Option.some.inj H
    go_wp2
    go_ret
    exact ⟨_, rlT, by (with_reducible repeat (first | apply Kd.R_alloc | apply Kd.R_drewN | apply Kd.R_drew)); exact HO_5.out, hbT HB.out⟩

/-! ### strings_IndexByte: function 129 -/
set_option maxRecDepth 100000 in
theorem stringslite_IndexByte.calls (s : ByteArray) (c : Int) (w : World) :
    Calls Try.prog 136 #[.string s, .int .u8 c] w fun e w' => e = .returned (.int .i64 (Lib.indexByte s.data.toList c.toNat.toUInt8)) ∧ w' = w := by
  go_enter Try.func136, Try.ntmps136
  go_wp2
  rw [run_callFunc_extern Try.func150 (by kernel_rfl) (by kernel_rfl) (by kernel_rfl) (e := Extern.BytealgIndexByte.indexByte) (by kernel_rfl), Lib.run_indexByteString]
  simp only [Result.andThen]
  rw [Oper.upon_value]
  go_wp2
  go_ret
  exact ⟨rfl, rfl⟩
def strings_IndexByte.f (a0 : ByteArray) (a1 : Int) : Option (Int) := some (Lib.indexByte a0.data.toList a1.toNat.toUInt8)
set_option maxRecDepth 100000 in
theorem strings_IndexByte.calls (a0 : ByteArray) (a1 : Int) (r : Int) (w : World) (h : strings_IndexByte.f a0 a1 = some r) :
    Calls Try.prog 129 #[.string a0, .int .u8 a1] w fun e w' => e = .returned (.int .i64 r) ∧ Drawn0 w w' := by
  obtain rfl := Option.some.inj h
  go_enter Try.func129, Try.ntmps129
  go_wp2_with (go_at_call 136; refine (stringslite_IndexByte.calls _ _ _).mono ?_; rintro e w' ⟨rfl, rfl⟩)
  go_ret
  exact ⟨rfl, Drawn0.refl _⟩

/-! ### impl_IsSound: function 125 -/
def impl_IsSound.f (a0 : Int) : Option (Bool) := (strings_IndexByte.f (⟨#[112, 116, 98, 100, 110, 97, 105]⟩ : ByteArray) a0).bind fun t246 => (some (decide (t246 ≥ 0)))
set_option maxHeartbeats 8000000 in
set_option maxRecDepth 100000 in
theorem impl_IsSound.calls (a0 : Int) (r : Bool) (w : World) (h : impl_IsSound.f a0 = some r) :
  Calls Try.prog 125 #[.int .u8 a0] w fun e w' => e = .returned (.bool r) ∧ Drawn0 w w' := by
 have H : ((strings_IndexByte.f (⟨#[112, 116, 98, 100, 110, 97, 105]⟩ : ByteArray) a0).bind fun t246 => (some (decide (t246 ≥ 0)))) = some r := h
 clear h; replace H := Option.bind_eq_some_iff.mp H; obtain ⟨t246, A20, H⟩ := H; replace H : (some (decide (t246 ≥ 0))) = some r := H; have A2 := Aside0.mk A20; clear A20
 obtain rfl := Option.some.inj H
 go_enter Try.func125, Try.ntmps125
 go_wp2_with (first | ((with_reducible refine gate_callee (f := 129) rfl ?_); refine goesL_ (some 4) rfl rfl Try.func129 (by kernel_rfl) rfl #[.string (⟨#[112, 116, 98, 100, 110, 97, 105]⟩ : ByteArray), .int .u8 a0] rfl eqT ?_; (with_reducible refine (strings_IndexByte.calls (⟨#[112, 116, 98, 100, 110, 97, 105]⟩ : ByteArray) a0 t246 _ A2.out).mono ?_); rintro e w' ⟨rfl, ⟨nd, rfl⟩⟩; refine ⟨_, rfl, ?_⟩))
 go_ret
 exact ⟨rdT, drT⟩

/-! ### impl_SwapVoice: function 126 -/
def impl_SwapVoice.f (a0 : Int) : Option (Int × Bool) := (strings_IndexByte.f (⟨#[112, 116, 98, 100]⟩ : ByteArray) a0).bind fun t247 => (if t247 < 0 then (some (a0, false)) else (if 0 ≤ t247 then (if t247 < 4 then (some (bt (⟨#[98, 100, 112, 116]⟩ : ByteArray) t247, true)) else (none)) else (none)))
set_option maxHeartbeats 8000000 in
set_option maxRecDepth 100000 in
theorem impl_SwapVoice.calls (a0 : Int) (r1 : Int) (r2 : Bool) (w : World) (h : impl_SwapVoice.f a0 = some (r1, r2)) :
  Calls Try.prog 126 #[.int .u8 a0] w fun e w' => e = .returned (.tuple #[.int .u8 r1, .bool r2]) ∧ Drawn0 w w' := by
 have H : ((strings_IndexByte.f (⟨#[112, 116, 98, 100]⟩ : ByteArray) a0).bind fun t247 => (if t247 < 0 then (some (a0, false)) else (if 0 ≤ t247 then (if t247 < 4 then (some (bt (⟨#[98, 100, 112, 116]⟩ : ByteArray) t247, true)) else (none)) else (none)))) = some (r1, r2) := h
 clear h; replace H := Option.bind_eq_some_iff.mp H; obtain ⟨t247, A20, H⟩ := H; replace H : (if t247 < 0 then (some (a0, false)) else (if 0 ≤ t247 then (if t247 < 4 then (some (bt (⟨#[98, 100, 112, 116]⟩ : ByteArray) t247, true)) else (none)) else (none))) = some (r1, r2) := H; have A2 := Aside0.mk A20; clear A20
 by_cases c3 : t247 < 0
 ·rw [if_pos c3] at H
  have c3b0 : decide (t247 < 0) = true := decide_eq_true c3
  clear c3
  simp only [Option.some.injEq, Prod.mk.injEq] at H
  obtain ⟨rfl, rfl⟩ := H
  go_enter Try.func126, Try.ntmps126
  go_wp2_with (first | ((with_reducible refine gate_callee (f := 129) rfl ?_); refine goesL_ (some 6) rfl rfl Try.func129 (by kernel_rfl) rfl #[.string (⟨#[112, 116, 98, 100]⟩ : ByteArray), .int .u8 a0] rfl eqT ?_; (with_reducible refine (strings_IndexByte.calls (⟨#[112, 116, 98, 100]⟩ : ByteArray) a0 t247 _ A2.out).mono ?_); rintro e w' ⟨rfl, ⟨nd, rfl⟩⟩; refine ⟨_, rfl, ?_⟩))
  go_ret2
  exact ⟨rdT, drT⟩
 ·rw [if_neg c3] at H
  have c3b0 : decide (t247 < 0) = false := decide_eq_false c3
  clear c3
  by_cases c4 : 0 ≤ t247
  ·rw [if_pos c4] at H
   have c4b0 : decide (0 ≤ t247) = true := decide_eq_true c4
   clear c4
   by_cases c5 : t247 < 4
   ·rw [if_pos c5] at H
    have c5b0 : decide (t247 < 4) = true := decide_eq_true c5
    clear c5
    simp only [Option.some.injEq, Prod.mk.injEq] at H
    obtain ⟨rfl, rfl⟩ := H
    go_enter Try.func126, Try.ntmps126
    go_wp2_with (first | ((with_reducible refine gate_callee (f := 129) rfl ?_); refine goesL_ (some 6) rfl rfl Try.func129 (by kernel_rfl) rfl #[.string (⟨#[112, 116, 98, 100]⟩ : ByteArray), .int .u8 a0] rfl eqT ?_; (with_reducible refine (strings_IndexByte.calls (⟨#[112, 116, 98, 100]⟩ : ByteArray) a0 t247 _ A2.out).mono ?_); rintro e w' ⟨rfl, ⟨nd, rfl⟩⟩; refine ⟨_, rfl, ?_⟩; have p6 : 0 ≤ (t247 : Int) := of_decide_eq_true asmT; have q6 : t247 < (4 : Int) := of_decide_eq_true asmT; have hx6 := bt_at (⟨#[98, 100, 112, 116]⟩ : ByteArray) t247; replace p6 := eq_true p6; replace q6 := eq_true q6))
    go_ret2
    exact ⟨rdT, drT⟩
   ·rw [if_neg c5] at H
    exact absurd H (by simp)
  ·rw [if_neg c4] at H
   exact absurd H (by simp)

/-! ### impl_isLink: function 93 -/
def impl_isLink.f (a0_0 : Int) (a0_1 : Int) : Option (Bool) := if a0_0 = 0 then ((impl_IsSound.f a0_1).bind fun t249 => (some t249)) else ((impl_IsSound.f a0_0).bind fun t250 => (if t250 = true then (if a0_1 = 0 then (some true) else (if a0_1 = a0_0 then (some true) else ((impl_SwapVoice.f a0_0).bind fun bt251 => (if bt251.2 = true then (some (bt251.1 == a0_1)) else (some false))))) else (some false)))
set_option maxHeartbeats 8000000 in
set_option maxRecDepth 100000 in
theorem impl_isLink.calls (a0_0 : Int) (a0_1 : Int) (r : Bool) (w : World) (h : impl_isLink.f a0_0 a0_1 = some r) :
  Calls Try.prog 93 #[.agg #[.int .u8 a0_0, .int .u8 a0_1]] w fun e w' => e = .returned (.bool r) ∧ Below w.heap.size w w' := by
 have hu83 := Try.underlying83; have HB := asT (Below.refl w.heap.size w)
 have H : (if a0_0 = 0 then ((impl_IsSound.f a0_1).bind fun t249 => (some t249)) else ((impl_IsSound.f a0_0).bind fun t250 => (if t250 = true then (if a0_1 = 0 then (some true) else (if a0_1 = a0_0 then (some true) else ((impl_SwapVoice.f a0_0).bind fun bt251 => (if bt251.2 = true then (some (bt251.1 == a0_1)) else (some false))))) else (some false)))) = some r := h
 clear h
 by_cases c2 : a0_0 = 0
 ·rw [if_pos c2] at H
  have c2b0 : (a0_0 == 0) = true := beq_iff_eq.mpr c2
  have c2b1 : (a0_0 != 0) = false := bne_eq_false_iff_eq.mpr c2
  clear c2; replace H := Option.bind_eq_some_iff.mp H; obtain ⟨t249, A30, H⟩ := H; replace H : (some t249) = some r := H; have A3 := Aside0.mk A30; clear A30
  obtain rfl := Option.some.inj H
  go_enter Try.func93, Try.ntmps93
  go_wp2_with (first | ((with_reducible refine gate_dst (N := 1) rfl ?_); refine boxT (N := 1) (cs := #[.int .u8 a0_0, .int .u8 a0_1]) (t := 83) ?_; intro gb248 hg w4 hbox hb; have n0_ := asT (below_step (hbT HB.out) hb); have n1_ := asT (hbox); have n2_ := asT (geT hg HB.out); have n3_ := asT (geT hg HB.out); clear HB; have HB := n0_; have BK248 := n1_; have GW248 := n2_; have GE248 := n3_; clear n0_ n1_ n2_ n3_ hb hbox hg; have hcz5_0 : w4.cell? ⟨gb248, 0, none⟩ = some (.int .u8 a0_0) := (blk_cell BK248.out 0).trans rfl; have hcz5_1 : w4.cell? ⟨gb248, 1, none⟩ = some (.int .u8 a0_1) := (blk_cell BK248.out 1).trans rfl; have hfz5_0 := blk_frozen BK248.out 0; have hfz5_1 := blk_frozen BK248.out 1) | ((with_reducible refine gate_callee (f := 125) rfl ?_); refine goesL_ (some 11) rfl rfl Try.func125 (by kernel_rfl) rfl #[.int .u8 a0_1] rfl eqT ?_; (with_reducible refine (impl_IsSound.calls a0_1 t249 _ A3.out).mono ?_); rintro e w' ⟨rfl, ⟨nd, rfl⟩⟩; refine ⟨_, rfl, ?_⟩))
  go_ret
  exact ⟨rlT, hbT HB.out⟩
 ·rw [if_neg c2] at H
  have c2b0 : (a0_0 == 0) = false := beq_eq_false_iff_ne.mpr c2
  have c2b1 : (a0_0 != 0) = true := bne_iff_ne.mpr c2
  replace H := Option.bind_eq_some_iff.mp H; obtain ⟨t250, A60, H⟩ := H; replace H : (if t250 = true then (if a0_1 = 0 then (some true) else (if a0_1 = a0_0 then (some true) else ((impl_SwapVoice.f a0_0).bind fun bt251 => (if bt251.2 = true then (some (bt251.1 == a0_1)) else (some false))))) else (some false)) = some r := H; have A6 := Aside0.mk A60; clear A60
  by_cases c7 : t250 = true
  ·subst c7
   have H1 : (if a0_1 = 0 then (some true) else (if a0_1 = a0_0 then (some true) else ((impl_SwapVoice.f a0_0).bind fun bt251 => (if bt251.2 = true then (some (bt251.1 == a0_1)) else (some false))))) = some r := by rw [if_pos rfl] at H; exact H
   clear H; have H := H1; clear H1
   by_cases c8 : a0_1 = 0
   ·rw [if_pos c8] at H
    have c8b0 : (a0_1 == 0) = true := beq_iff_eq.mpr c8
    have c8b1 : (a0_1 != 0) = false := bne_eq_false_iff_eq.mpr c8
    clear c8
    obtain rfl := Option.some.inj H
    go_enter Try.func93, Try.ntmps93
    go_wp2_with (first | ((with_reducible refine gate_dst (N := 1) rfl ?_); refine boxT (N := 1) (cs := #[.int .u8 a0_0, .int .u8 a0_1]) (t := 83) ?_; intro gb248 hg w9 hbox hb; have n0_ := asT (below_step (hbT HB.out) hb); have n1_ := asT (hbox); have n2_ := asT (geT hg HB.out); have n3_ := asT (geT hg HB.out); clear HB; have HB := n0_; have BK248 := n1_; have GW248 := n2_; have GE248 := n3_; clear n0_ n1_ n2_ n3_ hb hbox hg; have hcz10_0 : w9.cell? ⟨gb248, 0, none⟩ = some (.int .u8 a0_0) := (blk_cell BK248.out 0).trans rfl; have hcz10_1 : w9.cell? ⟨gb248, 1, none⟩ = some (.int .u8 a0_1) := (blk_cell BK248.out 1).trans rfl; have hfz10_0 := blk_frozen BK248.out 0; have hfz10_1 := blk_frozen BK248.out 1) | ((with_reducible refine gate_callee (f := 125) rfl ?_); refine goesL_ (some 15) rfl rfl Try.func125 (by kernel_rfl) rfl #[.int .u8 a0_0] rfl eqT ?_; (with_reducible refine (impl_IsSound.calls a0_0 true _ A6.out).mono ?_); rintro e w' ⟨rfl, ⟨nd, rfl⟩⟩; refine ⟨_, rfl, ?_⟩))
    go_ret
    exact ⟨rlT, hbT HB.out⟩
   ·rw [if_neg c8] at H
    have c8b0 : (a0_1 == 0) = false := beq_eq_false_iff_ne.mpr c8
    have c8b1 : (a0_1 != 0) = true := bne_iff_ne.mpr c8
    by_cases c11 : a0_1 = a0_0
    ·rw [if_pos c11] at H
     have c11b0 : (a0_1 == a0_0) = true := beq_iff_eq.mpr c11
     have c11b1 : (a0_1 != a0_0) = false := bne_eq_false_iff_eq.mpr c11
     clear c11
     obtain rfl := Option.some.inj H
     go_enter Try.func93, Try.ntmps93
     go_wp2_with (first | ((with_reducible refine gate_dst (N := 1) rfl ?_); refine boxT (N := 1) (cs := #[.int .u8 a0_0, .int .u8 a0_1]) (t := 83) ?_; intro gb248 hg w12 hbox hb; have n0_ := asT (below_step (hbT HB.out) hb); have n1_ := asT (hbox); have n2_ := asT (geT hg HB.out); have n3_ := asT (geT hg HB.out); clear HB; have HB := n0_; have BK248 := n1_; have GW248 := n2_; have GE248 := n3_; clear n0_ n1_ n2_ n3_ hb hbox hg; have hcz13_0 : w12.cell? ⟨gb248, 0, none⟩ = some (.int .u8 a0_0) := (blk_cell BK248.out 0).trans rfl; have hcz13_1 : w12.cell? ⟨gb248, 1, none⟩ = some (.int .u8 a0_1) := (blk_cell BK248.out 1).trans rfl; have hfz13_0 := blk_frozen BK248.out 0; have hfz13_1 := blk_frozen BK248.out 1) | ((with_reducible refine gate_callee (f := 125) rfl ?_); refine goesL_ (some 15) rfl rfl Try.func125 (by kernel_rfl) rfl #[.int .u8 a0_0] rfl eqT ?_; (with_reducible refine (impl_IsSound.calls a0_0 true _ A6.out).mono ?_); rintro e w' ⟨rfl, ⟨nd, rfl⟩⟩; refine ⟨_, rfl, ?_⟩))
     go_ret
     exact ⟨rlT, hbT HB.out⟩
    ·rw [if_neg c11] at H
     have c11b0 : (a0_1 == a0_0) = false := beq_eq_false_iff_ne.mpr c11
     have c11b1 : (a0_1 != a0_0) = true := bne_iff_ne.mpr c11
     replace H := Option.bind_eq_some_iff.mp H; obtain ⟨⟨t251, t252⟩, A140, H⟩ := H; replace H : (if t252 = true then (some (t251 == a0_1)) else (some false)) = some r := H; have A14 := Aside0.mk A140; clear A140
     by_cases c15 : t252 = true
     ·subst c15
      have H1 : (some (t251 == a0_1)) = some r := by rw [if_pos rfl] at H; exact H
      clear H; have H := H1; clear H1
      obtain rfl := Option.some.inj H
      go_enter Try.func93, Try.ntmps93
      go_wp2_with (first | ((with_reducible refine gate_dst (N := 1) rfl ?_); refine boxT (N := 1) (cs := #[.int .u8 a0_0, .int .u8 a0_1]) (t := 83) ?_; intro gb248 hg w16 hbox hb; have n0_ := asT (below_step (hbT HB.out) hb); have n1_ := asT (hbox); have n2_ := asT (geT hg HB.out); have n3_ := asT (geT hg HB.out); clear HB; have HB := n0_; have BK248 := n1_; have GW248 := n2_; have GE248 := n3_; clear n0_ n1_ n2_ n3_ hb hbox hg; have hcz17_0 : w16.cell? ⟨gb248, 0, none⟩ = some (.int .u8 a0_0) := (blk_cell BK248.out 0).trans rfl; have hcz17_1 : w16.cell? ⟨gb248, 1, none⟩ = some (.int .u8 a0_1) := (blk_cell BK248.out 1).trans rfl; have hfz17_0 := blk_frozen BK248.out 0; have hfz17_1 := blk_frozen BK248.out 1) | ((with_reducible refine gate_callee (f := 125) rfl ?_); refine goesL_ (some 15) rfl rfl Try.func125 (by kernel_rfl) rfl #[.int .u8 a0_0] rfl eqT ?_; (with_reducible refine (impl_IsSound.calls a0_0 true _ A6.out).mono ?_); rintro e w' ⟨rfl, ⟨nd, rfl⟩⟩; refine ⟨_, rfl, ?_⟩) | ((with_reducible refine gate_callee (f := 126) rfl ?_); refine goesL_ (some 31) rfl rfl Try.func126 (by kernel_rfl) rfl #[.int .u8 a0_0] rfl eqT ?_; (with_reducible refine (impl_SwapVoice.calls a0_0 t251 true _ A14.out).mono ?_); rintro e w' ⟨rfl, ⟨nd, rfl⟩⟩; refine ⟨_, rfl, ?_⟩))
      go_ret
      exact ⟨rlT, hbT HB.out⟩
     ·replace c15 := Bool.eq_false_iff.mpr c15
      subst c15
      have H1 : (some false) = some r := by rw [if_neg (show ¬ (false = true) by decide)] at H; exact H
      clear H; have H := H1; clear H1
      obtain rfl := Option.some.inj H
      go_enter Try.func93, Try.ntmps93
      go_wp2_with (first | ((with_reducible refine gate_dst (N := 1) rfl ?_); refine boxT (N := 1) (cs := #[.int .u8 a0_0, .int .u8 a0_1]) (t := 83) ?_; intro gb248 hg w18 hbox hb; have n0_ := asT (below_step (hbT HB.out) hb); have n1_ := asT (hbox); have n2_ := asT (geT hg HB.out); have n3_ := asT (geT hg HB.out); clear HB; have HB := n0_; have BK248 := n1_; have GW248 := n2_; have GE248 := n3_; clear n0_ n1_ n2_ n3_ hb hbox hg; have hcz19_0 : w18.cell? ⟨gb248, 0, none⟩ = some (.int .u8 a0_0) := (blk_cell BK248.out 0).trans rfl; have hcz19_1 : w18.cell? ⟨gb248, 1, none⟩ = some (.int .u8 a0_1) := (blk_cell BK248.out 1).trans rfl; have hfz19_0 := blk_frozen BK248.out 0; have hfz19_1 := blk_frozen BK248.out 1) | ((with_reducible refine gate_callee (f := 125) rfl ?_); refine goesL_ (some 15) rfl rfl Try.func125 (by kernel_rfl) rfl #[.int .u8 a0_0] rfl eqT ?_; (with_reducible refine (impl_IsSound.calls a0_0 true _ A6.out).mono ?_); rintro e w' ⟨rfl, ⟨nd, rfl⟩⟩; refine ⟨_, rfl, ?_⟩) | ((with_reducible refine gate_callee (f := 126) rfl ?_); refine goesL_ (some 31) rfl rfl Try.func126 (by kernel_rfl) rfl #[.int .u8 a0_0] rfl eqT ?_; (with_reducible refine (impl_SwapVoice.calls a0_0 t251 false _ A14.out).mono ?_); rintro e w' ⟨rfl, ⟨nd, rfl⟩⟩; refine ⟨_, rfl, ?_⟩))
      go_ret
      exact ⟨rlT, hbT HB.out⟩
  ·replace c7 := Bool.eq_false_iff.mpr c7
   subst c7
   have H1 : (some false) = some r := by rw [if_neg (show ¬ (false = true) by decide)] at H; exact H
   clear H; have H := H1; clear H1
   obtain rfl := Option.some.inj H
   go_enter Try.func93, Try.ntmps93
   go_wp2_with (first | ((with_reducible refine gate_dst (N := 1) rfl ?_); refine boxT (N := 1) (cs := #[.int .u8 a0_0, .int .u8 a0_1]) (t := 83) ?_; intro gb248 hg w20 hbox hb; have n0_ := asT (below_step (hbT HB.out) hb); have n1_ := asT (hbox); have n2_ := asT (geT hg HB.out); have n3_ := asT (geT hg HB.out); clear HB; have HB := n0_; have BK248 := n1_; have GW248 := n2_; have GE248 := n3_; clear n0_ n1_ n2_ n3_ hb hbox hg; have hcz21_0 : w20.cell? ⟨gb248, 0, none⟩ = some (.int .u8 a0_0) := (blk_cell BK248.out 0).trans rfl; have hcz21_1 : w20.cell? ⟨gb248, 1, none⟩ = some (.int .u8 a0_1) := (blk_cell BK248.out 1).trans rfl; have hfz21_0 := blk_frozen BK248.out 0; have hfz21_1 := blk_frozen BK248.out 1) | ((with_reducible refine gate_callee (f := 125) rfl ?_); refine goesL_ (some 15) rfl rfl Try.func125 (by kernel_rfl) rfl #[.int .u8 a0_0] rfl eqT ?_; (with_reducible refine (impl_IsSound.calls a0_0 false _ A6.out).mono ?_); rintro e w' ⟨rfl, ⟨nd, rfl⟩⟩; refine ⟨_, rfl, ?_⟩))
   go_ret
   exact ⟨rlT, hbT HB.out⟩

/-! ### impl_within: function 78 -/
def impl_within.f (a0 : Int) (a1 : Int) (a2 : Int) : Option (Bool) := if a1 ≤ a0 then (some (decide (a0 ≤ a2))) else (some false)
set_option maxHeartbeats 8000000 in
set_option maxRecDepth 100000 in
theorem impl_within.calls (a0 : Int) (a1 : Int) (a2 : Int) (r : Bool) (w : World) (h : impl_within.f a0 a1 a2 = some r) :
  Calls Try.prog 78 #[.int .i64 a0, .int .i64 a1, .int .i64 a2] w fun e w' => e = .returned (.bool r) ∧ Drawn0 w w' := by
 have H : (if a1 ≤ a0 then (some (decide (a0 ≤ a2))) else (some false)) = some r := h
 clear h
 by_cases c4 : a1 ≤ a0
 ·rw [if_pos c4] at H
  have c4b0 : decide (a1 ≤ a0) = true := decide_eq_true c4
  clear c4
  obtain rfl := Option.some.inj H
  go_enter Try.func78, Try.ntmps78
  go_wp2
  go_ret
  exact ⟨rdT, drT⟩
 ·rw [if_neg c4] at H
  have c4b0 : decide (a1 ≤ a0) = false := decide_eq_false c4
  clear c4
  obtain rfl := Option.some.inj H
  go_enter Try.func78, Try.ntmps78
  go_wp2
  go_ret
  exact ⟨rdT, drT⟩

/-! ### impl_areSounds: function 127 -/
def impl_areSounds.l0 : Nat → ByteArray → Int → Int → Option (Bool)
 | 0, _, _, _ => none
 | k + 1, x0, x5, x6 => if x6 < x5 then (if 0 ≤ x6 then (if x6 < (x0.size : Int) then ((impl_IsSound.f (bt x0 x6)).bind fun t253 => (if t253 = true then (impl_areSounds.l0 k x0 x5 (wrap64 (x6 + 1))) else (some false))) else (none)) else (none)) else ((impl_within.f (x0.size : Int) 1 20).bind fun t254 => (some t254))
def impl_areSounds.f (k : Nat) (a0 : ByteArray) : Option (Bool) := impl_areSounds.l0 k a0 (a0.size : Int) 0
theorem impl_areSounds.mono_l : ∀ k, (∀ y0 y1 y2, LeO (impl_areSounds.l0 k y0 y1 y2) (impl_areSounds.l0 (k + 1) y0 y1 y2))
 | 0 => fun _ _ _ r h => by simp [impl_areSounds.l0] at h
 | k + 1 => by
  have ih0 := impl_areSounds.mono_l k
  ·intro y0 y1 y2
   unfold impl_areSounds.l0
   repeat' first
   | (with_reducible exact ih0 _ _ _)
   | (with_reducible exact LeO.refl _)
   | (with_reducible exact LeO.none _)
   | (with_reducible refine LeO.ite ?_ ?_)
   | (with_reducible refine LeO.bind ?_ (fun _ => ?_))
   | exact ih0 _ _ _
   | exact LeO.none _
   | refine LeO.ite ?_ ?_
   | refine LeO.bind ?_ (fun _ => ?_)
theorem impl_areSounds.mono : ∀ a0 k, LeO (impl_areSounds.f k a0) (impl_areSounds.f (k + 1) a0) := by
 intro a0 k
 have ih0 := impl_areSounds.mono_l k
 unfold impl_areSounds.f
 repeat' first
   | (with_reducible exact ih0 _ _ _)
   | (with_reducible exact LeO.refl _)
   | (with_reducible exact LeO.none _)
   | (with_reducible refine LeO.ite ?_ ?_)
   | (with_reducible refine LeO.bind ?_ (fun _ => ?_))
   | exact ih0 _ _ _
   | exact LeO.none _
   | refine LeO.ite ?_ ?_
   | refine LeO.bind ?_ (fun _ => ?_)
set_option maxHeartbeats 8000000 in
set_option maxRecDepth 100000 in
theorem impl_areSounds.calls (k : Nat) (a0 : ByteArray) (r : Bool) (w : World) (h : impl_areSounds.f k a0 = some r) :
  Calls Try.prog 127 #[.string a0] w fun e w' => e = .returned (.bool r) ∧ Drawn0 w w' := by
 have H : (impl_areSounds.l0 k a0 (a0.size : Int) 0) = some r := h
 clear h; have H' := Aside0.mk H; clear H
 go_enter Try.func127, Try.ntmps127
 go_wp2
 go_loopg [6] k (fun kq v6 w' => ∃ (x6_1 : Int), v6 = .int .i64 x6_1 ∧ Aside0 (impl_areSounds.l0 kq a0 (a0.size : Int) x6_1 = some r) ∧ Aside0 (kq ≤ k) ∧ Drawn0 w w')
 case atStart => exact ⟨(0), rdT, H', ⟨Nat.le_refl _⟩, drT⟩
 case round =>
  clear H'; (try clear c1); obtain ⟨x6_1, rfl, HA, HK1, ⟨m1, rfl⟩⟩ := hrel
  cases gk with
  | zero => exact absurd HA.out (by simp [impl_areSounds.l0])
  | succ k1 =>
   have H := HA.out; clear HA
   simp only [impl_areSounds.l0] at H
   by_cases c2 : x6_1 < (a0.size : Int)
   ·rw [if_pos c2] at H
    have c2b0 : decide (x6_1 < (a0.size : Int)) = true := decide_eq_true c2
    clear c2
    by_cases c3 : 0 ≤ x6_1
    ·rw [if_pos c3] at H
     have c3b0 : decide (0 ≤ x6_1) = true := decide_eq_true c3
     clear c3
     by_cases c4 : x6_1 < (a0.size : Int)
     ·rw [if_pos c4] at H
      have c4b0 : decide (x6_1 < (a0.size : Int)) = true := decide_eq_true c4
      clear c4; replace H := Option.bind_eq_some_iff.mp H; obtain ⟨t253, A60, H⟩ := H; replace H : (if t253 = true then (impl_areSounds.l0 k1 a0 (a0.size : Int) (wrap64 (x6_1 + 1))) else (some false)) = some r := H; have A6 := Aside0.mk A60; clear A60
      by_cases c7 : t253 = true
      ·subst c7
       have H1 : (impl_areSounds.l0 k1 a0 (a0.size : Int) (wrap64 (x6_1 + 1))) = some r := by rw [if_pos rfl] at H; exact H
       clear H; have H := H1; clear H1; have H' := Aside0.mk H; clear H
       have p5 : 0 ≤ (x6_1 : Int) := of_decide_eq_true asmT
       have q5 : x6_1 < (a0.size : Int) := of_decide_eq_true asmT
       have hx5 := bt_at a0 x6_1; replace p5 := eq_true p5; replace q5 := eq_true q5
       go_wp2_with (first | ((with_reducible refine gate_callee (f := 125) rfl ?_); refine goesL_ (some 12) rfl rfl Try.func125 (by kernel_rfl) rfl #[.int .u8 (bt a0 x6_1)] rfl eqT ?_; (with_reducible refine (impl_IsSound.calls (bt a0 x6_1) true _ A6.out).mono ?_); rintro e w' ⟨rfl, ⟨nd, rfl⟩⟩; refine ⟨_, rfl, ?_⟩))
       go_roundg k1
       case measure => have := HK1.out; omega
       case rel => exact ⟨(wrap64 (x6_1 + 1)), rdT, H', ⟨by have := HK1.out; omega⟩, drT⟩
      ·replace c7 := Bool.eq_false_iff.mpr c7
       subst c7
       have H1 : (some false) = some r := by rw [if_neg (show ¬ (false = true) by decide)] at H; exact H
       clear H; have H := H1; clear H1
       obtain rfl := Option.some.inj H
       have p5 : 0 ≤ (x6_1 : Int) := of_decide_eq_true asmT
       have q5 : x6_1 < (a0.size : Int) := of_decide_eq_true asmT
       have hx5 := bt_at a0 x6_1; replace p5 := eq_true p5; replace q5 := eq_true q5
       go_wp2_with (first | ((with_reducible refine gate_callee (f := 125) rfl ?_); refine goesL_ (some 12) rfl rfl Try.func125 (by kernel_rfl) rfl #[.int .u8 (bt a0 x6_1)] rfl eqT ?_; (with_reducible refine (impl_IsSound.calls (bt a0 x6_1) false _ A6.out).mono ?_); rintro e w' ⟨rfl, ⟨nd, rfl⟩⟩; refine ⟨_, rfl, ?_⟩))
       go_ret
       exact ⟨rdT, drT⟩
     ·rw [if_neg c4] at H
      exact absurd H (by simp)
    ·rw [if_neg c3] at H
     exact absurd H (by simp)
   ·rw [if_neg c2] at H
    have c2b0 : decide (x6_1 < (a0.size : Int)) = false := decide_eq_false c2
    clear c2; replace H := Option.bind_eq_some_iff.mp H; obtain ⟨t254, A80, H⟩ := H; replace H : (some t254) = some r := H; have A8 := Aside0.mk A80; clear A80
    obtain rfl := Option.some.inj H
    go_wp2_with (first | ((with_reducible refine gate_callee (f := 78) rfl ?_); refine goesL_ (some 17) rfl rfl Try.func78 (by kernel_rfl) rfl #[.int .i64 (a0.size : Int), .int .i64 1, .int .i64 20] rfl eqT ?_; (with_reducible refine (impl_within.calls (a0.size : Int) 1 20 t254 _ A8.out).mono ?_); rintro e w' ⟨rfl, ⟨nd, rfl⟩⟩; refine ⟨_, rfl, ?_⟩))
    go_ret
    exact ⟨rdT, drT⟩

/-! ### impl_IsForm: function 94 -/
def impl_IsForm.f (k : Nat) (a0 : ByteArray) : Option (Bool) := if a0.toList = ([] : List UInt8) then (some true) else (if (a0.size : Int) ≤ 8 then ((impl_areSounds.f k a0).bind fun t255 => (some t255)) else (some false))
theorem impl_IsForm.mono : ∀ a0 k, LeO (impl_IsForm.f k a0) (impl_IsForm.f (k + 1) a0) := by
 intro a0 k
 unfold impl_IsForm.f
 repeat' first
   | (with_reducible exact impl_areSounds.mono _ _)
   | (with_reducible exact LeO.refl _)
   | (with_reducible exact LeO.none _)
   | (with_reducible refine LeO.ite ?_ ?_)
   | (with_reducible refine LeO.bind ?_ (fun _ => ?_))
   | exact impl_areSounds.mono _ _
   | exact LeO.none _
   | refine LeO.ite ?_ ?_
   | refine LeO.bind ?_ (fun _ => ?_)
set_option maxHeartbeats 8000000 in
set_option maxRecDepth 100000 in
theorem impl_IsForm.calls (k : Nat) (a0 : ByteArray) (r : Bool) (w : World) (h : impl_IsForm.f k a0 = some r) :
  Calls Try.prog 94 #[.string a0] w fun e w' => e = .returned (.bool r) ∧ Drawn0 w w' := by
 have H : (if a0.toList = ([] : List UInt8) then (some true) else (if (a0.size : Int) ≤ 8 then ((impl_areSounds.f k a0).bind fun t255 => (some t255)) else (some false))) = some r := h
 clear h
 by_cases c2 : a0.toList = ([] : List UInt8)
 ·rw [if_pos c2] at H
  have c2b0 : (a0.toList == ([] : List UInt8)) = true := beq_iff_eq.mpr c2
  have c2b1 : (a0.toList != ([] : List UInt8)) = false := bne_eq_false_iff_eq.mpr c2
  clear c2
  obtain rfl := Option.some.inj H
  go_enter Try.func94, Try.ntmps94
  go_wp2
  go_ret
  exact ⟨rdT, drT⟩
 ·rw [if_neg c2] at H
  have c2b0 : (a0.toList == ([] : List UInt8)) = false := beq_eq_false_iff_ne.mpr c2
  have c2b1 : (a0.toList != ([] : List UInt8)) = true := bne_iff_ne.mpr c2
  by_cases c3 : (a0.size : Int) ≤ 8
  ·rw [if_pos c3] at H
   have c3b0 : decide ((a0.size : Int) ≤ 8) = true := decide_eq_true c3
   have c3b1 : decide (a0.size ≤ 8) = true := decide_eq_true (by omega)
   clear c3; replace H := Option.bind_eq_some_iff.mp H; obtain ⟨t255, A40, H⟩ := H; replace H : (some t255) = some r := H; have A4 := Aside0.mk A40; clear A40
   obtain rfl := Option.some.inj H
   go_enter Try.func94, Try.ntmps94
   go_wp2_with (first | (go_at_call 127; (with_reducible refine (impl_areSounds.calls k a0 t255 _ A4.out).mono ?_); rintro e w' ⟨rfl, ⟨nd, rfl⟩⟩))
   go_ret
   exact ⟨rdT, drT⟩
  ·rw [if_neg c3] at H
   have c3b0 : decide ((a0.size : Int) ≤ 8) = false := decide_eq_false c3
   have c3b1 : decide (a0.size ≤ 8) = false := decide_eq_false (by omega)
   clear c3
   obtain rfl := Option.some.inj H
   go_enter Try.func94, Try.ntmps94
   go_wp2
   go_ret
   exact ⟨rdT, drT⟩

/-! ### impl_sounds: function 95 -/
def impl_sounds.l0 : Nat → Bool → List Int → List (S83) → Int → Int → Option (ByteArray)
 | 0, _, _, _, _, _ => none
 | k + 1, x1, x5, x11, x12, x13 => if x13 < x12 then (if 0 ≤ x13 then (if x13 < (x11.length : Int) then (if x1 = true then (if ((rd_T83 x11 x13).f1) = 0 then (impl_sounds.l0 k x1 x5 x11 x12 (wrap64 (x13 + 1))) else (if x5.length < 140737488355328 then (impl_sounds.l0 k x1 (x5 ++ [(rd_T83 x11 x13).f1]) x11 x12 (wrap64 (x13 + 1))) else (none))) else (if ((rd_T83 x11 x13).f0) = 0 then (impl_sounds.l0 k x1 x5 x11 x12 (wrap64 (x13 + 1))) else (if x5.length < 140737488355328 then (impl_sounds.l0 k x1 (x5 ++ [(rd_T83 x11 x13).f0]) x11 x12 (wrap64 (x13 + 1))) else (none)))) else (none)) else (none)) else (some (strOfNums x5))
def impl_sounds.f (k : Nat) (l0_0 : List (S83)) (a1 : Bool) : Option (ByteArray) := impl_sounds.l0 k a1 (([] : List Int)) l0_0 (l0_0.length : Int) 0
theorem impl_sounds.mono_l : ∀ k, (∀ y0 y1 y2 y3 y4, LeO (impl_sounds.l0 k y0 y1 y2 y3 y4) (impl_sounds.l0 (k + 1) y0 y1 y2 y3 y4))
 | 0 => fun _ _ _ _ _ r h => by simp [impl_sounds.l0] at h
 | k + 1 => by
  have ih0 := impl_sounds.mono_l k
  ·intro y0 y1 y2 y3 y4
   unfold impl_sounds.l0
   repeat' first
   | (with_reducible exact ih0 _ _ _ _ _)
   | (with_reducible exact LeO.refl _)
   | (with_reducible exact LeO.none _)
   | (with_reducible refine LeO.ite ?_ ?_)
   | (with_reducible refine LeO.bind ?_ (fun _ => ?_))
   | exact ih0 _ _ _ _ _
   | exact LeO.none _
   | refine LeO.ite ?_ ?_
   | refine LeO.bind ?_ (fun _ => ?_)
theorem impl_sounds.mono : ∀ a0 a1 k, LeO (impl_sounds.f k a0 a1) (impl_sounds.f (k + 1) a0 a1) := by
 intro a0 a1 k
 have ih0 := impl_sounds.mono_l k
 unfold impl_sounds.f
 repeat' first
   | (with_reducible exact ih0 _ _ _ _ _)
   | (with_reducible exact LeO.refl _)
   | (with_reducible exact LeO.none _)
   | (with_reducible refine LeO.ite ?_ ?_)
   | (with_reducible refine LeO.bind ?_ (fun _ => ?_))
   | exact ih0 _ _ _ _ _
   | exact LeO.none _
   | refine LeO.ite ?_ ?_
   | refine LeO.bind ?_ (fun _ => ?_)
set_option maxHeartbeats 8000000 in
set_option maxRecDepth 100000 in
theorem impl_sounds.calls (k : Nat) (A0_0 : Option Addr) (c0_0 : Nat) (l0_0 : List (S83)) (a1 : Bool) (r : ByteArray) (w : World) (hr0_0 : Kd.C k83 w A0_0 l0_0.length l0_0) (hc0_0 : l0_0.length ≤ c0_0) (h : impl_sounds.f k l0_0 a1 = some r) :
  Calls Try.prog 95 #[.agg #[.slice A0_0 l0_0.length c0_0], .bool a1] w fun e w' => e = .returned (.string r) ∧ Below w.heap.size w w' := by
 have hu34 := Try.underlying34; have hu83 := Try.underlying83; have HR0_0 := Aside0.mk hr0_0; have HC0_0 := Aside0.mk hc0_0; clear hr0_0 hc0_0; have HB := asT (Below.refl w.heap.size w)
 have H : (impl_sounds.l0 k a1 (([] : List Int)) l0_0 (l0_0.length : Int) 0) = some r := h
 clear h; obtain ⟨y257, hy257⟩ : ∃ y_ : List Int, y_ = (([] : List Int)) := ⟨_, rfl⟩
 replace H : (impl_sounds.l0 k a1 y257 l0_0 (l0_0.length : Int) 0) = some r := by first | (rw [hy257]; with_reducible exact H) | (have H2_ := (Option.bind_some _ _).symm.trans H; rw [hy257]; with_reducible exact H2_) | (have H2_ := (Option.bind_some _ _).symm.trans H; with_reducible exact H2_) | with_reducible exact H | (rw [hy257]; exact H) | exact H
 have Ny257 := Aside0.mk hy257; clear hy257; have H' := Aside0.mk H; clear H
 go_enter Try.func95, Try.ntmps95
 go_wp2_with (first | ((with_reducible refine gate_dst (N := 2) rfl ?_); refine boxT (N := 2) (cs := #[.slice A0_0 l0_0.length c0_0]) (t := 34) ?_; intro gb256 hg w3 hbox hb; have n0_ := asT (below_step (hbT HB.out) hb); have n1_ := asT (hbox); have n2_ := asT (geT hg HB.out); have n3_ := asT (geT hg HB.out); clear HB; have HB := n0_; have BK256 := n1_; have GW256 := n2_; have GE256 := n3_; clear n0_ n1_ n2_ n3_ hb hbox hg) | ((with_reducible refine gate_dst (N := 9) rfl ?_); refine Kd.R_lit (Kd.int .u8) _ 5 ?hg (N := 9) ?hd (xs := ([] : List Int)) (inner := []) (ok := fun _ => True) (okp := fun _ => True) ?hr ?hp (fun _ hk => hk) trivial (Below.refl _ _) (Nat.le_refl _) (by simp) ?_; (case hd => rfl); (case hg => rfl); (case hr => first | (go_simp; done) | (go_simp; rfl)); (case hp => exact (Reps.none _ _)); intro v258 w4 ho5 hb hg_ hnew_; clear hg_ hnew_; (first | rw [← Ny257.out] at ho5 | (simp only [Int.reduceToNat] at ho5; rw [← Ny257.out] at ho5)); have n0_ := asT (Kd.R_lower ho5 (below_size (hbT HB.out))); have n1_ := asT (blk_below (bkT BK256.out) hb); have n2_ := asT (below_step (hbT HB.out) hb); clear BK256 HB; have HO259 := n0_; have BK256 := n1_; have HB := n2_; clear n0_ n1_ n2_ hb ho5; have hcz6_0 : w4.cell? ⟨gb256, 0, none⟩ = some (.slice A0_0 l0_0.length c0_0) := (blk_cell BK256.out 0).trans rfl; have hfz6_0 := blk_frozen BK256.out 0))
 go_loopg [5, 13] k (fun kq v5 v13 w' => ∃ (x5_1 : List Int) (x13_1 : Int), v13 = .int .i64 x13_1 ∧ Aside0 (impl_sounds.l0 kq a1 x5_1 l0_0 (l0_0.length : Int) x13_1 = some r) ∧ Aside0 (kq ≤ k) ∧ Aside0 (Kd.R (Kd.int .u8) 5 w' w.heap.size (fun _ => True) v5 x5_1) ∧ Aside0 (w'.heap[gb256]? = some (.cells #[(.slice A0_0 l0_0.length c0_0)] 34 (0, 0))) ∧ Aside0 (Below w.heap.size w w'))
 case atStart => exact ⟨(y257), (0), rdT, H', ⟨Nat.le_refl _⟩, ⟨by (with_reducible repeat (first | apply Kd.R_alloc | apply Kd.R_drewN | apply Kd.R_drew)); exact HO259.out⟩, ⟨by (with_reducible repeat (first | refine blk_drewN ?_ _ | refine blk_drew ?_ | refine blk_alloc ?_ _)); exact BK256.out⟩, ⟨hbT HB.out⟩⟩
 case round =>
  clear H'; (try clear p2); (try clear hcz6_0); (try clear hfz6_0); obtain ⟨x5_1, x13_1, rfl, HA, HK1, HO_5, BK256, HB⟩ := hrel
  cases gk with
  | zero => exact absurd HA.out (by simp [impl_sounds.l0])
  | succ k1 =>
   have H := HA.out; clear HA
   simp only [impl_sounds.l0] at H
   by_cases c7 : x13_1 < (l0_0.length : Int)
   ·rw [if_pos c7] at H
    have c7b0 : decide (x13_1 < (l0_0.length : Int)) = true := decide_eq_true c7
    clear c7
    by_cases c8 : 0 ≤ x13_1
    ·rw [if_pos c8] at H
     have c8b0 : decide (0 ≤ x13_1) = true := decide_eq_true c8
     clear c8
     by_cases c9 : x13_1 < (l0_0.length : Int)
     ·rw [if_pos c9] at H
      have c9b0 : decide (x13_1 < (l0_0.length : Int)) = true := decide_eq_true c9
      clear c9
      by_cases c10 : a1 = true
      ·subst c10
       have H1 : (if ((rd_T83 l0_0 x13_1).f1) = 0 then (impl_sounds.l0 k1 true x5_1 l0_0 (l0_0.length : Int) (wrap64 (x13_1 + 1))) else (if x5_1.length < 140737488355328 then (impl_sounds.l0 k1 true (x5_1 ++ [(rd_T83 l0_0 x13_1).f1]) l0_0 (l0_0.length : Int) (wrap64 (x13_1 + 1))) else (none))) = some r := by rw [if_pos rfl] at H; exact H
       clear H; have H := H1; clear H1
       by_cases c11 : ((rd_T83 l0_0 x13_1).f1) = 0
       ·rw [if_pos c11] at H
        have c11b0 : (((rd_T83 l0_0 x13_1).f1) == 0) = true := beq_iff_eq.mpr c11
        have c11b1 : (((rd_T83 l0_0 x13_1).f1) != 0) = false := bne_eq_false_iff_eq.mpr c11
        clear c11; have H' := Aside0.mk H; clear H
        have p260 : 0 ≤ (x13_1 : Int) := of_decide_eq_true asmT
        have q260 : x13_1 < (l0_0.length : Int) := of_decide_eq_true asmT
        obtain ⟨ad260, e260, hx260_0, hx260_1⟩ := at_T83 HR0_0.out x13_1 p260 q260
        cases e260
        replace hx260_0 := (HB.out.cell (World.block_lt_of_cell? w _ hx260_0)).trans hx260_0; replace hx260_1 := (HB.out.cell (World.block_lt_of_cell? w _ hx260_1)).trans hx260_1; replace p260 := eq_true p260; replace q260 := eq_true q260
        go_wp2_with (first | ((with_reducible refine gate_dst (N := 7) rfl ?_); refine boxT (N := 7) (cs := #[.int .u8 0, .int .u8 0]) (t := 83) ?_; intro gb261 hg w12 hbox hb; have n0_ := asT (Kd.R_below (roT HO_5.out) hb); have n1_ := asT (blk_below (g := gb256) (o := .cells #[.slice (some ad260) l0_0.length c0_0] 34 (0, 0)) (bkT BK256.out) hb); have n2_ := asT (below_step (hbT HB.out) hb); have n3_ := asT (hbox); have n4_ := asT (geT hg HB.out); have n5_ := asT (geT hg HB.out); have n6_ := asT ((by rw [hg]; exact Nat.ne_of_lt (blk_lt (g := gb256) (o := .cells #[.slice (some ad260) l0_0.length c0_0] 34 (0, 0)) (bkT BK256.out)) : gb256 ≠ gb261)); have n7_ := asT ((by rw [hg]; exact Nat.ne_of_gt (blk_lt (g := gb256) (o := .cells #[.slice (some ad260) l0_0.length c0_0] 34 (0, 0)) (bkT BK256.out)) : gb261 ≠ gb256)); clear HO_5 BK256 HB; have HO_5 := n0_; have BK256 := n1_; have HB := n2_; have BK261 := n3_; have GW261 := n4_; have GE261 := n5_; have NB256_261 := n6_; have NB261_256 := n7_; clear n0_ n1_ n2_ n3_ n4_ n5_ n6_ n7_ hb hbox hg; have hnb13 := NB261_256.out; have hnc13 := NB256_261.out; have hcz14_0 : w12.cell? ⟨gb261, 0, none⟩ = some (.int .u8 0) := (blk_cell BK261.out 0).trans rfl; have hcz14_1 : w12.cell? ⟨gb261, 1, none⟩ = some (.int .u8 0) := (blk_cell BK261.out 1).trans rfl; have hfz14_0 := blk_frozen BK261.out 0; have hfz14_1 := blk_frozen BK261.out 1))
        go_roundg k1
        case measure => have := HK1.out; omega
        case rel => exact ⟨(x5_1), (wrap64 (x13_1 + 1)), rdT, H', ⟨by have := HK1.out; omega⟩, ⟨by (with_reducible repeat (first | apply Kd.R_alloc | apply Kd.R_drewN | apply Kd.R_drew)); exact Kd.R_mono (Kd.R_far (p := ⟨gb261, 1, none⟩) (Kd.R_far (p := ⟨gb261, 0, none⟩) (Kd.R_types HO_5.out BK261.out (by decide)) (fun _ hk => hk.2) (.int .u8 ((rd_T83 l0_0 x13_1).f0))) (fun _ hk => hk.2) (.int .u8 ((rd_T83 l0_0 x13_1).f1))) (fun _ hk => trivial)⟩, ⟨by (with_reducible repeat (first | refine blk_drewN ?_ _ | refine blk_drew ?_ | refine blk_alloc ?_ _)); refine blk_far ?_ NB256_261.out _; (with_reducible repeat (first | refine blk_drewN ?_ _ | refine blk_drew ?_ | refine blk_alloc ?_ _)); refine blk_far ?_ NB256_261.out _; (with_reducible repeat (first | refine blk_drewN ?_ _ | refine blk_drew ?_ | refine blk_alloc ?_ _)); exact BK256.out⟩, ⟨hbT HB.out⟩⟩
       ·rw [if_neg c11] at H
        have c11b0 : (((rd_T83 l0_0 x13_1).f1) == 0) = false := beq_eq_false_iff_ne.mpr c11
        have c11b1 : (((rd_T83 l0_0 x13_1).f1) != 0) = true := bne_iff_ne.mpr c11
        by_cases c15 : x5_1.length < 140737488355328
        ·rw [if_pos c15] at H
         have LMc15 := Aside0.mk c15; clear c15; obtain ⟨y262, hy262⟩ : ∃ y_ : List Int, y_ = (x5_1 ++ [(rd_T83 l0_0 x13_1).f1]) := ⟨_, rfl⟩
         replace H : (impl_sounds.l0 k1 true y262 l0_0 (l0_0.length : Int) (wrap64 (x13_1 + 1))) = some r := by first | (rw [hy262]; with_reducible exact H) | (have H2_ := (Option.bind_some _ _).symm.trans H; rw [hy262]; with_reducible exact H2_) | (have H2_ := (Option.bind_some _ _).symm.trans H; with_reducible exact H2_) | with_reducible exact H | (rw [hy262]; exact H) | exact H
         have Ny262 := Aside0.mk hy262; clear hy262; have H' := Aside0.mk H; clear H
         have p260 : 0 ≤ (x13_1 : Int) := of_decide_eq_true asmT
         have q260 : x13_1 < (l0_0.length : Int) := of_decide_eq_true asmT
         obtain ⟨ad260, e260, hx260_0, hx260_1⟩ := at_T83 HR0_0.out x13_1 p260 q260
         cases e260
         replace hx260_0 := (HB.out.cell (World.block_lt_of_cell? w _ hx260_0)).trans hx260_0; replace hx260_1 := (HB.out.cell (World.block_lt_of_cell? w _ hx260_1)).trans hx260_1; replace p260 := eq_true p260; replace q260 := eq_true q260
         go_wp2_with (first | ((with_reducible refine gate_dst (N := 7) rfl ?_); refine boxT (N := 7) (cs := #[.int .u8 0, .int .u8 0]) (t := 83) ?_; intro gb261 hg w16 hbox hb; have n0_ := asT (Kd.R_below (roT HO_5.out) hb); have n1_ := asT (blk_below (g := gb256) (o := .cells #[.slice (some ad260) l0_0.length c0_0] 34 (0, 0)) (bkT BK256.out) hb); have n2_ := asT (below_step (hbT HB.out) hb); have n3_ := asT (hbox); have n4_ := asT (geT hg HB.out); have n5_ := asT (geT hg HB.out); have n6_ := asT ((by rw [hg]; exact Nat.ne_of_lt (blk_lt (g := gb256) (o := .cells #[.slice (some ad260) l0_0.length c0_0] 34 (0, 0)) (bkT BK256.out)) : gb256 ≠ gb261)); have n7_ := asT ((by rw [hg]; exact Nat.ne_of_gt (blk_lt (g := gb256) (o := .cells #[.slice (some ad260) l0_0.length c0_0] 34 (0, 0)) (bkT BK256.out)) : gb261 ≠ gb256)); clear HO_5 BK256 HB; have HO_5 := n0_; have BK256 := n1_; have HB := n2_; have BK261 := n3_; have GW261 := n4_; have GE261 := n5_; have NB256_261 := n6_; have NB261_256 := n7_; clear n0_ n1_ n2_ n3_ n4_ n5_ n6_ n7_ hb hbox hg; have hnb17 := NB261_256.out; have hnc17 := NB256_261.out; have hcz18_0 : w16.cell? ⟨gb261, 0, none⟩ = some (.int .u8 0) := (blk_cell BK261.out 0).trans rfl; have hcz18_1 : w16.cell? ⟨gb261, 1, none⟩ = some (.int .u8 0) := (blk_cell BK261.out 1).trans rfl; have hfz18_0 := blk_frozen BK261.out 0; have hfz18_1 := blk_frozen BK261.out 1) | ((with_reducible refine gate_builtin (b := .append) (xs := #[.tmp 24, .tmp 26]) rfl ?_); at_builtin; refine Kd.R_append (Kd.int .u8) (w0 := w) w.heap.size rfl (.tmp 24) (.tmp 26) 101 5 (.int .u8 0) 1 rfl Try.underlying101 info5 rfl (by decide) (by omega) u5 x5_1 ((rd_T83 l0_0 x13_1).f1) [.int .u8 ((rd_T83 l0_0 x13_1).f1)] (fun _ => True) (fun _ => False) rfl (by first | (go_simp; done) | (go_simp; rfl)) ?aP (fun _ hk => hk.elim) ?aF ?aO ?aB ?aS ?aL ?_; (case aP => exact rfl); (case aB => exact (hbT HB.out)); (case aF => exact (fun _ _ => trivial)); (case aO => exact (by (with_reducible repeat (first | apply Kd.R_alloc | apply Kd.R_drewN | apply Kd.R_drew)); exact Kd.R_mono (Kd.R_far (p := ⟨gb261, 1, none⟩) (Kd.R_far (p := ⟨gb261, 0, none⟩) (Kd.R_types HO_5.out BK261.out (by decide)) (fun _ hk => hk.2) (.int .u8 ((rd_T83 l0_0 x13_1).f0))) (fun _ hk => hk.2) (.int .u8 ((rd_T83 l0_0 x13_1).f1))) (fun _ hk => trivial))); (case aS => exact (below_size (hbT HB.out))); (case aL => have := LMc15.out; omega); intro v263 w19 ho hb hg hat; rw [← Ny262.out] at ho; have n0_ := asT (blk_grown (g := gb256) (o := .cells #[.slice (some ad260) l0_0.length c0_0] 34 (0, 0)) (by (with_reducible repeat (first | refine blk_drewN ?_ _ | refine blk_drew ?_ | refine blk_alloc ?_ _)); refine blk_far ?_ NB256_261.out _; (with_reducible repeat (first | refine blk_drewN ?_ _ | refine blk_drew ?_ | refine blk_alloc ?_ _)); refine blk_far ?_ NB256_261.out _; (with_reducible repeat (first | refine blk_drewN ?_ _ | refine blk_drew ?_ | refine blk_alloc ?_ _)); exact BK256.out) hg (Kd.R_ne HO_5.out BK256.out (by decide))); have n1_ := asT (blk_grown (g := gb261) (o := .cells #[.int .u8 ((rd_T83 l0_0 x13_1).f0), .int .u8 ((rd_T83 l0_0 x13_1).f1)] 83 (0, 0)) (by (with_reducible repeat (first | refine blk_drewN ?_ _ | refine blk_drew ?_ | refine blk_alloc ?_ _)); refine blk_put (cs := #[.int .u8 ((rd_T83 l0_0 x13_1).f0), .int .u8 0]) ?_ 1 _ rfl; (with_reducible repeat (first | refine blk_drewN ?_ _ | refine blk_drew ?_ | refine blk_alloc ?_ _)); refine blk_put (cs := #[.int .u8 0, .int .u8 0]) ?_ 0 _ rfl; (with_reducible repeat (first | refine blk_drewN ?_ _ | refine blk_drew ?_ | refine blk_alloc ?_ _)); exact BK261.out) hg (Kd.R_ne HO_5.out BK261.out (by decide))); have n2_ := asT (hb); have n3_ := asT (ho); clear BK256 BK261 HB HO_5; have BK256 := n0_; have BK261 := n1_; have HB := n2_; have HO264 := n3_; clear n0_ n1_ n2_ n3_ ho hb hg hat))
         go_roundg k1
         case measure => have := HK1.out; omega
         case rel => exact ⟨(y262), (wrap64 (x13_1 + 1)), rdT, H', ⟨by have := HK1.out; omega⟩, ⟨by (with_reducible repeat (first | apply Kd.R_alloc | apply Kd.R_drewN | apply Kd.R_drew)); exact HO264.out⟩, ⟨by (with_reducible repeat (first | refine blk_drewN ?_ _ | refine blk_drew ?_ | refine blk_alloc ?_ _)); exact BK256.out⟩, ⟨hbT HB.out⟩⟩
        ·rw [if_neg c15] at H
         exact absurd H (by simp)
      ·replace c10 := Bool.eq_false_iff.mpr c10
       subst c10
       have H1 : (if ((rd_T83 l0_0 x13_1).f0) = 0 then (impl_sounds.l0 k1 false x5_1 l0_0 (l0_0.length : Int) (wrap64 (x13_1 + 1))) else (if x5_1.length < 140737488355328 then (impl_sounds.l0 k1 false (x5_1 ++ [(rd_T83 l0_0 x13_1).f0]) l0_0 (l0_0.length : Int) (wrap64 (x13_1 + 1))) else (none))) = some r := by rw [if_neg (show ¬ (false = true) by decide)] at H; exact H
       clear H; have H := H1; clear H1
       by_cases c20 : ((rd_T83 l0_0 x13_1).f0) = 0
       ·rw [if_pos c20] at H
        have c20b0 : (((rd_T83 l0_0 x13_1).f0) == 0) = true := beq_iff_eq.mpr c20
        have c20b1 : (((rd_T83 l0_0 x13_1).f0) != 0) = false := bne_eq_false_iff_eq.mpr c20
        clear c20; have H' := Aside0.mk H; clear H
        have p260 : 0 ≤ (x13_1 : Int) := of_decide_eq_true asmT
        have q260 : x13_1 < (l0_0.length : Int) := of_decide_eq_true asmT
        obtain ⟨ad260, e260, hx260_0, hx260_1⟩ := at_T83 HR0_0.out x13_1 p260 q260
        cases e260
        replace hx260_0 := (HB.out.cell (World.block_lt_of_cell? w _ hx260_0)).trans hx260_0; replace hx260_1 := (HB.out.cell (World.block_lt_of_cell? w _ hx260_1)).trans hx260_1; replace p260 := eq_true p260; replace q260 := eq_true q260
        go_wp2_with (first | ((with_reducible refine gate_dst (N := 7) rfl ?_); refine boxT (N := 7) (cs := #[.int .u8 0, .int .u8 0]) (t := 83) ?_; intro gb261 hg w21 hbox hb; have n0_ := asT (Kd.R_below (roT HO_5.out) hb); have n1_ := asT (blk_below (g := gb256) (o := .cells #[.slice (some ad260) l0_0.length c0_0] 34 (0, 0)) (bkT BK256.out) hb); have n2_ := asT (below_step (hbT HB.out) hb); have n3_ := asT (hbox); have n4_ := asT (geT hg HB.out); have n5_ := asT (geT hg HB.out); have n6_ := asT ((by rw [hg]; exact Nat.ne_of_lt (blk_lt (g := gb256) (o := .cells #[.slice (some ad260) l0_0.length c0_0] 34 (0, 0)) (bkT BK256.out)) : gb256 ≠ gb261)); have n7_ := asT ((by rw [hg]; exact Nat.ne_of_gt (blk_lt (g := gb256) (o := .cells #[.slice (some ad260) l0_0.length c0_0] 34 (0, 0)) (bkT BK256.out)) : gb261 ≠ gb256)); clear HO_5 BK256 HB; have HO_5 := n0_; have BK256 := n1_; have HB := n2_; have BK261 := n3_; have GW261 := n4_; have GE261 := n5_; have NB256_261 := n6_; have NB261_256 := n7_; clear n0_ n1_ n2_ n3_ n4_ n5_ n6_ n7_ hb hbox hg; have hnb22 := NB261_256.out; have hnc22 := NB256_261.out; have hcz23_0 : w21.cell? ⟨gb261, 0, none⟩ = some (.int .u8 0) := (blk_cell BK261.out 0).trans rfl; have hcz23_1 : w21.cell? ⟨gb261, 1, none⟩ = some (.int .u8 0) := (blk_cell BK261.out 1).trans rfl; have hfz23_0 := blk_frozen BK261.out 0; have hfz23_1 := blk_frozen BK261.out 1))
        go_roundg k1
        case measure => have := HK1.out; omega
        case rel => exact ⟨(x5_1), (wrap64 (x13_1 + 1)), rdT, H', ⟨by have := HK1.out; omega⟩, ⟨by (with_reducible repeat (first | apply Kd.R_alloc | apply Kd.R_drewN | apply Kd.R_drew)); exact Kd.R_mono (Kd.R_far (p := ⟨gb261, 1, none⟩) (Kd.R_far (p := ⟨gb261, 0, none⟩) (Kd.R_types HO_5.out BK261.out (by decide)) (fun _ hk => hk.2) (.int .u8 ((rd_T83 l0_0 x13_1).f0))) (fun _ hk => hk.2) (.int .u8 ((rd_T83 l0_0 x13_1).f1))) (fun _ hk => trivial)⟩, ⟨by (with_reducible repeat (first | refine blk_drewN ?_ _ | refine blk_drew ?_ | refine blk_alloc ?_ _)); refine blk_far ?_ NB256_261.out _; (with_reducible repeat (first | refine blk_drewN ?_ _ | refine blk_drew ?_ | refine blk_alloc ?_ _)); refine blk_far ?_ NB256_261.out _; (with_reducible repeat (first | refine blk_drewN ?_ _ | refine blk_drew ?_ | refine blk_alloc ?_ _)); exact BK256.out⟩, ⟨hbT HB.out⟩⟩
       ·rw [if_neg c20] at H
        have c20b0 : (((rd_T83 l0_0 x13_1).f0) == 0) = false := beq_eq_false_iff_ne.mpr c20
        have c20b1 : (((rd_T83 l0_0 x13_1).f0) != 0) = true := bne_iff_ne.mpr c20
        by_cases c24 : x5_1.length < 140737488355328
        ·rw [if_pos c24] at H
         have LMc24 := Aside0.mk c24; clear c24; obtain ⟨y265, hy265⟩ : ∃ y_ : List Int, y_ = (x5_1 ++ [(rd_T83 l0_0 x13_1).f0]) := ⟨_, rfl⟩
         replace H : (impl_sounds.l0 k1 false y265 l0_0 (l0_0.length : Int) (wrap64 (x13_1 + 1))) = some r := by first | (rw [hy265]; with_reducible exact H) | (have H2_ := (Option.bind_some _ _).symm.trans H; rw [hy265]; with_reducible exact H2_) | (have H2_ := (Option.bind_some _ _).symm.trans H; with_reducible exact H2_) | with_reducible exact H | (rw [hy265]; exact H) | exact H
         have Ny265 := Aside0.mk hy265; clear hy265; have H' := Aside0.mk H; clear H
         have p260 : 0 ≤ (x13_1 : Int) := of_decide_eq_true asmT
         have q260 : x13_1 < (l0_0.length : Int) := of_decide_eq_true asmT
         obtain ⟨ad260, e260, hx260_0, hx260_1⟩ := at_T83 HR0_0.out x13_1 p260 q260
         cases e260
         replace hx260_0 := (HB.out.cell (World.block_lt_of_cell? w _ hx260_0)).trans hx260_0; replace hx260_1 := (HB.out.cell (World.block_lt_of_cell? w _ hx260_1)).trans hx260_1; replace p260 := eq_true p260; replace q260 := eq_true q260
         go_wp2_with (first | ((with_reducible refine gate_dst (N := 7) rfl ?_); refine boxT (N := 7) (cs := #[.int .u8 0, .int .u8 0]) (t := 83) ?_; intro gb261 hg w25 hbox hb; have n0_ := asT (Kd.R_below (roT HO_5.out) hb); have n1_ := asT (blk_below (g := gb256) (o := .cells #[.slice (some ad260) l0_0.length c0_0] 34 (0, 0)) (bkT BK256.out) hb); have n2_ := asT (below_step (hbT HB.out) hb); have n3_ := asT (hbox); have n4_ := asT (geT hg HB.out); have n5_ := asT (geT hg HB.out); have n6_ := asT ((by rw [hg]; exact Nat.ne_of_lt (blk_lt (g := gb256) (o := .cells #[.slice (some ad260) l0_0.length c0_0] 34 (0, 0)) (bkT BK256.out)) : gb256 ≠ gb261)); have n7_ := asT ((by rw [hg]; exact Nat.ne_of_gt (blk_lt (g := gb256) (o := .cells #[.slice (some ad260) l0_0.length c0_0] 34 (0, 0)) (bkT BK256.out)) : gb261 ≠ gb256)); clear HO_5 BK256 HB; have HO_5 := n0_; have BK256 := n1_; have HB := n2_; have BK261 := n3_; have GW261 := n4_; have GE261 := n5_; have NB256_261 := n6_; have NB261_256 := n7_; clear n0_ n1_ n2_ n3_ n4_ n5_ n6_ n7_ hb hbox hg; have hnb26 := NB261_256.out; have hnc26 := NB256_261.out; have hcz27_0 : w25.cell? ⟨gb261, 0, none⟩ = some (.int .u8 0) := (blk_cell BK261.out 0).trans rfl; have hcz27_1 : w25.cell? ⟨gb261, 1, none⟩ = some (.int .u8 0) := (blk_cell BK261.out 1).trans rfl; have hfz27_0 := blk_frozen BK261.out 0; have hfz27_1 := blk_frozen BK261.out 1) | ((with_reducible refine gate_builtin (b := .append) (xs := #[.tmp 24, .tmp 26]) rfl ?_); at_builtin; refine Kd.R_append (Kd.int .u8) (w0 := w) w.heap.size rfl (.tmp 24) (.tmp 26) 101 5 (.int .u8 0) 1 rfl Try.underlying101 info5 rfl (by decide) (by omega) u5 x5_1 ((rd_T83 l0_0 x13_1).f0) [.int .u8 ((rd_T83 l0_0 x13_1).f0)] (fun _ => True) (fun _ => False) rfl (by first | (go_simp; done) | (go_simp; rfl)) ?aP (fun _ hk => hk.elim) ?aF ?aO ?aB ?aS ?aL ?_; (case aP => exact rfl); (case aB => exact (hbT HB.out)); (case aF => exact (fun _ _ => trivial)); (case aO => exact (by (with_reducible repeat (first | apply Kd.R_alloc | apply Kd.R_drewN | apply Kd.R_drew)); exact Kd.R_mono (Kd.R_far (p := ⟨gb261, 1, none⟩) (Kd.R_far (p := ⟨gb261, 0, none⟩) (Kd.R_types HO_5.out BK261.out (by decide)) (fun _ hk => hk.2) (.int .u8 ((rd_T83 l0_0 x13_1).f0))) (fun _ hk => hk.2) (.int .u8 ((rd_T83 l0_0 x13_1).f1))) (fun _ hk => trivial))); (case aS => exact (below_size (hbT HB.out))); (case aL => have := LMc24.out; omega); intro v266 w28 ho hb hg hat; rw [← Ny265.out] at ho; have n0_ := asT (blk_grown (g := gb256) (o := .cells #[.slice (some ad260) l0_0.length c0_0] 34 (0, 0)) (by (with_reducible repeat (first | refine blk_drewN ?_ _ | refine blk_drew ?_ | refine blk_alloc ?_ _)); refine blk_far ?_ NB256_261.out _; (with_reducible repeat (first | refine blk_drewN ?_ _ | refine blk_drew ?_ | refine blk_alloc ?_ _)); refine blk_far ?_ NB256_261.out _; (with_reducible repeat (first | refine blk_drewN ?_ _ | refine blk_drew ?_ | refine blk_alloc ?_ _)); exact BK256.out) hg (Kd.R_ne HO_5.out BK256.out (by decide))); have n1_ := asT (blk_grown (g := gb261) (o := .cells #[.int .u8 ((rd_T83 l0_0 x13_1).f0), .int .u8 ((rd_T83 l0_0 x13_1).f1)] 83 (0, 0)) (by (with_reducible repeat (first | refine blk_drewN ?_ _ | refine blk_drew ?_ | refine blk_alloc ?_ _)); refine blk_put (cs := #[.int .u8 ((rd_T83 l0_0 x13_1).f0), .int .u8 0]) ?_ 1 _ rfl; (with_reducible repeat (first | refine blk_drewN ?_ _ | refine blk_drew ?_ | refine blk_alloc ?_ _)); refine blk_put (cs := #[.int .u8 0, .int .u8 0]) ?_ 0 _ rfl; (with_reducible repeat (first | refine blk_drewN ?_ _ | refine blk_drew ?_ | refine blk_alloc ?_ _)); exact BK261.out) hg (Kd.R_ne HO_5.out BK261.out (by decide))); have n2_ := asT (hb); have n3_ := asT (ho); clear BK256 BK261 HB HO_5; have BK256 := n0_; have BK261 := n1_; have HB := n2_; have HO267 := n3_; clear n0_ n1_ n2_ n3_ ho hb hg hat))
         go_roundg k1
         case measure => have := HK1.out; omega
         case rel => exact ⟨(y265), (wrap64 (x13_1 + 1)), rdT, H', ⟨by have := HK1.out; omega⟩, ⟨by (with_reducible repeat (first | apply Kd.R_alloc | apply Kd.R_drewN | apply Kd.R_drew)); exact HO267.out⟩, ⟨by (with_reducible repeat (first | refine blk_drewN ?_ _ | refine blk_drew ?_ | refine blk_alloc ?_ _)); exact BK256.out⟩, ⟨hbT HB.out⟩⟩
        ·rw [if_neg c24] at H
         exact absurd H (by simp)
     ·rw [if_neg c9] at H
      exact absurd H (by simp)
    ·rw [if_neg c8] at H
     exact absurd H (by simp)
   ·rw [if_neg c7] at H
    have c7b0 : decide (x13_1 < (l0_0.length : Int)) = false := decide_eq_false c7
    clear c7
    obtain rfl := Option.some.inj H
    have hcv29 := own_string (P := Try.prog) Try.underlying101 Try.underlying5 Try.underlying9 (Kd.own_of_R HO_5.out)
    go_wp2
    go_ret
    exact ⟨rlT, hbT HB.out⟩

/-! ### impl_IsCandidate: function 55 -/
def impl_IsCandidate.l0 : Nat → List (S83) → Int → Int → List (S83) → Option (Bool)
 | 0, _, _, _, _ => none
 | k + 1, x6, x7, x8, x269000 => if x8 < x7 then (if 0 ≤ x8 then (if x8 < (x6.length : Int) then ((impl_isLink.f ((rd_T83 x6 x8).f0) ((rd_T83 x6 x8).f1)).bind fun t271 => (if t271 = true then (impl_IsCandidate.l0 k x6 x7 (wrap64 (x8 + 1)) x269000) else (some false))) else (none)) else (none)) else (if (x269000.length : Int) ≤ 16 then ((impl_sounds.f k x269000 false).bind fun t272 => ((impl_IsForm.f k t272).bind fun t273 => (if t273 = true then ((impl_sounds.f k x269000 true).bind fun t274 => ((impl_IsForm.f k t274).bind fun t275 => (some t275))) else (some false)))) else (some false))
def impl_IsCandidate.f (k : Nat) (l0_0 : List (S83)) : Option (Bool) := impl_IsCandidate.l0 k l0_0 (l0_0.length : Int) 0 l0_0
theorem impl_IsCandidate.mono_l : ∀ k, (∀ y0 y1 y2 y3, LeO (impl_IsCandidate.l0 k y0 y1 y2 y3) (impl_IsCandidate.l0 (k + 1) y0 y1 y2 y3))
 | 0 => fun _ _ _ _ r h => by simp [impl_IsCandidate.l0] at h
 | k + 1 => by
  have ih0 := impl_IsCandidate.mono_l k
  ·intro y0 y1 y2 y3
   unfold impl_IsCandidate.l0
   repeat' first
   | (with_reducible exact ih0 _ _ _ _)
   | (with_reducible exact impl_IsForm.mono _ _)
   | (with_reducible exact impl_sounds.mono _ _ _)
   | (with_reducible exact LeO.refl _)
   | (with_reducible exact LeO.none _)
   | (with_reducible refine LeO.ite ?_ ?_)
   | (with_reducible refine LeO.bind ?_ (fun _ => ?_))
   | exact ih0 _ _ _ _
   | exact impl_IsForm.mono _ _
   | exact impl_sounds.mono _ _ _
   | exact LeO.none _
   | refine LeO.ite ?_ ?_
   | refine LeO.bind ?_ (fun _ => ?_)
theorem impl_IsCandidate.mono : ∀ a0 k, LeO (impl_IsCandidate.f k a0) (impl_IsCandidate.f (k + 1) a0) := by
 intro a0 k
 have ih0 := impl_IsCandidate.mono_l k
 unfold impl_IsCandidate.f
 repeat' first
   | (with_reducible exact ih0 _ _ _ _)
   | (with_reducible exact impl_IsForm.mono _ _)
   | (with_reducible exact impl_sounds.mono _ _ _)
   | (with_reducible exact LeO.refl _)
   | (with_reducible exact LeO.none _)
   | (with_reducible refine LeO.ite ?_ ?_)
   | (with_reducible refine LeO.bind ?_ (fun _ => ?_))
   | exact ih0 _ _ _ _
   | exact impl_IsForm.mono _ _
   | exact impl_sounds.mono _ _ _
   | exact LeO.none _
   | refine LeO.ite ?_ ?_
   | refine LeO.bind ?_ (fun _ => ?_)
set_option maxHeartbeats 8000000 in
set_option maxRecDepth 100000 in
theorem impl_IsCandidate.calls (k : Nat) (A0_0 : Option Addr) (c0_0 : Nat) (l0_0 : List (S83)) (r : Bool) (w : World) (hr0_0 : Kd.C k83 w A0_0 l0_0.length l0_0) (hc0_0 : l0_0.length ≤ c0_0) (h : impl_IsCandidate.f k l0_0 = some r) :
  Calls Try.prog 55 #[.agg #[.slice A0_0 l0_0.length c0_0]] w fun e w' => e = .returned (.bool r) ∧ Below w.heap.size w w' := by
 have hu34 := Try.underlying34; have hu83 := Try.underlying83; have HR0_0 := Aside0.mk hr0_0; have HC0_0 := Aside0.mk hc0_0; clear hr0_0 hc0_0; have HB := asT (Below.refl w.heap.size w)
 have H : (impl_IsCandidate.l0 k l0_0 (l0_0.length : Int) 0 l0_0) = some r := h
 clear h; have H' := Aside0.mk H; clear H
 go_enter Try.func55, Try.ntmps55
 go_wp2_with (first | ((with_reducible refine gate_dst (N := 1) rfl ?_); refine boxT (N := 1) (cs := #[.slice A0_0 l0_0.length c0_0]) (t := 34) ?_; intro gb268 hg w2 hbox hb; have n0_ := asT (below_step (hbT HB.out) hb); have n1_ := asT (hbox); have n2_ := asT (geT hg HB.out); have n3_ := asT (geT hg HB.out); clear HB; have HB := n0_; have BK268 := n1_; have GW268 := n2_; have GE268 := n3_; clear n0_ n1_ n2_ n3_ hb hbox hg; have hcz3_0 : w2.cell? ⟨gb268, 0, none⟩ = some (.slice A0_0 l0_0.length c0_0) := (blk_cell BK268.out 0).trans rfl; have hfz3_0 := blk_frozen BK268.out 0))
 go_loopg [8] k (fun kq v8 w' => ∃ (x8_1 : Int), v8 = .int .i64 x8_1 ∧ Aside0 (impl_IsCandidate.l0 kq l0_0 (l0_0.length : Int) x8_1 l0_0 = some r) ∧ Aside0 (kq ≤ k) ∧ Aside0 (w'.heap[gb268]? = some (.cells #[(.slice A0_0 l0_0.length c0_0)] 34 (0, 0))) ∧ Aside0 (Below w.heap.size w w'))
 case atStart => exact ⟨(0), rdT, H', ⟨Nat.le_refl _⟩, ⟨by (with_reducible repeat (first | refine blk_drewN ?_ _ | refine blk_drew ?_ | refine blk_alloc ?_ _)); exact BK268.out⟩, ⟨hbT HB.out⟩⟩
 case round =>
  clear H'; (try clear p2); (try clear hcz3_0); (try clear hfz3_0); obtain ⟨x8_1, rfl, HA, HK1, BK268, HB⟩ := hrel
  cases gk with
  | zero => exact absurd HA.out (by simp [impl_IsCandidate.l0])
  | succ k1 =>
   have H := HA.out; clear HA
   simp only [impl_IsCandidate.l0] at H
   by_cases c4 : x8_1 < (l0_0.length : Int)
   ·rw [if_pos c4] at H
    have c4b0 : decide (x8_1 < (l0_0.length : Int)) = true := decide_eq_true c4
    clear c4
    by_cases c5 : 0 ≤ x8_1
    ·rw [if_pos c5] at H
     have c5b0 : decide (0 ≤ x8_1) = true := decide_eq_true c5
     clear c5
     by_cases c6 : x8_1 < (l0_0.length : Int)
     ·rw [if_pos c6] at H
      have c6b0 : decide (x8_1 < (l0_0.length : Int)) = true := decide_eq_true c6
      clear c6; replace H := Option.bind_eq_some_iff.mp H; obtain ⟨t271, A70, H⟩ := H; replace H : (if t271 = true then (impl_IsCandidate.l0 k1 l0_0 (l0_0.length : Int) (wrap64 (x8_1 + 1)) l0_0) else (some false)) = some r := H; have A7 := Aside0.mk A70; clear A70
      by_cases c8 : t271 = true
      ·subst c8
       have H1 : (impl_IsCandidate.l0 k1 l0_0 (l0_0.length : Int) (wrap64 (x8_1 + 1)) l0_0) = some r := by rw [if_pos rfl] at H; exact H
       clear H; have H := H1; clear H1; have H' := Aside0.mk H; clear H
       have p269 : 0 ≤ (x8_1 : Int) := of_decide_eq_true asmT
       have q269 : x8_1 < (l0_0.length : Int) := of_decide_eq_true asmT
       obtain ⟨ad269, e269, hx269_0, hx269_1⟩ := at_T83 HR0_0.out x8_1 p269 q269
       cases e269
       replace hx269_0 := (HB.out.cell (World.block_lt_of_cell? w _ hx269_0)).trans hx269_0; replace hx269_1 := (HB.out.cell (World.block_lt_of_cell? w _ hx269_1)).trans hx269_1; replace p269 := eq_true p269; replace q269 := eq_true q269
       go_wp2_with (first | ((with_reducible refine gate_dst (N := 4) rfl ?_); refine boxT (N := 4) (cs := #[.int .u8 0, .int .u8 0]) (t := 83) ?_; intro gb270 hg w9 hbox hb; have n0_ := asT (blk_below (g := gb268) (o := .cells #[.slice (some ad269) l0_0.length c0_0] 34 (0, 0)) (bkT BK268.out) hb); have n1_ := asT (below_step (hbT HB.out) hb); have n2_ := asT (hbox); have n3_ := asT (geT hg HB.out); have n4_ := asT (geT hg HB.out); have n5_ := asT ((by rw [hg]; exact Nat.ne_of_lt (blk_lt (g := gb268) (o := .cells #[.slice (some ad269) l0_0.length c0_0] 34 (0, 0)) (bkT BK268.out)) : gb268 ≠ gb270)); have n6_ := asT ((by rw [hg]; exact Nat.ne_of_gt (blk_lt (g := gb268) (o := .cells #[.slice (some ad269) l0_0.length c0_0] 34 (0, 0)) (bkT BK268.out)) : gb270 ≠ gb268)); clear BK268 HB; have BK268 := n0_; have HB := n1_; have BK270 := n2_; have GW270 := n3_; have GE270 := n4_; have NB268_270 := n5_; have NB270_268 := n6_; clear n0_ n1_ n2_ n3_ n4_ n5_ n6_ hb hbox hg; have hnb10 := NB270_268.out; have hnc10 := NB268_270.out; have hcz11_0 : w9.cell? ⟨gb270, 0, none⟩ = some (.int .u8 0) := (blk_cell BK270.out 0).trans rfl; have hcz11_1 : w9.cell? ⟨gb270, 1, none⟩ = some (.int .u8 0) := (blk_cell BK270.out 1).trans rfl; have hfz11_0 := blk_frozen BK270.out 0; have hfz11_1 := blk_frozen BK270.out 1) | ((with_reducible refine gate_callee (f := 93) rfl ?_); refine goesL_ (some 13) rfl rfl Try.func93 (by kernel_rfl) rfl #[.agg #[.int .u8 ((rd_T83 l0_0 x8_1).f0), .int .u8 ((rd_T83 l0_0 x8_1).f1)]] rfl eqT ?_; (with_reducible refine (impl_isLink.calls ((rd_T83 l0_0 x8_1).f0) ((rd_T83 l0_0 x8_1).f1) true _ A7.out).mono ?_); rintro e w12 ⟨rfl, hb⟩; refine ⟨_, rfl, ?_⟩; have n0_ := asT (blk_below (g := gb268) (o := .cells #[.slice (some ad269) l0_0.length c0_0] 34 (0, 0)) (by (with_reducible repeat (first | refine blk_drewN ?_ _ | refine blk_drew ?_ | refine blk_alloc ?_ _)); refine blk_far ?_ NB268_270.out _; (with_reducible repeat (first | refine blk_drewN ?_ _ | refine blk_drew ?_ | refine blk_alloc ?_ _)); refine blk_far ?_ NB268_270.out _; (with_reducible repeat (first | refine blk_drewN ?_ _ | refine blk_drew ?_ | refine blk_alloc ?_ _)); exact BK268.out) hb); have n1_ := asT (blk_below (g := gb270) (o := .cells #[.int .u8 ((rd_T83 l0_0 x8_1).f0), .int .u8 ((rd_T83 l0_0 x8_1).f1)] 83 (0, 0)) (by (with_reducible repeat (first | refine blk_drewN ?_ _ | refine blk_drew ?_ | refine blk_alloc ?_ _)); refine blk_put (cs := #[.int .u8 ((rd_T83 l0_0 x8_1).f0), .int .u8 0]) ?_ 1 _ rfl; (with_reducible repeat (first | refine blk_drewN ?_ _ | refine blk_drew ?_ | refine blk_alloc ?_ _)); refine blk_put (cs := #[.int .u8 0, .int .u8 0]) ?_ 0 _ rfl; (with_reducible repeat (first | refine blk_drewN ?_ _ | refine blk_drew ?_ | refine blk_alloc ?_ _)); exact BK270.out) hb); have n2_ := asT (below_step (hbT HB.out) hb); clear BK268 BK270 HB; have BK268 := n0_; have BK270 := n1_; have HB := n2_; clear n0_ n1_ n2_; (try clear hb); (try clear hb2); (try clear hk); (try clear hi)))
       go_roundg k1
       case measure => have := HK1.out; omega
       case rel => exact ⟨(wrap64 (x8_1 + 1)), rdT, H', ⟨by have := HK1.out; omega⟩, ⟨by (with_reducible repeat (first | refine blk_drewN ?_ _ | refine blk_drew ?_ | refine blk_alloc ?_ _)); exact BK268.out⟩, ⟨hbT HB.out⟩⟩
      ·replace c8 := Bool.eq_false_iff.mpr c8
       subst c8
       have H1 : (some false) = some r := by rw [if_neg (show ¬ (false = true) by decide)] at H; exact H
       clear H; have H := H1; clear H1
       obtain rfl := Option.some.inj H
       have p269 : 0 ≤ (x8_1 : Int) := of_decide_eq_true asmT
       have q269 : x8_1 < (l0_0.length : Int) := of_decide_eq_true asmT
       obtain ⟨ad269, e269, hx269_0, hx269_1⟩ := at_T83 HR0_0.out x8_1 p269 q269
       cases e269
       replace hx269_0 := (HB.out.cell (World.block_lt_of_cell? w _ hx269_0)).trans hx269_0; replace hx269_1 := (HB.out.cell (World.block_lt_of_cell? w _ hx269_1)).trans hx269_1; replace p269 := eq_true p269; replace q269 := eq_true q269
       go_wp2_with (first | ((with_reducible refine gate_dst (N := 4) rfl ?_); refine boxT (N := 4) (cs := #[.int .u8 0, .int .u8 0]) (t := 83) ?_; intro gb270 hg w13 hbox hb; have n0_ := asT (blk_below (g := gb268) (o := .cells #[.slice (some ad269) l0_0.length c0_0] 34 (0, 0)) (bkT BK268.out) hb); have n1_ := asT (below_step (hbT HB.out) hb); have n2_ := asT (hbox); have n3_ := asT (geT hg HB.out); have n4_ := asT (geT hg HB.out); have n5_ := asT ((by rw [hg]; exact Nat.ne_of_lt (blk_lt (g := gb268) (o := .cells #[.slice (some ad269) l0_0.length c0_0] 34 (0, 0)) (bkT BK268.out)) : gb268 ≠ gb270)); have n6_ := asT ((by rw [hg]; exact Nat.ne_of_gt (blk_lt (g := gb268) (o := .cells #[.slice (some ad269) l0_0.length c0_0] 34 (0, 0)) (bkT BK268.out)) : gb270 ≠ gb268)); clear BK268 HB; have BK268 := n0_; have HB := n1_; have BK270 := n2_; have GW270 := n3_; have GE270 := n4_; have NB268_270 := n5_; have NB270_268 := n6_; clear n0_ n1_ n2_ n3_ n4_ n5_ n6_ hb hbox hg; have hnb14 := NB270_268.out; have hnc14 := NB268_270.out; have hcz15_0 : w13.cell? ⟨gb270, 0, none⟩ = some (.int .u8 0) := (blk_cell BK270.out 0).trans rfl; have hcz15_1 : w13.cell? ⟨gb270, 1, none⟩ = some (.int .u8 0) := (blk_cell BK270.out 1).trans rfl; have hfz15_0 := blk_frozen BK270.out 0; have hfz15_1 := blk_frozen BK270.out 1) | ((with_reducible refine gate_callee (f := 93) rfl ?_); refine goesL_ (some 13) rfl rfl Try.func93 (by kernel_rfl) rfl #[.agg #[.int .u8 ((rd_T83 l0_0 x8_1).f0), .int .u8 ((rd_T83 l0_0 x8_1).f1)]] rfl eqT ?_; (with_reducible refine (impl_isLink.calls ((rd_T83 l0_0 x8_1).f0) ((rd_T83 l0_0 x8_1).f1) false _ A7.out).mono ?_); rintro e w16 ⟨rfl, hb⟩; refine ⟨_, rfl, ?_⟩; have n0_ := asT (blk_below (g := gb268) (o := .cells #[.slice (some ad269) l0_0.length c0_0] 34 (0, 0)) (by (with_reducible repeat (first | refine blk_drewN ?_ _ | refine blk_drew ?_ | refine blk_alloc ?_ _)); refine blk_far ?_ NB268_270.out _; (with_reducible repeat (first | refine blk_drewN ?_ _ | refine blk_drew ?_ | refine blk_alloc ?_ _)); refine blk_far ?_ NB268_270.out _; (with_reducible repeat (first | refine blk_drewN ?_ _ | refine blk_drew ?_ | refine blk_alloc ?_ _)); exact BK268.out) hb); have n1_ := asT (blk_below (g := gb270) (o := .cells #[.int .u8 ((rd_T83 l0_0 x8_1).f0), .int .u8 ((rd_T83 l0_0 x8_1).f1)] 83 (0, 0)) (by (with_reducible repeat (first | refine blk_drewN ?_ _ | refine blk_drew ?_ | refine blk_alloc ?_ _)); refine blk_put (cs := #[.int .u8 ((rd_T83 l0_0 x8_1).f0), .int .u8 0]) ?_ 1 _ rfl; (with_reducible repeat (first | refine blk_drewN ?_ _ | refine blk_drew ?_ | refine blk_alloc ?_ _)); refine blk_put (cs := #[.int .u8 0, .int .u8 0]) ?_ 0 _ rfl; (with_reducible repeat (first | refine blk_drewN ?_ _ | refine blk_drew ?_ | refine blk_alloc ?_ _)); exact BK270.out) hb); have n2_ := asT (below_step (hbT HB.out) hb); clear BK268 BK270 HB; have BK268 := n0_; have BK270 := n1_; have HB := n2_; clear n0_ n1_ n2_; (try clear hb); (try clear hb2); (try clear hk); (try clear hi)))
       go_ret
       exact ⟨rlT, hbT HB.out⟩
     ·rw [if_neg c6] at H
      exact absurd H (by simp)
    ·rw [if_neg c5] at H
     exact absurd H (by simp)
   ·rw [if_neg c4] at H
    have c4b0 : decide (x8_1 < (l0_0.length : Int)) = false := decide_eq_false c4
    clear c4
    by_cases c17 : (l0_0.length : Int) ≤ 16
    ·rw [if_pos c17] at H
     have c17b0 : decide ((l0_0.length : Int) ≤ 16) = true := decide_eq_true c17
     have c17b1 : decide (l0_0.length ≤ 16) = true := decide_eq_true (by omega)
     clear c17; replace H := Option.bind_eq_some_iff.mp H; obtain ⟨t272, A180, H⟩ := H; replace H : ((impl_IsForm.f k1 t272).bind fun t273 => (if t273 = true then ((impl_sounds.f k1 l0_0 true).bind fun t274 => ((impl_IsForm.f k1 t274).bind fun t275 => (some t275))) else (some false))) = some r := H; have A18 := Aside0.mk A180; clear A180; replace H := Option.bind_eq_some_iff.mp H; obtain ⟨t273, A190, H⟩ := H; replace H : (if t273 = true then ((impl_sounds.f k1 l0_0 true).bind fun t274 => ((impl_IsForm.f k1 t274).bind fun t275 => (some t275))) else (some false)) = some r := H; have A19 := Aside0.mk A190; clear A190
     by_cases c20 : t273 = true
     ·subst c20
      have H1 : ((impl_sounds.f k1 l0_0 true).bind fun t274 => ((impl_IsForm.f k1 t274).bind fun t275 => (some t275))) = some r := by rw [if_pos rfl] at H; exact H
      clear H; have H := H1; clear H1; replace H := Option.bind_eq_some_iff.mp H; obtain ⟨t274, A210, H⟩ := H; replace H : ((impl_IsForm.f k1 t274).bind fun t275 => (some t275)) = some r := H; have A21 := Aside0.mk A210; clear A210; replace H := Option.bind_eq_some_iff.mp H; obtain ⟨t275, A220, H⟩ := H; replace H : (some t275) = some r := H; have A22 := Aside0.mk A220; clear A220
      obtain rfl := Option.some.inj H
      have hcz23_0 : wr.cell? ⟨gb268, 0, none⟩ = some (.slice A0_0 l0_0.length c0_0) := (blk_cell BK268.out 0).trans rfl
      have hfz23_0 := blk_frozen BK268.out 0
      go_wp2_with (first | (go_at_call 95; (with_reducible refine (impl_sounds.calls k1 _ _ l0_0 false t272 _ ?side1 ?side2 A18.out).mono ?_); (case side1 => exact crT HR0_0.out HB.out); (case side2 => exact HC0_0.out); rintro e w24 ⟨rfl, hb⟩; have n0_ := asT (blk_below (bkT BK268.out) hb); have n1_ := asT (below_step (hbT HB.out) hb); clear BK268 HB; have BK268 := n0_; have HB := n1_; clear n0_ n1_; (try clear hb); (try clear hb2); (try clear hk); (try clear hi)) | (go_at_call 94; (with_reducible refine (impl_IsForm.calls k1 t272 true _ A19.out).mono ?_); rintro e w' ⟨rfl, ⟨nd, rfl⟩⟩; have hcz25_0 : w24.cell? ⟨gb268, 0, none⟩ = some (.slice A0_0 l0_0.length c0_0) := (blk_cell BK268.out 0).trans rfl; have hfz25_0 := blk_frozen BK268.out 0) | (go_at_call 95; (with_reducible refine (impl_sounds.calls k1 _ _ l0_0 true t274 _ ?side1 ?side2 A21.out).mono ?_); (case side1 => exact crT HR0_0.out (hbT HB.out)); (case side2 => exact HC0_0.out); rintro e w26 ⟨rfl, hb⟩; have n0_ := asT (blk_below (bkT BK268.out) hb); have n1_ := asT (below_step (hbT HB.out) hb); clear BK268 HB; have BK268 := n0_; have HB := n1_; clear n0_ n1_; (try clear hb); (try clear hb2); (try clear hk); (try clear hi)) | (go_at_call 94; (with_reducible refine (impl_IsForm.calls k1 t274 t275 _ A22.out).mono ?_); rintro e w' ⟨rfl, ⟨nd, rfl⟩⟩))
      go_ret
      exact ⟨rlT, hbT HB.out⟩
     ·replace c20 := Bool.eq_false_iff.mpr c20
      subst c20
      have H1 : (some false) = some r := by rw [if_neg (show ¬ (false = true) by decide)] at H; exact H
      clear H; have H := H1; clear H1
      obtain rfl := Option.some.inj H
      have hcz27_0 : wr.cell? ⟨gb268, 0, none⟩ = some (.slice A0_0 l0_0.length c0_0) := (blk_cell BK268.out 0).trans rfl
      have hfz27_0 := blk_frozen BK268.out 0
      go_wp2_with (first | (go_at_call 95; (with_reducible refine (impl_sounds.calls k1 _ _ l0_0 false t272 _ ?side1 ?side2 A18.out).mono ?_); (case side1 => exact crT HR0_0.out HB.out); (case side2 => exact HC0_0.out); rintro e w28 ⟨rfl, hb⟩; have n0_ := asT (blk_below (bkT BK268.out) hb); have n1_ := asT (below_step (hbT HB.out) hb); clear BK268 HB; have BK268 := n0_; have HB := n1_; clear n0_ n1_; (try clear hb); (try clear hb2); (try clear hk); (try clear hi)) | (go_at_call 94; (with_reducible refine (impl_IsForm.calls k1 t272 false _ A19.out).mono ?_); rintro e w' ⟨rfl, ⟨nd, rfl⟩⟩))
      go_ret
      exact ⟨rlT, hbT HB.out⟩
    ·rw [if_neg c17] at H
     have c17b0 : decide ((l0_0.length : Int) ≤ 16) = false := decide_eq_false c17
     have c17b1 : decide (l0_0.length ≤ 16) = false := decide_eq_false (by omega)
     clear c17
     obtain rfl := Option.some.inj H
     have hcz29_0 : wr.cell? ⟨gb268, 0, none⟩ = some (.slice A0_0 l0_0.length c0_0) := (blk_cell BK268.out 0).trans rfl
     have hfz29_0 := blk_frozen BK268.out 0
     go_wp2
     go_ret
     exact ⟨rlT, hbT HB.out⟩

/-! ### impl_OutputOf: function 56 -/
def impl_OutputOf.f (k : Nat) (l0_0 : List (S83)) : Option (ByteArray) := (impl_IsCandidate.f k l0_0).bind fun t277 => (if t277 = true then ((impl_sounds.f k l0_0 true).bind fun t278 => (some t278)) else (some (⟨#[]⟩ : ByteArray)))
theorem impl_OutputOf.mono : ∀ a0 k, LeO (impl_OutputOf.f k a0) (impl_OutputOf.f (k + 1) a0) := by
 intro a0 k
 unfold impl_OutputOf.f
 repeat' first
   | (with_reducible exact impl_IsCandidate.mono _ _)
   | (with_reducible exact impl_sounds.mono _ _ _)
   | (with_reducible exact LeO.refl _)
   | (with_reducible exact LeO.none _)
   | (with_reducible refine LeO.ite ?_ ?_)
   | (with_reducible refine LeO.bind ?_ (fun _ => ?_))
   | exact impl_IsCandidate.mono _ _
   | exact impl_sounds.mono _ _ _
   | exact LeO.none _
   | refine LeO.ite ?_ ?_
   | refine LeO.bind ?_ (fun _ => ?_)
set_option maxHeartbeats 8000000 in
set_option maxRecDepth 100000 in
theorem impl_OutputOf.calls (k : Nat) (A0_0 : Option Addr) (c0_0 : Nat) (l0_0 : List (S83)) (r : ByteArray) (w : World) (hr0_0 : Kd.C k83 w A0_0 l0_0.length l0_0) (hc0_0 : l0_0.length ≤ c0_0) (h : impl_OutputOf.f k l0_0 = some r) :
  Calls Try.prog 56 #[.agg #[.slice A0_0 l0_0.length c0_0]] w fun e w' => e = .returned (.string r) ∧ Below w.heap.size w w' := by
 have hu34 := Try.underlying34; have HR0_0 := Aside0.mk hr0_0; have HC0_0 := Aside0.mk hc0_0; clear hr0_0 hc0_0; have HB := asT (Below.refl w.heap.size w)
 have H : ((impl_IsCandidate.f k l0_0).bind fun t277 => (if t277 = true then ((impl_sounds.f k l0_0 true).bind fun t278 => (some t278)) else (some (⟨#[]⟩ : ByteArray)))) = some r := h
 clear h; replace H := Option.bind_eq_some_iff.mp H; obtain ⟨t277, A20, H⟩ := H; replace H : (if t277 = true then ((impl_sounds.f k l0_0 true).bind fun t278 => (some t278)) else (some (⟨#[]⟩ : ByteArray))) = some r := H; have A2 := Aside0.mk A20; clear A20
 by_cases c3 : t277 = true
 ·subst c3
  have H1 : ((impl_sounds.f k l0_0 true).bind fun t278 => (some t278)) = some r := by rw [if_pos rfl] at H; exact H
  clear H; have H := H1; clear H1; replace H := Option.bind_eq_some_iff.mp H; obtain ⟨t278, A40, H⟩ := H; replace H : (some t278) = some r := H; have A4 := Aside0.mk A40; clear A40
  obtain rfl := Option.some.inj H
  go_enter Try.func56, Try.ntmps56
  go_wp2_with (first | ((with_reducible refine gate_dst (N := 1) rfl ?_); refine boxT (N := 1) (cs := #[.slice A0_0 l0_0.length c0_0]) (t := 34) ?_; intro gb276 hg w5 hbox hb; have n0_ := asT (below_step (hbT HB.out) hb); have n1_ := asT (hbox); have n2_ := asT (geT hg HB.out); have n3_ := asT (geT hg HB.out); clear HB; have HB := n0_; have BK276 := n1_; have GW276 := n2_; have GE276 := n3_; clear n0_ n1_ n2_ n3_ hb hbox hg; have hcz6_0 : w5.cell? ⟨gb276, 0, none⟩ = some (.slice A0_0 l0_0.length c0_0) := (blk_cell BK276.out 0).trans rfl; have hfz6_0 := blk_frozen BK276.out 0) | ((with_reducible refine gate_callee (f := 55) rfl ?_); refine goesL_ (some 4) rfl rfl Try.func55 (by kernel_rfl) rfl #[.agg #[.slice A0_0 l0_0.length c0_0]] rfl eqT ?_; (with_reducible refine (impl_IsCandidate.calls k _ _ l0_0 true _ ?side1 ?side2 A2.out).mono ?_); (case side1 => exact crT HR0_0.out HB.out); (case side2 => exact HC0_0.out); rintro e w7 ⟨rfl, hb⟩; refine ⟨_, rfl, ?_⟩; have n0_ := asT (blk_below (bkT BK276.out) hb); have n1_ := asT (below_step (hbT HB.out) hb); clear BK276 HB; have BK276 := n0_; have HB := n1_; clear n0_ n1_; (try clear hb); (try clear hb2); (try clear hk); (try clear hi); have hcz8_0 : w7.cell? ⟨gb276, 0, none⟩ = some (.slice A0_0 l0_0.length c0_0) := (blk_cell BK276.out 0).trans rfl; have hfz8_0 := blk_frozen BK276.out 0) | ((with_reducible refine gate_callee (f := 95) rfl ?_); refine goesL_ (some 7) rfl rfl Try.func95 (by kernel_rfl) rfl #[.agg #[.slice A0_0 l0_0.length c0_0], .bool true] rfl eqT ?_; (with_reducible refine (impl_sounds.calls k _ _ l0_0 true t278 _ ?side1 ?side2 A4.out).mono ?_); (case side1 => exact crT HR0_0.out HB.out); (case side2 => exact HC0_0.out); rintro e w9 ⟨rfl, hb⟩; refine ⟨_, rfl, ?_⟩; have n0_ := asT (blk_below (bkT BK276.out) hb); have n1_ := asT (below_step (hbT HB.out) hb); clear BK276 HB; have BK276 := n0_; have HB := n1_; clear n0_ n1_; (try clear hb); (try clear hb2); (try clear hk); (try clear hi)))
  go_ret
  exact ⟨rlT, hbT HB.out⟩
 ·replace c3 := Bool.eq_false_iff.mpr c3
  subst c3
  have H1 : (some (⟨#[]⟩ : ByteArray)) = some r := by rw [if_neg (show ¬ (false = true) by decide)] at H; exact H
  clear H; have H := H1; clear H1
  obtain rfl := Option.some.inj H
  go_enter Try.func56, Try.ntmps56
  go_wp2_with (first | ((with_reducible refine gate_dst (N := 1) rfl ?_); refine boxT (N := 1) (cs := #[.slice A0_0 l0_0.length c0_0]) (t := 34) ?_; intro gb276 hg w10 hbox hb; have n0_ := asT (below_step (hbT HB.out) hb); have n1_ := asT (hbox); have n2_ := asT (geT hg HB.out); have n3_ := asT (geT hg HB.out); clear HB; have HB := n0_; have BK276 := n1_; have GW276 := n2_; have GE276 := n3_; clear n0_ n1_ n2_ n3_ hb hbox hg; have hcz11_0 : w10.cell? ⟨gb276, 0, none⟩ = some (.slice A0_0 l0_0.length c0_0) := (blk_cell BK276.out 0).trans rfl; have hfz11_0 := blk_frozen BK276.out 0) | ((with_reducible refine gate_callee (f := 55) rfl ?_); refine goesL_ (some 4) rfl rfl Try.func55 (by kernel_rfl) rfl #[.agg #[.slice A0_0 l0_0.length c0_0]] rfl eqT ?_; (with_reducible refine (impl_IsCandidate.calls k _ _ l0_0 false _ ?side1 ?side2 A2.out).mono ?_); (case side1 => exact crT HR0_0.out HB.out); (case side2 => exact HC0_0.out); rintro e w12 ⟨rfl, hb⟩; refine ⟨_, rfl, ?_⟩; have n0_ := asT (blk_below (bkT BK276.out) hb); have n1_ := asT (below_step (hbT HB.out) hb); clear BK276 HB; have BK276 := n0_; have HB := n1_; clear n0_ n1_; (try clear hb); (try clear hb2); (try clear hk); (try clear hi)))
  go_ret
  exact ⟨rlT, hbT HB.out⟩

end Go.Proofs.Ytdamagcfmhimfad.PFnExactProfileOf
