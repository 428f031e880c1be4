-- Made by gen.py (a program of this session) out of the translation; Lean checks it.
import Derived.Test.YtlmfpkiaikjlbaaGreatPFnExactRowsForx0
import Derived.Test.YtlmfpkiaikjlbaaGreatPFnExactRowsForx7
namespace Go.Proofs.YtlmfpkiaikjlbaaGreat.PFnExactRowsFor
open Go.RowKit Go.Proofs.YtlmfpkiaikjlbaaGreatB Go.Proofs.YtlmfpkiaikjlbaaGreatW.PrintWords Go.Proofs.YtlmfpkiaikjlbaaGreatW.PrintLast Go.Proofs.YtlmfpkiaikjlbaaGreatW.PrintMore
attribute [local go_sem] max2_int min2_int max_two min_two max_three min_three max_four min_four   -- for this text's walks alone
set_option linter.unusedVariables false
set_option maxHeartbeats 8000000
set_option maxRecDepth 100000
set_option linter.unusedSimpArgs false
mutual
def spec_RowsFor.j0 : Nat → Int → List (S73) → Bool → ByteArray → List ByteArray → List (S60) → List (List Int) → Option ((List (S73)))
 | 0, _, _, _, _, _, _, _ => none
 | k + 1, x1, x5, x25, x355000, x355001, x355002, x355003 => if x25 = true then (some x5) else (spec_RowsFor.l0 k x1 x5 0 x355000 x355001 x355002 x355003)
def spec_RowsFor.l0 : Nat → Int → List (S73) → Int → ByteArray → List ByteArray → List (S60) → List (List Int) → Option ((List (S73)))
 | 0, _, _, _, _, _, _, _ => none
 | k + 1, x1, x5, x6, x355000, x355001, x355002, x355003 => if x6 < (x355002.length : Int) then (if 0 ≤ x1 then (if x1 < (x355003.length : Int) then (if 0 ≤ x6 then (if x6 < (x355003.length : Int) then ((spec_RowOf.f k (rd_L6 x355003 x1) (rd_L6 x355003 x6)).bind fun bt361 => ((spec_IsTrivial.f k bt361.1).bind fun t366 => (spec_RowsFor.l1 k x1 x5 x6 t366 0 x355000 x355001 x355002 x355003 bt361.1))) else (none)) else (none)) else (none)) else (none)) else (some x5)
def spec_RowsFor.l1 : Nat → Int → List (S73) → Int → Bool → Int → ByteArray → List ByteArray → List (S60) → List (List Int) → List Int → Option ((List (S73)))
 | 0, _, _, _, _, _, _, _, _, _, _ => none
 | k + 1, x1, x5, x6, x9, x10, x355000, x355001, x355002, x355003, x366000 => if x10 < (x5.length : Int) then (if x9 = true then (spec_RowsFor.l1 k x1 x5 x6 true (wrap64 (x10 + 1)) x355000 x355001 x355002 x355003 x366000) else (if 0 ≤ x10 then ((spec_l13Same.f k ((rd_T73 x5 x10).f0) x366000).bind fun t368 => (spec_RowsFor.l1 k x1 x5 x6 t368 (wrap64 (x10 + 1)) x355000 x355001 x355002 x355003 x366000)) else (none))) else (if x9 = true then (spec_RowsFor.l0 k x1 x5 (wrap64 (x6 + 1)) x355000 x355001 x355002 x355003) else (if x5.length < 5864062014805 then (spec_RowsFor.l0 k x1 (x5 ++ [(⟨x366000⟩ : S73)]) (wrap64 (x6 + 1)) x355000 x355001 x355002 x355003) else (none)))
end
def spec_RowsFor.f (k : Nat) (a0_0 : ByteArray) (l0_1 : List ByteArray) (l0_2 : List (S60)) (l0_3 : List (List Int)) (a1 : Int) : Option ((List (S73))) := (some (([] : List (S73)) : List (S73))).bind fun y355 => ((spec_IsTableau.f k a0_0 l0_1 l0_2 l0_3).bind fun t358 => (if t358 = true then (if a1 < 0 then (spec_RowsFor.j0 k a1 y355 true a0_0 l0_1 l0_2 l0_3) else (spec_RowsFor.j0 k a1 y355 (decide (a1 ≥ (l0_2.length : Int))) a0_0 l0_1 l0_2 l0_3)) else (spec_RowsFor.j0 k a1 y355 true a0_0 l0_1 l0_2 l0_3)))
theorem spec_RowsFor.mono_l : ∀ k, (∀ y0 y1 y2 y3 y4 y5 y6, LeO (spec_RowsFor.j0 k y0 y1 y2 y3 y4 y5 y6) (spec_RowsFor.j0 (k + 1) y0 y1 y2 y3 y4 y5 y6)) ∧ (∀ y0 y1 y2 y3 y4 y5 y6, LeO (spec_RowsFor.l0 k y0 y1 y2 y3 y4 y5 y6) (spec_RowsFor.l0 (k + 1) y0 y1 y2 y3 y4 y5 y6)) ∧ (∀ y0 y1 y2 y3 y4 y5 y6 y7 y8 y9, LeO (spec_RowsFor.l1 k y0 y1 y2 y3 y4 y5 y6 y7 y8 y9) (spec_RowsFor.l1 (k + 1) y0 y1 y2 y3 y4 y5 y6 y7 y8 y9))
 | 0 => ⟨fun _ _ _ _ _ _ _ r h => by simp [spec_RowsFor.j0] at h, fun _ _ _ _ _ _ _ r h => by simp [spec_RowsFor.l0] at h, fun _ _ _ _ _ _ _ _ _ _ r h => by simp [spec_RowsFor.l1] at h⟩
 | k + 1 => by
  obtain ⟨ih0, ih1, ih2⟩ := spec_RowsFor.mono_l k; refine ⟨?_, ?_, ?_⟩
  ·intro y0 y1 y2 y3 y4 y5 y6; unfold spec_RowsFor.j0
   with_reducible repeat' first | exact ih0 _ _ _ _ _ _ _ | exact ih1 _ _ _ _ _ _ _ | exact ih2 _ _ _ _ _ _ _ _ _ _ | exact spec_IsTableau.mono _ _ _ _ _ | exact spec_IsTrivial.mono _ _ | exact spec_RowOf.mono _ _ _ | exact spec_l13Same.mono _ _ _ | exact LeO.refl _ | exact LeO.none _ | refine LeO.ite ?_ ?_ | refine LeO.bind ?_ (fun _ => ?_)
  ·intro y0 y1 y2 y3 y4 y5 y6; unfold spec_RowsFor.l0
   with_reducible repeat' first | exact ih0 _ _ _ _ _ _ _ | exact ih1 _ _ _ _ _ _ _ | exact ih2 _ _ _ _ _ _ _ _ _ _ | exact spec_IsTableau.mono _ _ _ _ _ | exact spec_IsTrivial.mono _ _ | exact spec_RowOf.mono _ _ _ | exact spec_l13Same.mono _ _ _ | exact LeO.refl _ | exact LeO.none _ | refine LeO.ite ?_ ?_ | refine LeO.bind ?_ (fun _ => ?_)
  ·intro y0 y1 y2 y3 y4 y5 y6 y7 y8 y9; unfold spec_RowsFor.l1
   with_reducible repeat' first | exact ih0 _ _ _ _ _ _ _ | exact ih1 _ _ _ _ _ _ _ | exact ih2 _ _ _ _ _ _ _ _ _ _ | exact spec_IsTableau.mono _ _ _ _ _ | exact spec_IsTrivial.mono _ _ | exact spec_RowOf.mono _ _ _ | exact spec_l13Same.mono _ _ _ | exact LeO.refl _ | exact LeO.none _ | refine LeO.ite ?_ ?_ | refine LeO.bind ?_ (fun _ => ?_)
theorem spec_RowsFor.mono : ∀ a0 a1 a2 a3 a4 k, LeO (spec_RowsFor.f k a0 a1 a2 a3 a4) (spec_RowsFor.f (k + 1) a0 a1 a2 a3 a4) := by
 intro a0 a1 a2 a3 a4 k; obtain ⟨ih0, ih1, ih2⟩ := spec_RowsFor.mono_l k; unfold spec_RowsFor.f
 with_reducible repeat' first | exact ih0 _ _ _ _ _ _ _ | exact ih1 _ _ _ _ _ _ _ | exact ih2 _ _ _ _ _ _ _ _ _ _ | exact spec_IsTableau.mono _ _ _ _ _ | exact spec_IsTrivial.mono _ _ | exact spec_RowOf.mono _ _ _ | exact spec_l13Same.mono _ _ _ | exact LeO.refl _ | exact LeO.none _ | refine LeO.ite ?_ ?_ | refine LeO.bind ?_ (fun _ => ?_)
def spec_RowsFor.T7 : Bool × List (List Nat × List Nat) := (true, [([], []), ([0], [0]), ([], []), ([1, 2], [1, 2]), ([3], [3]), ([], []), ([5], [5]), ([], []), ([6, 7], [6, 7]), ([8], [8]), ([4, 9], [4, 9]), ([10], [10]), ([11], [11]), ([11], [11]), ([], []), ([14, 12, 10, 0, 1, 2, 3, 4, 5, 6, 7, 8, 9, 10, 11, 12, 14], [12, 14]), ([13, 15, 0, 1, 2, 3, 4, 5, 6, 7, 8, 9, 10, 11, 12, 13, 14, 15], [13])])
def spec_RowsFor.B7 : List Nat := [0, 1, 0, 7, 15, 0, 32, 0, 224, 480, 1023, 2047, 4095, 4095, 0, 24575, 65535]
theorem spec_RowsFor.tab7 : rtab .any (opsOf Tryz.f24 7) = spec_RowsFor.T7 := by kernel_rfl
theorem spec_RowsFor.bits7 : waitsOk spec_RowsFor.T7.2 spec_RowsFor.B7 = true := by kernel_rfl
def spec_RowsFor.T12 : Bool × List (List Nat × List Nat) := (true, [([], []), ([0], [0]), ([1], [1]), ([1], [1]), ([2, 3, 1], [1, 2, 3]), ([4, 1], [1, 4]), ([1], [1]), ([5, 6, 1, 1], [1, 5, 6]), ([1, 7], [1, 7]), ([8, 7, 0, 1, 2, 3, 4, 5, 6, 7, 8], [0, 8])])
def spec_RowsFor.B12 : List Nat := [0, 1, 3, 3, 15, 31, 3, 127, 255, 511]
theorem spec_RowsFor.tab12 : rtab .any (opsOf Tryz.f24 12) = spec_RowsFor.T12 := by kernel_rfl
theorem spec_RowsFor.bits12 : waitsOk spec_RowsFor.T12.2 spec_RowsFor.B12 = true := by kernel_rfl
theorem spec_RowsFor.calls (k : Nat) (a0_0 : ByteArray) (A0_1 : Option Addr) (c0_1 : Nat) (l0_1 : List ByteArray) (A0_2 : Option Addr) (c0_2 : Nat) (l0_2 : List (S60)) (A0_3 : Option Addr) (c0_3 : Nat) (l0_3 : List (List Int)) (a1 : Int) (r : List (S73)) (w : World) (hr0_1 : Kd.C Kd.string w A0_1 l0_1.length l0_1) (hc0_1 : l0_1.length ≤ c0_1) (hr0_2 : Kd.C k60 w A0_2 l0_2.length l0_2) (hc0_2 : l0_2.length ≤ c0_2) (hr0_3 : Kd.C (Kd.slice 3 (Kd.int .i64)) w A0_3 l0_3.length l0_3) (hc0_3 : l0_3.length ≤ c0_3) (h : spec_RowsFor.f k a0_0 l0_1 l0_2 l0_3 a1 = some r) :
  Calls Tryz.prog 24 #[.agg #[.string a0_0, .slice A0_1 l0_1.length c0_1, .slice A0_2 l0_2.length c0_2, .slice A0_3 l0_3.length c0_3], .int .i64 a1] w fun e w' => ∃ v0_ : Value, e = .returned (v0_) ∧ Kd.S k73 73 w' w.heap.size (fun _ => True) v0_ r ∧ Below w.heap.size w w' := by
 have hu27 := Tryz.underlying27; have hu73 := Tryz.underlying73; have HR0_1 := asT hr0_1; have HC0_1 := asT hc0_1; clear hr0_1 hc0_1; have HR0_2 := asT hr0_2; have HC0_2 := asT hc0_2; clear hr0_2 hc0_2; have HR0_3 := asT hr0_3; have HC0_3 := asT hc0_3; clear hr0_3 hc0_3; have HB := asT (Below.refl w.heap.size w); have H := h; unfold spec_RowsFor.f at H; clear h; obtain ⟨y355, hy355⟩ : ∃ y_ : List (S73), y_ = (([] : List (S73))) := ⟨_, rfl⟩
 replace H : ((spec_IsTableau.f k a0_0 l0_1 l0_2 l0_3).bind fun t358 => (if t358 = true then (if a1 < 0 then (spec_RowsFor.j0 k a1 y355 true a0_0 l0_1 l0_2 l0_3) else (spec_RowsFor.j0 k a1 y355 (decide (a1 ≥ (l0_2.length : Int))) a0_0 l0_1 l0_2 l0_3)) else (spec_RowsFor.j0 k a1 y355 true a0_0 l0_1 l0_2 l0_3))) = some r := by first | (rw [hy355]; with_reducible exact H) | (have H2_ := (Option.bind_some _ _).symm.trans H; rw [hy355]; with_reducible exact H2_) | (have H2_ := (Option.bind_some _ _).symm.trans H; with_reducible exact H2_) | with_reducible exact H | (rw [hy355]; exact H) | exact H
 have Ny355 := asT hy355; clear hy355; have HC3 := asT H; clear H; go_enter Tryz.func24, Tryz.ntmps24
 go_upto_region 2 with (first | ((with_reducible refine gate_dst (N := 2) rfl ?_); (try (refine gate_guard (by rfl) ?_; dsimp only)); refine boxT (N := 2) (cs := #[.string a0_0, .slice A0_1 l0_1.length c0_1, .slice A0_2 l0_2.length c0_2, .slice A0_3 l0_3.length c0_3]) (t := 27) ?_; intro gb354 hg w4 hbox hb; have BK354 := asT hbox; have GW354 := asT (geT hg HB.out); have GE354 := GW354; replace HB := hS HB hb; clear hb hbox hg) | ((with_reducible refine gate_dst (N := 11) rfl ?_); (try (refine gate_guard (by rfl) ?_; dsimp only)); refine Kd.S_lit k73 _ 73 ?hg (N := 11) ?hd (xs := ([] : List (S73))) (inner := []) (ok := fun _ => True) (okp := fun _ => True) ?hr ?hp (fun _ hk => hk) trivial (Below.refl _ _) (Nat.le_refl _) (by simp) ?_; (case hd => rfl); (case hg => rfl); (case hr => first | (go_simp; done) | (go_simp; rfl)); (case hp => exact (Reps.none _ _)); intro v356 w5 ho6 hb hg_ hnew_; clear hg_ hnew_; (first | rw [← Ny355.out] at ho6 | (simp only [Int.reduceToNat] at ho6; rw [← Ny355.out] at ho6)); have HO357 := asT (Kd.S_lower ho6 (below_size (hbT HB.out))); replace BK354 := bS BK354 hb; replace HB := hS HB hb; clear hb ho6))
 (try simp only [Act.put, sA, sZ, sS])
 go_cut [25] (fun v25 wc => ∃ (kq : Nat) (x25_2 : Bool), v25 = .bool x25_2 ∧ Aside0 (spec_RowsFor.j0 kq a1 y355 x25_2 a0_0 l0_1 l0_2 l0_3 = some r) ∧ Aside0 (kq ≤ k) ∧ Aside0 (Kd.S k73 73 wc w.heap.size (fun _ => True) v356 y355) ∧ Aside0 (wc.heap[gb354]? = some (.cells #[.string a0_0, (.slice A0_1 l0_1.length c0_1), (.slice A0_2 l0_2.length c0_2), (.slice A0_3 l0_3.length c0_3)] 27 (0, 0))) ∧ Aside0 (Below w.heap.size w wc))
 case first =>
  have H := HC3.out; clear HC3; obtain ⟨t358, A7, H⟩ := be H; by_cases c8 : t358 = true
  ·subst c8; rw [if_pos rfl] at H; have H1 := H; clear H; have H := H1; clear H1; by_cases c9 : a1 < 0
   ·rw [if_pos c9] at H; have c9b0 := dt c9; clear c9
    (first | rw [c9b0] | (simp only [i64_w, i32_w]; rw [c9b0]) | skip)
    have H' := asT H; clear H; obtain ⟨hcz10_0, hcz10_1, hcz10_2, hcz10_3, hfz10_0, hfz10_1, hfz10_2, hfz10_3⟩ := bx4 BK354.out
    go_wp2_with (first | ((with_reducible refine gate_callee (f := 53) rfl ?_); refine goesL_ (some 13) rfl rfl Tryz.func53 (by kernel_rfl) rfl #[.agg #[.string a0_0, .slice A0_1 l0_1.length c0_1, .slice A0_2 l0_2.length c0_2, .slice A0_3 l0_3.length c0_3]] rfl eqT ?_; (with_reducible refine (spec_IsTableau.calls k a0_0 _ _ l0_1 _ _ l0_2 _ _ l0_3 true _ ?side1 ?side2 ?side3 ?side4 ?side5 ?side6 A7.out).mono ?_); (case side1 => exact crT HR0_1.out HB.out); (case side2 => exact HC0_1.out); (case side3 => exact crT HR0_2.out HB.out); (case side4 => exact HC0_2.out); (case side5 => exact crT HR0_3.out HB.out); (case side6 => exact HC0_3.out); rintro e w11 ⟨rfl, hb⟩; refine ⟨_, rfl, ?_⟩; replace HO357 := asT (Kd.S_below (soT HO357.out) hb); replace BK354 := bS BK354 hb; replace HB := hS HB hb; (try clear hb hb2 hk hi)))
    go_meet
    case rel => exact ⟨_, (true), rdT, H', ⟨by first | omega | exact Nat.le_refl _⟩, ⟨soT HO357.out⟩, kpT BK354.out, ⟨hbT HB.out⟩⟩
   ·rw [if_neg c9] at H; have c9b0 := df c9; clear c9
    (first | rw [c9b0] | (simp only [i64_w, i32_w]; rw [c9b0]) | skip)
    have H' := asT H; clear H; obtain ⟨hcz12_0, hcz12_1, hcz12_2, hcz12_3, hfz12_0, hfz12_1, hfz12_2, hfz12_3⟩ := bx4 BK354.out
    go_wp2_with (first | ((with_reducible refine gate_callee (f := 53) rfl ?_); refine goesL_ (some 13) rfl rfl Tryz.func53 (by kernel_rfl) rfl #[.agg #[.string a0_0, .slice A0_1 l0_1.length c0_1, .slice A0_2 l0_2.length c0_2, .slice A0_3 l0_3.length c0_3]] rfl eqT ?_; (with_reducible refine (spec_IsTableau.calls k a0_0 _ _ l0_1 _ _ l0_2 _ _ l0_3 true _ ?side1 ?side2 ?side3 ?side4 ?side5 ?side6 A7.out).mono ?_); (case side1 => exact crT HR0_1.out HB.out); (case side2 => exact HC0_1.out); (case side3 => exact crT HR0_2.out HB.out); (case side4 => exact HC0_2.out); (case side5 => exact crT HR0_3.out HB.out); (case side6 => exact HC0_3.out); rintro e w13 ⟨rfl, hb⟩; refine ⟨_, rfl, ?_⟩; replace HO357 := asT (Kd.S_below (soT HO357.out) hb); replace BK354 := bS BK354 hb; replace HB := hS HB hb; (try clear hb hb2 hk hi); obtain ⟨hcz14_0, hcz14_1, hcz14_2, hcz14_3, hfz14_0, hfz14_1, hfz14_2, hfz14_3⟩ := bx4 BK354.out))
    go_meet
    case rel => exact ⟨_, (decide (a1 ≥ (l0_2.length : Int))), rdT, H', ⟨by first | omega | exact Nat.le_refl _⟩, ⟨soT HO357.out⟩, kpT BK354.out, ⟨hbT HB.out⟩⟩
  ·replace c8 := eE c8; subst c8; rw [if_neg nF] at H; have H' := asT H; clear H; obtain ⟨hcz15_0, hcz15_1, hcz15_2, hcz15_3, hfz15_0, hfz15_1, hfz15_2, hfz15_3⟩ := bx4 BK354.out
   go_wp2_with (first | ((with_reducible refine gate_callee (f := 53) rfl ?_); refine goesL_ (some 13) rfl rfl Tryz.func53 (by kernel_rfl) rfl #[.agg #[.string a0_0, .slice A0_1 l0_1.length c0_1, .slice A0_2 l0_2.length c0_2, .slice A0_3 l0_3.length c0_3]] rfl eqT ?_; (with_reducible refine (spec_IsTableau.calls k a0_0 _ _ l0_1 _ _ l0_2 _ _ l0_3 false _ ?side1 ?side2 ?side3 ?side4 ?side5 ?side6 A7.out).mono ?_); (case side1 => exact crT HR0_1.out HB.out); (case side2 => exact HC0_1.out); (case side3 => exact crT HR0_2.out HB.out); (case side4 => exact HC0_2.out); (case side5 => exact crT HR0_3.out HB.out); (case side6 => exact HC0_3.out); rintro e w16 ⟨rfl, hb⟩; refine ⟨_, rfl, ?_⟩; replace HO357 := asT (Kd.S_below (soT HO357.out) hb); replace BK354 := bS BK354 hb; replace HB := hS HB hb; (try clear hb hb2 hk hi)))
   go_meet
   case rel => exact ⟨_, (true), rdT, H', ⟨by first | omega | exact Nat.le_refl _⟩, ⟨soT HO357.out⟩, kpT BK354.out, ⟨hbT HB.out⟩⟩
 case rest =>
  clear HC3; (try clear c2 p2 c5 c8 c9 c9b0 hcz10_0 hcz10_1 hcz10_2 hcz10_3 hcz12_0 hcz12_1 hcz12_2 hcz12_3 hcz14_0 hcz14_1 hcz14_2 hcz14_3 hcz15_0 hcz15_1 hcz15_2 hcz15_3 hfz10_0 hfz10_1 hfz10_2 hfz10_3 hfz12_0 hfz12_1 hfz12_2 hfz12_3 hfz14_0 hfz14_1 hfz14_2 hfz14_3 hfz15_0 hfz15_1 hfz15_2 hfz15_3); obtain ⟨kq, x25_2, rfl, HA, HJ2, HO_5, BK354, HB⟩ := hcut
  cases kq with
  | zero => exact absurd HA.out (by simp [spec_RowsFor.j0])
  | succ kj2 =>
   have H := HA.out; clear HA
   simp only [spec_RowsFor.j0] at H
   by_cases c17 : x25_2 = true
   ·subst c17; rw [if_pos rfl] at H; have H1 := H; clear H; have H := H1; clear H1; obtain rfl := oI H
    go_wp2
    go_ret; exact ⟨_, rlT, soT HO_5.out, hbT HB.out⟩
   ·replace c17 := eE c17; subst c17; rw [if_neg nF] at H; have H' := asT H; clear H
    go_wp2
    go_loopg [5, 6] kj2 (fun kq v5 v6 w' => ∃ (x5_2 : List (S73)) (x6_2 : Int), v6 = .int .i64 x6_2 ∧ Aside0 (spec_RowsFor.l0 kq a1 x5_2 x6_2 a0_0 l0_1 l0_2 l0_3 = some r) ∧ Aside0 (kq ≤ kj2) ∧ Aside0 (Kd.S k73 73 w' w.heap.size (fun _ => True) v5 x5_2) ∧ Aside0 (w'.heap[gb354]? = some (.cells #[.string a0_0, (.slice A0_1 l0_1.length c0_1), (.slice A0_2 l0_2.length c0_2), (.slice A0_3 l0_3.length c0_3)] 27 (0, 0))) ∧ Aside0 (Below w.heap.size w w'))
    case atStart => exact ⟨(y355), (0), rdT, H', ⟨Nat.le_refl _⟩, ⟨soT HO_5.out⟩, kpT BK354.out, ⟨hbT HB.out⟩⟩
    case round =>
     clear H'; (try clear c1 c2 p2 c5 c8 c9 c9b0 c17 hcz10_0 hcz10_1 hcz10_2 hcz10_3 hcz12_0 hcz12_1 hcz12_2 hcz12_3 hcz14_0 hcz14_1 hcz14_2 hcz14_3 hcz15_0 hcz15_1 hcz15_2 hcz15_3 hfz10_0 hfz10_1 hfz10_2 hfz10_3 hfz12_0 hfz12_1 hfz12_2 hfz12_3 hfz14_0 hfz14_1 hfz14_2 hfz14_3 hfz15_0 hfz15_1 hfz15_2 hfz15_3 p2); obtain ⟨x5_2, x6_2, rfl, HA, HK2, HO_5, BK354, HB⟩ := hrel
     cases gk with
     | zero => exact absurd HA.out (by simp [spec_RowsFor.l0])
     | succ k2 =>
      have H := HA.out; clear HA
      simp only [spec_RowsFor.l0] at H
      by_cases c18 : x6_2 < (l0_2.length : Int)
      ·rw [if_pos c18] at H; have c18b0 := dt c18; clear c18; by_cases c19 : 0 ≤ a1
       ·rw [if_pos c19] at H; have c19b0 := dt c19; clear c19; by_cases c20 : a1 < (l0_3.length : Int)
        ·rw [if_pos c20] at H; have c20b0 := dt c20; clear c20; by_cases c21 : 0 ≤ x6_2
         ·rw [if_pos c21] at H; have c21b0 := dt c21; clear c21; by_cases c22 : x6_2 < (l0_3.length : Int)
          ·rw [if_pos c22] at H; have c22b0 := dt c22; clear c22; replace H := Option.bind_eq_some_iff.mp H; obtain ⟨⟨t361, t364⟩, A230, H⟩ := H; replace H : ((spec_IsTrivial.f k2 t361).bind fun t366 => (spec_RowsFor.l1 k2 a1 x5_2 x6_2 t366 0 a0_0 l0_1 l0_2 l0_3 t361)) = some r := H; have A23 := asT A230; clear A230; obtain ⟨t366, A24, H⟩ := be H; have H' := asT H; clear H; obtain ⟨hcz25_0, hcz25_1, hcz25_2, hcz25_3, hfz25_0, hfz25_1, hfz25_2, hfz25_3⟩ := bx4 BK354.out
           try go_wp2
           replace HO_5 := asT (Kd.S_drew HO_5.out); replace BK354 := asT (blk_drew BK354.out); replace HB := asT (below_drew1 HB.out); have p359 : 0 ≤ (a1 : Int) := dT asmT; have q359 : a1 < (l0_3.length : Int) := dT asmT; obtain ⟨ad359, A359_0, c359_0, e359, hx359_0, hl359_0, hi359_0⟩ := at_L6 HR0_3.out a1 p359 q359; have hw359_0 := hx359_0
           cases e359
           replace hx359_0 := hbc HB.out hx359_0; have HR359_0 := asT hi359_0; have HC359_0 := asT hl359_0; clear hi359_0 hl359_0; replace p359 := eq_true p359; replace q359 := eq_true q359; have p360 : 0 ≤ (x6_2 : Int) := dT asmT; have q360 : x6_2 < (l0_3.length : Int) := dT asmT; obtain ⟨ad360, A360_0, c360_0, e360, hx360_0, hl360_0, hi360_0⟩ := at_L6 HR0_3.out x6_2 p360 q360; have hw360_0 := hx360_0; obtain rfl : ad359 = ad360 := (by injection e360); replace hx360_0 := hbc HB.out hx360_0; have HR360_0 := asT hi360_0; have HC360_0 := asT hl360_0; clear hi360_0 hl360_0; replace p360 := eq_true p360; replace q360 := eq_true q360; refine start_ (n := 17) (S := fun w' => w'.cell? ⟨gb354, 0, none⟩ = some (.string a0_0) ∧ w'.cell? ⟨gb354, 1, none⟩ = some (.slice A0_1 l0_1.length c0_1) ∧ w'.cell? ⟨gb354, 2, none⟩ = some (.slice A0_2 l0_2.length c0_2) ∧ w'.cell? ⟨gb354, 3, none⟩ = some (.slice (some ad359) l0_3.length c0_3) ∧ w'.cell? (ad359.add (a1).toNat) = some (.slice A359_0 (rd_L6 l0_3 a1).length c359_0) ∧ w'.cell? (ad359.add (x6_2).toNat) = some (.slice A360_0 (rd_L6 l0_3 x6_2).length c360_0)) (ds := []) (bA 17 0) (by kernel_rfl) rfl rfl ⟨bc0 BK354.out, bc1 BK354.out, bc2 BK354.out, bc3 BK354.out, (hbc HB.out hw359_0 :), (hbc HB.out hw360_0 :)⟩ (fun hHeld => ?_); refine with_tabW spec_RowsFor.tab7 spec_RowsFor.bits7 (fun HT_ HW_ => ?_); generalize wr.drew = w26 at HO_5 BK354 HB HR359_0 HR360_0 hx359_0 hx360_0 hHeld ⊢; refine pA 0 35 17 1 HT_.out ?_ rfl rfl; refine pA 2 37 17 5 HT_.out ?_ rfl rfl; refine pA 5 40 17 37 HT_.out ?_ rfl rfl; refine pA 7 42 17 165 HT_.out ?_ rfl rfl; refine tA 1 36 17 167 HT_.out HW_.out hHeld ?_ rfl rfl; refine pA 3 38 17 175 HT_.out ?_ rfl rfl; refine tA 4 39 17 191 HT_.out HW_.out hHeld ?_ rfl rfl; refine tA 6 41 17 255 HT_.out HW_.out hHeld ?_ rfl rfl; refine pA 8 43 17 511 HT_.out ?_ rfl rfl; refine tA 9 44 17 1023 HT_.out HW_.out hHeld ?_ rfl rfl; refine join_ (σ := Value × Nat) 2 (bA 17 32767) (fun s_ => [(45, .tuple #[.agg #[s_.1], .bool t364]), (7, .pointer (some ⟨s_.2, 0, none⟩)), (34, .tuple #[.agg #[s_.1], .bool t364]), (46, .agg #[s_.1]), (47, .bool t364)]) (fun s_ w' => (w'.cell? ⟨gb354, 0, none⟩ = some (.string a0_0) ∧ w'.cell? ⟨gb354, 1, none⟩ = some (.slice A0_1 l0_1.length c0_1) ∧ w'.cell? ⟨gb354, 2, none⟩ = some (.slice A0_2 l0_2.length c0_2) ∧ w'.cell? ⟨gb354, 3, none⟩ = some (.slice (some ad359) l0_3.length c0_3) ∧ w'.cell? (ad359.add (a1).toNat) = some (.slice A359_0 (rd_L6 l0_3 a1).length c359_0) ∧ w'.cell? (ad359.add (x6_2).toNat) = some (.slice A360_0 (rd_L6 l0_3 x6_2).length c360_0)) ∧ (Kd.R (Kd.int .i64) 3 w' w.heap.size (fun _ => True) s_.1 t361) ∧ (Kd.S k73 73 w' w.heap.size (fun k_ => some k_ ≠ (s_.1 : Value).ownBlock ∧ k_ ≠ s_.2) u5 x5_2) ∧ (w'.heap[gb354]? = some (.cells #[.string a0_0, .slice A0_1 l0_1.length c0_1, .slice A0_2 l0_2.length c0_2, .slice (some ad359) l0_3.length c0_3] 27 (0, 0))) ∧ (w'.heap[s_.2]? = some (.cells #[.slice none 0 0] 73 (0, 0))) ∧ (w.heap.size ≤ s_.2) ∧ (w.heap.size ≤ s_.2) ∧ (gb354 ≠ s_.2) ∧ (s_.2 ≠ gb354) ∧ (Below w.heap.size w w')) ?_ ?_
           rotate_left
           ·intro hCont; refine two_ (i := 10) (j := 14) (Ni := some 45) (Nj := some 7) (bA 17 2047) (bA 17 17407) rfl rfl rfl rfl (two_of HT_.out (by kernel_rfl)) (by decide) (by decide) (fun K hK => ?_) (fun K hK => ?_)
            ·skip
             refine goes_ Tryz.func61 (by kernel_rfl) rfl #[.slice A359_0 (rd_L6 l0_3 a1).length c359_0, .slice A360_0 (rd_L6 l0_3 x6_2).length c360_0] (by rfl) rfl rfl eqT ?_
             (with_reducible refine (spec_RowOf.calls k2 _ _ (rd_L6 l0_3 a1) _ _ (rd_L6 l0_3 x6_2) t361 t364 _ ?side1 ?side2 ?side3 ?side4 A23.out).mono ?_); (case side1 => exact crT HR359_0.out HB.out); (case side2 => exact HC359_0.out); (case side3 => exact crT HR360_0.out HB.out); (case side4 => exact HC360_0.out); rintro e w27 ⟨v362, rfl, ho0, hb⟩; refine ⟨_, rfl, ?_⟩; replace HO_5 := asT (Kd.S_elder' (soT HO_5.out) (Kd.R_base ho0) hb); have HO363 := asT (Kd.R_lower ho0 (below_size (hbT HB.out))); replace BK354 := bS BK354 hb; replace HB := hS HB hb; (try clear hb hb2 hk hi ho0)
             refine hK.out _ _ ⟨bc0 BK354.out, bc1 BK354.out, bc2 BK354.out, bc3 BK354.out, (hbc HB.out hw359_0 :), (hbc HB.out hw360_0 :)⟩ (fun hHeld => ?_); clear hK K; refine nB 45 ?_ rfl; refine pA 11 34 17 4095 HT_.out ?_ rfl rfl; refine pA 12 46 17 8191 HT_.out ?_ rfl rfl; refine pA 13 47 17 16383 HT_.out ?_ rfl rfl; refine oA 14 7 17 32767 HT_.out (fun K hK => ?_) rfl rfl; refine box_step ?hg (N := 7) ?hd (cs := #[.slice none 0 0]) (t := 73) ?hr ?_; (case hd => rfl); (case hg => rfl); (case hr => first | (go_simp; done) | (go_simp; rfl)); intro gb365 hg w28 hbox hb; replace HO_5 := asT (Kd.S_below (Kd.S_elderB (soT HO_5.out) gb365 (Nat.le_of_eq hg.symm)) hb); replace HO363 := asT (Kd.R_below (roT HO363.out) hb); have BK365 := asT (hbox); have GW365 := asT (geT hg HB.out); have GE365 := asT (geT hg HB.out); replace HB := hS HB hb; have NB354_365 := asT ((by rw [hg]; exact Nat.ne_of_lt (blk_lt (g := gb354) (o := .cells #[.string a0_0, .slice A0_1 l0_1.length c0_1, .slice A0_2 l0_2.length c0_2, .slice (some ad359) l0_3.length c0_3] 27 (0, 0)) (bkT BK354.out)) : gb354 ≠ gb365)); have NB365_354 := asT ((by rw [hg]; exact Nat.ne_of_gt (blk_lt (g := gb354) (o := .cells #[.string a0_0, .slice A0_1 l0_1.length c0_1, .slice A0_2 l0_2.length c0_2, .slice (some ad359) l0_3.length c0_3] 27 (0, 0)) (bkT BK354.out)) : gb365 ≠ gb354)); replace BK354 := bS BK354 hb; clear hb hbox hg; refine hK.out _ _ ⟨bc0 BK354.out, bc1 BK354.out, bc2 BK354.out, bc3 BK354.out, (hbc HB.out hw359_0 :), (hbc HB.out hw360_0 :)⟩ (fun hHeld => ?_); clear hK K; refine nB 7 ?_ rfl; exact norm_ (by simp only [putAll, Act.put, sA, sZ, sS]) (hCont (v362, gb365) _ ⟨hHeld, (roT HO363.out), (by (with_reducible repeat (first | apply Kd.S_alloc | apply Kd.S_drewN | apply Kd.S_drew)); exact Kd.S_mono HO_5.out (fun _ hk => ⟨hk.1.2, hk.2⟩)), (bkT BK354.out), (bkT BK365.out), GW365.out, GE365.out, NB354_365.out, NB365_354.out, (hbT HB.out)⟩)
            ·skip
             refine box_step ?hg (N := 7) ?hd (cs := #[.slice none 0 0]) (t := 73) ?hr ?_; (case hd => rfl); (case hg => rfl); (case hr => first | (go_simp; done) | (go_simp; rfl)); intro gb365 hg w27 hbox hb; replace HO_5 := asT (Kd.S_below (Kd.S_elderB (soT HO_5.out) gb365 (Nat.le_of_eq hg.symm)) hb); have BK365 := asT (hbox); have GW365 := asT (geT hg HB.out); have GE365 := asT (geT hg HB.out); replace HB := hS HB hb; have NB354_365 := asT ((by rw [hg]; exact Nat.ne_of_lt (blk_lt (g := gb354) (o := .cells #[.string a0_0, .slice A0_1 l0_1.length c0_1, .slice A0_2 l0_2.length c0_2, .slice (some ad359) l0_3.length c0_3] 27 (0, 0)) (bkT BK354.out)) : gb354 ≠ gb365)); have NB365_354 := asT ((by rw [hg]; exact Nat.ne_of_gt (blk_lt (g := gb354) (o := .cells #[.string a0_0, .slice A0_1 l0_1.length c0_1, .slice A0_2 l0_2.length c0_2, .slice (some ad359) l0_3.length c0_3] 27 (0, 0)) (bkT BK354.out)) : gb365 ≠ gb354)); replace BK354 := bS BK354 hb; clear hb hbox hg; refine hK.out _ _ ⟨bc0 BK354.out, bc1 BK354.out, bc2 BK354.out, bc3 BK354.out, (hbc HB.out hw359_0 :), (hbc HB.out hw360_0 :)⟩ (fun hHeld => ?_); clear hK K; refine nB 7 ?_ rfl; refine oA 10 45 17 18431 HT_.out (fun K hK => ?_) rfl rfl; refine goes_ Tryz.func61 (by kernel_rfl) rfl #[.slice A359_0 (rd_L6 l0_3 a1).length c359_0, .slice A360_0 (rd_L6 l0_3 x6_2).length c360_0] (by rfl) rfl rfl eqT ?_
             (with_reducible refine (spec_RowOf.calls k2 _ _ (rd_L6 l0_3 a1) _ _ (rd_L6 l0_3 x6_2) t361 t364 _ ?side1 ?side2 ?side3 ?side4 A23.out).mono ?_); (case side1 => exact crT HR359_0.out HB.out); (case side2 => exact HC359_0.out); (case side3 => exact crT HR360_0.out HB.out); (case side4 => exact HC360_0.out); rintro e w28 ⟨v362, rfl, ho0, hb⟩; refine ⟨_, rfl, ?_⟩; replace HO_5 := asT (Kd.S_elder' (soT HO_5.out) (Kd.R_base ho0) hb); have HO363 := asT (Kd.R_lower ho0 (below_size (hbT HB.out))); replace BK354 := bS BK354 hb; replace BK365 := bS BK365 hb; replace HB := hS HB hb; (try clear hb hb2 hk hi ho0)
             refine hK.out _ _ ⟨bc0 BK354.out, bc1 BK354.out, bc2 BK354.out, bc3 BK354.out, (hbc HB.out hw359_0 :), (hbc HB.out hw360_0 :)⟩ (fun hHeld => ?_); clear hK K; refine nB 45 ?_ rfl; refine pA 11 34 17 20479 HT_.out ?_ rfl rfl; refine pA 12 46 17 24575 HT_.out ?_ rfl rfl; refine pA 13 47 17 32767 HT_.out ?_ rfl rfl; exact norm_ (by simp only [putAll, Act.put, sA, sZ, sS]) (hCont (v362, gb365) _ ⟨hHeld, (roT HO363.out), (by (with_reducible repeat (first | apply Kd.S_alloc | apply Kd.S_drewN | apply Kd.S_drew)); exact Kd.S_mono HO_5.out (fun _ hk => ⟨hk.2, hk.1.2⟩)), (bkT BK354.out), (bkT BK365.out), GW365.out, GE365.out, NB354_365.out, NB365_354.out, (hbT HB.out)⟩)
           rintro ⟨v362, gb365⟩ w29 ⟨hS_, h0_, h1_, h2_, h3_, h4_, h5_, h6_, h7_, h8_⟩; have n0_ : Aside0 (Kd.R (Kd.int .i64) 3 w29 w.heap.size (fun _ => True) v362 t361) := ⟨h0_⟩; have n1_ : Aside0 (Kd.S k73 73 w29 w.heap.size (fun k_ => some k_ ≠ (v362 : Value).ownBlock ∧ k_ ≠ gb365) u5 x5_2) := ⟨h1_⟩; have n2_ : Aside0 (w29.heap[gb354]? = some (.cells #[.string a0_0, .slice A0_1 l0_1.length c0_1, .slice A0_2 l0_2.length c0_2, .slice (some ad359) l0_3.length c0_3] 27 (0, 0))) := ⟨h2_⟩; have n3_ : Aside0 (w29.heap[gb365]? = some (.cells #[.slice none 0 0] 73 (0, 0))) := ⟨h3_⟩; have n4_ : Aside0 (w.heap.size ≤ gb365) := ⟨h4_⟩; have n5_ : Aside0 (w.heap.size ≤ gb365) := ⟨h5_⟩; have n6_ : Aside0 (gb354 ≠ gb365) := ⟨h6_⟩; have n7_ : Aside0 (gb365 ≠ gb354) := ⟨h7_⟩; have n8_ : Aside0 (Below w.heap.size w w29) := ⟨h8_⟩; clear HO_5 BK354 HB h0_ h1_ h2_ h3_ h4_ h5_ h6_ h7_ h8_; have HO363 := n0_; have HO_5 := n1_; have BK354 := n2_; have BK365 := n3_; have GW365 := n4_; have GE365 := n5_; have NB354_365 := n6_; have NB365_354 := n7_; have HB := n8_; clear n0_ n1_ n2_ n3_ n4_ n5_ n6_ n7_ n8_; have hHeld : w29.cell? ⟨gb354, 0, none⟩ = some (.string a0_0) ∧ w29.cell? ⟨gb354, 1, none⟩ = some (.slice A0_1 l0_1.length c0_1) ∧ w29.cell? ⟨gb354, 2, none⟩ = some (.slice A0_2 l0_2.length c0_2) ∧ w29.cell? ⟨gb354, 3, none⟩ = some (.slice (some ad359) l0_3.length c0_3) ∧ w29.cell? (ad359.add (a1).toNat) = some (.slice A359_0 (rd_L6 l0_3 a1).length c359_0) ∧ w29.cell? (ad359.add (x6_2).toNat) = some (.slice A360_0 (rd_L6 l0_3 x6_2).length c360_0) := hS_; obtain ⟨Ao30, co30, eo30⟩ := Kd.R_slice HO363.out; (first | subst eo30 | (injection eo30 with f1_ f2_ f3_; have f4_ := f1_.symm; have f5_ := f3_.symm; clear f1_ f2_ f3_; subst f4_; subst f5_)); refine norm_ (a' := ?_) ?_ ?_
           rotate_left
           ·simp only [putAll, Act.put, sA, sZ, sS]
            rfl
           refine one_ (i := 15) (N := none) (bA 17 65535) rfl rfl (one_of HT_.out (by kernel_rfl)) (by decide) (fun K hK => ?_); have hs31 : w29.cell? ⟨gb365, 0, none⟩ = some (.slice none 0 0) := (blk_cell BK365.out 0).trans rfl; have hfs31 := blk_frozen BK365.out 0; have hns31_0 := NB354_365.out; have hms31_0 := NB365_354.out; refine skip_ (w1 := ?_) (by rfl) rfl ?_ ?_
           rotate_left
           ·go_simp
            rfl
           refine hK.out _ _ ⟨((cell_far (p := ⟨gb365, _, none⟩) NB354_365.out _).trans (hHeld.1)), ((cell_far (p := ⟨gb365, _, none⟩) NB354_365.out _).trans (hHeld.2.1)), ((cell_far (p := ⟨gb365, _, none⟩) NB354_365.out _).trans (hHeld.2.2.1)), ((cell_far (p := ⟨gb365, _, none⟩) NB354_365.out _).trans (hHeld.2.2.2.1)), ((cell_far (p := ⟨gb365, _, none⟩) (by first | exact Nat.ne_of_lt (Nat.lt_of_lt_of_le (by have := World.block_lt_of_cell? _ _ hw359_0; first | rwa [add_block] at this | exact this) GW365.out) | (rw [add_block]; exact Nat.ne_of_lt (Nat.lt_of_lt_of_le (by have := World.block_lt_of_cell? _ _ hw359_0; first | rwa [add_block] at this | exact this) GW365.out)) | (show (Addr.add _ _).block ≠ _; rw [add_block]; exact Nat.ne_of_lt (Nat.lt_of_lt_of_le (by have := World.block_lt_of_cell? _ _ hw359_0; first | rwa [add_block] at this | exact this) GW365.out)) | (dsimp only; exact Nat.ne_of_lt (Nat.lt_of_lt_of_le (by have := World.block_lt_of_cell? _ _ hw359_0; first | rwa [add_block] at this | exact this) GW365.out))) _).trans (hHeld.2.2.2.2.1)), ((cell_far (p := ⟨gb365, _, none⟩) (by first | exact Nat.ne_of_lt (Nat.lt_of_lt_of_le (by have := World.block_lt_of_cell? _ _ hw360_0; first | rwa [add_block] at this | exact this) GW365.out) | (rw [add_block]; exact Nat.ne_of_lt (Nat.lt_of_lt_of_le (by have := World.block_lt_of_cell? _ _ hw360_0; first | rwa [add_block] at this | exact this) GW365.out)) | (show (Addr.add _ _).block ≠ _; rw [add_block]; exact Nat.ne_of_lt (Nat.lt_of_lt_of_le (by have := World.block_lt_of_cell? _ _ hw360_0; first | rwa [add_block] at this | exact this) GW365.out)) | (dsimp only; exact Nat.ne_of_lt (Nat.lt_of_lt_of_le (by have := World.block_lt_of_cell? _ _ hw360_0; first | rwa [add_block] at this | exact this) GW365.out))) _).trans (hHeld.2.2.2.2.2))⟩ (fun hHeld => ?_); clear hK K; refine pA 16 8 17 131071 HT_.out ?_ rfl rfl; refine done_ (done_of HT_.out (by kernel_rfl)) ?_; have hnb32 := NB365_354.out; have hnc32 := NB354_365.out; obtain ⟨hcz33_0, hfz33_0⟩ := bx1 BK365.out
           try go_wp2_with (first | ((with_reducible refine gate_callee (f := 62) rfl ?_); refine goesL_ (some 49) rfl rfl Tryz.func62 (by kernel_rfl) rfl #[.agg #[.slice Ao30 t361.length co30]] rfl eqT ?_; (with_reducible refine (spec_IsTrivial.calls k2 _ _ t361 t366 _ ?side1 ?side2 A24.out).mono ?_); (case side1 => refine (Kd.R_reads' (e := 3) (base := w.heap.size) (ok := fun k_ => True) (n := t361.length) (c := co30) ?_).2.2; exact (by (with_reducible repeat (first | apply Kd.R_alloc | apply Kd.R_drewN | apply Kd.R_drew)); exact (Kd.R_mono (Kd.R_far (p := ⟨gb365, 0, none⟩) (Kd.R_types HO363.out BK365.out (by decide)) (fun _ hk => hk.2) (.slice Ao30 t361.length co30)) (fun _ h_ => h_.1)))); (case side2 => exact (Kd.R_reads' HO363.out).2.1); rintro e w34 ⟨rfl, hb⟩; refine ⟨_, rfl, ?_⟩; replace HO_5 := asT (Kd.S_below (by (with_reducible repeat (first | apply Kd.S_alloc | apply Kd.S_drewN | apply Kd.S_drew)); exact (Kd.S_mono (Kd.S_far (p := ⟨gb365, 0, none⟩) (Kd.S_mono HO_5.out (fun k_ hk => (⟨hk, hk.2⟩ : _ ∧ k_ ≠ gb365))) (fun _ hk => hk.2) (.slice Ao30 t361.length co30)) (fun _ h_ => h_.1))) hb); replace HO363 := asT (Kd.R_below (by (with_reducible repeat (first | apply Kd.R_alloc | apply Kd.R_drewN | apply Kd.R_drew)); exact (Kd.R_mono (Kd.R_far (p := ⟨gb365, 0, none⟩) (Kd.R_types HO363.out BK365.out (by decide)) (fun _ hk => hk.2) (.slice Ao30 t361.length co30)) (fun _ h_ => h_.1))) hb); replace BK354 := asT (blk_below (g := gb354) (o := .cells #[.string a0_0, .slice A0_1 l0_1.length c0_1, .slice A0_2 l0_2.length c0_2, .slice (some ad359) l0_3.length c0_3] 27 (0, 0)) (by (with_reducible repeat (first | refine blk_drewN ?_ _ | refine blk_drew ?_ | refine blk_alloc ?_ _)); refine blk_far ?_ NB354_365.out _; (with_reducible repeat (first | refine blk_drewN ?_ _ | refine blk_drew ?_ | refine blk_alloc ?_ _)); exact BK354.out) hb); replace BK365 := asT (blk_below (g := gb365) (o := .cells #[.slice Ao30 t361.length co30] 73 (0, 0)) (by (with_reducible repeat (first | refine blk_drewN ?_ _ | refine blk_drew ?_ | refine blk_alloc ?_ _)); refine blk_put (cs := #[.slice none 0 0]) ?_ 0 _ rfl; (with_reducible repeat (first | refine blk_drewN ?_ _ | refine blk_drew ?_ | refine blk_alloc ?_ _)); exact BK365.out) hb); replace HB := hS HB hb; (try clear hb hb2 hk hi)))
           go_loopg [9, 10] k2 (fun kq v9 v10 w' => ∃ (x9_3 : Bool) (x10_3 : Int), v9 = .bool x9_3 ∧ v10 = .int .i64 x10_3 ∧ Aside0 (spec_RowsFor.l1 kq a1 x5_2 x6_2 x9_3 x10_3 a0_0 l0_1 l0_2 l0_3 t361 = some r) ∧ Aside0 (kq ≤ k2) ∧ Aside0 (Kd.S k73 73 w' w.heap.size (fun k_ => some k_ ≠ ((.slice Ao30 t361.length co30) : Value).ownBlock ∧ k_ ≠ gb365) u5 x5_2) ∧ Aside0 (Kd.R (Kd.int .i64) 3 w' w.heap.size (fun _ => True) (.slice Ao30 t361.length co30) t361) ∧ Aside0 (w'.heap[gb354]? = some (.cells #[.string a0_0, (.slice A0_1 l0_1.length c0_1), (.slice A0_2 l0_2.length c0_2), (.slice (some ad359) l0_3.length c0_3)] 27 (0, 0))) ∧ Aside0 (w'.heap[gb365]? = some (.cells #[(.slice Ao30 t361.length co30)] 73 (0, 0))) ∧ Aside0 (Below w.heap.size w w'))
           case atStart => exact ⟨(t366), (0), rdT, rdT, H', ⟨Nat.le_refl _⟩, ⟨soT HO_5.out⟩, ⟨roT HO363.out⟩, kpT BK354.out, kpT BK365.out, ⟨hbT HB.out⟩⟩
           case round =>
            clear H'; (try clear c1 c2 p2 c3 p3 q3 hx3 c5 c6 c8 c9 c9b0 c17 c18 c18b0 c19 c19b0 c20 c20b0 c21 c21b0 c22 c22b0 c24 c32 hcz10_0 hcz10_1 hcz10_2 hcz10_3 hcz12_0 hcz12_1 hcz12_2 hcz12_3 hcz14_0 hcz14_1 hcz14_2 hcz14_3 hcz15_0 hcz15_1 hcz15_2 hcz15_3 hcz25_0 hcz25_1 hcz25_2 hcz25_3 hcz33_0 hfz10_0 hfz10_1 hfz10_2 hfz10_3 hfz12_0 hfz12_1 hfz12_2 hfz12_3 hfz14_0 hfz14_1 hfz14_2 hfz14_3 hfz15_0 hfz15_1 hfz15_2 hfz15_3 hfz25_0 hfz25_1 hfz25_2 hfz25_3 hfz33_0 hx359_0 hx360_0 p2 p359 p360 q359 q360); obtain ⟨x9_3, x10_3, rfl, rfl, HA, HK3, HO_5, HO_366000, BK354, BK365, HB⟩ := hrel
            cases gk with
            | zero => exact absurd HA.out (by simp [spec_RowsFor.l1])
            | succ k3 =>
             have H := HA.out; clear HA
             simp only [spec_RowsFor.l1] at H
             by_cases c35 : x10_3 < (x5_2.length : Int)
             ·rw [if_pos c35] at H; have c35b0 := dt c35; clear c35; by_cases c36 : x9_3 = true
              ·subst c36; rw [if_pos rfl] at H; have H' := asT H; clear H; obtain ⟨Ao37, co37, eo37⟩ := Kd.S_slice HO_5.out; subst eo37
               try go_wp2
               replace HO_5 := asT (Kd.S_drew HO_5.out); replace HO_366000 := asT (Kd.R_drew HO_366000.out); replace BK354 := asT (blk_drew BK354.out); replace BK365 := asT (blk_drew BK365.out); replace HB := asT (below_drew1 HB.out); refine start_ (n := 10) (S := fun w' => True) (ds := []) (bA 10 0) (by kernel_rfl) rfl rfl trivial (fun hHeld => ?_); refine with_tabW spec_RowsFor.tab12 spec_RowsFor.bits12 (fun HT_ HW_ => ?_); generalize wr.drew = w38 at HO_5 HO_366000 BK354 BK365 HB hHeld ⊢; refine pA 0 56 10 1 HT_.out ?_ rfl rfl; refine pA 1 57 10 3 HT_.out ?_ rfl rfl; refine uA 2 58 10 7 HT_.out ?_ rfl rfl; refine uA 3 59 10 15 HT_.out ?_ rfl rfl; refine uA 4 60 10 31 HT_.out ?_ rfl rfl; refine uA 5 61 10 63 HT_.out ?_ rfl rfl; refine uA 6 62 10 127 HT_.out ?_ rfl rfl; refine uA 7 63 10 255 HT_.out ?_ rfl rfl; refine pA 8 64 10 511 HT_.out ?_ rfl rfl; refine pA 9 9 10 1023 HT_.out ?_ rfl rfl; refine done_ (done_of HT_.out (by kernel_rfl)) ?_
               try go_wp2
               go_roundg k3
               case measure => have := HJ2.out; have := HK2.out; have := HK3.out; omega
               case rel => exact ⟨(true), (wrap64 (x10_3 + 1)), rdT, rdT, H', ⟨by have := HJ2.out; have := HK2.out; have := HK3.out; omega⟩, ⟨soT HO_5.out⟩, ⟨roT HO_366000.out⟩, kpT BK354.out, kpT BK365.out, ⟨hbT HB.out⟩⟩
              ·replace c36 := eE c36; subst c36; rw [if_neg nF] at H; have H1 := H; clear H; have H := H1; clear H1; by_cases c39 : 0 ≤ x10_3
               ·rw [if_pos c39] at H; have c39b0 := dt c39; clear c39; obtain ⟨t368, A40, H⟩ := be H; have H' := asT H; clear H; obtain ⟨Ao41, co41, eo41⟩ := Kd.S_slice HO_5.out; subst eo41
                try go_wp2
                replace HO_5 := asT (Kd.S_drew HO_5.out); replace HO_366000 := asT (Kd.R_drew HO_366000.out); replace BK354 := asT (blk_drew BK354.out); replace BK365 := asT (blk_drew BK365.out); replace HB := asT (below_drew1 HB.out); have p367 : 0 ≤ (x10_3 : Int) := dT asmT; have q367 : x10_3 < (x5_2.length : Int) := dT asmT; obtain ⟨ad367, A367_0, c367_0, e367, hx367_0, hl367_0, hi367_0⟩ := at_T73 (Kd.S_reads' HO_5.out).2.2 x10_3 p367 q367
                cases e367
                obtain ⟨ce367, hce367, hMe367, hcc367⟩ := Kd.S_get HO_5.out z73 x10_3 p367 (by first | exact q367 | exact dT asmT | (have e_ := (Kd.S_reads' HO_5.out).1; omega)); obtain ⟨ve367_0, rfl, ge367_0⟩ := k73_openM hMe367; have hv367_0 := hcc367 0 _ rfl; rw [Nat.add_zero, show (k73).sz = 1 from rfl, Nat.mul_one] at hv367_0; replace hv367_0 := oI (hv367_0.symm.trans hx367_0); rw [hv367_0] at ge367_0; have HL367_0 := asT (show Kd.R (Kd.int .i64) 3 _ _ _ _ ((rd_T73 x5_2 x10_3).f0) from ge367_0); clear hv367_0 ge367_0 hcc367 hce367; have HR367_0 := asT hi367_0; have HC367_0 := asT hl367_0; clear hi367_0 hl367_0; replace p367 := eq_true p367; replace q367 := eq_true q367; refine start_ (n := 10) (S := fun w' => w'.cell? ⟨gb365, 0, none⟩ = some (.slice Ao30 t361.length co30) ∧ w'.cell? (ad367.add (x10_3).toNat) = some (.slice A367_0 ((rd_T73 x5_2 x10_3).f0).length c367_0)) (ds := []) (bA 10 0) (by kernel_rfl) rfl rfl ⟨bc0 BK365.out, hx367_0⟩ (fun hHeld => ?_); refine with_tabW spec_RowsFor.tab12 spec_RowsFor.bits12 (fun HT_ HW_ => ?_); generalize wr.drew = w42 at HO_5 HO_366000 BK354 BK365 HB HL367_0 HR367_0 hx367_0 hHeld ⊢; refine pA 0 56 10 1 HT_.out ?_ rfl rfl; refine pA 1 57 10 3 HT_.out ?_ rfl rfl; refine pA 2 58 10 7 HT_.out ?_ rfl rfl; refine pA 3 59 10 15 HT_.out ?_ rfl rfl; refine pA 4 60 10 31 HT_.out ?_ rfl rfl; refine tA 5 61 10 63 HT_.out HW_.out hHeld ?_ rfl rfl; refine tA 6 62 10 127 HT_.out HW_.out hHeld ?_ rfl rfl; refine oA 7 63 10 255 HT_.out (fun K hK => ?_) rfl rfl; refine goes_ Tryz.func63 (by kernel_rfl) rfl #[.agg #[.slice A367_0 ((rd_T73 x5_2 x10_3).f0).length c367_0], .agg #[.slice Ao30 t361.length co30]] (by rfl) rfl rfl eqT ?_
                (with_reducible refine (spec_l13Same.calls k3 _ _ ((rd_T73 x5_2 x10_3).f0) _ _ t361 t368 _ ?side1 ?side2 ?side3 ?side4 A40.out).mono ?_); (case side1 => repeat (first | exact (by repeat (first | (with_reducible exact HR367_0.out) | (with_reducible refine Kd.C_alloc ?_ _) | (with_reducible refine Kd.C_drewN ?_ _) | (with_reducible refine Kd.C_drew ?_) | exact HR367_0.out)) | (with_reducible refine Kd.C_alloc ?_ _) | (with_reducible refine Kd.C_drewN ?_ _) | (with_reducible refine Kd.C_drew ?_))); (case side2 => exact HC367_0.out); (case side3 => exact caT (Kd.R_reads' HO_366000.out).2.2); (case side4 => exact (Kd.R_reads' HO_366000.out).2.1); rintro e w43 ⟨rfl, hb⟩; have HS1_ := (hb.cell (World.block_lt_of_cell? _ _ (hHeld.2))).trans (hHeld.2); refine ⟨_, rfl, ?_⟩; replace HO_5 := asT (Kd.S_below (soT HO_5.out) hb); replace HO_366000 := asT (Kd.R_below (roT HO_366000.out) hb); replace HL367_0 := asT (Kd.R_below (roT HL367_0.out) hb); replace BK354 := bS BK354 hb; replace BK365 := bS BK365 hb; replace HR367_0 := asT (Kd.C_below (by repeat (first | (with_reducible exact HR367_0.out) | (with_reducible refine Kd.C_alloc ?_ _) | (with_reducible refine Kd.C_drewN ?_ _) | (with_reducible refine Kd.C_drew ?_) | exact HR367_0.out)) hb); replace HB := hS HB hb; (try clear hb hb2 hk hi)
                refine hK.out _ _ ⟨bc0 BK365.out, HS1_⟩ (fun hHeld => ?_); clear hK K; refine nB 63 ?_ rfl; refine pA 8 64 10 511 HT_.out ?_ rfl rfl; refine pA 9 9 10 1023 HT_.out ?_ rfl rfl; refine done_ (done_of HT_.out (by kernel_rfl)) ?_
                try go_wp2
                go_roundg k3
                case measure => have := HJ2.out; have := HK2.out; have := HK3.out; omega
                case rel => exact ⟨(t368), (wrap64 (x10_3 + 1)), rdT, rdT, H', ⟨by have := HJ2.out; have := HK2.out; have := HK3.out; omega⟩, ⟨soT HO_5.out⟩, ⟨roT HO_366000.out⟩, kpT BK354.out, kpT BK365.out, ⟨hbT HB.out⟩⟩
               ·rw [if_neg c39] at H; exact absurd H (by simp)
             ·rw [if_neg c35] at H; have c35b0 := df c35; clear c35; by_cases c44 : x9_3 = true
              ·subst c44; rw [if_pos rfl] at H; have H' := asT H; clear H; obtain ⟨Ao45, co45, eo45⟩ := Kd.S_slice HO_5.out; subst eo45
               go_wp2
               go_roundg k3
               case measure => have := HJ2.out; have := HK2.out; have := HK3.out; omega
               case rel => exact ⟨(x5_2), (wrap64 (x6_2 + 1)), rdT, H', ⟨by have := HJ2.out; have := HK2.out; have := HK3.out; omega⟩, ⟨by (with_reducible repeat (first | apply Kd.S_alloc | apply Kd.S_drewN | apply Kd.S_drew)); exact Kd.S_mono HO_5.out (fun _ hk => trivial)⟩, kpT BK354.out, ⟨hbT HB.out⟩⟩
              ·replace c44 := eE c44; subst c44; rw [if_neg nF] at H; have H1 := H; clear H; have H := H1; clear H1; by_cases c46 : x5_2.length < 5864062014805
               ·rw [if_pos c46] at H; have LMc46 := asT c46; clear c46; obtain ⟨y369, hy369⟩ : ∃ y_ : List (S73), y_ = (x5_2 ++ [(⟨t361⟩ : S73)]) := ⟨_, rfl⟩
                replace H : (spec_RowsFor.l0 k3 a1 y369 (wrap64 (x6_2 + 1)) a0_0 l0_1 l0_2 l0_3) = some r := by first | (rw [hy369]; with_reducible exact H) | (have H2_ := (Option.bind_some _ _).symm.trans H; rw [hy369]; with_reducible exact H2_) | (have H2_ := (Option.bind_some _ _).symm.trans H; with_reducible exact H2_) | with_reducible exact H | (rw [hy369]; exact H) | exact H
                have Ny369 := asT hy369; clear hy369; have H' := asT H; clear H; obtain ⟨Ao47, co47, eo47⟩ := Kd.S_slice HO_5.out; subst eo47; have hnb48 := NB365_354.out; have hnc48 := NB354_365.out; obtain ⟨hcz49_0, hfz49_0⟩ := bx1 BK365.out
                go_wp2_with (first | ((with_reducible refine gate_builtin (b := .append) (xs := #[.tmp 67, .tmp 69]) rfl ?_); (try (refine gate_guard (by rfl) ?_; dsimp only)); at_builtin; refine Kd.S_append k73 (w0 := w) w.heap.size rfl (.tmp 67) (.tmp 69) 45 73 (.agg #[(.slice none 0 0)]) 24 rfl Tryz.underlying45 info73 rfl (by decide) (by omega) (.slice Ao47 x5_2.length co47) x5_2 (⟨t361⟩ : S73) [.slice Ao30 t361.length co30] (fun k_ => k_ ≠ gb365) (fun k_ => some k_ = (.slice Ao30 t361.length co30 : Value).ownBlock) rfl rfl ?aP (fun k_ hk_ => ((Kd.R_mono (ok' := fun k_ => ((fun k_ => k_ ≠ gb365)) k_ ∧ some k_ ≠ (.slice Ao47 x5_2.length co47 : Value).ownBlock) (Kd.R_types (Kd.R_apart' (HO_366000.out) (Kd.S_typed HO_5.out) (by decide)) BK365.out (by decide)) (fun k_ hk => ⟨hk.2, hk.1.2⟩))).1 k_ hk_.symm) ?aF ?aO ?aB ?aS ?aL ?_; (case aP => exact k73_mkM _ _ _ (⟨t361⟩ : S73) (Kd.R_mono (Kd.R_tight rfl (Kd.R_mono (ok' := fun k_ => ((fun k_ => k_ ≠ gb365)) k_ ∧ some k_ ≠ (.slice Ao47 x5_2.length co47 : Value).ownBlock) (Kd.R_types (Kd.R_apart' (HO_366000.out) (Kd.S_typed HO_5.out) (by decide)) BK365.out (by decide)) (fun k_ hk => ⟨hk.2, hk.1.2⟩))) (fun _ h_ => h_))); (case aB => exact (hbT HB.out)); (case aF => exact (fun k_ hk => Kd.freshB (g := gb365) (o := .cells #[.slice Ao30 t361.length co30] 73 (0, 0)) (bkT BK365.out) k_ hk)); (case aO => exact (by (with_reducible repeat (first | apply Kd.S_alloc | apply Kd.S_drewN | apply Kd.S_drew)); exact Kd.S_mono HO_5.out (fun k_ hk => ⟨hk.2, fun e_ => hk.1 e_⟩))); (case aS => exact (below_size (hbT HB.out))); (case aL => have := LMc46.out; omega); intro v370 w50 ho hb hg hat; rw [← Ny369.out] at ho; replace BK354 := asT (blk_grown (g := gb354) (o := .cells #[.string a0_0, .slice A0_1 l0_1.length c0_1, .slice A0_2 l0_2.length c0_2, .slice (some ad359) l0_3.length c0_3] 27 (0, 0)) (bkT BK354.out) hg (Kd.S_ne HO_5.out BK354.out (by decide))); replace BK365 := asT (blk_grown (g := gb365) (o := .cells #[.slice Ao30 t361.length co30] 73 (0, 0)) (bkT BK365.out) hg (Kd.S_away HO_5.out (fun _ hk => hk.2))); replace HB := asT (hb); have HO371 := asT (ho); clear HO_5 HO_366000 ho hb hg hat))
                go_roundg k3
                case measure => have := HJ2.out; have := HK2.out; have := HK3.out; omega
                case rel => exact ⟨(y369), (wrap64 (x6_2 + 1)), rdT, H', ⟨by have := HJ2.out; have := HK2.out; have := HK3.out; omega⟩, ⟨by (with_reducible repeat (first | apply Kd.S_alloc | apply Kd.S_drewN | apply Kd.S_drew)); exact Kd.S_mono HO371.out (fun _ hk => trivial)⟩, kpT BK354.out, ⟨hbT HB.out⟩⟩
               ·rw [if_neg c46] at H; exact absurd H (by simp)
          ·rw [if_neg c22] at H; exact absurd H (by simp)
         ·rw [if_neg c21] at H; exact absurd H (by simp)
        ·rw [if_neg c20] at H; exact absurd H (by simp)
       ·rw [if_neg c19] at H; exact absurd H (by simp)
      ·rw [if_neg c18] at H; have c18b0 := df c18; clear c18; obtain rfl := oI H; obtain ⟨hcz51_0, hcz51_1, hcz51_2, hcz51_3, hfz51_0, hfz51_1, hfz51_2, hfz51_3⟩ := bx4 BK354.out
       go_wp2
       go_ret; exact ⟨_, rlT, soT HO_5.out, hbT HB.out⟩
def slices_Index_string_string.l0 : Nat → List ByteArray → ByteArray → Int → Int → Option (Int)
 | 0, _, _, _, _ => none
 | k + 1, x0, x1, x7, x8 => if x8 < x7 then (if 0 ≤ x8 then (if x8 < (x0.length : Int) then (if x1.toList = (rdOf ByteArray.empty x0 x8).toList then (some x8) else (slices_Index_string_string.l0 k x0 x1 x7 (wrap64 (x8 + 1)))) else (none)) else (none)) else (some (-1))
def slices_Index_string_string.f (k : Nat) (l0 : List ByteArray) (a1 : ByteArray) : Option (Int) := slices_Index_string_string.l0 k l0 a1 (l0.length : Int) 0
theorem slices_Index_string_string.mono_l : ∀ k, (∀ y0 y1 y2 y3, LeO (slices_Index_string_string.l0 k y0 y1 y2 y3) (slices_Index_string_string.l0 (k + 1) y0 y1 y2 y3))
 | 0 => fun _ _ _ _ r h => by simp [slices_Index_string_string.l0] at h
 | k + 1 => by
  have ih0 := slices_Index_string_string.mono_l k
  ·intro y0 y1 y2 y3; unfold slices_Index_string_string.l0
   with_reducible repeat' first | exact ih0 _ _ _ _ | exact LeO.refl _ | exact LeO.none _ | refine LeO.ite ?_ ?_ | refine LeO.bind ?_ (fun _ => ?_)
theorem slices_Index_string_string.mono : ∀ a0 a1 k, LeO (slices_Index_string_string.f k a0 a1) (slices_Index_string_string.f (k + 1) a0 a1) := by
 intro a0 a1 k; have ih0 := slices_Index_string_string.mono_l k; unfold slices_Index_string_string.f
 with_reducible repeat' first | exact ih0 _ _ _ _ | exact LeO.refl _ | exact LeO.none _ | refine LeO.ite ?_ ?_ | refine LeO.bind ?_ (fun _ => ?_)
theorem slices_Index_string_string.calls (k : Nat) (A0 : Option Addr) (c0 : Nat) (l0 : List ByteArray) (a1 : ByteArray) (r : Int) (w : World) (hr0 : Kd.C Kd.string w A0 l0.length l0) (hc0 : l0.length ≤ c0) (h : slices_Index_string_string.f k l0 a1 = some r) :
  Calls Tryz.prog 122 #[.slice A0 l0.length c0, .string a1] w fun e w' => e = .returned (.int .i64 r) ∧ Drawn0 w w' := by
 have HR0 := asT hr0; have HC0 := asT hc0; clear hr0 hc0; have H := h; unfold slices_Index_string_string.f at H; clear h; have H' := asT H; clear H; go_enter Tryz.func122, Tryz.ntmps122
 go_wp2
 go_loopg [8] k (fun kq v8 w' => ∃ (x8_1 : Int), v8 = .int .i64 x8_1 ∧ Aside0 (slices_Index_string_string.l0 kq l0 a1 (l0.length : Int) x8_1 = some r) ∧ Aside0 (kq ≤ k) ∧ Drawn0 w w')
 case atStart => exact ⟨(0), rdT, H', ⟨Nat.le_refl _⟩, drT⟩
 case round =>
  clear H'; (try clear c1 p2); obtain ⟨x8_1, rfl, HA, HK1, ⟨m1, rfl⟩⟩ := hrel
  cases gk with
  | zero => exact absurd HA.out (by simp [slices_Index_string_string.l0])
  | succ k1 =>
   have H := HA.out; clear HA
   simp only [slices_Index_string_string.l0] at H
   by_cases c3 : x8_1 < (l0.length : Int)
   ·rw [if_pos c3] at H; have c3b0 := dt c3; clear c3; by_cases c4 : 0 ≤ x8_1
    ·rw [if_pos c4] at H; have c4b0 := dt c4; clear c4; by_cases c5 : x8_1 < (l0.length : Int)
     ·rw [if_pos c5] at H; have c5b0 := dt c5; clear c5; by_cases c6 : a1.toList = (rdOf ByteArray.empty l0 x8_1).toList
      ·rw [if_pos c6] at H; have c6b0 : (a1.toList == (rdOf ByteArray.empty l0 x8_1).toList) = true := eC c6; have c6b1 : (a1.toList != (rdOf ByteArray.empty l0 x8_1).toList) = false := eA c6; clear c6; obtain rfl := oI H; have p372 : 0 ≤ (x8_1 : Int) := dT asmT; have q372 : x8_1 < (l0.length : Int) := dT asmT; obtain ⟨ad372, e372, hx372_0⟩ := Kd.at_string HR0.out x8_1 p372 q372
       cases e372
       replace p372 := eq_true p372; replace q372 := eq_true q372
       go_wp2
       go_ret; exact ⟨rdT, drT⟩
      ·rw [if_neg c6] at H; have c6b0 : (a1.toList == (rdOf ByteArray.empty l0 x8_1).toList) = false := eB c6; have c6b1 : (a1.toList != (rdOf ByteArray.empty l0 x8_1).toList) = true := eD c6; have H' := asT H; clear H; have p372 : 0 ≤ (x8_1 : Int) := dT asmT; have q372 : x8_1 < (l0.length : Int) := dT asmT; obtain ⟨ad372, e372, hx372_0⟩ := Kd.at_string HR0.out x8_1 p372 q372
       cases e372
       replace p372 := eq_true p372; replace q372 := eq_true q372
       go_wp2
       go_roundg k1
       case measure => have := HK1.out; omega
       case rel => exact ⟨(wrap64 (x8_1 + 1)), rdT, H', ⟨by have := HK1.out; omega⟩, drT⟩
     ·rw [if_neg c5] at H; exact absurd H (by simp)
    ·rw [if_neg c4] at H; exact absurd H (by simp)
   ·rw [if_neg c3] at H; have c3b0 := df c3; clear c3; obtain rfl := oI H
    go_wp2
    go_ret; exact ⟨rdT, drT⟩
def slices_Contains_string_string.f (k : Nat) (l0 : List ByteArray) (a1 : ByteArray) : Option (Bool) := (slices_Index_string_string.f k l0 a1).bind fun t373 => (some (decide (t373 ≥ 0)))
theorem slices_Contains_string_string.mono : ∀ a0 a1 k, LeO (slices_Contains_string_string.f k a0 a1) (slices_Contains_string_string.f (k + 1) a0 a1) := by
 intro a0 a1 k; unfold slices_Contains_string_string.f
 with_reducible repeat' first | exact slices_Index_string_string.mono _ _ _ | exact LeO.refl _ | exact LeO.none _ | refine LeO.ite ?_ ?_ | refine LeO.bind ?_ (fun _ => ?_)
theorem slices_Contains_string_string.calls (k : Nat) (A0 : Option Addr) (c0 : Nat) (l0 : List ByteArray) (a1 : ByteArray) (r : Bool) (w : World) (hr0 : Kd.C Kd.string w A0 l0.length l0) (hc0 : l0.length ≤ c0) (h : slices_Contains_string_string.f k l0 a1 = some r) :
  Calls Tryz.prog 80 #[.slice A0 l0.length c0, .string a1] w fun e w' => e = .returned (.bool r) ∧ Drawn0 w w' := by
 have HR0 := asT hr0; have HC0 := asT hc0; clear hr0 hc0; have H := h; unfold slices_Contains_string_string.f at H; clear h; obtain ⟨t373, A3, H⟩ := be H; obtain rfl := oI H; go_enter Tryz.func80, Tryz.ntmps80
 go_wp2_with (first | ((with_reducible refine gate_callee (f := 122) rfl ?_); refine goesL_ (some 7) rfl rfl Tryz.func122 (by kernel_rfl) rfl #[.slice A0 l0.length c0, .string a1] rfl eqT ?_; (with_reducible refine (slices_Index_string_string.calls k _ _ l0 a1 t373 _ ?side1 ?side2 A3.out).mono ?_); (case side1 => exact caT HR0.out); (case side2 => exact HC0.out); rintro e w' ⟨rfl, ⟨nd, rfl⟩⟩; refine ⟨_, rfl, ?_⟩))
 go_ret; exact ⟨rdT, drT⟩
def impl_ConstraintNames.f  : Option (List ByteArray) := some (([(⟨#[111, 110, 115, 101, 116]⟩ : ByteArray), (⟨#[110, 111, 99, 111, 100, 97]⟩ : ByteArray), (⟨#[99, 108, 117, 115, 116, 101, 114]⟩ : ByteArray), (⟨#[118, 111, 105, 99, 101]⟩ : ByteArray), (⟨#[102, 105, 110, 97, 108]⟩ : ByteArray), (⟨#[110, 97, 115, 97, 108]⟩ : ByteArray), (⟨#[109, 97, 120]⟩ : ByteArray), (⟨#[100, 101, 112]⟩ : ByteArray), (⟨#[105, 100, 101, 110, 116]⟩ : ByteArray), (⟨#[99, 111, 110, 116, 105, 103]⟩ : ByteArray)] : List ByteArray))
theorem impl_ConstraintNames.calls  (r : List ByteArray) (w : World) (h : impl_ConstraintNames.f  = some r) :
  Calls Tryz.prog 81 #[] w fun e w' => ∃ v0_ : Value, e = .returned (v0_) ∧ Kd.R Kd.string 9 w' w.heap.size (fun _ => True) v0_ r ∧ Below w.heap.size w w' := by
 have HB := asT (Below.refl w.heap.size w); have H := h; unfold impl_ConstraintNames.f at H; clear h; obtain ⟨y374, hy374⟩ : ∃ y_ : List ByteArray, y_ = (([(⟨#[111, 110, 115, 101, 116]⟩ : ByteArray), (⟨#[110, 111, 99, 111, 100, 97]⟩ : ByteArray), (⟨#[99, 108, 117, 115, 116, 101, 114]⟩ : ByteArray), (⟨#[118, 111, 105, 99, 101]⟩ : ByteArray), (⟨#[102, 105, 110, 97, 108]⟩ : ByteArray), (⟨#[110, 97, 115, 97, 108]⟩ : ByteArray), (⟨#[109, 97, 120]⟩ : ByteArray), (⟨#[100, 101, 112]⟩ : ByteArray), (⟨#[105, 100, 101, 110, 116]⟩ : ByteArray), (⟨#[99, 111, 110, 116, 105, 103]⟩ : ByteArray)] : List ByteArray)) := ⟨_, rfl⟩
 replace H : (some y374) = some r := by first | (rw [hy374]; with_reducible exact H) | (have H2_ := (Option.bind_some _ _).symm.trans H; rw [hy374]; with_reducible exact H2_) | (have H2_ := (Option.bind_some _ _).symm.trans H; with_reducible exact H2_) | with_reducible exact H | (rw [hy374]; exact H) | exact H
 have Ny374 := asT hy374; clear hy374; obtain rfl := oI H; go_enter Tryz.func81, Tryz.ntmps81
 go_wp2_with (first | ((with_reducible refine gate_dst (N := 1) rfl ?_); refine Kd.R_lit Kd.string _ 9 ?hg (N := 1) ?hd (xs := ([(⟨#[111, 110, 115, 101, 116]⟩ : ByteArray), (⟨#[110, 111, 99, 111, 100, 97]⟩ : ByteArray), (⟨#[99, 108, 117, 115, 116, 101, 114]⟩ : ByteArray), (⟨#[118, 111, 105, 99, 101]⟩ : ByteArray), (⟨#[102, 105, 110, 97, 108]⟩ : ByteArray), (⟨#[110, 97, 115, 97, 108]⟩ : ByteArray), (⟨#[109, 97, 120]⟩ : ByteArray), (⟨#[100, 101, 112]⟩ : ByteArray), (⟨#[105, 100, 101, 110, 116]⟩ : ByteArray), (⟨#[99, 111, 110, 116, 105, 103]⟩ : ByteArray)] : List ByteArray)) (inner := [.string (⟨#[111, 110, 115, 101, 116]⟩ : ByteArray), .string (⟨#[110, 111, 99, 111, 100, 97]⟩ : ByteArray), .string (⟨#[99, 108, 117, 115, 116, 101, 114]⟩ : ByteArray), .string (⟨#[118, 111, 105, 99, 101]⟩ : ByteArray), .string (⟨#[102, 105, 110, 97, 108]⟩ : ByteArray), .string (⟨#[110, 97, 115, 97, 108]⟩ : ByteArray), .string (⟨#[109, 97, 120]⟩ : ByteArray), .string (⟨#[100, 101, 112]⟩ : ByteArray), .string (⟨#[105, 100, 101, 110, 116]⟩ : ByteArray), .string (⟨#[99, 111, 110, 116, 105, 103]⟩ : ByteArray)]) (ok := fun _ => True) (okp := fun _ => True) ?hr ?hp (fun _ hk => hk) trivial (Below.refl _ _) (Nat.le_refl _) (by simp) ?_; (case hd => rfl); (case hg => rfl); (case hr => first | (go_simp; done) | (go_simp; rfl)); (case hp => exact (Reps.one (show Kd.M Kd.string _ _ _ (⟨#[111, 110, 115, 101, 116]⟩ : ByteArray) [.string (⟨#[111, 110, 115, 101, 116]⟩ : ByteArray)] from rfl) (Reps.one (show Kd.M Kd.string _ _ _ (⟨#[110, 111, 99, 111, 100, 97]⟩ : ByteArray) [.string (⟨#[110, 111, 99, 111, 100, 97]⟩ : ByteArray)] from rfl) (Reps.one (show Kd.M Kd.string _ _ _ (⟨#[99, 108, 117, 115, 116, 101, 114]⟩ : ByteArray) [.string (⟨#[99, 108, 117, 115, 116, 101, 114]⟩ : ByteArray)] from rfl) (Reps.one (show Kd.M Kd.string _ _ _ (⟨#[118, 111, 105, 99, 101]⟩ : ByteArray) [.string (⟨#[118, 111, 105, 99, 101]⟩ : ByteArray)] from rfl) (Reps.one (show Kd.M Kd.string _ _ _ (⟨#[102, 105, 110, 97, 108]⟩ : ByteArray) [.string (⟨#[102, 105, 110, 97, 108]⟩ : ByteArray)] from rfl) (Reps.one (show Kd.M Kd.string _ _ _ (⟨#[110, 97, 115, 97, 108]⟩ : ByteArray) [.string (⟨#[110, 97, 115, 97, 108]⟩ : ByteArray)] from rfl) (Reps.one (show Kd.M Kd.string _ _ _ (⟨#[109, 97, 120]⟩ : ByteArray) [.string (⟨#[109, 97, 120]⟩ : ByteArray)] from rfl) (Reps.one (show Kd.M Kd.string _ _ _ (⟨#[100, 101, 112]⟩ : ByteArray) [.string (⟨#[100, 101, 112]⟩ : ByteArray)] from rfl) (Reps.one (show Kd.M Kd.string _ _ _ (⟨#[105, 100, 101, 110, 116]⟩ : ByteArray) [.string (⟨#[105, 100, 101, 110, 116]⟩ : ByteArray)] from rfl) (Reps.one (show Kd.M Kd.string _ _ _ (⟨#[99, 111, 110, 116, 105, 103]⟩ : ByteArray) [.string (⟨#[99, 111, 110, 116, 105, 103]⟩ : ByteArray)] from rfl) (Reps.none _ _)))))))))))); intro v375 w1 ho2 hb hg_ hnew_; clear hg_ hnew_; (first | rw [← Ny374.out] at ho2 | (simp only [Int.reduceToNat] at ho2; rw [← Ny374.out] at ho2)); have HO376 := asT (Kd.R_lower ho2 (below_size (hbT HB.out))); replace HB := hS HB hb; clear hb ho2))
 go_ret; exact ⟨_, rlT, roT HO376.out, hbT HB.out⟩
def impl_within.f (a0 : Int) (a1 : Int) (a2 : Int) : Option (Bool) := if a1 ≤ a0 then (some (decide (a0 ≤ a2))) else (some false)
theorem impl_within.calls (a0 : Int) (a1 : Int) (a2 : Int) (r : Bool) (w : World) (h : impl_within.f a0 a1 a2 = some r) :
  Calls Tryz.prog 82 #[.int .i64 a0, .int .i64 a1, .int .i64 a2] w fun e w' => e = .returned (.bool r) ∧ Drawn0 w w' := by
 have H := h; unfold impl_within.f at H; clear h; by_cases c4 : a1 ≤ a0
 ·rw [if_pos c4] at H; have c4b0 := dt c4; clear c4; obtain rfl := oI H; go_enter Tryz.func82, Tryz.ntmps82
  go_wp2
  go_ret; exact ⟨rdT, drT⟩
 ·rw [if_neg c4] at H; have c4b0 := df c4; clear c4; obtain rfl := oI H; go_enter Tryz.func82, Tryz.ntmps82
  go_wp2
  go_ret; exact ⟨rdT, drT⟩
def impl_AreConstraints.l0 : Nat → List ByteArray → List ByteArray → Int → Int → Option (Bool)
 | 0, _, _, _, _ => none
 | k + 1, x0, x5, x6, x7 => if x7 < x6 then (if 0 ≤ x7 then (if x7 < (x5.length : Int) then ((impl_ConstraintNames.f).bind fun t379 => ((slices_Contains_string_string.f k t379 (rdOf ByteArray.empty x5 x7)).bind fun t382 => (if t382 = true then (if x7 ≤ (x0.length : Int) then ((slices_Contains_string_string.f k (x0.take (x7 : Int).toNat) (rdOf ByteArray.empty x5 x7)).bind fun t384 => (if t384 = true then (some false) else (impl_AreConstraints.l0 k x0 x5 x6 (wrap64 (x7 + 1))))) else (none)) else (some false)))) else (none)) else (none)) else ((impl_within.f (x0.length : Int) 1 5).bind fun t377 => (some t377))
def impl_AreConstraints.f (k : Nat) (l0 : List ByteArray) : Option (Bool) := impl_AreConstraints.l0 k l0 l0 (l0.length : Int) 0
theorem impl_AreConstraints.mono_l : ∀ k, (∀ y0 y1 y2 y3, LeO (impl_AreConstraints.l0 k y0 y1 y2 y3) (impl_AreConstraints.l0 (k + 1) y0 y1 y2 y3))
 | 0 => fun _ _ _ _ r h => by simp [impl_AreConstraints.l0] at h
 | k + 1 => by
  have ih0 := impl_AreConstraints.mono_l k
  ·intro y0 y1 y2 y3; unfold impl_AreConstraints.l0
   with_reducible repeat' first | exact ih0 _ _ _ _ | exact slices_Contains_string_string.mono _ _ _ | exact LeO.refl _ | exact LeO.none _ | refine LeO.ite ?_ ?_ | refine LeO.bind ?_ (fun _ => ?_)
theorem impl_AreConstraints.mono : ∀ a0 k, LeO (impl_AreConstraints.f k a0) (impl_AreConstraints.f (k + 1) a0) := by
 intro a0 k; have ih0 := impl_AreConstraints.mono_l k; unfold impl_AreConstraints.f
 with_reducible repeat' first | exact ih0 _ _ _ _ | exact slices_Contains_string_string.mono _ _ _ | exact LeO.refl _ | exact LeO.none _ | refine LeO.ite ?_ ?_ | refine LeO.bind ?_ (fun _ => ?_)
theorem impl_AreConstraints.calls (k : Nat) (A0 : Option Addr) (c0 : Nat) (l0 : List ByteArray) (r : Bool) (w : World) (hr0 : Kd.C Kd.string w A0 l0.length l0) (hc0 : l0.length ≤ c0) (h : impl_AreConstraints.f k l0 = some r) :
  Calls Tryz.prog 39 #[.slice A0 l0.length c0] w fun e w' => e = .returned (.bool r) ∧ Below w.heap.size w w' := by
 have HR0 := asT hr0; have HC0 := asT hc0; clear hr0 hc0; have HB := asT (Below.refl w.heap.size w); have H := h; unfold impl_AreConstraints.f at H; clear h; have H' := asT H; clear H; go_enter Tryz.func39, Tryz.ntmps39
 go_wp2
 go_loopg [7] k (fun kq v7 w' => ∃ (x7_1 : Int), v7 = .int .i64 x7_1 ∧ Aside0 (impl_AreConstraints.l0 kq l0 l0 (l0.length : Int) x7_1 = some r) ∧ Aside0 (kq ≤ k) ∧ Aside0 (Below w.heap.size w w'))
 case atStart => exact ⟨(0), rdT, H', ⟨Nat.le_refl _⟩, ⟨hbT HB.out⟩⟩
 case round =>
  clear H'; obtain ⟨x7_1, rfl, HA, HK1, HB⟩ := hrel
  cases gk with
  | zero => exact absurd HA.out (by simp [impl_AreConstraints.l0])
  | succ k1 =>
   have H := HA.out; clear HA
   simp only [impl_AreConstraints.l0] at H
   by_cases c2 : x7_1 < (l0.length : Int)
   ·rw [if_pos c2] at H; have c2b0 := dt c2; clear c2; by_cases c3 : 0 ≤ x7_1
    ·rw [if_pos c3] at H; have c3b0 := dt c3; clear c3; by_cases c4 : x7_1 < (l0.length : Int)
     ·rw [if_pos c4] at H; have c4b0 := dt c4; clear c4; obtain ⟨t379, A5, H⟩ := be H; obtain ⟨t382, A6, H⟩ := be H; by_cases c7 : t382 = true
      ·subst c7; rw [if_pos rfl] at H; have c8b0 := eq_true (dT asmT : 0 ≤ x7_1); by_cases c9 : x7_1 ≤ (l0.length : Int)
       ·rw [if_pos c9] at H; have c9b0 := eq_true c9; have c9b1 : decide (x7_1 ≤ (l0.length : Int)) = true := dt c9; clear c9; obtain ⟨t384, A10, H⟩ := be H; by_cases c11 : t384 = true
        ·subst c11; rw [if_pos rfl] at H; have H1 := H; clear H; have H := H1; clear H1; obtain rfl := oI H; have p378 : 0 ≤ (x7_1 : Int) := dT asmT; have q378 : x7_1 < (l0.length : Int) := dT asmT; obtain ⟨ad378, e378, hx378_0⟩ := Kd.at_string HR0.out x7_1 p378 q378
         cases e378
         replace hx378_0 := hbc HB.out hx378_0; replace p378 := eq_true p378; replace q378 := eq_true q378
         go_wp2_with (first | ((with_reducible refine gate_callee (f := 81) rfl ?_); refine goesL_ (some 12) rfl rfl Tryz.func81 (by kernel_rfl) rfl #[] rfl eqT ?_; (with_reducible refine (impl_ConstraintNames.calls  t379 _ A5.out).mono ?_); rintro e w12 ⟨v380, rfl, ho0, hb⟩; refine ⟨_, rfl, ?_⟩; have HO381 := asT (Kd.R_lower ho0 (below_size (hbT HB.out))); replace HB := hS HB hb; (try clear hb hb2 hk hi ho0); obtain ⟨Ao13, co13, eo13⟩ := Kd.R_slice HO381.out; subst eo13) | ((with_reducible refine gate_callee (f := 80) rfl ?_); refine goesL_ (some 14) rfl rfl Tryz.func80 (by kernel_rfl) rfl #[.slice Ao13 t379.length co13, .string (rdOf ByteArray.empty l0 x7_1)] rfl eqT ?_; (with_reducible refine (slices_Contains_string_string.calls k1 _ _ t379 (rdOf ByteArray.empty l0 x7_1) true _ ?side1 ?side2 A6.out).mono ?_); (case side1 => exact caT (Kd.R_reads' HO381.out).2.2); (case side2 => exact (Kd.R_reads' HO381.out).2.1); rintro e w' ⟨rfl, ⟨nd, rfl⟩⟩; refine ⟨_, rfl, ?_⟩; obtain ⟨i014, hi014, _, hsz14, _⟩ := info_parts info9; obtain ⟨hcut14, hA14, hC14⟩ := print_take_of (P := Tryz.prog) Value.string (⟨#[]⟩ : ByteArray) 22 9 .i64 Tryz.underlying22 hi014 hsz14 (some ad378) c0 l0 x7_1 (dT asmT) (dT asmT) HC0.out; have HR383 := asT (Kd.C_of_reads (h1 := fun _ => rfl) (hA14 _ (Kd.reads_of_C HR0.out))); have HC383 := asT hC14; clear hA14 hC14 hi014 hsz14) | (go_at_call 80; refine calls_of_args (args' := #[.slice _ (l0.take (x7_1 : Int).toNat).length _, .string (rdOf ByteArray.empty l0 x7_1)]) (by first | (rw [show (l0.take (x7_1 : Int).toNat).length = x7_1.toNat from (by rw [List.length_take]; have h_ : (x7_1 : Int) ≤ (l0.length : Int) := dT asmT; omega)] <;> rfl) | rfl) ?_; (with_reducible refine (slices_Contains_string_string.calls k1 _ _ (l0.take (x7_1 : Int).toNat) (rdOf ByteArray.empty l0 x7_1) true _ ?side1 ?side2 A10.out).mono ?_); (case side1 => exact crT HR383.out (hbT HB.out)); (case side2 => exact HC383.out); rintro e w' ⟨rfl, ⟨nd, rfl⟩⟩))
         go_ret; exact ⟨rlT, hbT HB.out⟩
        ·replace c11 := eE c11; subst c11; rw [if_neg nF] at H; have H' := asT H; clear H; have p378 : 0 ≤ (x7_1 : Int) := dT asmT; have q378 : x7_1 < (l0.length : Int) := dT asmT; obtain ⟨ad378, e378, hx378_0⟩ := Kd.at_string HR0.out x7_1 p378 q378
         cases e378
         replace hx378_0 := hbc HB.out hx378_0; replace p378 := eq_true p378; replace q378 := eq_true q378
         go_wp2_with (first | ((with_reducible refine gate_callee (f := 81) rfl ?_); refine goesL_ (some 12) rfl rfl Tryz.func81 (by kernel_rfl) rfl #[] rfl eqT ?_; (with_reducible refine (impl_ConstraintNames.calls  t379 _ A5.out).mono ?_); rintro e w15 ⟨v380, rfl, ho0, hb⟩; refine ⟨_, rfl, ?_⟩; have HO381 := asT (Kd.R_lower ho0 (below_size (hbT HB.out))); replace HB := hS HB hb; (try clear hb hb2 hk hi ho0); obtain ⟨Ao16, co16, eo16⟩ := Kd.R_slice HO381.out; subst eo16) | ((with_reducible refine gate_callee (f := 80) rfl ?_); refine goesL_ (some 14) rfl rfl Tryz.func80 (by kernel_rfl) rfl #[.slice Ao16 t379.length co16, .string (rdOf ByteArray.empty l0 x7_1)] rfl eqT ?_; (with_reducible refine (slices_Contains_string_string.calls k1 _ _ t379 (rdOf ByteArray.empty l0 x7_1) true _ ?side1 ?side2 A6.out).mono ?_); (case side1 => exact caT (Kd.R_reads' HO381.out).2.2); (case side2 => exact (Kd.R_reads' HO381.out).2.1); rintro e w' ⟨rfl, ⟨nd, rfl⟩⟩; refine ⟨_, rfl, ?_⟩; obtain ⟨i017, hi017, _, hsz17, _⟩ := info_parts info9; obtain ⟨hcut17, hA17, hC17⟩ := print_take_of (P := Tryz.prog) Value.string (⟨#[]⟩ : ByteArray) 22 9 .i64 Tryz.underlying22 hi017 hsz17 (some ad378) c0 l0 x7_1 (dT asmT) (dT asmT) HC0.out; have HR383 := asT (Kd.C_of_reads (h1 := fun _ => rfl) (hA17 _ (Kd.reads_of_C HR0.out))); have HC383 := asT hC17; clear hA17 hC17 hi017 hsz17) | (go_at_call 80; refine calls_of_args (args' := #[.slice _ (l0.take (x7_1 : Int).toNat).length _, .string (rdOf ByteArray.empty l0 x7_1)]) (by first | (rw [show (l0.take (x7_1 : Int).toNat).length = x7_1.toNat from (by rw [List.length_take]; have h_ : (x7_1 : Int) ≤ (l0.length : Int) := dT asmT; omega)] <;> rfl) | rfl) ?_; (with_reducible refine (slices_Contains_string_string.calls k1 _ _ (l0.take (x7_1 : Int).toNat) (rdOf ByteArray.empty l0 x7_1) false _ ?side1 ?side2 A10.out).mono ?_); (case side1 => exact crT HR383.out (hbT HB.out)); (case side2 => exact HC383.out); rintro e w' ⟨rfl, ⟨nd, rfl⟩⟩))
         go_roundg k1
         case measure => have := HK1.out; omega
         case rel => exact ⟨(wrap64 (x7_1 + 1)), rdT, H', ⟨by have := HK1.out; omega⟩, ⟨hbT HB.out⟩⟩
       ·rw [if_neg c9] at H; exact absurd H (by simp)
      ·replace c7 := eE c7; subst c7; rw [if_neg nF] at H; have H1 := H; clear H; have H := H1; clear H1; obtain rfl := oI H; have p378 : 0 ≤ (x7_1 : Int) := dT asmT; have q378 : x7_1 < (l0.length : Int) := dT asmT; obtain ⟨ad378, e378, hx378_0⟩ := Kd.at_string HR0.out x7_1 p378 q378
       cases e378
       replace hx378_0 := hbc HB.out hx378_0; replace p378 := eq_true p378; replace q378 := eq_true q378
       go_wp2_with (first | ((with_reducible refine gate_callee (f := 81) rfl ?_); refine goesL_ (some 12) rfl rfl Tryz.func81 (by kernel_rfl) rfl #[] rfl eqT ?_; (with_reducible refine (impl_ConstraintNames.calls  t379 _ A5.out).mono ?_); rintro e w18 ⟨v380, rfl, ho0, hb⟩; refine ⟨_, rfl, ?_⟩; have HO381 := asT (Kd.R_lower ho0 (below_size (hbT HB.out))); replace HB := hS HB hb; (try clear hb hb2 hk hi ho0); obtain ⟨Ao19, co19, eo19⟩ := Kd.R_slice HO381.out; subst eo19) | ((with_reducible refine gate_callee (f := 80) rfl ?_); refine goesL_ (some 14) rfl rfl Tryz.func80 (by kernel_rfl) rfl #[.slice Ao19 t379.length co19, .string (rdOf ByteArray.empty l0 x7_1)] rfl eqT ?_; (with_reducible refine (slices_Contains_string_string.calls k1 _ _ t379 (rdOf ByteArray.empty l0 x7_1) false _ ?side1 ?side2 A6.out).mono ?_); (case side1 => exact caT (Kd.R_reads' HO381.out).2.2); (case side2 => exact (Kd.R_reads' HO381.out).2.1); rintro e w' ⟨rfl, ⟨nd, rfl⟩⟩; refine ⟨_, rfl, ?_⟩))
       go_ret; exact ⟨rlT, hbT HB.out⟩
     ·rw [if_neg c4] at H; exact absurd H (by simp)
    ·rw [if_neg c3] at H; exact absurd H (by simp)
   ·rw [if_neg c2] at H; have c2b0 := df c2; clear c2; obtain ⟨t377, A20, H⟩ := be H; obtain rfl := oI H
    go_wp2_with (first | ((with_reducible refine gate_callee (f := 82) rfl ?_); refine goesL_ (some 26) rfl rfl Tryz.func82 (by kernel_rfl) rfl #[.int .i64 (l0.length : Int), .int .i64 1, .int .i64 5] rfl eqT ?_; (with_reducible refine (impl_within.calls (l0.length : Int) 1 5 t377 _ A20.out).mono ?_); rintro e w' ⟨rfl, ⟨nd, rfl⟩⟩; refine ⟨_, rfl, ?_⟩))
    go_ret; exact ⟨rlT, hbT HB.out⟩
theorem stringslite_IndexByte.calls (s : ByteArray) (c : Int) (w : World) :
    Calls Tryz.prog 181 #[.string s, .int .u8 c] w fun e w' => e = .returned (.int .i64 (Lib.indexByte s.data.toList c.toNat.toUInt8)) ∧ w' = w := by
  go_enter Tryz.func181, Tryz.ntmps181
  go_wp2
  rw [run_callFunc_extern Tryz.func194 (by kernel_rfl) (by kernel_rfl) (by kernel_rfl) (e := Extern.BytealgIndexByte.indexByte) (by kernel_rfl), Lib.run_indexByteString]
  simp only [Result.andThen]
  rw [Oper.upon_value]
  go_wp2
  go_ret; exact ⟨rfl, rfl⟩
def strings_IndexByte.f (a0 : ByteArray) (a1 : Int) : Option (Int) := some (Lib.indexByte a0.data.toList a1.toNat.toUInt8)
theorem strings_IndexByte.calls (a0 : ByteArray) (a1 : Int) (r : Int) (w : World) (h : strings_IndexByte.f a0 a1 = some r) :
    Calls Tryz.prog 156 #[.string a0, .int .u8 a1] w fun e w' => e = .returned (.int .i64 r) ∧ Drawn0 w w' := by
  obtain rfl := oI h; go_enter Tryz.func156, Tryz.ntmps156
  go_wp2_with (go_at_call 181; refine (stringslite_IndexByte.calls _ _ _).mono ?_; rintro e w' ⟨rfl, rfl⟩)
  go_ret; exact ⟨rfl, Drawn0.refl _⟩
def impl_IsSound.f (a0 : Int) : Option (Bool) := (strings_IndexByte.f (⟨#[112, 116, 98, 100, 110, 97, 105]⟩ : ByteArray) a0).bind fun t385 => (some (decide (t385 ≥ 0)))
theorem impl_IsSound.calls (a0 : Int) (r : Bool) (w : World) (h : impl_IsSound.f a0 = some r) :
  Calls Tryz.prog 123 #[.int .u8 a0] w fun e w' => e = .returned (.bool r) ∧ Drawn0 w w' := by
 have H := h; unfold impl_IsSound.f at H; clear h; obtain ⟨t385, A2, H⟩ := be H; obtain rfl := oI H; go_enter Tryz.func123, Tryz.ntmps123
 go_wp2_with (first | ((with_reducible refine gate_callee (f := 156) rfl ?_); refine goesL_ (some 4) rfl rfl Tryz.func156 (by kernel_rfl) rfl #[.string (⟨#[112, 116, 98, 100, 110, 97, 105]⟩ : ByteArray), .int .u8 a0] rfl eqT ?_; (with_reducible refine (strings_IndexByte.calls (⟨#[112, 116, 98, 100, 110, 97, 105]⟩ : ByteArray) a0 t385 _ A2.out).mono ?_); rintro e w' ⟨rfl, ⟨nd, rfl⟩⟩; refine ⟨_, rfl, ?_⟩))
 go_ret; exact ⟨rdT, drT⟩
def impl_areSounds.l0 : Nat → ByteArray → Int → Int → Option (Bool)
 | 0, _, _, _ => none
 | k + 1, x0, x5, x6 => if x6 < x5 then (if 0 ≤ x6 then (if x6 < (x0.size : Int) then ((impl_IsSound.f (bt x0 x6)).bind fun t386 => (if t386 = true then (impl_areSounds.l0 k x0 x5 (wrap64 (x6 + 1))) else (some false))) else (none)) else (none)) else ((impl_within.f (x0.size : Int) 1 20).bind fun t387 => (some t387))
def impl_areSounds.f (k : Nat) (a0 : ByteArray) : Option (Bool) := impl_areSounds.l0 k a0 (a0.size : Int) 0
theorem impl_areSounds.mono_l : ∀ k, (∀ y0 y1 y2, LeO (impl_areSounds.l0 k y0 y1 y2) (impl_areSounds.l0 (k + 1) y0 y1 y2))
 | 0 => fun _ _ _ r h => by simp [impl_areSounds.l0] at h
 | k + 1 => by
  have ih0 := impl_areSounds.mono_l k
  ·intro y0 y1 y2; unfold impl_areSounds.l0
   with_reducible repeat' first | exact ih0 _ _ _ | exact LeO.refl _ | exact LeO.none _ | refine LeO.ite ?_ ?_ | refine LeO.bind ?_ (fun _ => ?_)
theorem impl_areSounds.mono : ∀ a0 k, LeO (impl_areSounds.f k a0) (impl_areSounds.f (k + 1) a0) := by
 intro a0 k; have ih0 := impl_areSounds.mono_l k; unfold impl_areSounds.f
 with_reducible repeat' first | exact ih0 _ _ _ | exact LeO.refl _ | exact LeO.none _ | refine LeO.ite ?_ ?_ | refine LeO.bind ?_ (fun _ => ?_)
theorem impl_areSounds.calls (k : Nat) (a0 : ByteArray) (r : Bool) (w : World) (h : impl_areSounds.f k a0 = some r) :
  Calls Tryz.prog 83 #[.string a0] w fun e w' => e = .returned (.bool r) ∧ Drawn0 w w' := by
 have H := h; unfold impl_areSounds.f at H; clear h; have H' := asT H; clear H; go_enter Tryz.func83, Tryz.ntmps83
 go_wp2
 go_loopg [6] k (fun kq v6 w' => ∃ (x6_1 : Int), v6 = .int .i64 x6_1 ∧ Aside0 (impl_areSounds.l0 kq a0 (a0.size : Int) x6_1 = some r) ∧ Aside0 (kq ≤ k) ∧ Drawn0 w w')
 case atStart => exact ⟨(0), rdT, H', ⟨Nat.le_refl _⟩, drT⟩
 case round =>
  clear H'; obtain ⟨x6_1, rfl, HA, HK1, ⟨m1, rfl⟩⟩ := hrel
  cases gk with
  | zero => exact absurd HA.out (by simp [impl_areSounds.l0])
  | succ k1 =>
   have H := HA.out; clear HA
   simp only [impl_areSounds.l0] at H
   by_cases c2 : x6_1 < (a0.size : Int)
   ·rw [if_pos c2] at H; have c2b0 := dt c2; clear c2; by_cases c3 : 0 ≤ x6_1
    ·rw [if_pos c3] at H; have c3b0 := dt c3; clear c3; by_cases c4 : x6_1 < (a0.size : Int)
     ·rw [if_pos c4] at H; have c4b0 := dt c4; clear c4; obtain ⟨t386, A6, H⟩ := be H; by_cases c7 : t386 = true
      ·subst c7; rw [if_pos rfl] at H; have H' := asT H; clear H; have p5 : 0 ≤ (x6_1 : Int) := dT asmT; have q5 : x6_1 < (a0.size : Int) := dT asmT; have hx5 := bt_at a0 x6_1; replace p5 := eq_true p5; replace q5 := eq_true q5
       go_wp2_with (first | ((with_reducible refine gate_callee (f := 123) rfl ?_); refine goesL_ (some 12) rfl rfl Tryz.func123 (by kernel_rfl) rfl #[.int .u8 (bt a0 x6_1)] rfl eqT ?_; (with_reducible refine (impl_IsSound.calls (bt a0 x6_1) true _ A6.out).mono ?_); rintro e w' ⟨rfl, ⟨nd, rfl⟩⟩; refine ⟨_, rfl, ?_⟩))
       go_roundg k1
       case measure => have := HK1.out; omega
       case rel => exact ⟨(wrap64 (x6_1 + 1)), rdT, H', ⟨by have := HK1.out; omega⟩, drT⟩
      ·replace c7 := eE c7; subst c7; rw [if_neg nF] at H; have H1 := H; clear H; have H := H1; clear H1; obtain rfl := oI H; have p5 : 0 ≤ (x6_1 : Int) := dT asmT; have q5 : x6_1 < (a0.size : Int) := dT asmT; have hx5 := bt_at a0 x6_1; replace p5 := eq_true p5; replace q5 := eq_true q5
       go_wp2_with (first | ((with_reducible refine gate_callee (f := 123) rfl ?_); refine goesL_ (some 12) rfl rfl Tryz.func123 (by kernel_rfl) rfl #[.int .u8 (bt a0 x6_1)] rfl eqT ?_; (with_reducible refine (impl_IsSound.calls (bt a0 x6_1) false _ A6.out).mono ?_); rintro e w' ⟨rfl, ⟨nd, rfl⟩⟩; refine ⟨_, rfl, ?_⟩))
       go_ret; exact ⟨rdT, drT⟩
     ·rw [if_neg c4] at H; exact absurd H (by simp)
    ·rw [if_neg c3] at H; exact absurd H (by simp)
   ·rw [if_neg c2] at H; have c2b0 := df c2; clear c2; obtain ⟨t387, A8, H⟩ := be H; obtain rfl := oI H
    go_wp2_with (first | ((with_reducible refine gate_callee (f := 82) rfl ?_); refine goesL_ (some 17) rfl rfl Tryz.func82 (by kernel_rfl) rfl #[.int .i64 (a0.size : Int), .int .i64 1, .int .i64 20] rfl eqT ?_; (with_reducible refine (impl_within.calls (a0.size : Int) 1 20 t387 _ A8.out).mono ?_); rintro e w' ⟨rfl, ⟨nd, rfl⟩⟩; refine ⟨_, rfl, ?_⟩))
    go_ret; exact ⟨rdT, drT⟩
def impl_IsForm.f (k : Nat) (a0 : ByteArray) : Option (Bool) := if a0.toList = ([] : List UInt8) then (some true) else (if (a0.size : Int) ≤ 8 then ((impl_areSounds.f k a0).bind fun t388 => (some t388)) else (some false))
theorem impl_IsForm.mono : ∀ a0 k, LeO (impl_IsForm.f k a0) (impl_IsForm.f (k + 1) a0) := by
 intro a0 k; unfold impl_IsForm.f
 with_reducible repeat' first | exact impl_areSounds.mono _ _ | exact LeO.refl _ | exact LeO.none _ | refine LeO.ite ?_ ?_ | refine LeO.bind ?_ (fun _ => ?_)
theorem impl_IsForm.calls (k : Nat) (a0 : ByteArray) (r : Bool) (w : World) (h : impl_IsForm.f k a0 = some r) :
  Calls Tryz.prog 40 #[.string a0] w fun e w' => e = .returned (.bool r) ∧ Drawn0 w w' := by
 have H := h; unfold impl_IsForm.f at H; clear h; by_cases c2 : a0.toList = ([] : List UInt8)
 ·rw [if_pos c2] at H; have c2b0 : (a0.toList == ([] : List UInt8)) = true := eC c2; have c2b1 : (a0.toList != ([] : List UInt8)) = false := eA c2; clear c2; obtain rfl := oI H; go_enter Tryz.func40, Tryz.ntmps40
  go_wp2
  go_ret; exact ⟨rdT, drT⟩
 ·rw [if_neg c2] at H; have c2b0 : (a0.toList == ([] : List UInt8)) = false := eB c2; have c2b1 : (a0.toList != ([] : List UInt8)) = true := eD c2; by_cases c3 : (a0.size : Int) ≤ 8
  ·rw [if_pos c3] at H; have c3b0 := dt c3; have c3b1 : decide (a0.size ≤ 8) = true := dt (by omega); clear c3; obtain ⟨t388, A4, H⟩ := be H; obtain rfl := oI H; go_enter Tryz.func40, Tryz.ntmps40
   go_wp2_with (first | (go_at_call 83; (with_reducible refine (impl_areSounds.calls k a0 t388 _ A4.out).mono ?_); rintro e w' ⟨rfl, ⟨nd, rfl⟩⟩))
   go_ret; exact ⟨rdT, drT⟩
  ·rw [if_neg c3] at H; have c3b0 := df c3; have c3b1 : decide (a0.size ≤ 8) = false := df (by omega); clear c3; obtain rfl := oI H; go_enter Tryz.func40, Tryz.ntmps40
   go_wp2
   go_ret; exact ⟨rdT, drT⟩
def impl_SwapVoice.f (a0 : Int) : Option (Int × Bool) := (strings_IndexByte.f (⟨#[112, 116, 98, 100]⟩ : ByteArray) a0).bind fun t389 => (if t389 < 0 then (some (a0, false)) else (if 0 ≤ t389 then (if t389 < 4 then (some (bt (⟨#[98, 100, 112, 116]⟩ : ByteArray) t389, true)) else (none)) else (none)))
theorem impl_SwapVoice.calls (a0 : Int) (r1 : Int) (r2 : Bool) (w : World) (h : impl_SwapVoice.f a0 = some (r1, r2)) :
  Calls Tryz.prog 126 #[.int .u8 a0] w fun e w' => e = .returned (.tuple #[.int .u8 r1, .bool r2]) ∧ Drawn0 w w' := by
 have H := h; unfold impl_SwapVoice.f at H; clear h; obtain ⟨t389, A2, H⟩ := be H; by_cases c3 : t389 < 0
 ·rw [if_pos c3] at H; have c3b0 := dt c3; clear c3
  simp only [Option.some.injEq, Prod.mk.injEq] at H
  obtain ⟨rfl, rfl⟩ := H; go_enter Tryz.func126, Tryz.ntmps126
  go_wp2_with (first | ((with_reducible refine gate_callee (f := 156) rfl ?_); refine goesL_ (some 6) rfl rfl Tryz.func156 (by kernel_rfl) rfl #[.string (⟨#[112, 116, 98, 100]⟩ : ByteArray), .int .u8 a0] rfl eqT ?_; (with_reducible refine (strings_IndexByte.calls (⟨#[112, 116, 98, 100]⟩ : ByteArray) a0 t389 _ A2.out).mono ?_); rintro e w' ⟨rfl, ⟨nd, rfl⟩⟩; refine ⟨_, rfl, ?_⟩))
  go_ret2
  exact ⟨rdT, drT⟩
 ·rw [if_neg c3] at H; have c3b0 := df c3; clear c3; by_cases c4 : 0 ≤ t389
  ·rw [if_pos c4] at H; have c4b0 := dt c4; clear c4; by_cases c5 : t389 < 4
   ·rw [if_pos c5] at H; have c5b0 := dt c5; clear c5
    simp only [Option.some.injEq, Prod.mk.injEq] at H
    obtain ⟨rfl, rfl⟩ := H; go_enter Tryz.func126, Tryz.ntmps126
    go_wp2_with (first | ((with_reducible refine gate_callee (f := 156) rfl ?_); refine goesL_ (some 6) rfl rfl Tryz.func156 (by kernel_rfl) rfl #[.string (⟨#[112, 116, 98, 100]⟩ : ByteArray), .int .u8 a0] rfl eqT ?_; (with_reducible refine (strings_IndexByte.calls (⟨#[112, 116, 98, 100]⟩ : ByteArray) a0 t389 _ A2.out).mono ?_); rintro e w' ⟨rfl, ⟨nd, rfl⟩⟩; refine ⟨_, rfl, ?_⟩; have p6 : 0 ≤ (t389 : Int) := dT asmT; have q6 : t389 < (4 : Int) := dT asmT; have hx6 := bt_at (⟨#[98, 100, 112, 116]⟩ : ByteArray) t389; replace p6 := eq_true p6; replace q6 := eq_true q6))
    go_ret2
    exact ⟨rdT, drT⟩
   ·rw [if_neg c5] at H; exact absurd H (by simp)
  ·rw [if_neg c4] at H; exact absurd H (by simp)
def impl_isLink.f (a0_0 : Int) (a0_1 : Int) : Option (Bool) := if a0_0 = 0 then ((impl_IsSound.f a0_1).bind fun t391 => (some t391)) else ((impl_IsSound.f a0_0).bind fun t392 => (if t392 = true then (if a0_1 = 0 then (some true) else (if a0_1 = a0_0 then (some true) else ((impl_SwapVoice.f a0_0).bind fun bt393 => (if bt393.2 = true then (some (bt393.1 == a0_1)) else (some false))))) else (some false)))
theorem impl_isLink.calls (a0_0 : Int) (a0_1 : Int) (r : Bool) (w : World) (h : impl_isLink.f a0_0 a0_1 = some r) :
  Calls Tryz.prog 128 #[.agg #[.int .u8 a0_0, .int .u8 a0_1]] w fun e w' => e = .returned (.bool r) ∧ Below w.heap.size w w' := by
 have hu109 := Tryz.underlying109; have HB := asT (Below.refl w.heap.size w); have H := h; unfold impl_isLink.f at H; clear h; by_cases c2 : a0_0 = 0
 ·rw [if_pos c2] at H; have c2b0 : (a0_0 == 0) = true := eC c2; have c2b1 : (a0_0 != 0) = false := eA c2; clear c2; obtain ⟨t391, A3, H⟩ := be H; obtain rfl := oI H; go_enter Tryz.func128, Tryz.ntmps128
  go_wp2_with (first | ((with_reducible refine gate_dst (N := 1) rfl ?_); refine boxT (N := 1) (cs := #[.int .u8 a0_0, .int .u8 a0_1]) (t := 109) ?_; intro gb390 hg w4 hbox hb; have BK390 := asT hbox; have GW390 := asT (geT hg HB.out); have GE390 := GW390; replace HB := hS HB hb; clear hb hbox hg; obtain ⟨hcz5_0, hcz5_1, hfz5_0, hfz5_1⟩ := bx2 BK390.out) | ((with_reducible refine gate_callee (f := 123) rfl ?_); refine goesL_ (some 11) rfl rfl Tryz.func123 (by kernel_rfl) rfl #[.int .u8 a0_1] rfl eqT ?_; (with_reducible refine (impl_IsSound.calls a0_1 t391 _ A3.out).mono ?_); rintro e w' ⟨rfl, ⟨nd, rfl⟩⟩; refine ⟨_, rfl, ?_⟩))
  go_ret; exact ⟨rlT, hbT HB.out⟩
 ·rw [if_neg c2] at H; have c2b0 : (a0_0 == 0) = false := eB c2; have c2b1 : (a0_0 != 0) = true := eD c2; obtain ⟨t392, A6, H⟩ := be H; by_cases c7 : t392 = true
  ·subst c7; rw [if_pos rfl] at H; have H1 := H; clear H; have H := H1; clear H1; by_cases c8 : a0_1 = 0
   ·rw [if_pos c8] at H; have c8b0 : (a0_1 == 0) = true := eC c8; have c8b1 : (a0_1 != 0) = false := eA c8; clear c8; obtain rfl := oI H; go_enter Tryz.func128, Tryz.ntmps128
    go_wp2_with (first | ((with_reducible refine gate_dst (N := 1) rfl ?_); refine boxT (N := 1) (cs := #[.int .u8 a0_0, .int .u8 a0_1]) (t := 109) ?_; intro gb390 hg w9 hbox hb; have BK390 := asT hbox; have GW390 := asT (geT hg HB.out); have GE390 := GW390; replace HB := hS HB hb; clear hb hbox hg; obtain ⟨hcz10_0, hcz10_1, hfz10_0, hfz10_1⟩ := bx2 BK390.out) | ((with_reducible refine gate_callee (f := 123) rfl ?_); refine goesL_ (some 15) rfl rfl Tryz.func123 (by kernel_rfl) rfl #[.int .u8 a0_0] rfl eqT ?_; (with_reducible refine (impl_IsSound.calls a0_0 true _ A6.out).mono ?_); rintro e w' ⟨rfl, ⟨nd, rfl⟩⟩; refine ⟨_, rfl, ?_⟩))
    go_ret; exact ⟨rlT, hbT HB.out⟩
   ·rw [if_neg c8] at H; have c8b0 : (a0_1 == 0) = false := eB c8; have c8b1 : (a0_1 != 0) = true := eD c8; by_cases c11 : a0_1 = a0_0
    ·rw [if_pos c11] at H; have c11b0 : (a0_1 == a0_0) = true := eC c11; have c11b1 : (a0_1 != a0_0) = false := eA c11; clear c11; obtain rfl := oI H; go_enter Tryz.func128, Tryz.ntmps128
     go_wp2_with (first | ((with_reducible refine gate_dst (N := 1) rfl ?_); refine boxT (N := 1) (cs := #[.int .u8 a0_0, .int .u8 a0_1]) (t := 109) ?_; intro gb390 hg w12 hbox hb; have BK390 := asT hbox; have GW390 := asT (geT hg HB.out); have GE390 := GW390; replace HB := hS HB hb; clear hb hbox hg; obtain ⟨hcz13_0, hcz13_1, hfz13_0, hfz13_1⟩ := bx2 BK390.out) | ((with_reducible refine gate_callee (f := 123) rfl ?_); refine goesL_ (some 15) rfl rfl Tryz.func123 (by kernel_rfl) rfl #[.int .u8 a0_0] rfl eqT ?_; (with_reducible refine (impl_IsSound.calls a0_0 true _ A6.out).mono ?_); rintro e w' ⟨rfl, ⟨nd, rfl⟩⟩; refine ⟨_, rfl, ?_⟩))
     go_ret; exact ⟨rlT, hbT HB.out⟩
    ·rw [if_neg c11] at H; have c11b0 : (a0_1 == a0_0) = false := eB c11; have c11b1 : (a0_1 != a0_0) = true := eD c11; replace H := Option.bind_eq_some_iff.mp H; obtain ⟨⟨t393, t394⟩, A140, H⟩ := H; replace H : (if t394 = true then (some (t393 == a0_1)) else (some false)) = some r := H; have A14 := asT A140; clear A140; by_cases c15 : t394 = true
     ·subst c15; rw [if_pos rfl] at H; have H1 := H; clear H; have H := H1; clear H1; obtain rfl := oI H; go_enter Tryz.func128, Tryz.ntmps128
      go_wp2_with (first | ((with_reducible refine gate_dst (N := 1) rfl ?_); refine boxT (N := 1) (cs := #[.int .u8 a0_0, .int .u8 a0_1]) (t := 109) ?_; intro gb390 hg w16 hbox hb; have BK390 := asT hbox; have GW390 := asT (geT hg HB.out); have GE390 := GW390; replace HB := hS HB hb; clear hb hbox hg; obtain ⟨hcz17_0, hcz17_1, hfz17_0, hfz17_1⟩ := bx2 BK390.out) | ((with_reducible refine gate_callee (f := 123) rfl ?_); refine goesL_ (some 15) rfl rfl Tryz.func123 (by kernel_rfl) rfl #[.int .u8 a0_0] rfl eqT ?_; (with_reducible refine (impl_IsSound.calls a0_0 true _ A6.out).mono ?_); rintro e w' ⟨rfl, ⟨nd, rfl⟩⟩; refine ⟨_, rfl, ?_⟩) | ((with_reducible refine gate_callee (f := 126) rfl ?_); refine goesL_ (some 31) rfl rfl Tryz.func126 (by kernel_rfl) rfl #[.int .u8 a0_0] rfl eqT ?_; (with_reducible refine (impl_SwapVoice.calls a0_0 t393 true _ A14.out).mono ?_); rintro e w' ⟨rfl, ⟨nd, rfl⟩⟩; refine ⟨_, rfl, ?_⟩))
      go_ret; exact ⟨rlT, hbT HB.out⟩
     ·replace c15 := eE c15; subst c15; rw [if_neg nF] at H; have H1 := H; clear H; have H := H1; clear H1; obtain rfl := oI H; go_enter Tryz.func128, Tryz.ntmps128
      go_wp2_with (first | ((with_reducible refine gate_dst (N := 1) rfl ?_); refine boxT (N := 1) (cs := #[.int .u8 a0_0, .int .u8 a0_1]) (t := 109) ?_; intro gb390 hg w18 hbox hb; have BK390 := asT hbox; have GW390 := asT (geT hg HB.out); have GE390 := GW390; replace HB := hS HB hb; clear hb hbox hg; obtain ⟨hcz19_0, hcz19_1, hfz19_0, hfz19_1⟩ := bx2 BK390.out) | ((with_reducible refine gate_callee (f := 123) rfl ?_); refine goesL_ (some 15) rfl rfl Tryz.func123 (by kernel_rfl) rfl #[.int .u8 a0_0] rfl eqT ?_; (with_reducible refine (impl_IsSound.calls a0_0 true _ A6.out).mono ?_); rintro e w' ⟨rfl, ⟨nd, rfl⟩⟩; refine ⟨_, rfl, ?_⟩) | ((with_reducible refine gate_callee (f := 126) rfl ?_); refine goesL_ (some 31) rfl rfl Tryz.func126 (by kernel_rfl) rfl #[.int .u8 a0_0] rfl eqT ?_; (with_reducible refine (impl_SwapVoice.calls a0_0 t393 false _ A14.out).mono ?_); rintro e w' ⟨rfl, ⟨nd, rfl⟩⟩; refine ⟨_, rfl, ?_⟩))
      go_ret; exact ⟨rlT, hbT HB.out⟩
  ·replace c7 := eE c7; subst c7; rw [if_neg nF] at H; have H1 := H; clear H; have H := H1; clear H1; obtain rfl := oI H; go_enter Tryz.func128, Tryz.ntmps128
   go_wp2_with (first | ((with_reducible refine gate_dst (N := 1) rfl ?_); refine boxT (N := 1) (cs := #[.int .u8 a0_0, .int .u8 a0_1]) (t := 109) ?_; intro gb390 hg w20 hbox hb; have BK390 := asT hbox; have GW390 := asT (geT hg HB.out); have GE390 := GW390; replace HB := hS HB hb; clear hb hbox hg; obtain ⟨hcz21_0, hcz21_1, hfz21_0, hfz21_1⟩ := bx2 BK390.out) | ((with_reducible refine gate_callee (f := 123) rfl ?_); refine goesL_ (some 15) rfl rfl Tryz.func123 (by kernel_rfl) rfl #[.int .u8 a0_0] rfl eqT ?_; (with_reducible refine (impl_IsSound.calls a0_0 false _ A6.out).mono ?_); rintro e w' ⟨rfl, ⟨nd, rfl⟩⟩; refine ⟨_, rfl, ?_⟩))
   go_ret; exact ⟨rlT, hbT HB.out⟩
end Go.Proofs.YtlmfpkiaikjlbaaGreat.PFnExactRowsFor
