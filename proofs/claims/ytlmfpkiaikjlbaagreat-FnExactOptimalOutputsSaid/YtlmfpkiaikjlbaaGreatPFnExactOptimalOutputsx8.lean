-- Made by gen.py (a program of this session) out of the translation; Lean checks it.
import Derived.Test.YtlmfpkiaikjlbaaGreatPFnExactOptimalOutputsx0
import Derived.Test.YtlmfpkiaikjlbaaGreatPFnExactOptimalOutputsx3
import Derived.Test.YtlmfpkiaikjlbaaGreatPFnExactOptimalOutputsx4
import Derived.Test.YtlmfpkiaikjlbaaGreatPFnExactOptimalOutputsx7
namespace Go.Proofs.YtlmfpkiaikjlbaaGreat.PFnExactOptimalOutputs
open Go.RowKit Go.Proofs.YtlmfpkiaikjlbaaGreatB Go.Proofs.YtlmfpkiaikjlbaaGreatW.PrintWords Go.Proofs.YtlmfpkiaikjlbaaGreatW.PrintLast Go.Proofs.YtlmfpkiaikjlbaaGreatW.PrintMore
attribute [local go_sem] max2_int min2_int max_two min_two max_three min_three max_four min_four   -- for this text's walks alone
set_option linter.unusedVariables false
set_option maxHeartbeats 8000000
set_option maxRecDepth 100000
set_option linter.unusedSimpArgs false
mutual
def spec_WinnersOf.j0 : Nat → List Int → List Int → Bool → ByteArray → List ByteArray → List (S60) → List (List Int) → Option (List Int)
 | 0, _, _, _, _, _, _, _ => none
 | k + 1, x1, x5, x20, x343000, x343001, x343002, x343003 => if x20 = true then (some x5) else (spec_WinnersOf.l0 k x1 x5 0 x343000 x343001 x343002 x343003)
def spec_WinnersOf.l0 : Nat → List Int → List Int → Int → ByteArray → List ByteArray → List (S60) → List (List Int) → Option (List Int)
 | 0, _, _, _, _, _, _, _ => none
 | k + 1, x1, x5, x6, x343000, x343001, x343002, x343003 => if x6 < (x343002.length : Int) then (spec_WinnersOf.l1 k x1 x5 x6 true 0 x343000 x343001 x343002 x343003) else (some x5)
def spec_WinnersOf.l1 : Nat → List Int → List Int → Int → Bool → Int → ByteArray → List ByteArray → List (S60) → List (List Int) → Option (List Int)
 | 0, _, _, _, _, _, _, _, _, _ => none
 | k + 1, x1, x5, x6, x7, x8, x343000, x343001, x343002, x343003 => if x8 < (x343002.length : Int) then (if x7 = true then (if 0 ≤ x6 then (if x6 < (x343003.length : Int) then (if 0 ≤ x8 then (if x8 < (x343003.length : Int) then ((spec_CompareMarks.f k (rd_L6 x343003 x6) (rd_L6 x343003 x8) x1).bind fun t350 => (spec_WinnersOf.l1 k x1 x5 x6 (decide (t350 ≤ 0)) (wrap64 (x8 + 1)) x343000 x343001 x343002 x343003)) else (none)) else (none)) else (none)) else (none)) else (spec_WinnersOf.l0 k x1 x5 (wrap64 (x6 + 1)) x343000 x343001 x343002 x343003)) else (if x7 = true then (if x5.length < 17592186044416 then (spec_WinnersOf.l0 k x1 (x5 ++ [x6]) (wrap64 (x6 + 1)) x343000 x343001 x343002 x343003) else (none)) else (spec_WinnersOf.l0 k x1 x5 (wrap64 (x6 + 1)) x343000 x343001 x343002 x343003))
end
def spec_WinnersOf.f (k : Nat) (a0_0 : ByteArray) (l0_1 : List ByteArray) (l0_2 : List (S60)) (l0_3 : List (List Int)) (l1 : List Int) : Option (List Int) := (some (([] : List Int) : List Int)).bind fun y343 => ((spec_IsTableau.f k a0_0 l0_1 l0_2 l0_3).bind fun t346 => (if t346 = true then ((spec_IsRanking.f k l1 (l0_1.length : Int)).bind fun t347 => (spec_WinnersOf.j0 k l1 y343 (!t347) a0_0 l0_1 l0_2 l0_3)) else (spec_WinnersOf.j0 k l1 y343 true a0_0 l0_1 l0_2 l0_3)))
theorem spec_WinnersOf.mono_l : ∀ k, (∀ y0 y1 y2 y3 y4 y5 y6, LeO (spec_WinnersOf.j0 k y0 y1 y2 y3 y4 y5 y6) (spec_WinnersOf.j0 (k + 1) y0 y1 y2 y3 y4 y5 y6)) ∧ (∀ y0 y1 y2 y3 y4 y5 y6, LeO (spec_WinnersOf.l0 k y0 y1 y2 y3 y4 y5 y6) (spec_WinnersOf.l0 (k + 1) y0 y1 y2 y3 y4 y5 y6)) ∧ (∀ y0 y1 y2 y3 y4 y5 y6 y7 y8, LeO (spec_WinnersOf.l1 k y0 y1 y2 y3 y4 y5 y6 y7 y8) (spec_WinnersOf.l1 (k + 1) y0 y1 y2 y3 y4 y5 y6 y7 y8))
 | 0 => ⟨fun _ _ _ _ _ _ _ r h => by simp [spec_WinnersOf.j0] at h, fun _ _ _ _ _ _ _ r h => by simp [spec_WinnersOf.l0] at h, fun _ _ _ _ _ _ _ _ _ r h => by simp [spec_WinnersOf.l1] at h⟩
 | k + 1 => by
  obtain ⟨ih0, ih1, ih2⟩ := spec_WinnersOf.mono_l k; refine ⟨?_, ?_, ?_⟩
  ·intro y0 y1 y2 y3 y4 y5 y6; unfold spec_WinnersOf.j0
   with_reducible repeat' first | exact ih0 _ _ _ _ _ _ _ | exact ih1 _ _ _ _ _ _ _ | exact ih2 _ _ _ _ _ _ _ _ _ | exact spec_CompareMarks.mono _ _ _ _ | exact spec_IsRanking.mono _ _ _ | exact spec_IsTableau.mono _ _ _ _ _ | exact LeO.refl _ | exact LeO.none _ | refine LeO.ite ?_ ?_ | refine LeO.bind ?_ (fun _ => ?_)
  ·intro y0 y1 y2 y3 y4 y5 y6; unfold spec_WinnersOf.l0
   with_reducible repeat' first | exact ih0 _ _ _ _ _ _ _ | exact ih1 _ _ _ _ _ _ _ | exact ih2 _ _ _ _ _ _ _ _ _ | exact spec_CompareMarks.mono _ _ _ _ | exact spec_IsRanking.mono _ _ _ | exact spec_IsTableau.mono _ _ _ _ _ | exact LeO.refl _ | exact LeO.none _ | refine LeO.ite ?_ ?_ | refine LeO.bind ?_ (fun _ => ?_)
  ·intro y0 y1 y2 y3 y4 y5 y6 y7 y8; unfold spec_WinnersOf.l1
   with_reducible repeat' first | exact ih0 _ _ _ _ _ _ _ | exact ih1 _ _ _ _ _ _ _ | exact ih2 _ _ _ _ _ _ _ _ _ | exact spec_CompareMarks.mono _ _ _ _ | exact spec_IsRanking.mono _ _ _ | exact spec_IsTableau.mono _ _ _ _ _ | exact LeO.refl _ | exact LeO.none _ | refine LeO.ite ?_ ?_ | refine LeO.bind ?_ (fun _ => ?_)
theorem spec_WinnersOf.mono : ∀ a0 a1 a2 a3 a4 k, LeO (spec_WinnersOf.f k a0 a1 a2 a3 a4) (spec_WinnersOf.f (k + 1) a0 a1 a2 a3 a4) := by
 intro a0 a1 a2 a3 a4 k; obtain ⟨ih0, ih1, ih2⟩ := spec_WinnersOf.mono_l k; unfold spec_WinnersOf.f
 with_reducible repeat' first | exact ih0 _ _ _ _ _ _ _ | exact ih1 _ _ _ _ _ _ _ | exact ih2 _ _ _ _ _ _ _ _ _ | exact spec_CompareMarks.mono _ _ _ _ | exact spec_IsRanking.mono _ _ _ | exact spec_IsTableau.mono _ _ _ _ _ | exact LeO.refl _ | exact LeO.none _ | refine LeO.ite ?_ ?_ | refine LeO.bind ?_ (fun _ => ?_)
theorem spec_WinnersOf.calls (k : Nat) (a0_0 : ByteArray) (A0_1 : Option Addr) (c0_1 : Nat) (l0_1 : List ByteArray) (A0_2 : Option Addr) (c0_2 : Nat) (l0_2 : List (S60)) (A0_3 : Option Addr) (c0_3 : Nat) (l0_3 : List (List Int)) (A1 : Option Addr) (c1 : Nat) (l1 : List Int) (r : List Int) (w : World) (hr0_1 : Kd.C Kd.string w A0_1 l0_1.length l0_1) (hc0_1 : l0_1.length ≤ c0_1) (hr0_2 : Kd.C k60 w A0_2 l0_2.length l0_2) (hc0_2 : l0_2.length ≤ c0_2) (hr0_3 : Kd.C (Kd.slice 3 (Kd.int .i64)) w A0_3 l0_3.length l0_3) (hc0_3 : l0_3.length ≤ c0_3) (hr1 : Kd.C (Kd.int .i64) w A1 l1.length l1) (hc1 : l1.length ≤ c1) (h : spec_WinnersOf.f k a0_0 l0_1 l0_2 l0_3 l1 = some r) :
  Calls Tryz.prog 29 #[.agg #[.string a0_0, .slice A0_1 l0_1.length c0_1, .slice A0_2 l0_2.length c0_2, .slice A0_3 l0_3.length c0_3], .slice A1 l1.length c1] w fun e w' => ∃ v0_ : Value, e = .returned (v0_) ∧ Kd.R (Kd.int .i64) 3 w' w.heap.size (fun _ => True) v0_ r ∧ Below w.heap.size w w' := by
 have hu27 := Tryz.underlying27; have HR0_1 := asT hr0_1; have HC0_1 := asT hc0_1; clear hr0_1 hc0_1; have HR0_2 := asT hr0_2; have HC0_2 := asT hc0_2; clear hr0_2 hc0_2; have HR0_3 := asT hr0_3; have HC0_3 := asT hc0_3; clear hr0_3 hc0_3; have HR1 := asT hr1; have HC1 := asT hc1; clear hr1 hc1; have HB := asT (Below.refl w.heap.size w); have H := h; unfold spec_WinnersOf.f at H; clear h; obtain ⟨y343, hy343⟩ : ∃ y_ : List Int, y_ = (([] : List Int)) := ⟨_, rfl⟩
 replace H : ((spec_IsTableau.f k a0_0 l0_1 l0_2 l0_3).bind fun t346 => (if t346 = true then ((spec_IsRanking.f k l1 (l0_1.length : Int)).bind fun t347 => (spec_WinnersOf.j0 k l1 y343 (!t347) a0_0 l0_1 l0_2 l0_3)) else (spec_WinnersOf.j0 k l1 y343 true a0_0 l0_1 l0_2 l0_3))) = some r := by first | (rw [hy343]; with_reducible exact H) | (have H2_ := (Option.bind_some _ _).symm.trans H; rw [hy343]; with_reducible exact H2_) | (have H2_ := (Option.bind_some _ _).symm.trans H; with_reducible exact H2_) | with_reducible exact H | (rw [hy343]; exact H) | exact H
 have Ny343 := asT hy343; clear hy343; have HC3 := asT H; clear H; go_enter Tryz.func29, Tryz.ntmps29
 go_upto_region 2 with (first | ((with_reducible refine gate_dst (N := 2) rfl ?_); (try (refine gate_guard (by rfl) ?_; dsimp only)); refine boxT (N := 2) (cs := #[.string a0_0, .slice A0_1 l0_1.length c0_1, .slice A0_2 l0_2.length c0_2, .slice A0_3 l0_3.length c0_3]) (t := 27) ?_; intro gb342 hg w4 hbox hb; have BK342 := asT hbox; have GW342 := asT (geT hg HB.out); have GE342 := GW342; replace HB := hS HB hb; clear hb hbox hg) | ((with_reducible refine gate_dst (N := 9) rfl ?_); (try (refine gate_guard (by rfl) ?_; dsimp only)); refine Kd.R_lit (Kd.int .i64) _ 3 ?hg (N := 9) ?hd (xs := ([] : List Int)) (inner := []) (ok := fun _ => True) (okp := fun _ => True) ?hr ?hp (fun _ hk => hk) trivial (Below.refl _ _) (Nat.le_refl _) (by simp) ?_; (case hd => rfl); (case hg => rfl); (case hr => first | (go_simp; done) | (go_simp; rfl)); (case hp => exact (Reps.none _ _)); intro v344 w5 ho6 hb hg_ hnew_; clear hg_ hnew_; (first | rw [← Ny343.out] at ho6 | (simp only [Int.reduceToNat] at ho6; rw [← Ny343.out] at ho6)); have HO345 := asT (Kd.R_lower ho6 (below_size (hbT HB.out))); replace BK342 := bS BK342 hb; replace HB := hS HB hb; clear hb ho6))
 repeat (go_quiet (first | ((with_reducible refine gate_dst (N := 2) rfl ?_); (try (refine gate_guard (by rfl) ?_; dsimp only)); refine boxT (N := 2) (cs := #[.string a0_0, .slice A0_1 l0_1.length c0_1, .slice A0_2 l0_2.length c0_2, .slice A0_3 l0_3.length c0_3]) (t := 27) ?_; intro gb342 hg w4 hbox hb; have BK342 := asT hbox; have GW342 := asT (geT hg HB.out); have GE342 := GW342; replace HB := hS HB hb; clear hb hbox hg) | ((with_reducible refine gate_dst (N := 9) rfl ?_); (try (refine gate_guard (by rfl) ?_; dsimp only)); refine Kd.R_lit (Kd.int .i64) _ 3 ?hg (N := 9) ?hd (xs := ([] : List Int)) (inner := []) (ok := fun _ => True) (okp := fun _ => True) ?hr ?hp (fun _ hk => hk) trivial (Below.refl _ _) (Nat.le_refl _) (by simp) ?_; (case hd => rfl); (case hg => rfl); (case hr => first | (go_simp; done) | (go_simp; rfl)); (case hp => exact (Reps.none _ _)); intro v344 w5 ho6 hb hg_ hnew_; clear hg_ hnew_; (first | rw [← Ny343.out] at ho6 | (simp only [Int.reduceToNat] at ho6; rw [← Ny343.out] at ho6)); have HO345 := asT (Kd.R_lower ho6 (below_size (hbT HB.out))); replace BK342 := bS BK342 hb; replace HB := hS HB hb; clear hb ho6)); go_upto_region 2 with (first | ((with_reducible refine gate_dst (N := 2) rfl ?_); (try (refine gate_guard (by rfl) ?_; dsimp only)); refine boxT (N := 2) (cs := #[.string a0_0, .slice A0_1 l0_1.length c0_1, .slice A0_2 l0_2.length c0_2, .slice A0_3 l0_3.length c0_3]) (t := 27) ?_; intro gb342 hg w4 hbox hb; have BK342 := asT hbox; have GW342 := asT (geT hg HB.out); have GE342 := GW342; replace HB := hS HB hb; clear hb hbox hg) | ((with_reducible refine gate_dst (N := 9) rfl ?_); (try (refine gate_guard (by rfl) ?_; dsimp only)); refine Kd.R_lit (Kd.int .i64) _ 3 ?hg (N := 9) ?hd (xs := ([] : List Int)) (inner := []) (ok := fun _ => True) (okp := fun _ => True) ?hr ?hp (fun _ hk => hk) trivial (Below.refl _ _) (Nat.le_refl _) (by simp) ?_; (case hd => rfl); (case hg => rfl); (case hr => first | (go_simp; done) | (go_simp; rfl)); (case hp => exact (Reps.none _ _)); intro v344 w5 ho6 hb hg_ hnew_; clear hg_ hnew_; (first | rw [← Ny343.out] at ho6 | (simp only [Int.reduceToNat] at ho6; rw [← Ny343.out] at ho6)); have HO345 := asT (Kd.R_lower ho6 (below_size (hbT HB.out))); replace BK342 := bS BK342 hb; replace HB := hS HB hb; clear hb ho6)))
 (try simp only [Act.put, sA, sZ, sS])
 go_cut [20] (fun v20 wc => ∃ (kq : Nat) (x20_2 : Bool), v20 = .bool x20_2 ∧ Aside0 (spec_WinnersOf.j0 kq l1 y343 x20_2 a0_0 l0_1 l0_2 l0_3 = some r) ∧ Aside0 (kq ≤ k) ∧ Aside0 (Kd.R (Kd.int .i64) 3 wc w.heap.size (fun _ => True) v344 y343) ∧ Aside0 (wc.heap[gb342]? = some (.cells #[.string a0_0, (.slice A0_1 l0_1.length c0_1), (.slice A0_2 l0_2.length c0_2), (.slice A0_3 l0_3.length c0_3)] 27 (0, 0))) ∧ Aside0 (Below w.heap.size w wc))
 case first =>
  have H := HC3.out; clear HC3; obtain ⟨t346, A7, H⟩ := be H; by_cases c8 : t346 = true
  ·subst c8; rw [if_pos rfl] at H; obtain ⟨t347, A9, H⟩ := be H; have H' := asT H; clear H; obtain ⟨hcz10_0, hcz10_1, hcz10_2, hcz10_3, hfz10_0, hfz10_1, hfz10_2, hfz10_3⟩ := bx4 BK342.out
   go_wp2_with (first | (go_at_call 53; (with_reducible refine (spec_IsTableau.calls k a0_0 _ _ l0_1 _ _ l0_2 _ _ l0_3 true _ ?side1 ?side2 ?side3 ?side4 ?side5 ?side6 A7.out).mono ?_); (case side1 => exact crT HR0_1.out HB.out); (case side2 => exact HC0_1.out); (case side3 => exact crT HR0_2.out HB.out); (case side4 => exact HC0_2.out); (case side5 => exact crT HR0_3.out HB.out); (case side6 => exact HC0_3.out); rintro e w11 ⟨rfl, hb⟩; replace HO345 := asT (Kd.R_below (roT HO345.out) hb); replace BK342 := bS BK342 hb; replace HB := hS HB hb; (try clear hb hb2 hk hi); obtain ⟨hcz12_0, hcz12_1, hcz12_2, hcz12_3, hfz12_0, hfz12_1, hfz12_2, hfz12_3⟩ := bx4 BK342.out) | (go_at_call 67; (with_reducible refine (spec_IsRanking.calls k _ _ l1 (l0_1.length : Int) t347 _ ?side1 ?side2 A9.out).mono ?_); (case side1 => exact crT HR1.out HB.out); (case side2 => exact HC1.out); rintro e w' ⟨rfl, ⟨nd, rfl⟩⟩; (try first | exact ⟨rfl, _, World.drewN_drewN _ _ _⟩ | exact ⟨rfl, _, Eq.trans (World.drewN_drewN _ _ _) (congrArg (World.drewN _) (Nat.add_assoc _ _ _))⟩)))
   repeat (go_quiet (first | (go_at_call 53; (with_reducible refine (spec_IsTableau.calls k a0_0 _ _ l0_1 _ _ l0_2 _ _ l0_3 true _ ?side1 ?side2 ?side3 ?side4 ?side5 ?side6 A7.out).mono ?_); (case side1 => exact crT HR0_1.out HB.out); (case side2 => exact HC0_1.out); (case side3 => exact crT HR0_2.out HB.out); (case side4 => exact HC0_2.out); (case side5 => exact crT HR0_3.out HB.out); (case side6 => exact HC0_3.out); rintro e w11 ⟨rfl, hb⟩; replace HO345 := asT (Kd.R_below (roT HO345.out) hb); replace BK342 := bS BK342 hb; replace HB := hS HB hb; (try clear hb hb2 hk hi); obtain ⟨hcz12_0, hcz12_1, hcz12_2, hcz12_3, hfz12_0, hfz12_1, hfz12_2, hfz12_3⟩ := bx4 BK342.out) | (go_at_call 67; (with_reducible refine (spec_IsRanking.calls k _ _ l1 (l0_1.length : Int) t347 _ ?side1 ?side2 A9.out).mono ?_); (case side1 => exact crT HR1.out HB.out); (case side2 => exact HC1.out); rintro e w' ⟨rfl, ⟨nd, rfl⟩⟩; (try first | exact ⟨rfl, _, World.drewN_drewN _ _ _⟩ | exact ⟨rfl, _, Eq.trans (World.drewN_drewN _ _ _) (congrArg (World.drewN _) (Nat.add_assoc _ _ _))⟩))); try go_wp2_with (first | (go_at_call 53; (with_reducible refine (spec_IsTableau.calls k a0_0 _ _ l0_1 _ _ l0_2 _ _ l0_3 true _ ?side1 ?side2 ?side3 ?side4 ?side5 ?side6 A7.out).mono ?_); (case side1 => exact crT HR0_1.out HB.out); (case side2 => exact HC0_1.out); (case side3 => exact crT HR0_2.out HB.out); (case side4 => exact HC0_2.out); (case side5 => exact crT HR0_3.out HB.out); (case side6 => exact HC0_3.out); rintro e w11 ⟨rfl, hb⟩; replace HO345 := asT (Kd.R_below (roT HO345.out) hb); replace BK342 := bS BK342 hb; replace HB := hS HB hb; (try clear hb hb2 hk hi); obtain ⟨hcz12_0, hcz12_1, hcz12_2, hcz12_3, hfz12_0, hfz12_1, hfz12_2, hfz12_3⟩ := bx4 BK342.out) | (go_at_call 67; (with_reducible refine (spec_IsRanking.calls k _ _ l1 (l0_1.length : Int) t347 _ ?side1 ?side2 A9.out).mono ?_); (case side1 => exact crT HR1.out HB.out); (case side2 => exact HC1.out); rintro e w' ⟨rfl, ⟨nd, rfl⟩⟩; (try first | exact ⟨rfl, _, World.drewN_drewN _ _ _⟩ | exact ⟨rfl, _, Eq.trans (World.drewN_drewN _ _ _) (congrArg (World.drewN _) (Nat.add_assoc _ _ _))⟩))))
   go_meet
   case rel => exact ⟨_, (!t347), rdT, H', ⟨by first | omega | exact Nat.le_refl _⟩, ⟨roT HO345.out⟩, kpT BK342.out, ⟨hbT HB.out⟩⟩
  ·replace c8 := eE c8; subst c8; rw [if_neg nF] at H; have H' := asT H; clear H; obtain ⟨hcz13_0, hcz13_1, hcz13_2, hcz13_3, hfz13_0, hfz13_1, hfz13_2, hfz13_3⟩ := bx4 BK342.out
   go_wp2_with (first | (go_at_call 53; (with_reducible refine (spec_IsTableau.calls k a0_0 _ _ l0_1 _ _ l0_2 _ _ l0_3 false _ ?side1 ?side2 ?side3 ?side4 ?side5 ?side6 A7.out).mono ?_); (case side1 => exact crT HR0_1.out HB.out); (case side2 => exact HC0_1.out); (case side3 => exact crT HR0_2.out HB.out); (case side4 => exact HC0_2.out); (case side5 => exact crT HR0_3.out HB.out); (case side6 => exact HC0_3.out); rintro e w14 ⟨rfl, hb⟩; replace HO345 := asT (Kd.R_below (roT HO345.out) hb); replace BK342 := bS BK342 hb; replace HB := hS HB hb; (try clear hb hb2 hk hi)))
   repeat (go_quiet (first | (go_at_call 53; (with_reducible refine (spec_IsTableau.calls k a0_0 _ _ l0_1 _ _ l0_2 _ _ l0_3 false _ ?side1 ?side2 ?side3 ?side4 ?side5 ?side6 A7.out).mono ?_); (case side1 => exact crT HR0_1.out HB.out); (case side2 => exact HC0_1.out); (case side3 => exact crT HR0_2.out HB.out); (case side4 => exact HC0_2.out); (case side5 => exact crT HR0_3.out HB.out); (case side6 => exact HC0_3.out); rintro e w14 ⟨rfl, hb⟩; replace HO345 := asT (Kd.R_below (roT HO345.out) hb); replace BK342 := bS BK342 hb; replace HB := hS HB hb; (try clear hb hb2 hk hi))); try go_wp2_with (first | (go_at_call 53; (with_reducible refine (spec_IsTableau.calls k a0_0 _ _ l0_1 _ _ l0_2 _ _ l0_3 false _ ?side1 ?side2 ?side3 ?side4 ?side5 ?side6 A7.out).mono ?_); (case side1 => exact crT HR0_1.out HB.out); (case side2 => exact HC0_1.out); (case side3 => exact crT HR0_2.out HB.out); (case side4 => exact HC0_2.out); (case side5 => exact crT HR0_3.out HB.out); (case side6 => exact HC0_3.out); rintro e w14 ⟨rfl, hb⟩; replace HO345 := asT (Kd.R_below (roT HO345.out) hb); replace BK342 := bS BK342 hb; replace HB := hS HB hb; (try clear hb hb2 hk hi))))
   go_meet
   case rel => exact ⟨_, (true), rdT, H', ⟨by first | omega | exact Nat.le_refl _⟩, ⟨roT HO345.out⟩, kpT BK342.out, ⟨hbT HB.out⟩⟩
 case rest =>
  clear HC3; (try clear c1 c2 p2 c8 hcz10_0 hcz10_1 hcz10_2 hcz10_3 hcz12_0 hcz12_1 hcz12_2 hcz12_3 hcz13_0 hcz13_1 hcz13_2 hcz13_3 hfz10_0 hfz10_1 hfz10_2 hfz10_3 hfz12_0 hfz12_1 hfz12_2 hfz12_3 hfz13_0 hfz13_1 hfz13_2 hfz13_3); obtain ⟨kq, x20_2, rfl, HA, HJ2, HO_5, BK342, HB⟩ := hcut
  cases kq with
  | zero => exact absurd HA.out (by simp [spec_WinnersOf.j0])
  | succ kj2 =>
   have H := HA.out; clear HA
   simp only [spec_WinnersOf.j0] at H
   by_cases c15 : x20_2 = true
   ·subst c15; rw [if_pos rfl] at H; have H1 := H; clear H; have H := H1; clear H1; obtain rfl := oI H
    go_wp2
    repeat (go_quiet (fail); try go_wp2)
    go_ret; exact ⟨_, rlT, roT HO_5.out, hbT HB.out⟩
   ·replace c15 := eE c15; subst c15; rw [if_neg nF] at H; have H' := asT H; clear H
    go_wp2
    repeat (go_quiet (fail); try go_wp2)
    go_loopg [5, 6] kj2 (fun kq v5 v6 w' => ∃ (x5_2 : List Int) (x6_2 : Int), v6 = .int .i64 x6_2 ∧ Aside0 (spec_WinnersOf.l0 kq l1 x5_2 x6_2 a0_0 l0_1 l0_2 l0_3 = some r) ∧ Aside0 (kq ≤ kj2) ∧ Aside0 (Kd.R (Kd.int .i64) 3 w' w.heap.size (fun _ => True) v5 x5_2) ∧ Aside0 (w'.heap[gb342]? = some (.cells #[.string a0_0, (.slice A0_1 l0_1.length c0_1), (.slice A0_2 l0_2.length c0_2), (.slice A0_3 l0_3.length c0_3)] 27 (0, 0))) ∧ Aside0 (Below w.heap.size w w'))
    case atStart => exact ⟨(y343), (0), rdT, H', ⟨Nat.le_refl _⟩, ⟨roT HO_5.out⟩, kpT BK342.out, ⟨hbT HB.out⟩⟩
    case round =>
     clear H'; (try clear c1 c2 p2 c8 c15 hcz10_0 hcz10_1 hcz10_2 hcz10_3 hcz12_0 hcz12_1 hcz12_2 hcz12_3 hcz13_0 hcz13_1 hcz13_2 hcz13_3 hfz10_0 hfz10_1 hfz10_2 hfz10_3 hfz12_0 hfz12_1 hfz12_2 hfz12_3 hfz13_0 hfz13_1 hfz13_2 hfz13_3 p2); obtain ⟨x5_2, x6_2, rfl, HA, HK2, HO_5, BK342, HB⟩ := hrel
     cases gk with
     | zero => exact absurd HA.out (by simp [spec_WinnersOf.l0])
     | succ k2 =>
      have H := HA.out; clear HA
      simp only [spec_WinnersOf.l0] at H
      by_cases c16 : x6_2 < (l0_2.length : Int)
      ·rw [if_pos c16] at H; have c16b0 := dt c16; clear c16; have H' := asT H; clear H; obtain ⟨hcz17_0, hcz17_1, hcz17_2, hcz17_3, hfz17_0, hfz17_1, hfz17_2, hfz17_3⟩ := bx4 BK342.out
       go_wp2
       repeat (go_quiet (fail); try go_wp2)
       go_loopg [7, 8] k2 (fun kq v7 v8 w' => ∃ (x7_3 : Bool) (x8_3 : Int), v7 = .bool x7_3 ∧ v8 = .int .i64 x8_3 ∧ Aside0 (spec_WinnersOf.l1 kq l1 x5_2 x6_2 x7_3 x8_3 a0_0 l0_1 l0_2 l0_3 = some r) ∧ Aside0 (kq ≤ k2) ∧ Aside0 (Kd.R (Kd.int .i64) 3 w' w.heap.size (fun _ => True) u5 x5_2) ∧ Aside0 (w'.heap[gb342]? = some (.cells #[.string a0_0, (.slice A0_1 l0_1.length c0_1), (.slice A0_2 l0_2.length c0_2), (.slice A0_3 l0_3.length c0_3)] 27 (0, 0))) ∧ Aside0 (Below w.heap.size w w'))
       case atStart => exact ⟨(true), (0), rdT, rdT, H', ⟨Nat.le_refl _⟩, ⟨roT HO_5.out⟩, kpT BK342.out, ⟨hbT HB.out⟩⟩
       case round =>
        clear H'; (try clear c1 c2 p2 c8 c15 c16 c16b0 hcz10_0 hcz10_1 hcz10_2 hcz10_3 hcz12_0 hcz12_1 hcz12_2 hcz12_3 hcz13_0 hcz13_1 hcz13_2 hcz13_3 hcz17_0 hcz17_1 hcz17_2 hcz17_3 hfz10_0 hfz10_1 hfz10_2 hfz10_3 hfz12_0 hfz12_1 hfz12_2 hfz12_3 hfz13_0 hfz13_1 hfz13_2 hfz13_3 hfz17_0 hfz17_1 hfz17_2 hfz17_3 p2); obtain ⟨x7_3, x8_3, rfl, rfl, HA, HK3, HO_5, BK342, HB⟩ := hrel
        cases gk with
        | zero => exact absurd HA.out (by simp [spec_WinnersOf.l1])
        | succ k3 =>
         have H := HA.out; clear HA
         simp only [spec_WinnersOf.l1] at H
         by_cases c18 : x8_3 < (l0_2.length : Int)
         ·rw [if_pos c18] at H; have c18b0 := dt c18; clear c18; by_cases c19 : x7_3 = true
          ·subst c19; rw [if_pos rfl] at H; have H1 := H; clear H; have H := H1; clear H1; by_cases c20 : 0 ≤ x6_2
           ·rw [if_pos c20] at H; have c20b0 := dt c20; clear c20; by_cases c21 : x6_2 < (l0_3.length : Int)
            ·rw [if_pos c21] at H; have c21b0 := dt c21; clear c21; by_cases c22 : 0 ≤ x8_3
             ·rw [if_pos c22] at H; have c22b0 := dt c22; clear c22; by_cases c23 : x8_3 < (l0_3.length : Int)
              ·rw [if_pos c23] at H; have c23b0 := dt c23; clear c23; obtain ⟨t350, A24, H⟩ := be H; have H' := asT H; clear H; obtain ⟨hcz25_0, hcz25_1, hcz25_2, hcz25_3, hfz25_0, hfz25_1, hfz25_2, hfz25_3⟩ := bx4 BK342.out; have p348 : 0 ≤ (x6_2 : Int) := dT asmT; have q348 : x6_2 < (l0_3.length : Int) := dT asmT; obtain ⟨ad348, A348_0, c348_0, e348, hx348_0, hl348_0, hi348_0⟩ := at_L6 HR0_3.out x6_2 p348 q348
               cases e348
               replace hx348_0 := hbc HB.out hx348_0; have HR348_0 := asT hi348_0; have HC348_0 := asT hl348_0; clear hi348_0 hl348_0; replace p348 := eq_true p348; replace q348 := eq_true q348; have p349 : 0 ≤ (x8_3 : Int) := dT asmT; have q349 : x8_3 < (l0_3.length : Int) := dT asmT; obtain ⟨ad349, A349_0, c349_0, e349, hx349_0, hl349_0, hi349_0⟩ := at_L6 HR0_3.out x8_3 p349 q349; obtain rfl : ad348 = ad349 := (by injection e349); replace hx349_0 := hbc HB.out hx349_0; have HR349_0 := asT hi349_0; have HC349_0 := asT hl349_0; clear hi349_0 hl349_0; replace p349 := eq_true p349; replace q349 := eq_true q349
               go_wp2_with (first | (go_at_call 68; (with_reducible refine (spec_CompareMarks.calls k3 _ _ (rd_L6 l0_3 x6_2) _ _ (rd_L6 l0_3 x8_3) _ _ l1 t350 _ ?side1 ?side2 ?side3 ?side4 ?side5 ?side6 A24.out).mono ?_); (case side1 => exact crT HR348_0.out HB.out); (case side2 => exact HC348_0.out); (case side3 => exact crT HR349_0.out HB.out); (case side4 => exact HC349_0.out); (case side5 => exact crT HR1.out HB.out); (case side6 => exact HC1.out); rintro e w' ⟨rfl, ⟨nd, rfl⟩⟩; (try first | exact ⟨rfl, _, World.drewN_drewN _ _ _⟩ | exact ⟨rfl, _, Eq.trans (World.drewN_drewN _ _ _) (congrArg (World.drewN _) (Nat.add_assoc _ _ _))⟩)))
               repeat (go_quiet (first | (go_at_call 68; (with_reducible refine (spec_CompareMarks.calls k3 _ _ (rd_L6 l0_3 x6_2) _ _ (rd_L6 l0_3 x8_3) _ _ l1 t350 _ ?side1 ?side2 ?side3 ?side4 ?side5 ?side6 A24.out).mono ?_); (case side1 => exact crT HR348_0.out HB.out); (case side2 => exact HC348_0.out); (case side3 => exact crT HR349_0.out HB.out); (case side4 => exact HC349_0.out); (case side5 => exact crT HR1.out HB.out); (case side6 => exact HC1.out); rintro e w' ⟨rfl, ⟨nd, rfl⟩⟩; (try first | exact ⟨rfl, _, World.drewN_drewN _ _ _⟩ | exact ⟨rfl, _, Eq.trans (World.drewN_drewN _ _ _) (congrArg (World.drewN _) (Nat.add_assoc _ _ _))⟩))); try go_wp2_with (first | (go_at_call 68; (with_reducible refine (spec_CompareMarks.calls k3 _ _ (rd_L6 l0_3 x6_2) _ _ (rd_L6 l0_3 x8_3) _ _ l1 t350 _ ?side1 ?side2 ?side3 ?side4 ?side5 ?side6 A24.out).mono ?_); (case side1 => exact crT HR348_0.out HB.out); (case side2 => exact HC348_0.out); (case side3 => exact crT HR349_0.out HB.out); (case side4 => exact HC349_0.out); (case side5 => exact crT HR1.out HB.out); (case side6 => exact HC1.out); rintro e w' ⟨rfl, ⟨nd, rfl⟩⟩; (try first | exact ⟨rfl, _, World.drewN_drewN _ _ _⟩ | exact ⟨rfl, _, Eq.trans (World.drewN_drewN _ _ _) (congrArg (World.drewN _) (Nat.add_assoc _ _ _))⟩))))
               go_roundg k3
               case measure => have := HJ2.out; have := HK2.out; have := HK3.out; omega
               case rel => exact ⟨(decide (t350 ≤ 0)), (wrap64 (x8_3 + 1)), rdT, rdT, H', ⟨by have := HJ2.out; have := HK2.out; have := HK3.out; omega⟩, ⟨roT HO_5.out⟩, kpT BK342.out, ⟨hbT HB.out⟩⟩
              ·rw [if_neg c23] at H; exact absurd H (by simp)
             ·rw [if_neg c22] at H; exact absurd H (by simp)
            ·rw [if_neg c21] at H; exact absurd H (by simp)
           ·rw [if_neg c20] at H; exact absurd H (by simp)
          ·replace c19 := eE c19; subst c19; rw [if_neg nF] at H; have H' := asT H; clear H; obtain ⟨hcz26_0, hcz26_1, hcz26_2, hcz26_3, hfz26_0, hfz26_1, hfz26_2, hfz26_3⟩ := bx4 BK342.out
           go_wp2
           repeat (go_quiet (fail); try go_wp2)
           go_roundg k3
           case measure => have := HJ2.out; have := HK2.out; have := HK3.out; omega
           case rel => exact ⟨(x5_2), (wrap64 (x6_2 + 1)), rdT, H', ⟨by have := HJ2.out; have := HK2.out; have := HK3.out; omega⟩, ⟨roT HO_5.out⟩, kpT BK342.out, ⟨hbT HB.out⟩⟩
         ·rw [if_neg c18] at H; have c18b0 := df c18; clear c18; by_cases c27 : x7_3 = true
          ·subst c27; rw [if_pos rfl] at H; have H1 := H; clear H; have H := H1; clear H1; by_cases c28 : x5_2.length < 17592186044416
           ·rw [if_pos c28] at H; have LMc28 := asT c28; clear c28; obtain ⟨y351, hy351⟩ : ∃ y_ : List Int, y_ = (x5_2 ++ [x6_2]) := ⟨_, rfl⟩
            replace H : (spec_WinnersOf.l0 k3 l1 y351 (wrap64 (x6_2 + 1)) a0_0 l0_1 l0_2 l0_3) = some r := by first | (rw [hy351]; with_reducible exact H) | (have H2_ := (Option.bind_some _ _).symm.trans H; rw [hy351]; with_reducible exact H2_) | (have H2_ := (Option.bind_some _ _).symm.trans H; with_reducible exact H2_) | with_reducible exact H | (rw [hy351]; exact H) | exact H
            have Ny351 := asT hy351; clear hy351; have H' := asT H; clear H; obtain ⟨hcz29_0, hcz29_1, hcz29_2, hcz29_3, hfz29_0, hfz29_1, hfz29_2, hfz29_3⟩ := bx4 BK342.out
            go_wp2_with (first | ((with_reducible refine gate_builtin (b := .append) (xs := #[.tmp 53, .tmp 55]) rfl ?_); (try (refine gate_guard (by rfl) ?_; dsimp only)); at_builtin; refine Kd.R_append (Kd.int .i64) (w0 := w) w.heap.size rfl (.tmp 53) (.tmp 55) 39 3 (.int .i64 0) 8 rfl Tryz.underlying39 info3 rfl (by decide) (by omega) u5 x5_2 x6_2 [.int .i64 x6_2] (fun _ => True) (fun _ => False) rfl rfl ?aP (fun _ hk => hk.elim) ?aF ?aO ?aB ?aS ?aL ?_; (case aP => exact rfl); (case aB => exact (hbT HB.out)); (case aF => exact (fun _ _ => trivial)); (case aO => exact (roT HO_5.out)); (case aS => exact (below_size (hbT HB.out))); (case aL => have := LMc28.out; omega); intro v352 w30 ho hb hg hat; rw [← Ny351.out] at ho; replace BK342 := asT (blk_grown (g := gb342) (o := .cells #[.string a0_0, .slice A0_1 l0_1.length c0_1, .slice A0_2 l0_2.length c0_2, .slice A0_3 l0_3.length c0_3] 27 (0, 0)) (bkT BK342.out) hg (Kd.R_ne HO_5.out BK342.out (by decide))); replace HB := asT (hb); have HO353 := asT (ho); clear HO_5 ho hb hg hat))
            repeat (go_quiet (first | ((with_reducible refine gate_builtin (b := .append) (xs := #[.tmp 53, .tmp 55]) rfl ?_); (try (refine gate_guard (by rfl) ?_; dsimp only)); at_builtin; refine Kd.R_append (Kd.int .i64) (w0 := w) w.heap.size rfl (.tmp 53) (.tmp 55) 39 3 (.int .i64 0) 8 rfl Tryz.underlying39 info3 rfl (by decide) (by omega) u5 x5_2 x6_2 [.int .i64 x6_2] (fun _ => True) (fun _ => False) rfl rfl ?aP (fun _ hk => hk.elim) ?aF ?aO ?aB ?aS ?aL ?_; (case aP => exact rfl); (case aB => exact (hbT HB.out)); (case aF => exact (fun _ _ => trivial)); (case aO => exact (roT HO_5.out)); (case aS => exact (below_size (hbT HB.out))); (case aL => have := LMc28.out; omega); intro v352 w30 ho hb hg hat; rw [← Ny351.out] at ho; replace BK342 := asT (blk_grown (g := gb342) (o := .cells #[.string a0_0, .slice A0_1 l0_1.length c0_1, .slice A0_2 l0_2.length c0_2, .slice A0_3 l0_3.length c0_3] 27 (0, 0)) (bkT BK342.out) hg (Kd.R_ne HO_5.out BK342.out (by decide))); replace HB := asT (hb); have HO353 := asT (ho); clear HO_5 ho hb hg hat)); try go_wp2_with (first | ((with_reducible refine gate_builtin (b := .append) (xs := #[.tmp 53, .tmp 55]) rfl ?_); (try (refine gate_guard (by rfl) ?_; dsimp only)); at_builtin; refine Kd.R_append (Kd.int .i64) (w0 := w) w.heap.size rfl (.tmp 53) (.tmp 55) 39 3 (.int .i64 0) 8 rfl Tryz.underlying39 info3 rfl (by decide) (by omega) u5 x5_2 x6_2 [.int .i64 x6_2] (fun _ => True) (fun _ => False) rfl rfl ?aP (fun _ hk => hk.elim) ?aF ?aO ?aB ?aS ?aL ?_; (case aP => exact rfl); (case aB => exact (hbT HB.out)); (case aF => exact (fun _ _ => trivial)); (case aO => exact (roT HO_5.out)); (case aS => exact (below_size (hbT HB.out))); (case aL => have := LMc28.out; omega); intro v352 w30 ho hb hg hat; rw [← Ny351.out] at ho; replace BK342 := asT (blk_grown (g := gb342) (o := .cells #[.string a0_0, .slice A0_1 l0_1.length c0_1, .slice A0_2 l0_2.length c0_2, .slice A0_3 l0_3.length c0_3] 27 (0, 0)) (bkT BK342.out) hg (Kd.R_ne HO_5.out BK342.out (by decide))); replace HB := asT (hb); have HO353 := asT (ho); clear HO_5 ho hb hg hat)))
            go_roundg k3
            case measure => have := HJ2.out; have := HK2.out; have := HK3.out; omega
            case rel => exact ⟨(y351), (wrap64 (x6_2 + 1)), rdT, H', ⟨by have := HJ2.out; have := HK2.out; have := HK3.out; omega⟩, ⟨roT HO353.out⟩, kpT BK342.out, ⟨hbT HB.out⟩⟩
           ·rw [if_neg c28] at H; exact absurd H (by simp)
          ·replace c27 := eE c27; subst c27; rw [if_neg nF] at H; have H' := asT H; clear H; obtain ⟨hcz31_0, hcz31_1, hcz31_2, hcz31_3, hfz31_0, hfz31_1, hfz31_2, hfz31_3⟩ := bx4 BK342.out
           go_wp2
           repeat (go_quiet (fail); try go_wp2)
           go_roundg k3
           case measure => have := HJ2.out; have := HK2.out; have := HK3.out; omega
           case rel => exact ⟨(x5_2), (wrap64 (x6_2 + 1)), rdT, H', ⟨by have := HJ2.out; have := HK2.out; have := HK3.out; omega⟩, ⟨roT HO_5.out⟩, kpT BK342.out, ⟨hbT HB.out⟩⟩
      ·rw [if_neg c16] at H; have c16b0 := df c16; clear c16; obtain rfl := oI H; obtain ⟨hcz32_0, hcz32_1, hcz32_2, hcz32_3, hfz32_0, hfz32_1, hfz32_2, hfz32_3⟩ := bx4 BK342.out
       go_wp2
       repeat (go_quiet (fail); try go_wp2)
       go_ret; exact ⟨_, rlT, roT HO_5.out, hbT HB.out⟩
def spec_OptimalOutputs.l0 : Nat → List ByteArray → List Int → Int → ByteArray → List ByteArray → List (S60) → List (List Int) → Option (List ByteArray)
 | 0, _, _, _, _, _, _, _ => none
 | k + 1, x5, x6, x7, x355000, x355001, x355002, x355003 => if x7 < (x6.length : Int) then (if 0 ≤ x7 then (if 0 ≤ (rd x6 x7) then (if (rd x6 x7) < (x355002.length : Int) then ((spec_OutputOf.f k ((rd_T60 x355002 (rd x6 x7)).f0)).bind fun t363 => ((spec_l3Has.f k x5 t363).bind fun t364 => (if t364 = true then (spec_OptimalOutputs.l0 k x5 x6 (wrap64 (x7 + 1)) x355000 x355001 x355002 x355003) else (if x5.length < 8796093022208 then (spec_OptimalOutputs.l0 k (x5 ++ [t363]) x6 (wrap64 (x7 + 1)) x355000 x355001 x355002 x355003) else (none))))) else (none)) else (none)) else (none)) else (some x5)
def spec_OptimalOutputs.f (k : Nat) (a0_0 : ByteArray) (l0_1 : List ByteArray) (l0_2 : List (S60)) (l0_3 : List (List Int)) (l1 : List Int) : Option (List ByteArray) := (spec_WinnersOf.f k a0_0 l0_1 l0_2 l0_3 l1).bind fun t358 => (spec_OptimalOutputs.l0 k (([] : List ByteArray)) t358 0 a0_0 l0_1 l0_2 l0_3)
theorem spec_OptimalOutputs.mono_l : ∀ k, (∀ y0 y1 y2 y3 y4 y5 y6, LeO (spec_OptimalOutputs.l0 k y0 y1 y2 y3 y4 y5 y6) (spec_OptimalOutputs.l0 (k + 1) y0 y1 y2 y3 y4 y5 y6))
 | 0 => fun _ _ _ _ _ _ _ r h => by simp [spec_OptimalOutputs.l0] at h
 | k + 1 => by
  have ih0 := spec_OptimalOutputs.mono_l k
  ·intro y0 y1 y2 y3 y4 y5 y6; unfold spec_OptimalOutputs.l0
   with_reducible repeat' first | exact ih0 _ _ _ _ _ _ _ | exact spec_OutputOf.mono _ _ | exact spec_WinnersOf.mono _ _ _ _ _ _ | exact spec_l3Has.mono _ _ _ | exact LeO.refl _ | exact LeO.none _ | refine LeO.ite ?_ ?_ | refine LeO.bind ?_ (fun _ => ?_)
theorem spec_OptimalOutputs.mono : ∀ a0 a1 a2 a3 a4 k, LeO (spec_OptimalOutputs.f k a0 a1 a2 a3 a4) (spec_OptimalOutputs.f (k + 1) a0 a1 a2 a3 a4) := by
 intro a0 a1 a2 a3 a4 k; have ih0 := spec_OptimalOutputs.mono_l k; unfold spec_OptimalOutputs.f
 with_reducible repeat' first | exact ih0 _ _ _ _ _ _ _ | exact spec_OutputOf.mono _ _ | exact spec_WinnersOf.mono _ _ _ _ _ _ | exact spec_l3Has.mono _ _ _ | exact LeO.refl _ | exact LeO.none _ | refine LeO.ite ?_ ?_ | refine LeO.bind ?_ (fun _ => ?_)
def spec_OptimalOutputs.T6 : Bool × List (List Nat × List Nat) := (true, [([], []), ([0], [0]), ([], []), ([], []), ([2, 3], [2, 3]), ([4], [4]), ([1, 5], [1, 5]), ([6], [6]), ([7], [7]), ([8, 8, 0, 1, 2, 3, 4, 5, 6, 7, 8], [8])])
def spec_OptimalOutputs.B6 : List Nat := [0, 1, 0, 0, 12, 28, 63, 127, 255, 511]
theorem spec_OptimalOutputs.tab6 : rtab .any (opsOf Tryz.f32 6) = spec_OptimalOutputs.T6 := by kernel_rfl
theorem spec_OptimalOutputs.bits6 : waitsOk spec_OptimalOutputs.T6.2 spec_OptimalOutputs.B6 = true := by kernel_rfl
theorem spec_OptimalOutputs.calls (k : Nat) (a0_0 : ByteArray) (A0_1 : Option Addr) (c0_1 : Nat) (l0_1 : List ByteArray) (A0_2 : Option Addr) (c0_2 : Nat) (l0_2 : List (S60)) (A0_3 : Option Addr) (c0_3 : Nat) (l0_3 : List (List Int)) (A1 : Option Addr) (c1 : Nat) (l1 : List Int) (r : List ByteArray) (w : World) (hr0_1 : Kd.C Kd.string w A0_1 l0_1.length l0_1) (hc0_1 : l0_1.length ≤ c0_1) (hr0_2 : Kd.C k60 w A0_2 l0_2.length l0_2) (hc0_2 : l0_2.length ≤ c0_2) (hr0_3 : Kd.C (Kd.slice 3 (Kd.int .i64)) w A0_3 l0_3.length l0_3) (hc0_3 : l0_3.length ≤ c0_3) (hr1 : Kd.C (Kd.int .i64) w A1 l1.length l1) (hc1 : l1.length ≤ c1) (h : spec_OptimalOutputs.f k a0_0 l0_1 l0_2 l0_3 l1 = some r) :
  Calls Tryz.prog 32 #[.agg #[.string a0_0, .slice A0_1 l0_1.length c0_1, .slice A0_2 l0_2.length c0_2, .slice A0_3 l0_3.length c0_3], .slice A1 l1.length c1] w fun e w' => ∃ v0_ : Value, e = .returned (v0_) ∧ Kd.R Kd.string 9 w' w.heap.size (fun _ => True) v0_ r ∧ Below w.heap.size w w' := by
 have hu27 := Tryz.underlying27; have hu60 := Tryz.underlying60; have HR0_1 := asT hr0_1; have HC0_1 := asT hc0_1; clear hr0_1 hc0_1; have HR0_2 := asT hr0_2; have HC0_2 := asT hc0_2; clear hr0_2 hc0_2; have HR0_3 := asT hr0_3; have HC0_3 := asT hc0_3; clear hr0_3 hc0_3; have HR1 := asT hr1; have HC1 := asT hc1; clear hr1 hc1; have HB := asT (Below.refl w.heap.size w); have H := h; unfold spec_OptimalOutputs.f at H; clear h; obtain ⟨y355, hy355⟩ : ∃ y_ : List ByteArray, y_ = (([] : List ByteArray)) := ⟨_, rfl⟩
 replace H : ((spec_WinnersOf.f k a0_0 l0_1 l0_2 l0_3 l1).bind fun t358 => (spec_OptimalOutputs.l0 k y355 t358 0 a0_0 l0_1 l0_2 l0_3)) = some r := by first | (rw [hy355]; with_reducible exact H) | (have H2_ := (Option.bind_some _ _).symm.trans H; rw [hy355]; with_reducible exact H2_) | (have H2_ := (Option.bind_some _ _).symm.trans H; with_reducible exact H2_) | with_reducible exact H | (rw [hy355]; exact H) | exact H
 have Ny355 := asT hy355; clear hy355; obtain ⟨t358, A3, H⟩ := be H; have H' := asT H; clear H; go_enter Tryz.func32, Tryz.ntmps32
 go_wp2_with (first | ((with_reducible refine gate_dst (N := 2) rfl ?_); refine boxT (N := 2) (cs := #[.string a0_0, .slice A0_1 l0_1.length c0_1, .slice A0_2 l0_2.length c0_2, .slice A0_3 l0_3.length c0_3]) (t := 27) ?_; intro gb354 hg w4 hbox hb; have BK354 := asT hbox; have GW354 := asT (geT hg HB.out); have GE354 := GW354; replace HB := hS HB hb; clear hb hbox hg) | ((with_reducible refine gate_dst (N := 9) rfl ?_); refine Kd.R_lit Kd.string _ 9 ?hg (N := 9) ?hd (xs := ([] : List ByteArray)) (inner := []) (ok := fun _ => True) (okp := fun _ => True) ?hr ?hp (fun _ hk => hk) trivial (Below.refl _ _) (Nat.le_refl _) (by simp) ?_; (case hd => rfl); (case hg => rfl); (case hr => first | (go_simp; done) | (go_simp; rfl)); (case hp => exact (Reps.none _ _)); intro v356 w5 ho6 hb hg_ hnew_; clear hg_ hnew_; (first | rw [← Ny355.out] at ho6 | (simp only [Int.reduceToNat] at ho6; rw [← Ny355.out] at ho6)); have HO357 := asT (Kd.R_lower ho6 (below_size (hbT HB.out))); replace BK354 := bS BK354 hb; replace HB := hS HB hb; clear hb ho6; obtain ⟨hcz7_0, hcz7_1, hcz7_2, hcz7_3, hfz7_0, hfz7_1, hfz7_2, hfz7_3⟩ := bx4 BK354.out) | ((with_reducible refine gate_callee (f := 29) rfl ?_); refine goesL_ (some 12) rfl rfl Tryz.func29 (by kernel_rfl) rfl #[.agg #[.string a0_0, .slice A0_1 l0_1.length c0_1, .slice A0_2 l0_2.length c0_2, .slice A0_3 l0_3.length c0_3], .slice A1 l1.length c1] rfl eqT ?_; (with_reducible refine (spec_WinnersOf.calls k a0_0 _ _ l0_1 _ _ l0_2 _ _ l0_3 _ _ l1 t358 _ ?side1 ?side2 ?side3 ?side4 ?side5 ?side6 ?side7 ?side8 A3.out).mono ?_); (case side1 => exact crT HR0_1.out HB.out); (case side2 => exact HC0_1.out); (case side3 => exact crT HR0_2.out HB.out); (case side4 => exact HC0_2.out); (case side5 => exact crT HR0_3.out HB.out); (case side6 => exact HC0_3.out); (case side7 => exact crT HR1.out HB.out); (case side8 => exact HC1.out); rintro e w8 ⟨v359, rfl, ho0, hb⟩; refine ⟨_, rfl, ?_⟩; replace HO357 := asT (Kd.R_below (roT HO357.out) hb); have HO360 := asT (Kd.R_lower ho0 (below_size (hbT HB.out))); replace BK354 := bS BK354 hb; replace HB := hS HB hb; (try clear hb hb2 hk hi ho0)))
 go_loopg [5, 7] k (fun kq v5 v7 w' => ∃ (x5_1 : List ByteArray) (x7_1 : Int), v7 = .int .i64 x7_1 ∧ Aside0 (spec_OptimalOutputs.l0 kq x5_1 t358 x7_1 a0_0 l0_1 l0_2 l0_3 = some r) ∧ Aside0 (kq ≤ k) ∧ Aside0 (Kd.R Kd.string 9 w' w.heap.size (fun _ => True) v5 x5_1) ∧ Aside0 (Kd.R (Kd.int .i64) 3 w' w.heap.size (fun _ => True) v359 t358) ∧ Aside0 (w'.heap[gb354]? = some (.cells #[.string a0_0, (.slice A0_1 l0_1.length c0_1), (.slice A0_2 l0_2.length c0_2), (.slice A0_3 l0_3.length c0_3)] 27 (0, 0))) ∧ Aside0 (Below w.heap.size w w'))
 case atStart => exact ⟨(y355), (0), rdT, H', ⟨Nat.le_refl _⟩, ⟨roT HO357.out⟩, ⟨roT HO360.out⟩, kpT BK354.out, ⟨hbT HB.out⟩⟩
 case round =>
  clear H'; (try clear c1 c2 p2 c3 hcz7_0 hcz7_1 hcz7_2 hcz7_3 hfz7_0 hfz7_1 hfz7_2 hfz7_3); obtain ⟨x5_1, x7_1, rfl, HA, HK1, HO_5, HO_6, BK354, HB⟩ := hrel
  cases gk with
  | zero => exact absurd HA.out (by simp [spec_OptimalOutputs.l0])
  | succ k1 =>
   have H := HA.out; clear HA
   simp only [spec_OptimalOutputs.l0] at H
   by_cases c9 : x7_1 < (t358.length : Int)
   ·rw [if_pos c9] at H; have c9b0 := dt c9; clear c9; by_cases c10 : 0 ≤ x7_1
    ·rw [if_pos c10] at H; have c10b0 := dt c10; clear c10; by_cases c11 : 0 ≤ (rd t358 x7_1)
     ·rw [if_pos c11] at H; have c11b0 := dt c11; clear c11; by_cases c12 : (rd t358 x7_1) < (l0_2.length : Int)
      ·rw [if_pos c12] at H; have c12b0 := dt c12; clear c12; obtain ⟨t363, A13, H⟩ := be H; obtain ⟨t364, A14, H⟩ := be H; by_cases c15 : t364 = true
       ·subst c15; rw [if_pos rfl] at H; have H' := asT H; clear H; obtain ⟨Ao16, co16, eo16⟩ := Kd.R_slice HO_6.out; subst eo16
        try go_wp2
        replace HO_5 := asT (Kd.R_drew HO_5.out); replace HO_6 := asT (Kd.R_drew HO_6.out); replace BK354 := asT (blk_drew BK354.out); replace HB := asT (below_drew1 HB.out); have p361 : 0 ≤ (x7_1 : Int) := dT asmT; have q361 : x7_1 < (t358.length : Int) := dT asmT; obtain ⟨ad361, e361, hx361_0⟩ := Kd.at_int (Kd.R_reads' HO_6.out).2.2 x7_1 p361 q361
        cases e361
        replace p361 := eq_true p361; replace q361 := eq_true q361; have p362 : 0 ≤ ((rd t358 x7_1) : Int) := dT asmT; have q362 : (rd t358 x7_1) < (l0_2.length : Int) := dT asmT; obtain ⟨ad362, A362_0, c362_0, e362, hx362_0, hl362_0, hi362_0⟩ := at_T60 HR0_2.out (rd t358 x7_1) p362 q362; have hw362_0 := hx362_0
        cases e362
        replace hx362_0 := hbc HB.out hx362_0; have HR362_0 := asT hi362_0; have HC362_0 := asT hl362_0; clear hi362_0 hl362_0; replace p362 := eq_true p362; replace q362 := eq_true q362; refine start_ (n := 10) (S := fun w' => w'.cell? ⟨gb354, 0, none⟩ = some (.string a0_0) ∧ w'.cell? ⟨gb354, 1, none⟩ = some (.slice A0_1 l0_1.length c0_1) ∧ w'.cell? ⟨gb354, 2, none⟩ = some (.slice (some ad362) l0_2.length c0_2) ∧ w'.cell? ⟨gb354, 3, none⟩ = some (.slice A0_3 l0_3.length c0_3) ∧ w'.cell? (ad361.add (x7_1).toNat) = some (.int .i64 (rd t358 x7_1)) ∧ w'.cell? (ad362.add ((rd t358 x7_1)).toNat) = some (.slice A362_0 ((rd_T60 l0_2 (rd t358 x7_1)).f0).length c362_0)) (ds := []) (bA 10 0) (by kernel_rfl) rfl rfl ⟨bc0 BK354.out, bc1 BK354.out, bc2 BK354.out, bc3 BK354.out, hx361_0, (hbc HB.out hw362_0 :)⟩ (fun hHeld => ?_); refine with_tabW spec_OptimalOutputs.tab6 spec_OptimalOutputs.bits6 (fun HT_ HW_ => ?_); generalize wr.drew = w17 at HO_5 HO_6 BK354 HB HR362_0 hx361_0 hx362_0 hHeld ⊢; refine pA 0 19 10 1 HT_.out ?_ rfl rfl; refine pA 2 21 10 5 HT_.out ?_ rfl rfl; refine pA 3 22 10 13 HT_.out ?_ rfl rfl; refine pA 4 23 10 29 HT_.out ?_ rfl rfl; refine tA 1 20 10 31 HT_.out HW_.out hHeld ?_ rfl rfl; refine tA 5 24 10 63 HT_.out HW_.out hHeld ?_ rfl rfl; refine pA 6 25 10 127 HT_.out ?_ rfl rfl; refine tA 7 26 10 255 HT_.out HW_.out hHeld ?_ rfl rfl; refine oA 8 27 10 511 HT_.out (fun K hK => ?_) rfl rfl; refine goes_ Tryz.func71 (by kernel_rfl) rfl #[.agg #[.slice A362_0 ((rd_T60 l0_2 (rd t358 x7_1)).f0).length c362_0]] (by rfl) rfl rfl eqT ?_
        (with_reducible refine (spec_OutputOf.calls k1 _ _ ((rd_T60 l0_2 (rd t358 x7_1)).f0) t363 _ ?side1 ?side2 A13.out).mono ?_); (case side1 => exact crT HR362_0.out HB.out); (case side2 => exact HC362_0.out); rintro e w18 ⟨rfl, hb⟩; have HS4_ := (hb.cell (World.block_lt_of_cell? _ _ (hHeld.2.2.2.2.1))).trans (hHeld.2.2.2.2.1); refine ⟨_, rfl, ?_⟩; replace HO_5 := asT (Kd.R_below (roT HO_5.out) hb); replace HO_6 := asT (Kd.R_below (roT HO_6.out) hb); replace BK354 := bS BK354 hb; replace HB := hS HB hb; (try clear hb hb2 hk hi)
        refine hK.out _ _ ⟨bc0 BK354.out, bc1 BK354.out, bc2 BK354.out, bc3 BK354.out, HS4_, (hbc HB.out hw362_0 :)⟩ (fun hHeld => ?_); clear hK K; refine nB 27 ?_ rfl; refine pA 9 8 10 1023 HT_.out ?_ rfl rfl; refine done_ (done_of HT_.out (by kernel_rfl)) ?_; obtain ⟨Ao19, co19, eo19⟩ := Kd.R_slice HO_5.out; subst eo19
        try go_wp2_with (first | ((with_reducible refine gate_callee (f := 72) rfl ?_); refine goesL_ (some 30) rfl rfl Tryz.func72 (by kernel_rfl) rfl #[.slice Ao19 x5_1.length co19, .string t363] rfl eqT ?_; (with_reducible refine (spec_l3Has.calls k1 _ _ x5_1 t363 true _ ?side1 ?side2 A14.out).mono ?_); (case side1 => exact caT (Kd.R_reads' HO_5.out).2.2); (case side2 => exact (Kd.R_reads' HO_5.out).2.1); rintro e w' ⟨rfl, ⟨nd, rfl⟩⟩; refine ⟨_, rfl, ?_⟩))
        go_roundg k1
        case measure => have := HK1.out; omega
        case rel => exact ⟨(x5_1), (wrap64 (x7_1 + 1)), rdT, H', ⟨by have := HK1.out; omega⟩, ⟨roT HO_5.out⟩, ⟨roT HO_6.out⟩, kpT BK354.out, ⟨hbT HB.out⟩⟩
       ·replace c15 := eE c15; subst c15; rw [if_neg nF] at H; have H1 := H; clear H; have H := H1; clear H1; by_cases c20 : x5_1.length < 8796093022208
        ·rw [if_pos c20] at H; have LMc20 := asT c20; clear c20; obtain ⟨y365, hy365⟩ : ∃ y_ : List ByteArray, y_ = (x5_1 ++ [t363]) := ⟨_, rfl⟩
         replace H : (spec_OptimalOutputs.l0 k1 y365 t358 (wrap64 (x7_1 + 1)) a0_0 l0_1 l0_2 l0_3) = some r := by first | (rw [hy365]; with_reducible exact H) | (have H2_ := (Option.bind_some _ _).symm.trans H; rw [hy365]; with_reducible exact H2_) | (have H2_ := (Option.bind_some _ _).symm.trans H; with_reducible exact H2_) | with_reducible exact H | (rw [hy365]; exact H) | exact H
         have Ny365 := asT hy365; clear hy365; have H' := asT H; clear H; obtain ⟨Ao21, co21, eo21⟩ := Kd.R_slice HO_6.out; subst eo21
         try go_wp2
         replace HO_5 := asT (Kd.R_drew HO_5.out); replace HO_6 := asT (Kd.R_drew HO_6.out); replace BK354 := asT (blk_drew BK354.out); replace HB := asT (below_drew1 HB.out); have p361 : 0 ≤ (x7_1 : Int) := dT asmT; have q361 : x7_1 < (t358.length : Int) := dT asmT; obtain ⟨ad361, e361, hx361_0⟩ := Kd.at_int (Kd.R_reads' HO_6.out).2.2 x7_1 p361 q361
         cases e361
         replace p361 := eq_true p361; replace q361 := eq_true q361; have p362 : 0 ≤ ((rd t358 x7_1) : Int) := dT asmT; have q362 : (rd t358 x7_1) < (l0_2.length : Int) := dT asmT; obtain ⟨ad362, A362_0, c362_0, e362, hx362_0, hl362_0, hi362_0⟩ := at_T60 HR0_2.out (rd t358 x7_1) p362 q362; have hw362_0 := hx362_0
         cases e362
         replace hx362_0 := hbc HB.out hx362_0; have HR362_0 := asT hi362_0; have HC362_0 := asT hl362_0; clear hi362_0 hl362_0; replace p362 := eq_true p362; replace q362 := eq_true q362; refine start_ (n := 10) (S := fun w' => w'.cell? ⟨gb354, 0, none⟩ = some (.string a0_0) ∧ w'.cell? ⟨gb354, 1, none⟩ = some (.slice A0_1 l0_1.length c0_1) ∧ w'.cell? ⟨gb354, 2, none⟩ = some (.slice (some ad362) l0_2.length c0_2) ∧ w'.cell? ⟨gb354, 3, none⟩ = some (.slice A0_3 l0_3.length c0_3) ∧ w'.cell? (ad361.add (x7_1).toNat) = some (.int .i64 (rd t358 x7_1)) ∧ w'.cell? (ad362.add ((rd t358 x7_1)).toNat) = some (.slice A362_0 ((rd_T60 l0_2 (rd t358 x7_1)).f0).length c362_0)) (ds := []) (bA 10 0) (by kernel_rfl) rfl rfl ⟨bc0 BK354.out, bc1 BK354.out, bc2 BK354.out, bc3 BK354.out, hx361_0, (hbc HB.out hw362_0 :)⟩ (fun hHeld => ?_); refine with_tabW spec_OptimalOutputs.tab6 spec_OptimalOutputs.bits6 (fun HT_ HW_ => ?_); generalize wr.drew = w22 at HO_5 HO_6 BK354 HB HR362_0 hx361_0 hx362_0 hHeld ⊢; refine pA 0 19 10 1 HT_.out ?_ rfl rfl; refine pA 2 21 10 5 HT_.out ?_ rfl rfl; refine pA 3 22 10 13 HT_.out ?_ rfl rfl; refine pA 4 23 10 29 HT_.out ?_ rfl rfl; refine tA 1 20 10 31 HT_.out HW_.out hHeld ?_ rfl rfl; refine tA 5 24 10 63 HT_.out HW_.out hHeld ?_ rfl rfl; refine pA 6 25 10 127 HT_.out ?_ rfl rfl; refine tA 7 26 10 255 HT_.out HW_.out hHeld ?_ rfl rfl; refine oA 8 27 10 511 HT_.out (fun K hK => ?_) rfl rfl; refine goes_ Tryz.func71 (by kernel_rfl) rfl #[.agg #[.slice A362_0 ((rd_T60 l0_2 (rd t358 x7_1)).f0).length c362_0]] (by rfl) rfl rfl eqT ?_
         (with_reducible refine (spec_OutputOf.calls k1 _ _ ((rd_T60 l0_2 (rd t358 x7_1)).f0) t363 _ ?side1 ?side2 A13.out).mono ?_); (case side1 => exact crT HR362_0.out HB.out); (case side2 => exact HC362_0.out); rintro e w23 ⟨rfl, hb⟩; have HS4_ := (hb.cell (World.block_lt_of_cell? _ _ (hHeld.2.2.2.2.1))).trans (hHeld.2.2.2.2.1); refine ⟨_, rfl, ?_⟩; replace HO_5 := asT (Kd.R_below (roT HO_5.out) hb); replace HO_6 := asT (Kd.R_below (roT HO_6.out) hb); replace BK354 := bS BK354 hb; replace HB := hS HB hb; (try clear hb hb2 hk hi)
         refine hK.out _ _ ⟨bc0 BK354.out, bc1 BK354.out, bc2 BK354.out, bc3 BK354.out, HS4_, (hbc HB.out hw362_0 :)⟩ (fun hHeld => ?_); clear hK K; refine nB 27 ?_ rfl; refine pA 9 8 10 1023 HT_.out ?_ rfl rfl; refine done_ (done_of HT_.out (by kernel_rfl)) ?_; obtain ⟨Ao24, co24, eo24⟩ := Kd.R_slice HO_5.out; subst eo24
         try go_wp2_with (first | ((with_reducible refine gate_callee (f := 72) rfl ?_); refine goesL_ (some 30) rfl rfl Tryz.func72 (by kernel_rfl) rfl #[.slice Ao24 x5_1.length co24, .string t363] rfl eqT ?_; (with_reducible refine (spec_l3Has.calls k1 _ _ x5_1 t363 false _ ?side1 ?side2 A14.out).mono ?_); (case side1 => exact caT (Kd.R_reads' HO_5.out).2.2); (case side2 => exact (Kd.R_reads' HO_5.out).2.1); rintro e w' ⟨rfl, ⟨nd, rfl⟩⟩; refine ⟨_, rfl, ?_⟩) | ((with_reducible refine gate_builtin (b := .append) (xs := #[.tmp 32, .tmp 34]) rfl ?_); at_builtin; refine Kd.R_append Kd.string (w0 := w) w.heap.size rfl (.tmp 32) (.tmp 34) 22 9 (.string ⟨#[]⟩) 16 rfl Tryz.underlying22 info9 rfl (by decide) (by omega) (.slice Ao24 x5_1.length co24) x5_1 t363 [.string t363] (fun _ => True) (fun _ => False) rfl rfl ?aP (fun _ hk => hk.elim) ?aF ?aO ?aB ?aS ?aL ?_; (case aP => exact rfl); (case aB => exact (hbT HB.out)); (case aF => exact (fun _ _ => trivial)); (case aO => exact (roT HO_5.out)); (case aS => exact (below_size (hbT HB.out))); (case aL => have := LMc20.out; omega); intro v366 w25 ho hb hg hat; rw [← Ny365.out] at ho; replace HO_6 := asT (Kd.R_over' (roT HO_6.out) (Kd.R_typed (roT HO_5.out)) (by decide) hg); replace BK354 := asT (blk_grown (g := gb354) (o := .cells #[.string a0_0, .slice A0_1 l0_1.length c0_1, .slice (some ad362) l0_2.length c0_2, .slice A0_3 l0_3.length c0_3] 27 (0, 0)) (bkT BK354.out) hg (Kd.R_ne HO_5.out BK354.out (by decide))); replace HB := asT (hb); have HO367 := asT (ho); clear HO_5 ho hb hg hat))
         go_roundg k1
         case measure => have := HK1.out; omega
         case rel => exact ⟨(y365), (wrap64 (x7_1 + 1)), rdT, H', ⟨by have := HK1.out; omega⟩, ⟨roT HO367.out⟩, ⟨roT HO_6.out⟩, kpT BK354.out, ⟨hbT HB.out⟩⟩
        ·rw [if_neg c20] at H; exact absurd H (by simp)
      ·rw [if_neg c12] at H; exact absurd H (by simp)
     ·rw [if_neg c11] at H; exact absurd H (by simp)
    ·rw [if_neg c10] at H; exact absurd H (by simp)
   ·rw [if_neg c9] at H; have c9b0 := df c9; clear c9; obtain rfl := oI H; obtain ⟨Ao26, co26, eo26⟩ := Kd.R_slice HO_6.out; subst eo26
    go_wp2
    go_ret; exact ⟨_, rlT, roT HO_5.out, hbT HB.out⟩
def slices_Index_string_string.l0 : Nat → List ByteArray → ByteArray → Int → Int → Option (Int)
 | 0, _, _, _, _ => none
 | k + 1, x0, x1, x7, x8 => if x8 < x7 then (if 0 ≤ x8 then (if x8 < (x0.length : Int) then (if x1.toList = (rdOf ByteArray.empty x0 x8).toList then (some x8) else (slices_Index_string_string.l0 k x0 x1 x7 (wrap64 (x8 + 1)))) else (none)) else (none)) else (some (-1))
def slices_Index_string_string.f (k : Nat) (l0 : List ByteArray) (a1 : ByteArray) : Option (Int) := slices_Index_string_string.l0 k l0 a1 (l0.length : Int) 0
theorem slices_Index_string_string.mono_l : ∀ k, (∀ y0 y1 y2 y3, LeO (slices_Index_string_string.l0 k y0 y1 y2 y3) (slices_Index_string_string.l0 (k + 1) y0 y1 y2 y3))
 | 0 => fun _ _ _ _ r h => by simp [slices_Index_string_string.l0] at h
 | k + 1 => by
  have ih0 := slices_Index_string_string.mono_l k
  ·intro y0 y1 y2 y3; unfold slices_Index_string_string.l0
   with_reducible repeat' first | exact ih0 _ _ _ _ | exact LeO.refl _ | exact LeO.none _ | refine LeO.ite ?_ ?_ | refine LeO.bind ?_ (fun _ => ?_)
theorem slices_Index_string_string.mono : ∀ a0 a1 k, LeO (slices_Index_string_string.f k a0 a1) (slices_Index_string_string.f (k + 1) a0 a1) := by
 intro a0 a1 k; have ih0 := slices_Index_string_string.mono_l k; unfold slices_Index_string_string.f
 with_reducible repeat' first | exact ih0 _ _ _ _ | exact LeO.refl _ | exact LeO.none _ | refine LeO.ite ?_ ?_ | refine LeO.bind ?_ (fun _ => ?_)
theorem slices_Index_string_string.calls (k : Nat) (A0 : Option Addr) (c0 : Nat) (l0 : List ByteArray) (a1 : ByteArray) (r : Int) (w : World) (hr0 : Kd.C Kd.string w A0 l0.length l0) (hc0 : l0.length ≤ c0) (h : slices_Index_string_string.f k l0 a1 = some r) :
  Calls Tryz.prog 122 #[.slice A0 l0.length c0, .string a1] w fun e w' => e = .returned (.int .i64 r) ∧ Drawn0 w w' := by
 have HR0 := asT hr0; have HC0 := asT hc0; clear hr0 hc0; have H := h; unfold slices_Index_string_string.f at H; clear h; have H' := asT H; clear H; go_enter Tryz.func122, Tryz.ntmps122
 go_wp2
 go_loopg [8] k (fun kq v8 w' => ∃ (x8_1 : Int), v8 = .int .i64 x8_1 ∧ Aside0 (slices_Index_string_string.l0 kq l0 a1 (l0.length : Int) x8_1 = some r) ∧ Aside0 (kq ≤ k) ∧ Drawn0 w w')
 case atStart => exact ⟨(0), rdT, H', ⟨Nat.le_refl _⟩, drT⟩
 case round =>
  clear H'; (try clear c1 p2); obtain ⟨x8_1, rfl, HA, HK1, ⟨m1, rfl⟩⟩ := hrel
  cases gk with
  | zero => exact absurd HA.out (by simp [slices_Index_string_string.l0])
  | succ k1 =>
   have H := HA.out; clear HA
   simp only [slices_Index_string_string.l0] at H
   by_cases c3 : x8_1 < (l0.length : Int)
   ·rw [if_pos c3] at H; have c3b0 := dt c3; clear c3; by_cases c4 : 0 ≤ x8_1
    ·rw [if_pos c4] at H; have c4b0 := dt c4; clear c4; by_cases c5 : x8_1 < (l0.length : Int)
     ·rw [if_pos c5] at H; have c5b0 := dt c5; clear c5; by_cases c6 : a1.toList = (rdOf ByteArray.empty l0 x8_1).toList
      ·rw [if_pos c6] at H; have c6b0 : (a1.toList == (rdOf ByteArray.empty l0 x8_1).toList) = true := eC c6; have c6b1 : (a1.toList != (rdOf ByteArray.empty l0 x8_1).toList) = false := eA c6; clear c6; obtain rfl := oI H; have p368 : 0 ≤ (x8_1 : Int) := dT asmT; have q368 : x8_1 < (l0.length : Int) := dT asmT; obtain ⟨ad368, e368, hx368_0⟩ := Kd.at_string HR0.out x8_1 p368 q368
       cases e368
       replace p368 := eq_true p368; replace q368 := eq_true q368
       go_wp2
       go_ret; exact ⟨rdT, drT⟩
      ·rw [if_neg c6] at H; have c6b0 : (a1.toList == (rdOf ByteArray.empty l0 x8_1).toList) = false := eB c6; have c6b1 : (a1.toList != (rdOf ByteArray.empty l0 x8_1).toList) = true := eD c6; have H' := asT H; clear H; have p368 : 0 ≤ (x8_1 : Int) := dT asmT; have q368 : x8_1 < (l0.length : Int) := dT asmT; obtain ⟨ad368, e368, hx368_0⟩ := Kd.at_string HR0.out x8_1 p368 q368
       cases e368
       replace p368 := eq_true p368; replace q368 := eq_true q368
       go_wp2
       go_roundg k1
       case measure => have := HK1.out; omega
       case rel => exact ⟨(wrap64 (x8_1 + 1)), rdT, H', ⟨by have := HK1.out; omega⟩, drT⟩
     ·rw [if_neg c5] at H; exact absurd H (by simp)
    ·rw [if_neg c4] at H; exact absurd H (by simp)
   ·rw [if_neg c3] at H; have c3b0 := df c3; clear c3; obtain rfl := oI H
    go_wp2
    go_ret; exact ⟨rdT, drT⟩
def slices_Contains_string_string.f (k : Nat) (l0 : List ByteArray) (a1 : ByteArray) : Option (Bool) := (slices_Index_string_string.f k l0 a1).bind fun t369 => (some (decide (t369 ≥ 0)))
theorem slices_Contains_string_string.mono : ∀ a0 a1 k, LeO (slices_Contains_string_string.f k a0 a1) (slices_Contains_string_string.f (k + 1) a0 a1) := by
 intro a0 a1 k; unfold slices_Contains_string_string.f
 with_reducible repeat' first | exact slices_Index_string_string.mono _ _ _ | exact LeO.refl _ | exact LeO.none _ | refine LeO.ite ?_ ?_ | refine LeO.bind ?_ (fun _ => ?_)
theorem slices_Contains_string_string.calls (k : Nat) (A0 : Option Addr) (c0 : Nat) (l0 : List ByteArray) (a1 : ByteArray) (r : Bool) (w : World) (hr0 : Kd.C Kd.string w A0 l0.length l0) (hc0 : l0.length ≤ c0) (h : slices_Contains_string_string.f k l0 a1 = some r) :
  Calls Tryz.prog 80 #[.slice A0 l0.length c0, .string a1] w fun e w' => e = .returned (.bool r) ∧ Drawn0 w w' := by
 have HR0 := asT hr0; have HC0 := asT hc0; clear hr0 hc0; have H := h; unfold slices_Contains_string_string.f at H; clear h; obtain ⟨t369, A3, H⟩ := be H; obtain rfl := oI H; go_enter Tryz.func80, Tryz.ntmps80
 go_wp2_with (first | ((with_reducible refine gate_callee (f := 122) rfl ?_); refine goesL_ (some 7) rfl rfl Tryz.func122 (by kernel_rfl) rfl #[.slice A0 l0.length c0, .string a1] rfl eqT ?_; (with_reducible refine (slices_Index_string_string.calls k _ _ l0 a1 t369 _ ?side1 ?side2 A3.out).mono ?_); (case side1 => exact caT HR0.out); (case side2 => exact HC0.out); rintro e w' ⟨rfl, ⟨nd, rfl⟩⟩; refine ⟨_, rfl, ?_⟩))
 go_ret; exact ⟨rdT, drT⟩
def impl_ConstraintNames.f  : Option (List ByteArray) := some (([(⟨#[111, 110, 115, 101, 116]⟩ : ByteArray), (⟨#[110, 111, 99, 111, 100, 97]⟩ : ByteArray), (⟨#[99, 108, 117, 115, 116, 101, 114]⟩ : ByteArray), (⟨#[118, 111, 105, 99, 101]⟩ : ByteArray), (⟨#[102, 105, 110, 97, 108]⟩ : ByteArray), (⟨#[110, 97, 115, 97, 108]⟩ : ByteArray), (⟨#[109, 97, 120]⟩ : ByteArray), (⟨#[100, 101, 112]⟩ : ByteArray), (⟨#[105, 100, 101, 110, 116]⟩ : ByteArray), (⟨#[99, 111, 110, 116, 105, 103]⟩ : ByteArray)] : List ByteArray))
theorem impl_ConstraintNames.calls  (r : List ByteArray) (w : World) (h : impl_ConstraintNames.f  = some r) :
  Calls Tryz.prog 81 #[] w fun e w' => ∃ v0_ : Value, e = .returned (v0_) ∧ Kd.R Kd.string 9 w' w.heap.size (fun _ => True) v0_ r ∧ Below w.heap.size w w' := by
 have HB := asT (Below.refl w.heap.size w); have H := h; unfold impl_ConstraintNames.f at H; clear h; obtain ⟨y370, hy370⟩ : ∃ y_ : List ByteArray, y_ = (([(⟨#[111, 110, 115, 101, 116]⟩ : ByteArray), (⟨#[110, 111, 99, 111, 100, 97]⟩ : ByteArray), (⟨#[99, 108, 117, 115, 116, 101, 114]⟩ : ByteArray), (⟨#[118, 111, 105, 99, 101]⟩ : ByteArray), (⟨#[102, 105, 110, 97, 108]⟩ : ByteArray), (⟨#[110, 97, 115, 97, 108]⟩ : ByteArray), (⟨#[109, 97, 120]⟩ : ByteArray), (⟨#[100, 101, 112]⟩ : ByteArray), (⟨#[105, 100, 101, 110, 116]⟩ : ByteArray), (⟨#[99, 111, 110, 116, 105, 103]⟩ : ByteArray)] : List ByteArray)) := ⟨_, rfl⟩
 replace H : (some y370) = some r := by first | (rw [hy370]; with_reducible exact H) | (have H2_ := (Option.bind_some _ _).symm.trans H; rw [hy370]; with_reducible exact H2_) | (have H2_ := (Option.bind_some _ _).symm.trans H; with_reducible exact H2_) | with_reducible exact H | (rw [hy370]; exact H) | exact H
 have Ny370 := asT hy370; clear hy370; obtain rfl := oI H; go_enter Tryz.func81, Tryz.ntmps81
 go_wp2_with (first | ((with_reducible refine gate_dst (N := 1) rfl ?_); refine Kd.R_lit Kd.string _ 9 ?hg (N := 1) ?hd (xs := ([(⟨#[111, 110, 115, 101, 116]⟩ : ByteArray), (⟨#[110, 111, 99, 111, 100, 97]⟩ : ByteArray), (⟨#[99, 108, 117, 115, 116, 101, 114]⟩ : ByteArray), (⟨#[118, 111, 105, 99, 101]⟩ : ByteArray), (⟨#[102, 105, 110, 97, 108]⟩ : ByteArray), (⟨#[110, 97, 115, 97, 108]⟩ : ByteArray), (⟨#[109, 97, 120]⟩ : ByteArray), (⟨#[100, 101, 112]⟩ : ByteArray), (⟨#[105, 100, 101, 110, 116]⟩ : ByteArray), (⟨#[99, 111, 110, 116, 105, 103]⟩ : ByteArray)] : List ByteArray)) (inner := [.string (⟨#[111, 110, 115, 101, 116]⟩ : ByteArray), .string (⟨#[110, 111, 99, 111, 100, 97]⟩ : ByteArray), .string (⟨#[99, 108, 117, 115, 116, 101, 114]⟩ : ByteArray), .string (⟨#[118, 111, 105, 99, 101]⟩ : ByteArray), .string (⟨#[102, 105, 110, 97, 108]⟩ : ByteArray), .string (⟨#[110, 97, 115, 97, 108]⟩ : ByteArray), .string (⟨#[109, 97, 120]⟩ : ByteArray), .string (⟨#[100, 101, 112]⟩ : ByteArray), .string (⟨#[105, 100, 101, 110, 116]⟩ : ByteArray), .string (⟨#[99, 111, 110, 116, 105, 103]⟩ : ByteArray)]) (ok := fun _ => True) (okp := fun _ => True) ?hr ?hp (fun _ hk => hk) trivial (Below.refl _ _) (Nat.le_refl _) (by simp) ?_; (case hd => rfl); (case hg => rfl); (case hr => first | (go_simp; done) | (go_simp; rfl)); (case hp => exact (Reps.one (show Kd.M Kd.string _ _ _ (⟨#[111, 110, 115, 101, 116]⟩ : ByteArray) [.string (⟨#[111, 110, 115, 101, 116]⟩ : ByteArray)] from rfl) (Reps.one (show Kd.M Kd.string _ _ _ (⟨#[110, 111, 99, 111, 100, 97]⟩ : ByteArray) [.string (⟨#[110, 111, 99, 111, 100, 97]⟩ : ByteArray)] from rfl) (Reps.one (show Kd.M Kd.string _ _ _ (⟨#[99, 108, 117, 115, 116, 101, 114]⟩ : ByteArray) [.string (⟨#[99, 108, 117, 115, 116, 101, 114]⟩ : ByteArray)] from rfl) (Reps.one (show Kd.M Kd.string _ _ _ (⟨#[118, 111, 105, 99, 101]⟩ : ByteArray) [.string (⟨#[118, 111, 105, 99, 101]⟩ : ByteArray)] from rfl) (Reps.one (show Kd.M Kd.string _ _ _ (⟨#[102, 105, 110, 97, 108]⟩ : ByteArray) [.string (⟨#[102, 105, 110, 97, 108]⟩ : ByteArray)] from rfl) (Reps.one (show Kd.M Kd.string _ _ _ (⟨#[110, 97, 115, 97, 108]⟩ : ByteArray) [.string (⟨#[110, 97, 115, 97, 108]⟩ : ByteArray)] from rfl) (Reps.one (show Kd.M Kd.string _ _ _ (⟨#[109, 97, 120]⟩ : ByteArray) [.string (⟨#[109, 97, 120]⟩ : ByteArray)] from rfl) (Reps.one (show Kd.M Kd.string _ _ _ (⟨#[100, 101, 112]⟩ : ByteArray) [.string (⟨#[100, 101, 112]⟩ : ByteArray)] from rfl) (Reps.one (show Kd.M Kd.string _ _ _ (⟨#[105, 100, 101, 110, 116]⟩ : ByteArray) [.string (⟨#[105, 100, 101, 110, 116]⟩ : ByteArray)] from rfl) (Reps.one (show Kd.M Kd.string _ _ _ (⟨#[99, 111, 110, 116, 105, 103]⟩ : ByteArray) [.string (⟨#[99, 111, 110, 116, 105, 103]⟩ : ByteArray)] from rfl) (Reps.none _ _)))))))))))); intro v371 w1 ho2 hb hg_ hnew_; clear hg_ hnew_; (first | rw [← Ny370.out] at ho2 | (simp only [Int.reduceToNat] at ho2; rw [← Ny370.out] at ho2)); have HO372 := asT (Kd.R_lower ho2 (below_size (hbT HB.out))); replace HB := hS HB hb; clear hb ho2))
 go_ret; exact ⟨_, rlT, roT HO372.out, hbT HB.out⟩
def impl_within.f (a0 : Int) (a1 : Int) (a2 : Int) : Option (Bool) := if a1 ≤ a0 then (some (decide (a0 ≤ a2))) else (some false)
theorem impl_within.calls (a0 : Int) (a1 : Int) (a2 : Int) (r : Bool) (w : World) (h : impl_within.f a0 a1 a2 = some r) :
  Calls Tryz.prog 82 #[.int .i64 a0, .int .i64 a1, .int .i64 a2] w fun e w' => e = .returned (.bool r) ∧ Drawn0 w w' := by
 have H := h; unfold impl_within.f at H; clear h; by_cases c4 : a1 ≤ a0
 ·rw [if_pos c4] at H; have c4b0 := dt c4; clear c4; obtain rfl := oI H; go_enter Tryz.func82, Tryz.ntmps82
  go_wp2
  go_ret; exact ⟨rdT, drT⟩
 ·rw [if_neg c4] at H; have c4b0 := df c4; clear c4; obtain rfl := oI H; go_enter Tryz.func82, Tryz.ntmps82
  go_wp2
  go_ret; exact ⟨rdT, drT⟩
def impl_AreConstraints.l0 : Nat → List ByteArray → List ByteArray → Int → Int → Option (Bool)
 | 0, _, _, _, _ => none
 | k + 1, x0, x5, x6, x7 => if x7 < x6 then (if 0 ≤ x7 then (if x7 < (x5.length : Int) then ((impl_ConstraintNames.f).bind fun t375 => ((slices_Contains_string_string.f k t375 (rdOf ByteArray.empty x5 x7)).bind fun t378 => (if t378 = true then (if x7 ≤ (x0.length : Int) then ((slices_Contains_string_string.f k (x0.take (x7 : Int).toNat) (rdOf ByteArray.empty x5 x7)).bind fun t380 => (if t380 = true then (some false) else (impl_AreConstraints.l0 k x0 x5 x6 (wrap64 (x7 + 1))))) else (none)) else (some false)))) else (none)) else (none)) else ((impl_within.f (x0.length : Int) 1 5).bind fun t373 => (some t373))
def impl_AreConstraints.f (k : Nat) (l0 : List ByteArray) : Option (Bool) := impl_AreConstraints.l0 k l0 l0 (l0.length : Int) 0
theorem impl_AreConstraints.mono_l : ∀ k, (∀ y0 y1 y2 y3, LeO (impl_AreConstraints.l0 k y0 y1 y2 y3) (impl_AreConstraints.l0 (k + 1) y0 y1 y2 y3))
 | 0 => fun _ _ _ _ r h => by simp [impl_AreConstraints.l0] at h
 | k + 1 => by
  have ih0 := impl_AreConstraints.mono_l k
  ·intro y0 y1 y2 y3; unfold impl_AreConstraints.l0
   with_reducible repeat' first | exact ih0 _ _ _ _ | exact slices_Contains_string_string.mono _ _ _ | exact LeO.refl _ | exact LeO.none _ | refine LeO.ite ?_ ?_ | refine LeO.bind ?_ (fun _ => ?_)
theorem impl_AreConstraints.mono : ∀ a0 k, LeO (impl_AreConstraints.f k a0) (impl_AreConstraints.f (k + 1) a0) := by
 intro a0 k; have ih0 := impl_AreConstraints.mono_l k; unfold impl_AreConstraints.f
 with_reducible repeat' first | exact ih0 _ _ _ _ | exact slices_Contains_string_string.mono _ _ _ | exact LeO.refl _ | exact LeO.none _ | refine LeO.ite ?_ ?_ | refine LeO.bind ?_ (fun _ => ?_)
theorem impl_AreConstraints.calls (k : Nat) (A0 : Option Addr) (c0 : Nat) (l0 : List ByteArray) (r : Bool) (w : World) (hr0 : Kd.C Kd.string w A0 l0.length l0) (hc0 : l0.length ≤ c0) (h : impl_AreConstraints.f k l0 = some r) :
  Calls Tryz.prog 39 #[.slice A0 l0.length c0] w fun e w' => e = .returned (.bool r) ∧ Below w.heap.size w w' := by
 have HR0 := asT hr0; have HC0 := asT hc0; clear hr0 hc0; have HB := asT (Below.refl w.heap.size w); have H := h; unfold impl_AreConstraints.f at H; clear h; have H' := asT H; clear H; go_enter Tryz.func39, Tryz.ntmps39
 go_wp2
 go_loopg [7] k (fun kq v7 w' => ∃ (x7_1 : Int), v7 = .int .i64 x7_1 ∧ Aside0 (impl_AreConstraints.l0 kq l0 l0 (l0.length : Int) x7_1 = some r) ∧ Aside0 (kq ≤ k) ∧ Aside0 (Below w.heap.size w w'))
 case atStart => exact ⟨(0), rdT, H', ⟨Nat.le_refl _⟩, ⟨hbT HB.out⟩⟩
 case round =>
  clear H'; obtain ⟨x7_1, rfl, HA, HK1, HB⟩ := hrel
  cases gk with
  | zero => exact absurd HA.out (by simp [impl_AreConstraints.l0])
  | succ k1 =>
   have H := HA.out; clear HA
   simp only [impl_AreConstraints.l0] at H
   by_cases c2 : x7_1 < (l0.length : Int)
   ·rw [if_pos c2] at H; have c2b0 := dt c2; clear c2; by_cases c3 : 0 ≤ x7_1
    ·rw [if_pos c3] at H; have c3b0 := dt c3; clear c3; by_cases c4 : x7_1 < (l0.length : Int)
     ·rw [if_pos c4] at H; have c4b0 := dt c4; clear c4; obtain ⟨t375, A5, H⟩ := be H; obtain ⟨t378, A6, H⟩ := be H; by_cases c7 : t378 = true
      ·subst c7; rw [if_pos rfl] at H; have c8b0 := eq_true (dT asmT : 0 ≤ x7_1); by_cases c9 : x7_1 ≤ (l0.length : Int)
       ·rw [if_pos c9] at H; have c9b0 := eq_true c9; have c9b1 : decide (x7_1 ≤ (l0.length : Int)) = true := dt c9; clear c9; obtain ⟨t380, A10, H⟩ := be H; by_cases c11 : t380 = true
        ·subst c11; rw [if_pos rfl] at H; have H1 := H; clear H; have H := H1; clear H1; obtain rfl := oI H; have p374 : 0 ≤ (x7_1 : Int) := dT asmT; have q374 : x7_1 < (l0.length : Int) := dT asmT; obtain ⟨ad374, e374, hx374_0⟩ := Kd.at_string HR0.out x7_1 p374 q374
         cases e374
         replace hx374_0 := hbc HB.out hx374_0; replace p374 := eq_true p374; replace q374 := eq_true q374
         go_wp2_with (first | ((with_reducible refine gate_callee (f := 81) rfl ?_); refine goesL_ (some 12) rfl rfl Tryz.func81 (by kernel_rfl) rfl #[] rfl eqT ?_; (with_reducible refine (impl_ConstraintNames.calls  t375 _ A5.out).mono ?_); rintro e w12 ⟨v376, rfl, ho0, hb⟩; refine ⟨_, rfl, ?_⟩; have HO377 := asT (Kd.R_lower ho0 (below_size (hbT HB.out))); replace HB := hS HB hb; (try clear hb hb2 hk hi ho0); obtain ⟨Ao13, co13, eo13⟩ := Kd.R_slice HO377.out; subst eo13) | ((with_reducible refine gate_callee (f := 80) rfl ?_); refine goesL_ (some 14) rfl rfl Tryz.func80 (by kernel_rfl) rfl #[.slice Ao13 t375.length co13, .string (rdOf ByteArray.empty l0 x7_1)] rfl eqT ?_; (with_reducible refine (slices_Contains_string_string.calls k1 _ _ t375 (rdOf ByteArray.empty l0 x7_1) true _ ?side1 ?side2 A6.out).mono ?_); (case side1 => exact caT (Kd.R_reads' HO377.out).2.2); (case side2 => exact (Kd.R_reads' HO377.out).2.1); rintro e w' ⟨rfl, ⟨nd, rfl⟩⟩; refine ⟨_, rfl, ?_⟩; obtain ⟨i014, hi014, _, hsz14, _⟩ := info_parts info9; obtain ⟨hcut14, hA14, hC14⟩ := print_take_of (P := Tryz.prog) Value.string (⟨#[]⟩ : ByteArray) 22 9 .i64 Tryz.underlying22 hi014 hsz14 (some ad374) c0 l0 x7_1 (dT asmT) (dT asmT) HC0.out; have HR379 := asT (Kd.C_of_reads (h1 := fun _ => rfl) (hA14 _ (Kd.reads_of_C HR0.out))); have HC379 := asT hC14; clear hA14 hC14 hi014 hsz14) | (go_at_call 80; refine calls_of_args (args' := #[.slice _ (l0.take (x7_1 : Int).toNat).length _, .string (rdOf ByteArray.empty l0 x7_1)]) (by first | (rw [show (l0.take (x7_1 : Int).toNat).length = x7_1.toNat from (by rw [List.length_take]; have h_ : (x7_1 : Int) ≤ (l0.length : Int) := dT asmT; omega)] <;> rfl) | rfl) ?_; (with_reducible refine (slices_Contains_string_string.calls k1 _ _ (l0.take (x7_1 : Int).toNat) (rdOf ByteArray.empty l0 x7_1) true _ ?side1 ?side2 A10.out).mono ?_); (case side1 => exact crT HR379.out (hbT HB.out)); (case side2 => exact HC379.out); rintro e w' ⟨rfl, ⟨nd, rfl⟩⟩))
         go_ret; exact ⟨rlT, hbT HB.out⟩
        ·replace c11 := eE c11; subst c11; rw [if_neg nF] at H; have H' := asT H; clear H; have p374 : 0 ≤ (x7_1 : Int) := dT asmT; have q374 : x7_1 < (l0.length : Int) := dT asmT; obtain ⟨ad374, e374, hx374_0⟩ := Kd.at_string HR0.out x7_1 p374 q374
         cases e374
         replace hx374_0 := hbc HB.out hx374_0; replace p374 := eq_true p374; replace q374 := eq_true q374
         go_wp2_with (first | ((with_reducible refine gate_callee (f := 81) rfl ?_); refine goesL_ (some 12) rfl rfl Tryz.func81 (by kernel_rfl) rfl #[] rfl eqT ?_; (with_reducible refine (impl_ConstraintNames.calls  t375 _ A5.out).mono ?_); rintro e w15 ⟨v376, rfl, ho0, hb⟩; refine ⟨_, rfl, ?_⟩; have HO377 := asT (Kd.R_lower ho0 (below_size (hbT HB.out))); replace HB := hS HB hb; (try clear hb hb2 hk hi ho0); obtain ⟨Ao16, co16, eo16⟩ := Kd.R_slice HO377.out; subst eo16) | ((with_reducible refine gate_callee (f := 80) rfl ?_); refine goesL_ (some 14) rfl rfl Tryz.func80 (by kernel_rfl) rfl #[.slice Ao16 t375.length co16, .string (rdOf ByteArray.empty l0 x7_1)] rfl eqT ?_; (with_reducible refine (slices_Contains_string_string.calls k1 _ _ t375 (rdOf ByteArray.empty l0 x7_1) true _ ?side1 ?side2 A6.out).mono ?_); (case side1 => exact caT (Kd.R_reads' HO377.out).2.2); (case side2 => exact (Kd.R_reads' HO377.out).2.1); rintro e w' ⟨rfl, ⟨nd, rfl⟩⟩; refine ⟨_, rfl, ?_⟩; obtain ⟨i017, hi017, _, hsz17, _⟩ := info_parts info9; obtain ⟨hcut17, hA17, hC17⟩ := print_take_of (P := Tryz.prog) Value.string (⟨#[]⟩ : ByteArray) 22 9 .i64 Tryz.underlying22 hi017 hsz17 (some ad374) c0 l0 x7_1 (dT asmT) (dT asmT) HC0.out; have HR379 := asT (Kd.C_of_reads (h1 := fun _ => rfl) (hA17 _ (Kd.reads_of_C HR0.out))); have HC379 := asT hC17; clear hA17 hC17 hi017 hsz17) | (go_at_call 80; refine calls_of_args (args' := #[.slice _ (l0.take (x7_1 : Int).toNat).length _, .string (rdOf ByteArray.empty l0 x7_1)]) (by first | (rw [show (l0.take (x7_1 : Int).toNat).length = x7_1.toNat from (by rw [List.length_take]; have h_ : (x7_1 : Int) ≤ (l0.length : Int) := dT asmT; omega)] <;> rfl) | rfl) ?_; (with_reducible refine (slices_Contains_string_string.calls k1 _ _ (l0.take (x7_1 : Int).toNat) (rdOf ByteArray.empty l0 x7_1) false _ ?side1 ?side2 A10.out).mono ?_); (case side1 => exact crT HR379.out (hbT HB.out)); (case side2 => exact HC379.out); rintro e w' ⟨rfl, ⟨nd, rfl⟩⟩))
         go_roundg k1
         case measure => have := HK1.out; omega
         case rel => exact ⟨(wrap64 (x7_1 + 1)), rdT, H', ⟨by have := HK1.out; omega⟩, ⟨hbT HB.out⟩⟩
       ·rw [if_neg c9] at H; exact absurd H (by simp)
      ·replace c7 := eE c7; subst c7; rw [if_neg nF] at H; have H1 := H; clear H; have H := H1; clear H1; obtain rfl := oI H; have p374 : 0 ≤ (x7_1 : Int) := dT asmT; have q374 : x7_1 < (l0.length : Int) := dT asmT; obtain ⟨ad374, e374, hx374_0⟩ := Kd.at_string HR0.out x7_1 p374 q374
       cases e374
       replace hx374_0 := hbc HB.out hx374_0; replace p374 := eq_true p374; replace q374 := eq_true q374
       go_wp2_with (first | ((with_reducible refine gate_callee (f := 81) rfl ?_); refine goesL_ (some 12) rfl rfl Tryz.func81 (by kernel_rfl) rfl #[] rfl eqT ?_; (with_reducible refine (impl_ConstraintNames.calls  t375 _ A5.out).mono ?_); rintro e w18 ⟨v376, rfl, ho0, hb⟩; refine ⟨_, rfl, ?_⟩; have HO377 := asT (Kd.R_lower ho0 (below_size (hbT HB.out))); replace HB := hS HB hb; (try clear hb hb2 hk hi ho0); obtain ⟨Ao19, co19, eo19⟩ := Kd.R_slice HO377.out; subst eo19) | ((with_reducible refine gate_callee (f := 80) rfl ?_); refine goesL_ (some 14) rfl rfl Tryz.func80 (by kernel_rfl) rfl #[.slice Ao19 t375.length co19, .string (rdOf ByteArray.empty l0 x7_1)] rfl eqT ?_; (with_reducible refine (slices_Contains_string_string.calls k1 _ _ t375 (rdOf ByteArray.empty l0 x7_1) false _ ?side1 ?side2 A6.out).mono ?_); (case side1 => exact caT (Kd.R_reads' HO377.out).2.2); (case side2 => exact (Kd.R_reads' HO377.out).2.1); rintro e w' ⟨rfl, ⟨nd, rfl⟩⟩; refine ⟨_, rfl, ?_⟩))
       go_ret; exact ⟨rlT, hbT HB.out⟩
     ·rw [if_neg c4] at H; exact absurd H (by simp)
    ·rw [if_neg c3] at H; exact absurd H (by simp)
   ·rw [if_neg c2] at H; have c2b0 := df c2; clear c2; obtain ⟨t373, A20, H⟩ := be H; obtain rfl := oI H
    go_wp2_with (first | ((with_reducible refine gate_callee (f := 82) rfl ?_); refine goesL_ (some 26) rfl rfl Tryz.func82 (by kernel_rfl) rfl #[.int .i64 (l0.length : Int), .int .i64 1, .int .i64 5] rfl eqT ?_; (with_reducible refine (impl_within.calls (l0.length : Int) 1 5 t373 _ A20.out).mono ?_); rintro e w' ⟨rfl, ⟨nd, rfl⟩⟩; refine ⟨_, rfl, ?_⟩))
    go_ret; exact ⟨rlT, hbT HB.out⟩
theorem stringslite_IndexByte.calls (s : ByteArray) (c : Int) (w : World) :
    Calls Tryz.prog 181 #[.string s, .int .u8 c] w fun e w' => e = .returned (.int .i64 (Lib.indexByte s.data.toList c.toNat.toUInt8)) ∧ w' = w := by
  go_enter Tryz.func181, Tryz.ntmps181
  go_wp2
  rw [run_callFunc_extern Tryz.func194 (by kernel_rfl) (by kernel_rfl) (by kernel_rfl) (e := Extern.BytealgIndexByte.indexByte) (by kernel_rfl), Lib.run_indexByteString]
  simp only [Result.andThen]
  rw [Oper.upon_value]
  go_wp2
  go_ret; exact ⟨rfl, rfl⟩
def strings_IndexByte.f (a0 : ByteArray) (a1 : Int) : Option (Int) := some (Lib.indexByte a0.data.toList a1.toNat.toUInt8)
theorem strings_IndexByte.calls (a0 : ByteArray) (a1 : Int) (r : Int) (w : World) (h : strings_IndexByte.f a0 a1 = some r) :
    Calls Tryz.prog 156 #[.string a0, .int .u8 a1] w fun e w' => e = .returned (.int .i64 r) ∧ Drawn0 w w' := by
  obtain rfl := oI h; go_enter Tryz.func156, Tryz.ntmps156
  go_wp2_with (go_at_call 181; refine (stringslite_IndexByte.calls _ _ _).mono ?_; rintro e w' ⟨rfl, rfl⟩)
  go_ret; exact ⟨rfl, Drawn0.refl _⟩
def impl_IsSound.f (a0 : Int) : Option (Bool) := (strings_IndexByte.f (⟨#[112, 116, 98, 100, 110, 97, 105]⟩ : ByteArray) a0).bind fun t381 => (some (decide (t381 ≥ 0)))
theorem impl_IsSound.calls (a0 : Int) (r : Bool) (w : World) (h : impl_IsSound.f a0 = some r) :
  Calls Tryz.prog 123 #[.int .u8 a0] w fun e w' => e = .returned (.bool r) ∧ Drawn0 w w' := by
 have H := h; unfold impl_IsSound.f at H; clear h; obtain ⟨t381, A2, H⟩ := be H; obtain rfl := oI H; go_enter Tryz.func123, Tryz.ntmps123
 go_wp2_with (first | ((with_reducible refine gate_callee (f := 156) rfl ?_); refine goesL_ (some 4) rfl rfl Tryz.func156 (by kernel_rfl) rfl #[.string (⟨#[112, 116, 98, 100, 110, 97, 105]⟩ : ByteArray), .int .u8 a0] rfl eqT ?_; (with_reducible refine (strings_IndexByte.calls (⟨#[112, 116, 98, 100, 110, 97, 105]⟩ : ByteArray) a0 t381 _ A2.out).mono ?_); rintro e w' ⟨rfl, ⟨nd, rfl⟩⟩; refine ⟨_, rfl, ?_⟩))
 go_ret; exact ⟨rdT, drT⟩
def impl_areSounds.l0 : Nat → ByteArray → Int → Int → Option (Bool)
 | 0, _, _, _ => none
 | k + 1, x0, x5, x6 => if x6 < x5 then (if 0 ≤ x6 then (if x6 < (x0.size : Int) then ((impl_IsSound.f (bt x0 x6)).bind fun t382 => (if t382 = true then (impl_areSounds.l0 k x0 x5 (wrap64 (x6 + 1))) else (some false))) else (none)) else (none)) else ((impl_within.f (x0.size : Int) 1 20).bind fun t383 => (some t383))
def impl_areSounds.f (k : Nat) (a0 : ByteArray) : Option (Bool) := impl_areSounds.l0 k a0 (a0.size : Int) 0
theorem impl_areSounds.mono_l : ∀ k, (∀ y0 y1 y2, LeO (impl_areSounds.l0 k y0 y1 y2) (impl_areSounds.l0 (k + 1) y0 y1 y2))
 | 0 => fun _ _ _ r h => by simp [impl_areSounds.l0] at h
 | k + 1 => by
  have ih0 := impl_areSounds.mono_l k
  ·intro y0 y1 y2; unfold impl_areSounds.l0
   with_reducible repeat' first | exact ih0 _ _ _ | exact LeO.refl _ | exact LeO.none _ | refine LeO.ite ?_ ?_ | refine LeO.bind ?_ (fun _ => ?_)
theorem impl_areSounds.mono : ∀ a0 k, LeO (impl_areSounds.f k a0) (impl_areSounds.f (k + 1) a0) := by
 intro a0 k; have ih0 := impl_areSounds.mono_l k; unfold impl_areSounds.f
 with_reducible repeat' first | exact ih0 _ _ _ | exact LeO.refl _ | exact LeO.none _ | refine LeO.ite ?_ ?_ | refine LeO.bind ?_ (fun _ => ?_)
theorem impl_areSounds.calls (k : Nat) (a0 : ByteArray) (r : Bool) (w : World) (h : impl_areSounds.f k a0 = some r) :
  Calls Tryz.prog 83 #[.string a0] w fun e w' => e = .returned (.bool r) ∧ Drawn0 w w' := by
 have H := h; unfold impl_areSounds.f at H; clear h; have H' := asT H; clear H; go_enter Tryz.func83, Tryz.ntmps83
 go_wp2
 go_loopg [6] k (fun kq v6 w' => ∃ (x6_1 : Int), v6 = .int .i64 x6_1 ∧ Aside0 (impl_areSounds.l0 kq a0 (a0.size : Int) x6_1 = some r) ∧ Aside0 (kq ≤ k) ∧ Drawn0 w w')
 case atStart => exact ⟨(0), rdT, H', ⟨Nat.le_refl _⟩, drT⟩
 case round =>
  clear H'; obtain ⟨x6_1, rfl, HA, HK1, ⟨m1, rfl⟩⟩ := hrel
  cases gk with
  | zero => exact absurd HA.out (by simp [impl_areSounds.l0])
  | succ k1 =>
   have H := HA.out; clear HA
   simp only [impl_areSounds.l0] at H
   by_cases c2 : x6_1 < (a0.size : Int)
   ·rw [if_pos c2] at H; have c2b0 := dt c2; clear c2; by_cases c3 : 0 ≤ x6_1
    ·rw [if_pos c3] at H; have c3b0 := dt c3; clear c3; by_cases c4 : x6_1 < (a0.size : Int)
     ·rw [if_pos c4] at H; have c4b0 := dt c4; clear c4; obtain ⟨t382, A6, H⟩ := be H; by_cases c7 : t382 = true
      ·subst c7; rw [if_pos rfl] at H; have H' := asT H; clear H; have p5 : 0 ≤ (x6_1 : Int) := dT asmT; have q5 : x6_1 < (a0.size : Int) := dT asmT; have hx5 := bt_at a0 x6_1; replace p5 := eq_true p5; replace q5 := eq_true q5
       go_wp2_with (first | ((with_reducible refine gate_callee (f := 123) rfl ?_); refine goesL_ (some 12) rfl rfl Tryz.func123 (by kernel_rfl) rfl #[.int .u8 (bt a0 x6_1)] rfl eqT ?_; (with_reducible refine (impl_IsSound.calls (bt a0 x6_1) true _ A6.out).mono ?_); rintro e w' ⟨rfl, ⟨nd, rfl⟩⟩; refine ⟨_, rfl, ?_⟩))
       go_roundg k1
       case measure => have := HK1.out; omega
       case rel => exact ⟨(wrap64 (x6_1 + 1)), rdT, H', ⟨by have := HK1.out; omega⟩, drT⟩
      ·replace c7 := eE c7; subst c7; rw [if_neg nF] at H; have H1 := H; clear H; have H := H1; clear H1; obtain rfl := oI H; have p5 : 0 ≤ (x6_1 : Int) := dT asmT; have q5 : x6_1 < (a0.size : Int) := dT asmT; have hx5 := bt_at a0 x6_1; replace p5 := eq_true p5; replace q5 := eq_true q5
       go_wp2_with (first | ((with_reducible refine gate_callee (f := 123) rfl ?_); refine goesL_ (some 12) rfl rfl Tryz.func123 (by kernel_rfl) rfl #[.int .u8 (bt a0 x6_1)] rfl eqT ?_; (with_reducible refine (impl_IsSound.calls (bt a0 x6_1) false _ A6.out).mono ?_); rintro e w' ⟨rfl, ⟨nd, rfl⟩⟩; refine ⟨_, rfl, ?_⟩))
       go_ret; exact ⟨rdT, drT⟩
     ·rw [if_neg c4] at H; exact absurd H (by simp)
    ·rw [if_neg c3] at H; exact absurd H (by simp)
   ·rw [if_neg c2] at H; have c2b0 := df c2; clear c2; obtain ⟨t383, A8, H⟩ := be H; obtain rfl := oI H
    go_wp2_with (first | ((with_reducible refine gate_callee (f := 82) rfl ?_); refine goesL_ (some 17) rfl rfl Tryz.func82 (by kernel_rfl) rfl #[.int .i64 (a0.size : Int), .int .i64 1, .int .i64 20] rfl eqT ?_; (with_reducible refine (impl_within.calls (a0.size : Int) 1 20 t383 _ A8.out).mono ?_); rintro e w' ⟨rfl, ⟨nd, rfl⟩⟩; refine ⟨_, rfl, ?_⟩))
    go_ret; exact ⟨rdT, drT⟩
def impl_IsForm.f (k : Nat) (a0 : ByteArray) : Option (Bool) := if a0.toList = ([] : List UInt8) then (some true) else (if (a0.size : Int) ≤ 8 then ((impl_areSounds.f k a0).bind fun t384 => (some t384)) else (some false))
theorem impl_IsForm.mono : ∀ a0 k, LeO (impl_IsForm.f k a0) (impl_IsForm.f (k + 1) a0) := by
 intro a0 k; unfold impl_IsForm.f
 with_reducible repeat' first | exact impl_areSounds.mono _ _ | exact LeO.refl _ | exact LeO.none _ | refine LeO.ite ?_ ?_ | refine LeO.bind ?_ (fun _ => ?_)
theorem impl_IsForm.calls (k : Nat) (a0 : ByteArray) (r : Bool) (w : World) (h : impl_IsForm.f k a0 = some r) :
  Calls Tryz.prog 40 #[.string a0] w fun e w' => e = .returned (.bool r) ∧ Drawn0 w w' := by
 have H := h; unfold impl_IsForm.f at H; clear h; by_cases c2 : a0.toList = ([] : List UInt8)
 ·rw [if_pos c2] at H; have c2b0 : (a0.toList == ([] : List UInt8)) = true := eC c2; have c2b1 : (a0.toList != ([] : List UInt8)) = false := eA c2; clear c2; obtain rfl := oI H; go_enter Tryz.func40, Tryz.ntmps40
  go_wp2
  go_ret; exact ⟨rdT, drT⟩
 ·rw [if_neg c2] at H; have c2b0 : (a0.toList == ([] : List UInt8)) = false := eB c2; have c2b1 : (a0.toList != ([] : List UInt8)) = true := eD c2; by_cases c3 : (a0.size : Int) ≤ 8
  ·rw [if_pos c3] at H; have c3b0 := dt c3; have c3b1 : decide (a0.size ≤ 8) = true := dt (by omega); clear c3; obtain ⟨t384, A4, H⟩ := be H; obtain rfl := oI H; go_enter Tryz.func40, Tryz.ntmps40
   go_wp2_with (first | (go_at_call 83; (with_reducible refine (impl_areSounds.calls k a0 t384 _ A4.out).mono ?_); rintro e w' ⟨rfl, ⟨nd, rfl⟩⟩))
   go_ret; exact ⟨rdT, drT⟩
  ·rw [if_neg c3] at H; have c3b0 := df c3; have c3b1 : decide (a0.size ≤ 8) = false := df (by omega); clear c3; obtain rfl := oI H; go_enter Tryz.func40, Tryz.ntmps40
   go_wp2
   go_ret; exact ⟨rdT, drT⟩
def impl_SwapVoice.f (a0 : Int) : Option (Int × Bool) := (strings_IndexByte.f (⟨#[112, 116, 98, 100]⟩ : ByteArray) a0).bind fun t385 => (if t385 < 0 then (some (a0, false)) else (if 0 ≤ t385 then (if t385 < 4 then (some (bt (⟨#[98, 100, 112, 116]⟩ : ByteArray) t385, true)) else (none)) else (none)))
theorem impl_SwapVoice.calls (a0 : Int) (r1 : Int) (r2 : Bool) (w : World) (h : impl_SwapVoice.f a0 = some (r1, r2)) :
  Calls Tryz.prog 126 #[.int .u8 a0] w fun e w' => e = .returned (.tuple #[.int .u8 r1, .bool r2]) ∧ Drawn0 w w' := by
 have H := h; unfold impl_SwapVoice.f at H; clear h; obtain ⟨t385, A2, H⟩ := be H; by_cases c3 : t385 < 0
 ·rw [if_pos c3] at H; have c3b0 := dt c3; clear c3
  simp only [Option.some.injEq, Prod.mk.injEq] at H
  obtain ⟨rfl, rfl⟩ := H; go_enter Tryz.func126, Tryz.ntmps126
  go_wp2_with (first | ((with_reducible refine gate_callee (f := 156) rfl ?_); refine goesL_ (some 6) rfl rfl Tryz.func156 (by kernel_rfl) rfl #[.string (⟨#[112, 116, 98, 100]⟩ : ByteArray), .int .u8 a0] rfl eqT ?_; (with_reducible refine (strings_IndexByte.calls (⟨#[112, 116, 98, 100]⟩ : ByteArray) a0 t385 _ A2.out).mono ?_); rintro e w' ⟨rfl, ⟨nd, rfl⟩⟩; refine ⟨_, rfl, ?_⟩))
  go_ret2
  exact ⟨rdT, drT⟩
 ·rw [if_neg c3] at H; have c3b0 := df c3; clear c3; by_cases c4 : 0 ≤ t385
  ·rw [if_pos c4] at H; have c4b0 := dt c4; clear c4; by_cases c5 : t385 < 4
   ·rw [if_pos c5] at H; have c5b0 := dt c5; clear c5
    simp only [Option.some.injEq, Prod.mk.injEq] at H
    obtain ⟨rfl, rfl⟩ := H; go_enter Tryz.func126, Tryz.ntmps126
    go_wp2_with (first | ((with_reducible refine gate_callee (f := 156) rfl ?_); refine goesL_ (some 6) rfl rfl Tryz.func156 (by kernel_rfl) rfl #[.string (⟨#[112, 116, 98, 100]⟩ : ByteArray), .int .u8 a0] rfl eqT ?_; (with_reducible refine (strings_IndexByte.calls (⟨#[112, 116, 98, 100]⟩ : ByteArray) a0 t385 _ A2.out).mono ?_); rintro e w' ⟨rfl, ⟨nd, rfl⟩⟩; refine ⟨_, rfl, ?_⟩; have p6 : 0 ≤ (t385 : Int) := dT asmT; have q6 : t385 < (4 : Int) := dT asmT; have hx6 := bt_at (⟨#[98, 100, 112, 116]⟩ : ByteArray) t385; replace p6 := eq_true p6; replace q6 := eq_true q6))
    go_ret2
    exact ⟨rdT, drT⟩
   ·rw [if_neg c5] at H; exact absurd H (by simp)
  ·rw [if_neg c4] at H; exact absurd H (by simp)
def impl_isLink.f (a0_0 : Int) (a0_1 : Int) : Option (Bool) := if a0_0 = 0 then ((impl_IsSound.f a0_1).bind fun t387 => (some t387)) else ((impl_IsSound.f a0_0).bind fun t388 => (if t388 = true then (if a0_1 = 0 then (some true) else (if a0_1 = a0_0 then (some true) else ((impl_SwapVoice.f a0_0).bind fun bt389 => (if bt389.2 = true then (some (bt389.1 == a0_1)) else (some false))))) else (some false)))
theorem impl_isLink.calls (a0_0 : Int) (a0_1 : Int) (r : Bool) (w : World) (h : impl_isLink.f a0_0 a0_1 = some r) :
  Calls Tryz.prog 128 #[.agg #[.int .u8 a0_0, .int .u8 a0_1]] w fun e w' => e = .returned (.bool r) ∧ Below w.heap.size w w' := by
 have hu109 := Tryz.underlying109; have HB := asT (Below.refl w.heap.size w); have H := h; unfold impl_isLink.f at H; clear h; by_cases c2 : a0_0 = 0
 ·rw [if_pos c2] at H; have c2b0 : (a0_0 == 0) = true := eC c2; have c2b1 : (a0_0 != 0) = false := eA c2; clear c2; obtain ⟨t387, A3, H⟩ := be H; obtain rfl := oI H; go_enter Tryz.func128, Tryz.ntmps128
  go_wp2_with (first | ((with_reducible refine gate_dst (N := 1) rfl ?_); refine boxT (N := 1) (cs := #[.int .u8 a0_0, .int .u8 a0_1]) (t := 109) ?_; intro gb386 hg w4 hbox hb; have BK386 := asT hbox; have GW386 := asT (geT hg HB.out); have GE386 := GW386; replace HB := hS HB hb; clear hb hbox hg; obtain ⟨hcz5_0, hcz5_1, hfz5_0, hfz5_1⟩ := bx2 BK386.out) | ((with_reducible refine gate_callee (f := 123) rfl ?_); refine goesL_ (some 11) rfl rfl Tryz.func123 (by kernel_rfl) rfl #[.int .u8 a0_1] rfl eqT ?_; (with_reducible refine (impl_IsSound.calls a0_1 t387 _ A3.out).mono ?_); rintro e w' ⟨rfl, ⟨nd, rfl⟩⟩; refine ⟨_, rfl, ?_⟩))
  go_ret; exact ⟨rlT, hbT HB.out⟩
 ·rw [if_neg c2] at H; have c2b0 : (a0_0 == 0) = false := eB c2; have c2b1 : (a0_0 != 0) = true := eD c2; obtain ⟨t388, A6, H⟩ := be H; by_cases c7 : t388 = true
  ·subst c7; rw [if_pos rfl] at H; have H1 := H; clear H; have H := H1; clear H1; by_cases c8 : a0_1 = 0
   ·rw [if_pos c8] at H; have c8b0 : (a0_1 == 0) = true := eC c8; have c8b1 : (a0_1 != 0) = false := eA c8; clear c8; obtain rfl := oI H; go_enter Tryz.func128, Tryz.ntmps128
    go_wp2_with (first | ((with_reducible refine gate_dst (N := 1) rfl ?_); refine boxT (N := 1) (cs := #[.int .u8 a0_0, .int .u8 a0_1]) (t := 109) ?_; intro gb386 hg w9 hbox hb; have BK386 := asT hbox; have GW386 := asT (geT hg HB.out); have GE386 := GW386; replace HB := hS HB hb; clear hb hbox hg; obtain ⟨hcz10_0, hcz10_1, hfz10_0, hfz10_1⟩ := bx2 BK386.out) | ((with_reducible refine gate_callee (f := 123) rfl ?_); refine goesL_ (some 15) rfl rfl Tryz.func123 (by kernel_rfl) rfl #[.int .u8 a0_0] rfl eqT ?_; (with_reducible refine (impl_IsSound.calls a0_0 true _ A6.out).mono ?_); rintro e w' ⟨rfl, ⟨nd, rfl⟩⟩; refine ⟨_, rfl, ?_⟩))
    go_ret; exact ⟨rlT, hbT HB.out⟩
   ·rw [if_neg c8] at H; have c8b0 : (a0_1 == 0) = false := eB c8; have c8b1 : (a0_1 != 0) = true := eD c8; by_cases c11 : a0_1 = a0_0
    ·rw [if_pos c11] at H; have c11b0 : (a0_1 == a0_0) = true := eC c11; have c11b1 : (a0_1 != a0_0) = false := eA c11; clear c11; obtain rfl := oI H; go_enter Tryz.func128, Tryz.ntmps128
     go_wp2_with (first | ((with_reducible refine gate_dst (N := 1) rfl ?_); refine boxT (N := 1) (cs := #[.int .u8 a0_0, .int .u8 a0_1]) (t := 109) ?_; intro gb386 hg w12 hbox hb; have BK386 := asT hbox; have GW386 := asT (geT hg HB.out); have GE386 := GW386; replace HB := hS HB hb; clear hb hbox hg; obtain ⟨hcz13_0, hcz13_1, hfz13_0, hfz13_1⟩ := bx2 BK386.out) | ((with_reducible refine gate_callee (f := 123) rfl ?_); refine goesL_ (some 15) rfl rfl Tryz.func123 (by kernel_rfl) rfl #[.int .u8 a0_0] rfl eqT ?_; (with_reducible refine (impl_IsSound.calls a0_0 true _ A6.out).mono ?_); rintro e w' ⟨rfl, ⟨nd, rfl⟩⟩; refine ⟨_, rfl, ?_⟩))
     go_ret; exact ⟨rlT, hbT HB.out⟩
    ·rw [if_neg c11] at H; have c11b0 : (a0_1 == a0_0) = false := eB c11; have c11b1 : (a0_1 != a0_0) = true := eD c11; replace H := Option.bind_eq_some_iff.mp H; obtain ⟨⟨t389, t390⟩, A140, H⟩ := H; replace H : (if t390 = true then (some (t389 == a0_1)) else (some false)) = some r := H; have A14 := asT A140; clear A140; by_cases c15 : t390 = true
     ·subst c15; rw [if_pos rfl] at H; have H1 := H; clear H; have H := H1; clear H1; obtain rfl := oI H; go_enter Tryz.func128, Tryz.ntmps128
      go_wp2_with (first | ((with_reducible refine gate_dst (N := 1) rfl ?_); refine boxT (N := 1) (cs := #[.int .u8 a0_0, .int .u8 a0_1]) (t := 109) ?_; intro gb386 hg w16 hbox hb; have BK386 := asT hbox; have GW386 := asT (geT hg HB.out); have GE386 := GW386; replace HB := hS HB hb; clear hb hbox hg; obtain ⟨hcz17_0, hcz17_1, hfz17_0, hfz17_1⟩ := bx2 BK386.out) | ((with_reducible refine gate_callee (f := 123) rfl ?_); refine goesL_ (some 15) rfl rfl Tryz.func123 (by kernel_rfl) rfl #[.int .u8 a0_0] rfl eqT ?_; (with_reducible refine (impl_IsSound.calls a0_0 true _ A6.out).mono ?_); rintro e w' ⟨rfl, ⟨nd, rfl⟩⟩; refine ⟨_, rfl, ?_⟩) | ((with_reducible refine gate_callee (f := 126) rfl ?_); refine goesL_ (some 31) rfl rfl Tryz.func126 (by kernel_rfl) rfl #[.int .u8 a0_0] rfl eqT ?_; (with_reducible refine (impl_SwapVoice.calls a0_0 t389 true _ A14.out).mono ?_); rintro e w' ⟨rfl, ⟨nd, rfl⟩⟩; refine ⟨_, rfl, ?_⟩))
      go_ret; exact ⟨rlT, hbT HB.out⟩
     ·replace c15 := eE c15; subst c15; rw [if_neg nF] at H; have H1 := H; clear H; have H := H1; clear H1; obtain rfl := oI H; go_enter Tryz.func128, Tryz.ntmps128
      go_wp2_with (first | ((with_reducible refine gate_dst (N := 1) rfl ?_); refine boxT (N := 1) (cs := #[.int .u8 a0_0, .int .u8 a0_1]) (t := 109) ?_; intro gb386 hg w18 hbox hb; have BK386 := asT hbox; have GW386 := asT (geT hg HB.out); have GE386 := GW386; replace HB := hS HB hb; clear hb hbox hg; obtain ⟨hcz19_0, hcz19_1, hfz19_0, hfz19_1⟩ := bx2 BK386.out) | ((with_reducible refine gate_callee (f := 123) rfl ?_); refine goesL_ (some 15) rfl rfl Tryz.func123 (by kernel_rfl) rfl #[.int .u8 a0_0] rfl eqT ?_; (with_reducible refine (impl_IsSound.calls a0_0 true _ A6.out).mono ?_); rintro e w' ⟨rfl, ⟨nd, rfl⟩⟩; refine ⟨_, rfl, ?_⟩) | ((with_reducible refine gate_callee (f := 126) rfl ?_); refine goesL_ (some 31) rfl rfl Tryz.func126 (by kernel_rfl) rfl #[.int .u8 a0_0] rfl eqT ?_; (with_reducible refine (impl_SwapVoice.calls a0_0 t389 false _ A14.out).mono ?_); rintro e w' ⟨rfl, ⟨nd, rfl⟩⟩; refine ⟨_, rfl, ?_⟩))
      go_ret; exact ⟨rlT, hbT HB.out⟩
  ·replace c7 := eE c7; subst c7; rw [if_neg nF] at H; have H1 := H; clear H; have H := H1; clear H1; obtain rfl := oI H; go_enter Tryz.func128, Tryz.ntmps128
   go_wp2_with (first | ((with_reducible refine gate_dst (N := 1) rfl ?_); refine boxT (N := 1) (cs := #[.int .u8 a0_0, .int .u8 a0_1]) (t := 109) ?_; intro gb386 hg w20 hbox hb; have BK386 := asT hbox; have GW386 := asT (geT hg HB.out); have GE386 := GW386; replace HB := hS HB hb; clear hb hbox hg; obtain ⟨hcz21_0, hcz21_1, hfz21_0, hfz21_1⟩ := bx2 BK386.out) | ((with_reducible refine gate_callee (f := 123) rfl ?_); refine goesL_ (some 15) rfl rfl Tryz.func123 (by kernel_rfl) rfl #[.int .u8 a0_0] rfl eqT ?_; (with_reducible refine (impl_IsSound.calls a0_0 false _ A6.out).mono ?_); rintro e w' ⟨rfl, ⟨nd, rfl⟩⟩; refine ⟨_, rfl, ?_⟩))
   go_ret; exact ⟨rlT, hbT HB.out⟩
end Go.Proofs.YtlmfpkiaikjlbaaGreat.PFnExactOptimalOutputs
