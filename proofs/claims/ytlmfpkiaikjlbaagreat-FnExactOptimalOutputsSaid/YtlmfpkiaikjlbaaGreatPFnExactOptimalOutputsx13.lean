-- Made by gen.py (a program of this session) out of the translation; Lean checks it.
import Derived.Test.YtlmfpkiaikjlbaaGreatPFnExactOptimalOutputsx0
import Derived.Test.YtlmfpkiaikjlbaaGreatPFnExactOptimalOutputsx1
import Derived.Test.YtlmfpkiaikjlbaaGreatPFnExactOptimalOutputsx8
import Derived.Test.YtlmfpkiaikjlbaaGreatPFnExactOptimalOutputsx9
import Derived.Test.YtlmfpkiaikjlbaaGreatPFnExactOptimalOutputsx11
import Derived.Test.YtlmfpkiaikjlbaaGreatPFnExactOptimalOutputsx12
namespace Go.Proofs.YtlmfpkiaikjlbaaGreat.PFnExactOptimalOutputs
open Go.RowKit Go.Proofs.YtlmfpkiaikjlbaaGreatB Go.Proofs.YtlmfpkiaikjlbaaGreatW.PrintWords Go.Proofs.YtlmfpkiaikjlbaaGreatW.PrintLast Go.Proofs.YtlmfpkiaikjlbaaGreatW.PrintMore
attribute [local go_sem] max2_int min2_int max_two min_two max_three min_three max_four min_four   -- for this text's walks alone
set_option linter.unusedVariables false
set_option maxHeartbeats 8000000
set_option maxRecDepth 100000
set_option linter.unusedSimpArgs false
mutual
def impl_WinnersOf.j0 : Nat → List Int → Bool → ByteArray → List ByteArray → List (S60) → List (List Int) → Option (List Int)
 | 0, _, _, _, _, _, _ => none
 | k + 1, x1, x18, x545000, x545001, x545002, x545003 => if x18 = true then (some ([] : List Int)) else (impl_WinnersOf.l0 k x1 (([] : List Int)) x545003 (x545003.length : Int) 0 x545000 x545001 x545002 x545003)
def impl_WinnersOf.l0 : Nat → List Int → List Int → List (List Int) → Int → Int → ByteArray → List ByteArray → List (S60) → List (List Int) → Option (List Int)
 | 0, _, _, _, _, _, _, _, _, _ => none
 | k + 1, x1, x5, x21, x22, x23, x545000, x545001, x545002, x545003 => if x23 < x22 then (if 0 ≤ x23 then (if x23 < (x21.length : Int) then (if (x5.length : Int) > 0 then (if 0 < (x5.length : Int) then (if 0 ≤ (rd x5 0) then (if (rd x5 0) < (x545003.length : Int) then ((impl_CompareMarks.f k (rd_L6 x21 x23) (rd_L6 x545003 (rd x5 0)) x1).bind fun t553 => (impl_WinnersOf.j2 k x1 x5 x23 (rd_L6 x21 x23) x21 x22 x23 (decide (t553 < 0)) x545000 x545001 x545002 x545003)) else (none)) else (none)) else (none)) else (impl_WinnersOf.j2 k x1 x5 x23 (rd_L6 x21 x23) x21 x22 x23 false x545000 x545001 x545002 x545003)) else (none)) else (none)) else (some x5)
def impl_WinnersOf.j2 : Nat → List Int → List Int → Int → List Int → List (List Int) → Int → Int → Bool → ByteArray → List ByteArray → List (S60) → List (List Int) → Option (List Int)
 | 0, _, _, _, _, _, _, _, _, _, _, _, _ => none
 | k + 1, x1, x5, x6, x7, x21, x22, x23, x43, x545000, x545001, x545002, x545003 => if x43 = true then (if 0 ≤ (x5.length : Int) then ((some (x5.take (0 : Int).toNat : List Int)).bind fun y554 => (if (y554.length : Int) = 0 then (if y554.length < 17592186044416 then (impl_WinnersOf.l0 k x1 (y554 ++ [x6]) x21 x22 (wrap64 (x23 + 1)) x545000 x545001 x545002 x545003) else (none)) else (if 0 < (y554.length : Int) then (if 0 ≤ (rd y554 0) then (if (rd y554 0) < (x545003.length : Int) then ((impl_CompareMarks.f k x7 (rd_L6 x545003 (rd y554 0)) x1).bind fun t562 => (if t562 = 0 then (if y554.length < 17592186044416 then (impl_WinnersOf.l0 k x1 (y554 ++ [x6]) x21 x22 (wrap64 (x23 + 1)) x545000 x545001 x545002 x545003) else (none)) else (impl_WinnersOf.l0 k x1 y554 x21 x22 (wrap64 (x23 + 1)) x545000 x545001 x545002 x545003))) else (none)) else (none)) else (none)))) else (none)) else (if (x5.length : Int) = 0 then (if x5.length < 17592186044416 then (impl_WinnersOf.l0 k x1 (x5 ++ [x6]) x21 x22 (wrap64 (x23 + 1)) x545000 x545001 x545002 x545003) else (none)) else (if 0 < (x5.length : Int) then (if 0 ≤ (rd x5 0) then (if (rd x5 0) < (x545003.length : Int) then ((impl_CompareMarks.f k x7 (rd_L6 x545003 (rd x5 0)) x1).bind fun t571 => (if t571 = 0 then (if x5.length < 17592186044416 then (impl_WinnersOf.l0 k x1 (x5 ++ [x6]) x21 x22 (wrap64 (x23 + 1)) x545000 x545001 x545002 x545003) else (none)) else (impl_WinnersOf.l0 k x1 x5 x21 x22 (wrap64 (x23 + 1)) x545000 x545001 x545002 x545003))) else (none)) else (none)) else (none)))
end
def impl_WinnersOf.f (k : Nat) (a0_0 : ByteArray) (l0_1 : List ByteArray) (l0_2 : List (S60)) (l0_3 : List (List Int)) (l1 : List Int) : Option (List Int) := (impl_IsTableau.f k a0_0 l0_1 l0_2 l0_3).bind fun t545 => (if t545 = true then ((impl_IsRanking.f k l1 (l0_1.length : Int)).bind fun t546 => (impl_WinnersOf.j0 k l1 (!t546) a0_0 l0_1 l0_2 l0_3)) else (impl_WinnersOf.j0 k l1 true a0_0 l0_1 l0_2 l0_3))
theorem impl_WinnersOf.mono_l : ∀ k, (∀ y0 y1 y2 y3 y4 y5, LeO (impl_WinnersOf.j0 k y0 y1 y2 y3 y4 y5) (impl_WinnersOf.j0 (k + 1) y0 y1 y2 y3 y4 y5)) ∧ (∀ y0 y1 y2 y3 y4 y5 y6 y7 y8, LeO (impl_WinnersOf.l0 k y0 y1 y2 y3 y4 y5 y6 y7 y8) (impl_WinnersOf.l0 (k + 1) y0 y1 y2 y3 y4 y5 y6 y7 y8)) ∧ (∀ y0 y1 y2 y3 y4 y5 y6 y7 y8 y9 y10 y11, LeO (impl_WinnersOf.j2 k y0 y1 y2 y3 y4 y5 y6 y7 y8 y9 y10 y11) (impl_WinnersOf.j2 (k + 1) y0 y1 y2 y3 y4 y5 y6 y7 y8 y9 y10 y11))
 | 0 => ⟨fun _ _ _ _ _ _ r h => by simp [impl_WinnersOf.j0] at h, fun _ _ _ _ _ _ _ _ _ r h => by simp [impl_WinnersOf.l0] at h, fun _ _ _ _ _ _ _ _ _ _ _ _ r h => by simp [impl_WinnersOf.j2] at h⟩
 | k + 1 => by
  obtain ⟨ih0, ih1, ih2⟩ := impl_WinnersOf.mono_l k; refine ⟨?_, ?_, ?_⟩
  ·intro y0 y1 y2 y3 y4 y5; unfold impl_WinnersOf.j0
   with_reducible repeat' first | exact ih0 _ _ _ _ _ _ | exact ih1 _ _ _ _ _ _ _ _ _ | exact ih2 _ _ _ _ _ _ _ _ _ _ _ _ | exact impl_CompareMarks.mono _ _ _ _ | exact impl_IsRanking.mono _ _ _ | exact impl_IsTableau.mono _ _ _ _ _ | exact LeO.refl _ | exact LeO.none _ | refine LeO.ite ?_ ?_ | refine LeO.bind ?_ (fun _ => ?_)
  ·intro y0 y1 y2 y3 y4 y5 y6 y7 y8; unfold impl_WinnersOf.l0
   with_reducible repeat' first | exact ih0 _ _ _ _ _ _ | exact ih1 _ _ _ _ _ _ _ _ _ | exact ih2 _ _ _ _ _ _ _ _ _ _ _ _ | exact impl_CompareMarks.mono _ _ _ _ | exact impl_IsRanking.mono _ _ _ | exact impl_IsTableau.mono _ _ _ _ _ | exact LeO.refl _ | exact LeO.none _ | refine LeO.ite ?_ ?_ | refine LeO.bind ?_ (fun _ => ?_)
  ·intro y0 y1 y2 y3 y4 y5 y6 y7 y8 y9 y10 y11; unfold impl_WinnersOf.j2
   with_reducible repeat' first | exact ih0 _ _ _ _ _ _ | exact ih1 _ _ _ _ _ _ _ _ _ | exact ih2 _ _ _ _ _ _ _ _ _ _ _ _ | exact impl_CompareMarks.mono _ _ _ _ | exact impl_IsRanking.mono _ _ _ | exact impl_IsTableau.mono _ _ _ _ _ | exact LeO.refl _ | exact LeO.none _ | refine LeO.ite ?_ ?_ | refine LeO.bind ?_ (fun _ => ?_)
theorem impl_WinnersOf.mono : ∀ a0 a1 a2 a3 a4 k, LeO (impl_WinnersOf.f k a0 a1 a2 a3 a4) (impl_WinnersOf.f (k + 1) a0 a1 a2 a3 a4) := by
 intro a0 a1 a2 a3 a4 k; obtain ⟨ih0, ih1, ih2⟩ := impl_WinnersOf.mono_l k; unfold impl_WinnersOf.f
 with_reducible repeat' first | exact ih0 _ _ _ _ _ _ | exact ih1 _ _ _ _ _ _ _ _ _ | exact ih2 _ _ _ _ _ _ _ _ _ _ _ _ | exact impl_CompareMarks.mono _ _ _ _ | exact impl_IsRanking.mono _ _ _ | exact impl_IsTableau.mono _ _ _ _ _ | exact LeO.refl _ | exact LeO.none _ | refine LeO.ite ?_ ?_ | refine LeO.bind ?_ (fun _ => ?_)
def impl_WinnersOf.T7 : Bool × List (List Nat × List Nat) := (true, [([], []), ([0], [0]), ([1], [1]), ([2], [2]), ([3], [3]), ([3], [3]), ([5, 3], [3, 5]), ([3], [3]), ([7, 3], [3, 7]), ([8, 3], [3, 8]), ([6, 9, 3], [3, 6, 9]), ([10, 3], [3, 10]), ([3], [3]), ([4, 11, 12, 3, 3], [3, 4, 11, 12]), ([13, 3], [3, 13]), ([3, 14], [3, 14])])
def impl_WinnersOf.B7 : List Nat := [0, 1, 3, 7, 15, 15, 47, 15, 143, 399, 1007, 2031, 15, 8191, 16383, 32767]
theorem impl_WinnersOf.tab7 : rtab .any (opsOf Tryz.f31 7) = impl_WinnersOf.T7 := by kernel_rfl
theorem impl_WinnersOf.bits7 : waitsOk impl_WinnersOf.T7.2 impl_WinnersOf.B7 = true := by kernel_rfl
def impl_WinnersOf.T9 : Bool × List (List Nat × List Nat) := (true, [([], []), ([0], [0]), ([1], [1]), ([2], [2]), ([3], [3]), ([3], [3]), ([5, 3], [3, 5]), ([3], [3]), ([7, 3], [3, 7]), ([8, 3], [3, 8]), ([6, 9, 3], [3, 6, 9]), ([10, 3], [3, 10]), ([3], [3]), ([4, 11, 12, 3, 3], [3, 4, 11, 12]), ([13, 3], [3, 13]), ([3, 14], [3, 14])])
def impl_WinnersOf.B9 : List Nat := [0, 1, 3, 7, 15, 15, 47, 15, 143, 399, 1007, 2031, 15, 8191, 16383, 32767]
theorem impl_WinnersOf.tab9 : rtab .any (opsOf Tryz.f31 9) = impl_WinnersOf.T9 := by kernel_rfl
theorem impl_WinnersOf.bits9 : waitsOk impl_WinnersOf.T9.2 impl_WinnersOf.B9 = true := by kernel_rfl
theorem impl_WinnersOf.calls (k : Nat) (a0_0 : ByteArray) (A0_1 : Option Addr) (c0_1 : Nat) (l0_1 : List ByteArray) (A0_2 : Option Addr) (c0_2 : Nat) (l0_2 : List (S60)) (A0_3 : Option Addr) (c0_3 : Nat) (l0_3 : List (List Int)) (A1 : Option Addr) (c1 : Nat) (l1 : List Int) (r : List Int) (w : World) (hr0_1 : Kd.C Kd.string w A0_1 l0_1.length l0_1) (hc0_1 : l0_1.length ≤ c0_1) (hr0_2 : Kd.C k60 w A0_2 l0_2.length l0_2) (hc0_2 : l0_2.length ≤ c0_2) (hr0_3 : Kd.C (Kd.slice 3 (Kd.int .i64)) w A0_3 l0_3.length l0_3) (hc0_3 : l0_3.length ≤ c0_3) (hr1 : Kd.C (Kd.int .i64) w A1 l1.length l1) (hc1 : l1.length ≤ c1) (h : impl_WinnersOf.f k a0_0 l0_1 l0_2 l0_3 l1 = some r) :
  Calls Tryz.prog 31 #[.agg #[.string a0_0, .slice A0_1 l0_1.length c0_1, .slice A0_2 l0_2.length c0_2, .slice A0_3 l0_3.length c0_3], .slice A1 l1.length c1] w fun e w' => ∃ v0_ : Value, e = .returned (v0_) ∧ Kd.R (Kd.int .i64) 3 w' w.heap.size (fun _ => True) v0_ r ∧ Below w.heap.size w w' := by
 have hu27 := Tryz.underlying27; have HR0_1 := asT hr0_1; have HC0_1 := asT hc0_1; clear hr0_1 hc0_1; have HR0_2 := asT hr0_2; have HC0_2 := asT hc0_2; clear hr0_2 hc0_2; have HR0_3 := asT hr0_3; have HC0_3 := asT hc0_3; clear hr0_3 hc0_3; have HR1 := asT hr1; have HC1 := asT hc1; clear hr1 hc1; have HB := asT (Below.refl w.heap.size w); have H := h; unfold impl_WinnersOf.f at H; clear h; have HC3 := asT H; clear H; go_enter Tryz.func31, Tryz.ntmps31
 go_upto_region 1 with (first | ((with_reducible refine gate_dst (N := 2) rfl ?_); (try (refine gate_guard (by rfl) ?_; dsimp only)); refine boxT (N := 2) (cs := #[.string a0_0, .slice A0_1 l0_1.length c0_1, .slice A0_2 l0_2.length c0_2, .slice A0_3 l0_3.length c0_3]) (t := 27) ?_; intro gb544 hg w4 hbox hb; have BK544 := asT hbox; have GW544 := asT (geT hg HB.out); have GE544 := GW544; replace HB := hS HB hb; clear hb hbox hg))
 (try simp only [Act.put, sA, sZ, sS])
 go_cut [18] (fun v18 wc => ∃ (kq : Nat) (x18_2 : Bool), v18 = .bool x18_2 ∧ Aside0 (impl_WinnersOf.j0 kq l1 x18_2 a0_0 l0_1 l0_2 l0_3 = some r) ∧ Aside0 (kq ≤ k) ∧ Aside0 (wc.heap[gb544]? = some (.cells #[.string a0_0, (.slice A0_1 l0_1.length c0_1), (.slice A0_2 l0_2.length c0_2), (.slice A0_3 l0_3.length c0_3)] 27 (0, 0))) ∧ Aside0 (Below w.heap.size w wc))
 case first =>
  have H := HC3.out; clear HC3; obtain ⟨t545, A5, H⟩ := be H; by_cases c6 : t545 = true
  ·subst c6; rw [if_pos rfl] at H; obtain ⟨t546, A7, H⟩ := be H; have H' := asT H; clear H; obtain ⟨hcz8_0, hcz8_1, hcz8_2, hcz8_3, hfz8_0, hfz8_1, hfz8_2, hfz8_3⟩ := bx4 BK544.out
   go_wp2_with (first | ((with_reducible refine gate_callee (f := 57) rfl ?_); refine goesL_ (some 9) rfl rfl Tryz.func57 (by kernel_rfl) rfl #[.agg #[.string a0_0, .slice A0_1 l0_1.length c0_1, .slice A0_2 l0_2.length c0_2, .slice A0_3 l0_3.length c0_3]] rfl eqT ?_; (with_reducible refine (impl_IsTableau.calls k a0_0 _ _ l0_1 _ _ l0_2 _ _ l0_3 true _ ?side1 ?side2 ?side3 ?side4 ?side5 ?side6 A5.out).mono ?_); (case side1 => exact crT HR0_1.out HB.out); (case side2 => exact HC0_1.out); (case side3 => exact crT HR0_2.out HB.out); (case side4 => exact HC0_2.out); (case side5 => exact crT HR0_3.out HB.out); (case side6 => exact HC0_3.out); rintro e w9 ⟨rfl, hb⟩; refine ⟨_, rfl, ?_⟩; replace BK544 := bS BK544 hb; replace HB := hS HB hb; (try clear hb hb2 hk hi); obtain ⟨hcz10_0, hcz10_1, hcz10_2, hcz10_3, hfz10_0, hfz10_1, hfz10_2, hfz10_3⟩ := bx4 BK544.out) | (go_at_call 69; (with_reducible refine (impl_IsRanking.calls k _ _ l1 (l0_1.length : Int) t546 _ ?side1 ?side2 A7.out).mono ?_); (case side1 => exact crT HR1.out HB.out); (case side2 => exact HC1.out); rintro e w11 ⟨rfl, hb⟩; replace BK544 := bS BK544 hb; replace HB := hS HB hb; (try clear hb hb2 hk hi)))
   go_meet
   case rel => exact ⟨_, (!t546), rdT, H', ⟨by first | omega | exact Nat.le_refl _⟩, kpT BK544.out, ⟨hbT HB.out⟩⟩
  ·replace c6 := eE c6; subst c6; rw [if_neg nF] at H; have H' := asT H; clear H; obtain ⟨hcz12_0, hcz12_1, hcz12_2, hcz12_3, hfz12_0, hfz12_1, hfz12_2, hfz12_3⟩ := bx4 BK544.out
   go_wp2_with (first | ((with_reducible refine gate_callee (f := 57) rfl ?_); refine goesL_ (some 9) rfl rfl Tryz.func57 (by kernel_rfl) rfl #[.agg #[.string a0_0, .slice A0_1 l0_1.length c0_1, .slice A0_2 l0_2.length c0_2, .slice A0_3 l0_3.length c0_3]] rfl eqT ?_; (with_reducible refine (impl_IsTableau.calls k a0_0 _ _ l0_1 _ _ l0_2 _ _ l0_3 false _ ?side1 ?side2 ?side3 ?side4 ?side5 ?side6 A5.out).mono ?_); (case side1 => exact crT HR0_1.out HB.out); (case side2 => exact HC0_1.out); (case side3 => exact crT HR0_2.out HB.out); (case side4 => exact HC0_2.out); (case side5 => exact crT HR0_3.out HB.out); (case side6 => exact HC0_3.out); rintro e w13 ⟨rfl, hb⟩; refine ⟨_, rfl, ?_⟩; replace BK544 := bS BK544 hb; replace HB := hS HB hb; (try clear hb hb2 hk hi)))
   go_meet
   case rel => exact ⟨_, (true), rdT, H', ⟨by first | omega | exact Nat.le_refl _⟩, kpT BK544.out, ⟨hbT HB.out⟩⟩
 case rest =>
  clear HC3; (try clear c1 p2 c3 c5 c6 hcz10_0 hcz10_1 hcz10_2 hcz10_3 hcz12_0 hcz12_1 hcz12_2 hcz12_3 hcz8_0 hcz8_1 hcz8_2 hcz8_3 hfz10_0 hfz10_1 hfz10_2 hfz10_3 hfz12_0 hfz12_1 hfz12_2 hfz12_3 hfz8_0 hfz8_1 hfz8_2 hfz8_3); obtain ⟨kq, x18_2, rfl, HA, HJ2, BK544, HB⟩ := hcut
  cases kq with
  | zero => exact absurd HA.out (by simp [impl_WinnersOf.j0])
  | succ kj2 =>
   have H := HA.out; clear HA
   simp only [impl_WinnersOf.j0] at H
   by_cases c14 : x18_2 = true
   ·subst c14; rw [if_pos rfl] at H; have H1 := H; clear H; have H := H1; clear H1; obtain rfl := oI H
    go_wp2
    go_ret; exact ⟨_, rlT, by first | exact Kd.R_nil _ _ _ _ _ | exact Kd.N_nil _ _ _ _ _ | exact Kd.V_nil _ _ _ _ _ | exact Kd.Q_nil _ _ _ _ _ | exact Kd.S_nil _ _ _ _ _, hbT HB.out⟩
   ·replace c14 := eE c14; subst c14; rw [if_neg nF] at H; obtain ⟨y547, hy547⟩ : ∃ y_ : List Int, y_ = (([] : List Int)) := ⟨_, rfl⟩
    replace H : (impl_WinnersOf.l0 kj2 l1 y547 l0_3 (l0_3.length : Int) 0 a0_0 l0_1 l0_2 l0_3) = some r := by first | (rw [hy547]; with_reducible exact H) | (have H2_ := (Option.bind_some _ _).symm.trans H; rw [hy547]; with_reducible exact H2_) | (have H2_ := (Option.bind_some _ _).symm.trans H; with_reducible exact H2_) | with_reducible exact H | (rw [hy547]; exact H) | exact H
    have Ny547 := asT hy547; clear hy547; have H' := asT H; clear H
    go_wp2_with (first | ((with_reducible refine gate_dst (N := 19) rfl ?_); (try (refine gate_guard (by rfl) ?_; dsimp only)); refine Kd.R_lit (Kd.int .i64) _ 3 ?hg (N := 19) ?hd (xs := ([] : List Int)) (inner := []) (ok := fun _ => True) (okp := fun _ => True) ?hr ?hp (fun _ hk => hk) trivial (Below.refl _ _) (Nat.le_refl _) (by simp) ?_; (case hd => rfl); (case hg => rfl); (case hr => first | (go_simp; done) | (go_simp; rfl)); (case hp => exact (Reps.none _ _)); intro v548 w15 ho16 hb hg_ hnew_; clear hg_ hnew_; (first | rw [← Ny547.out] at ho16 | (simp only [Int.reduceToNat] at ho16; rw [← Ny547.out] at ho16)); have HO549 := asT (Kd.R_lower ho16 (below_size (hbT HB.out))); replace BK544 := bS BK544 hb; replace HB := hS HB hb; clear hb ho16; obtain ⟨hcz17_0, hcz17_1, hcz17_2, hcz17_3, hfz17_0, hfz17_1, hfz17_2, hfz17_3⟩ := bx4 BK544.out))
    go_loopg [5, 23] kj2 (fun kq v5 v23 w' => ∃ (x5_2 : List Int) (x23_2 : Int), v23 = .int .i64 x23_2 ∧ Aside0 (impl_WinnersOf.l0 kq l1 x5_2 l0_3 (l0_3.length : Int) x23_2 a0_0 l0_1 l0_2 l0_3 = some r) ∧ Aside0 (kq ≤ kj2) ∧ Aside0 (Kd.R (Kd.int .i64) 3 w' w.heap.size (fun _ => True) v5 x5_2) ∧ Aside0 (w'.heap[gb544]? = some (.cells #[.string a0_0, (.slice A0_1 l0_1.length c0_1), (.slice A0_2 l0_2.length c0_2), (.slice A0_3 l0_3.length c0_3)] 27 (0, 0))) ∧ Aside0 (Below w.heap.size w w'))
    case atStart => exact ⟨(y547), (0), rdT, H', ⟨Nat.le_refl _⟩, ⟨roT HO549.out⟩, kpT BK544.out, ⟨hbT HB.out⟩⟩
    case round =>
     clear H'; (try clear c1 p2 c3 c5 c6 c14 hcz10_0 hcz10_1 hcz10_2 hcz10_3 hcz12_0 hcz12_1 hcz12_2 hcz12_3 hcz17_0 hcz17_1 hcz17_2 hcz17_3 hcz8_0 hcz8_1 hcz8_2 hcz8_3 hfz10_0 hfz10_1 hfz10_2 hfz10_3 hfz12_0 hfz12_1 hfz12_2 hfz12_3 hfz17_0 hfz17_1 hfz17_2 hfz17_3 hfz8_0 hfz8_1 hfz8_2 hfz8_3 p2); obtain ⟨x5_2, x23_2, rfl, HA, HK2, HO_5, BK544, HB⟩ := hrel
     cases gk with
     | zero => exact absurd HA.out (by simp [impl_WinnersOf.l0])
     | succ k2 =>
      have H := HA.out; clear HA
      simp only [impl_WinnersOf.l0] at H
      by_cases c18 : x23_2 < (l0_3.length : Int)
      ·rw [if_pos c18] at H; have c18b0 := dt c18; clear c18; by_cases c19 : 0 ≤ x23_2
       ·rw [if_pos c19] at H; have c19b0 := dt c19; clear c19; by_cases c20 : x23_2 < (l0_3.length : Int)
        ·rw [if_pos c20] at H; have c20b0 := dt c20; clear c20; have HC21 := asT H; clear H; have p550 : 0 ≤ (x23_2 : Int) := dT asmT; have q550 : x23_2 < (l0_3.length : Int) := dT asmT; obtain ⟨ad550, A550_0, c550_0, e550, hx550_0, hl550_0, hi550_0⟩ := at_L6 HR0_3.out x23_2 p550 q550
         cases e550
         replace hx550_0 := hbc HB.out hx550_0; have HR550_0 := asT hi550_0; have HC550_0 := asT hl550_0; clear hi550_0 hl550_0; replace p550 := eq_true p550; replace q550 := eq_true q550
         go_upto_region 7 with (fail)
         go_cut [43] (fun v43 wc => ∃ (kq : Nat) (x43_20 : Bool), v43 = .bool x43_20 ∧ Aside0 (impl_WinnersOf.j2 kq l1 x5_2 x23_2 (rd_L6 l0_3 x23_2) l0_3 (l0_3.length : Int) x23_2 x43_20 a0_0 l0_1 l0_2 l0_3 = some r) ∧ Aside0 (kq ≤ k2) ∧ Aside0 (Kd.R (Kd.int .i64) 3 wc w.heap.size (fun _ => True) u5 x5_2) ∧ Aside0 (wc.heap[gb544]? = some (.cells #[.string a0_0, (.slice A0_1 l0_1.length c0_1), (.slice A0_2 l0_2.length c0_2), (.slice (some ad550) l0_3.length c0_3)] 27 (0, 0))) ∧ Aside0 (Below w.heap.size w wc))
         case first =>
          have H := HC21.out; clear HC21; by_cases c22 : (x5_2.length : Int) > 0
          ·rw [if_pos c22] at H; have c22b0 : decide (0 < (x5_2.length : Int)) = true := dt c22; have c22b1 : decide (0 < x5_2.length) = true := dt (by omega); clear c22
           (first | rw [c22b0] | (simp only [i64_w, i32_w]; rw [c22b0]) | skip)
           by_cases c23 : 0 < (x5_2.length : Int)
           ·rw [if_pos c23] at H; have c23b0 := dt c23; have c23b1 : decide (0 < x5_2.length) = true := dt (by omega); clear c23; by_cases c24 : 0 ≤ (rd x5_2 0)
            ·rw [if_pos c24] at H; have c24b0 := dt c24; clear c24; by_cases c25 : (rd x5_2 0) < (l0_3.length : Int)
             ·rw [if_pos c25] at H; have c25b0 := dt c25; clear c25; obtain ⟨t553, A26, H⟩ := be H; have H' := asT H; clear H
              try go_wp2
              replace HO_5 := asT (Kd.R_drew HO_5.out); replace BK544 := asT (blk_drew BK544.out); replace HB := asT (below_drew1 HB.out); obtain ⟨Ao28, co28, eo28⟩ := Kd.R_slice HO_5.out; (first | subst eo28 | (injection eo28 with f1_ f2_ f3_; have f4_ := f1_.symm; have f5_ := f3_.symm; clear f1_ f2_ f3_; subst f4_; subst f5_)); have p551 : 0 ≤ (0 : Int) := (by omega); have q551 : 0 < (x5_2.length : Int) := dT asmT; obtain ⟨ad551, e551, hx551_0⟩ := Kd.at_int (Kd.R_reads' HO_5.out).2.2 0 p551 q551
              cases e551
              have qi551 : (0 < x5_2.length) = True := eq_true (by omega)
              (try rw [show ((0 : Int)).toNat = 0 from rfl] at hx551_0)
              (try rw [Addr.add_zero'] at hx551_0)
              replace p551 := eq_true p551; replace q551 := eq_true q551; have p552 : 0 ≤ ((rd x5_2 0) : Int) := dT asmT; have q552 : (rd x5_2 0) < (l0_3.length : Int) := dT asmT; obtain ⟨ad552, A552_0, c552_0, e552, hx552_0, hl552_0, hi552_0⟩ := at_L6 HR0_3.out (rd x5_2 0) p552 q552; have hw552_0 := hx552_0; obtain rfl : ad550 = ad552 := (by injection e552); replace hx552_0 := hbc HB.out hx552_0; have HR552_0 := asT hi552_0; have HC552_0 := asT hl552_0; clear hi552_0 hl552_0; replace p552 := eq_true p552; replace q552 := eq_true q552; refine start_ (n := 16) (S := fun w' => w'.cell? ⟨gb544, 0, none⟩ = some (.string a0_0) ∧ w'.cell? ⟨gb544, 1, none⟩ = some (.slice A0_1 l0_1.length c0_1) ∧ w'.cell? ⟨gb544, 2, none⟩ = some (.slice A0_2 l0_2.length c0_2) ∧ w'.cell? ⟨gb544, 3, none⟩ = some (.slice (some ad550) l0_3.length c0_3) ∧ w'.cell? ad551 = some (.int .i64 (rd x5_2 0)) ∧ w'.cell? (ad550.add ((rd x5_2 0)).toNat) = some (.slice A552_0 (rd_L6 l0_3 (rd x5_2 0)).length c552_0)) (ds := []) (bA 16 0) (by kernel_rfl) rfl rfl ⟨bc0 BK544.out, bc1 BK544.out, bc2 BK544.out, bc3 BK544.out, hx551_0, (hbc HB.out hw552_0 :)⟩ (fun hHeld => ?_); refine with_tabW impl_WinnersOf.tab7 impl_WinnersOf.bits7 (fun HT_ HW_ => ?_); generalize wr.drew = w27 at HO_5 BK544 HB HR552_0 hx551_0 hx552_0 hHeld ⊢; refine pA 0 28 16 1 HT_.out ?_ rfl rfl; refine pA 1 29 16 3 HT_.out ?_ rfl rfl; refine pA 2 30 16 7 HT_.out ?_ rfl rfl; refine pA 3 31 16 15 HT_.out ?_ rfl rfl; refine pA 4 32 16 31 HT_.out ?_ rfl rfl; refine pA 5 33 16 63 HT_.out ?_ rfl rfl; refine pA 7 35 16 191 HT_.out ?_ rfl rfl; refine pA 8 36 16 447 HT_.out ?_ rfl rfl; refine pA 12 40 16 4543 HT_.out ?_ rfl rfl; refine tA 6 34 16 4607 HT_.out HW_.out hHeld ?_ rfl rfl; refine tA 9 37 16 5119 HT_.out HW_.out hHeld ?_ rfl rfl; refine pA 10 38 16 6143 HT_.out ?_ rfl rfl; refine tA 11 39 16 8191 HT_.out HW_.out hHeld ?_ rfl rfl; refine oA 13 41 16 16383 HT_.out (fun K hK => ?_) rfl rfl; refine goes_ Tryz.func70 (by kernel_rfl) rfl #[.slice A550_0 (rd_L6 l0_3 x23_2).length c550_0, .slice A552_0 (rd_L6 l0_3 (rd x5_2 0)).length c552_0, .slice A1 l1.length c1] (by rfl) rfl rfl eqT ?_
              (with_reducible refine (impl_CompareMarks.calls k2 _ _ (rd_L6 l0_3 x23_2) _ _ (rd_L6 l0_3 (rd x5_2 0)) _ _ l1 t553 _ ?side1 ?side2 ?side3 ?side4 ?side5 ?side6 A26.out).mono ?_); (case side1 => exact crT HR550_0.out HB.out); (case side2 => exact HC550_0.out); (case side3 => exact crT HR552_0.out HB.out); (case side4 => exact HC552_0.out); (case side5 => exact crT HR1.out HB.out); (case side6 => exact HC1.out); rintro e w29 ⟨rfl, hb⟩; have HS4_ := (hb.cell (World.block_lt_of_cell? _ _ (hHeld.2.2.2.2.1))).trans (hHeld.2.2.2.2.1); refine ⟨_, rfl, ?_⟩; replace HO_5 := asT (Kd.R_below (roT HO_5.out) hb); replace BK544 := bS BK544 hb; replace HB := hS HB hb; (try clear hb hb2 hk hi)
              refine hK.out _ _ ⟨bc0 BK544.out, bc1 BK544.out, bc2 BK544.out, bc3 BK544.out, HS4_, (hbc HB.out hw552_0 :)⟩ (fun hHeld => ?_); clear hK K; refine nB 41 ?_ rfl; refine pA 14 42 16 32767 HT_.out ?_ rfl rfl; refine pA 15 43 16 65535 HT_.out ?_ rfl rfl; refine done_ (done_of HT_.out (by kernel_rfl)) ?_
              try go_wp2
              go_meet
              case rel => exact ⟨_, (decide (t553 < 0)), rdT, H', ⟨by have := HJ2.out; have := HK2.out; first | omega | exact Nat.le_refl _⟩, ⟨roT HO_5.out⟩, kpT BK544.out, ⟨hbT HB.out⟩⟩
             ·rw [if_neg c25] at H; exact absurd H (by simp)
            ·rw [if_neg c24] at H; exact absurd H (by simp)
           ·rw [if_neg c23] at H; exact absurd H (by simp)
          ·rw [if_neg c22] at H; have c22b0 : decide (0 < (x5_2.length : Int)) = false := df c22; have c22b1 : decide (0 < x5_2.length) = false := df (by omega); clear c22
           (first | rw [c22b0] | (simp only [i64_w, i32_w]; rw [c22b0]) | skip)
           have H' := asT H; clear H
           try go_wp2
           replace HO_5 := asT (Kd.R_drew HO_5.out); replace BK544 := asT (blk_drew BK544.out); replace HB := asT (below_drew1 HB.out); obtain ⟨Ao31, co31, eo31⟩ := Kd.R_slice HO_5.out; (first | subst eo31 | (injection eo31 with f1_ f2_ f3_; have f4_ := f1_.symm; have f5_ := f3_.symm; clear f1_ f2_ f3_; subst f4_; subst f5_)); refine start_ (n := 16) (S := fun w' => True) (ds := []) (bA 16 0) (by kernel_rfl) rfl rfl trivial (fun hHeld => ?_); refine with_tabW impl_WinnersOf.tab7 impl_WinnersOf.bits7 (fun HT_ HW_ => ?_); generalize wr.drew = w30 at HO_5 BK544 HB hHeld ⊢; refine pA 0 28 16 1 HT_.out ?_ rfl rfl; refine pA 1 29 16 3 HT_.out ?_ rfl rfl; refine pA 2 30 16 7 HT_.out ?_ rfl rfl; refine pA 3 31 16 15 HT_.out ?_ rfl rfl; refine uA 4 32 16 31 HT_.out ?_ rfl rfl; refine uA 5 33 16 63 HT_.out ?_ rfl rfl; refine uA 6 34 16 127 HT_.out ?_ rfl rfl; refine uA 7 35 16 255 HT_.out ?_ rfl rfl; refine uA 8 36 16 511 HT_.out ?_ rfl rfl; refine uA 9 37 16 1023 HT_.out ?_ rfl rfl; refine uA 10 38 16 2047 HT_.out ?_ rfl rfl; refine uA 11 39 16 4095 HT_.out ?_ rfl rfl; refine uA 12 40 16 8191 HT_.out ?_ rfl rfl; refine uA 13 41 16 16383 HT_.out ?_ rfl rfl; refine uA 14 42 16 32767 HT_.out ?_ rfl rfl; refine pA 15 43 16 65535 HT_.out ?_ rfl rfl; refine done_ (done_of HT_.out (by kernel_rfl)) ?_
           try go_wp2
           go_meet
           case rel => exact ⟨_, (false), rdT, H', ⟨by have := HJ2.out; have := HK2.out; first | omega | exact Nat.le_refl _⟩, ⟨roT HO_5.out⟩, kpT BK544.out, ⟨hbT HB.out⟩⟩
         case rest =>
          clear HC21; (try clear c1 c2 p2 c3 c5 p5 q5 hx5 qi5 c6 c7 c14 c18 c18b0 c19 c19b0 c20 c20b0 c22 c22b0 c22b1 c23 c23b0 c23b1 c24 c24b0 c25 c25b0 c31 hcz10_0 hcz10_1 hcz10_2 hcz10_3 hcz12_0 hcz12_1 hcz12_2 hcz12_3 hcz17_0 hcz17_1 hcz17_2 hcz17_3 hcz8_0 hcz8_1 hcz8_2 hcz8_3 hfz10_0 hfz10_1 hfz10_2 hfz10_3 hfz12_0 hfz12_1 hfz12_2 hfz12_3 hfz17_0 hfz17_1 hfz17_2 hfz17_3 hfz8_0 hfz8_1 hfz8_2 hfz8_3 hx550_0 hx551_0 hx552_0 p2 p550 p551 p552 q550 q551 q552); obtain ⟨kq, x43_20, rfl, HA, HJ20, HO_5, BK544, HB⟩ := hcut
          cases kq with
          | zero => exact absurd HA.out (by simp [impl_WinnersOf.j2])
          | succ kj20 =>
           have H := HA.out; clear HA
           simp only [impl_WinnersOf.j2] at H
           by_cases c32 : x43_20 = true
           ·subst c32; rw [if_pos rfl] at H; have H1 := H; clear H; have H := H1; clear H1; by_cases c33 : 0 ≤ (x5_2.length : Int)
            ·rw [if_pos c33] at H; have c33b0 := eq_true c33; have c33b1 : decide (0 ≤ (x5_2.length : Int)) = true := dt c33; clear c33; obtain ⟨y554, hy554⟩ : ∃ y_ : List Int, y_ = (x5_2.take (0 : Int).toNat) := ⟨_, rfl⟩
             replace H : (if (y554.length : Int) = 0 then (if y554.length < 17592186044416 then (impl_WinnersOf.l0 kj20 l1 (y554 ++ [x23_2]) l0_3 (l0_3.length : Int) (wrap64 (x23_2 + 1)) a0_0 l0_1 l0_2 l0_3) else (none)) else (if 0 < (y554.length : Int) then (if 0 ≤ (rd y554 0) then (if (rd y554 0) < (l0_3.length : Int) then ((impl_CompareMarks.f kj20 (rd_L6 l0_3 x23_2) (rd_L6 l0_3 (rd y554 0)) l1).bind fun t562 => (if t562 = 0 then (if y554.length < 17592186044416 then (impl_WinnersOf.l0 kj20 l1 (y554 ++ [x23_2]) l0_3 (l0_3.length : Int) (wrap64 (x23_2 + 1)) a0_0 l0_1 l0_2 l0_3) else (none)) else (impl_WinnersOf.l0 kj20 l1 y554 l0_3 (l0_3.length : Int) (wrap64 (x23_2 + 1)) a0_0 l0_1 l0_2 l0_3))) else (none)) else (none)) else (none))) = some r := by first | (rw [hy554]; with_reducible exact H) | (have H2_ := (Option.bind_some _ _).symm.trans H; rw [hy554]; with_reducible exact H2_) | (have H2_ := (Option.bind_some _ _).symm.trans H; with_reducible exact H2_) | with_reducible exact H | (rw [hy554]; exact H) | exact H
             have Ny554 := asT hy554; clear hy554; by_cases c34 : (y554.length : Int) = 0
             ·rw [if_pos c34] at H; have c34b0 : ((y554.length : Int) == 0) = true := eC c34; have c34b1 : ((y554.length : Int) != 0) = false := eA c34; clear c34; by_cases c35 : y554.length < 17592186044416
              ·rw [if_pos c35] at H; have LMc35 := asT c35; clear c35; obtain ⟨y557, hy557⟩ : ∃ y_ : List Int, y_ = (y554 ++ [x23_2]) := ⟨_, rfl⟩
               replace H : (impl_WinnersOf.l0 kj20 l1 y557 l0_3 (l0_3.length : Int) (wrap64 (x23_2 + 1)) a0_0 l0_1 l0_2 l0_3) = some r := by first | (rw [hy557]; with_reducible exact H) | (have H2_ := (Option.bind_some _ _).symm.trans H; rw [hy557]; with_reducible exact H2_) | (have H2_ := (Option.bind_some _ _).symm.trans H; with_reducible exact H2_) | with_reducible exact H | (rw [hy557]; exact H) | exact H
               have Ny557 := asT hy557; clear hy557; have H' := asT H; clear H; obtain ⟨Ao36, co36, eo36⟩ := Kd.R_slice HO_5.out; subst eo36; have q37 : (0 : Int) ≤ ((x5_2.length : Int) : Int) := dT asmT; obtain ⟨i037, hi037, _, hsz37, _⟩ := info_parts info3; have hcut37 := cut_to (P := Tryz.prog) 39 3 .i64 Tryz.underlying39 hi037 Ao36 x5_2.length co36 0 (by omega) q37 (Kd.R_reads' HO_5.out).2.1; have hr37 := Kd.R_take (m := (0 : Int).toNat) HO_5.out (by omega); have hy37 : y554.length = (0 : Int).toNat := (by rw [Ny554.out, List.length_take]; omega); rw [← Ny554.out] at hr37; rw [← hy37] at hr37 hcut37; clear hy37 hi037 hsz37 HO_5; have HO556 := asT hr37; clear hr37; replace q37 := eq_true q37
               try go_wp2
               replace HO556 := asT (Kd.R_drew HO556.out); replace BK544 := asT (blk_drew BK544.out); replace HB := asT (below_drew1 HB.out); refine start_ (n := 16) (S := fun w' => True) (ds := []) (bA 16 0) (by kernel_rfl) rfl rfl trivial (fun hHeld => ?_); refine with_tabW impl_WinnersOf.tab9 impl_WinnersOf.bits9 (fun HT_ HW_ => ?_); generalize wc.drew = w38 at HO556 BK544 HB hHeld ⊢; refine pA 0 46 16 1 HT_.out ?_ rfl rfl; refine pA 1 47 16 3 HT_.out ?_ rfl rfl; refine pA 2 48 16 7 HT_.out ?_ rfl rfl; refine pA 3 49 16 15 HT_.out ?_ rfl rfl; refine uA 4 50 16 31 HT_.out ?_ rfl rfl; refine uA 5 51 16 63 HT_.out ?_ rfl rfl; refine uA 6 52 16 127 HT_.out ?_ rfl rfl; refine uA 7 53 16 255 HT_.out ?_ rfl rfl; refine uA 8 54 16 511 HT_.out ?_ rfl rfl; refine uA 9 55 16 1023 HT_.out ?_ rfl rfl; refine uA 10 56 16 2047 HT_.out ?_ rfl rfl; refine uA 11 57 16 4095 HT_.out ?_ rfl rfl; refine uA 12 58 16 8191 HT_.out ?_ rfl rfl; refine uA 13 59 16 16383 HT_.out ?_ rfl rfl; refine uA 14 60 16 32767 HT_.out ?_ rfl rfl; refine pA 15 61 16 65535 HT_.out ?_ rfl rfl; refine done_ (done_of HT_.out (by kernel_rfl)) ?_
               try go_wp2_with (first | ((with_reducible refine gate_builtin (b := .append) (xs := #[.tmp 62, .tmp 64]) rfl ?_); (try (refine gate_guard (by rfl) ?_; dsimp only)); at_builtin; refine Kd.R_append (Kd.int .i64) (w0 := w) w.heap.size rfl (.tmp 62) (.tmp 64) 39 3 (.int .i64 0) 8 rfl Tryz.underlying39 info3 rfl (by decide) (by omega) (.slice Ao36 y554.length co36) y554 x23_2 [.int .i64 x23_2] (fun _ => True) (fun _ => False) rfl rfl ?aP (fun _ hk => hk.elim) ?aF ?aO ?aB ?aS ?aL ?_; (case aP => exact rfl); (case aB => exact (hbT HB.out)); (case aF => exact (fun _ _ => trivial)); (case aO => exact (roT HO556.out)); (case aS => exact (below_size (hbT HB.out))); (case aL => have := LMc35.out; omega); intro v558 w39 ho hb hg hat; rw [← Ny557.out] at ho; replace BK544 := asT (blk_grown (g := gb544) (o := .cells #[.string a0_0, .slice A0_1 l0_1.length c0_1, .slice A0_2 l0_2.length c0_2, .slice (some ad550) l0_3.length c0_3] 27 (0, 0)) (bkT BK544.out) hg (Kd.R_ne HO556.out BK544.out (by decide))); replace HB := asT (hb); have HO559 := asT (ho); clear HO556 ho hb hg hat))
               go_roundg kj20
               case measure => have := HJ2.out; have := HK2.out; have := HJ20.out; omega
               case rel => exact ⟨(y557), (wrap64 (x23_2 + 1)), rdT, H', ⟨by have := HJ2.out; have := HK2.out; have := HJ20.out; omega⟩, ⟨roT HO559.out⟩, kpT BK544.out, ⟨hbT HB.out⟩⟩
              ·rw [if_neg c35] at H; exact absurd H (by simp)
             ·rw [if_neg c34] at H; have c34b0 : ((y554.length : Int) == 0) = false := eB c34; have c34b1 : ((y554.length : Int) != 0) = true := eD c34
              have c34b2 : ¬ (y554 = []) := fun h_ => c34 (by rw [h_]; rfl)
              by_cases c40 : 0 < (y554.length : Int)
              ·rw [if_pos c40] at H; have c40b0 := dt c40; have c40b1 : decide (0 < y554.length) = true := dt (by omega); clear c40; by_cases c41 : 0 ≤ (rd y554 0)
               ·rw [if_pos c41] at H; have c41b0 := dt c41; clear c41; by_cases c42 : (rd y554 0) < (l0_3.length : Int)
                ·rw [if_pos c42] at H; have c42b0 := dt c42; clear c42; obtain ⟨t562, A43, H⟩ := be H; by_cases c44 : t562 = 0
                 ·rw [if_pos c44] at H; have c44b0 : (t562 == 0) = true := eC c44; have c44b1 : (t562 != 0) = false := eA c44; clear c44; by_cases c45 : y554.length < 17592186044416
                  ·rw [if_pos c45] at H; have LMc45 := asT c45; clear c45; obtain ⟨y563, hy563⟩ : ∃ y_ : List Int, y_ = (y554 ++ [x23_2]) := ⟨_, rfl⟩
                   replace H : (impl_WinnersOf.l0 kj20 l1 y563 l0_3 (l0_3.length : Int) (wrap64 (x23_2 + 1)) a0_0 l0_1 l0_2 l0_3) = some r := by first | (rw [hy563]; with_reducible exact H) | (have H2_ := (Option.bind_some _ _).symm.trans H; rw [hy563]; with_reducible exact H2_) | (have H2_ := (Option.bind_some _ _).symm.trans H; with_reducible exact H2_) | with_reducible exact H | (rw [hy563]; exact H) | exact H
                   have Ny563 := asT hy563; clear hy563; have H' := asT H; clear H; obtain ⟨Ao46, co46, eo46⟩ := Kd.R_slice HO_5.out; subst eo46; have q47 : (0 : Int) ≤ ((x5_2.length : Int) : Int) := dT asmT; obtain ⟨i047, hi047, _, hsz47, _⟩ := info_parts info3; have hcut47 := cut_to (P := Tryz.prog) 39 3 .i64 Tryz.underlying39 hi047 Ao46 x5_2.length co46 0 (by omega) q47 (Kd.R_reads' HO_5.out).2.1; have hr47 := Kd.R_take (m := (0 : Int).toNat) HO_5.out (by omega); have hy47 : y554.length = (0 : Int).toNat := (by rw [Ny554.out, List.length_take]; omega); rw [← Ny554.out] at hr47; rw [← hy47] at hr47 hcut47; clear hy47 hi047 hsz47 HO_5; have HO556 := asT hr47; clear hr47; replace q47 := eq_true q47
                   try go_wp2
                   replace HO556 := asT (Kd.R_drew HO556.out); replace BK544 := asT (blk_drew BK544.out); replace HB := asT (below_drew1 HB.out); have p560 : 0 ≤ (0 : Int) := (by omega); have q560 : 0 < (y554.length : Int) := dT asmT; obtain ⟨ad560, e560, hx560_0⟩ := Kd.at_int (Kd.R_reads' HO556.out).2.2 0 p560 q560
                   cases e560
                   have qi560 : (0 < y554.length) = True := eq_true (by omega)
                   (try rw [show ((0 : Int)).toNat = 0 from rfl] at hx560_0)
                   (try rw [Addr.add_zero'] at hx560_0)
                   replace p560 := eq_true p560; replace q560 := eq_true q560; have p561 : 0 ≤ ((rd y554 0) : Int) := dT asmT; have q561 : (rd y554 0) < (l0_3.length : Int) := dT asmT; obtain ⟨ad561, A561_0, c561_0, e561, hx561_0, hl561_0, hi561_0⟩ := at_L6 HR0_3.out (rd y554 0) p561 q561; have hw561_0 := hx561_0; obtain rfl : ad550 = ad561 := (by injection e561); replace hx561_0 := hbc HB.out hx561_0; have HR561_0 := asT hi561_0; have HC561_0 := asT hl561_0; clear hi561_0 hl561_0; replace p561 := eq_true p561; replace q561 := eq_true q561; refine start_ (n := 16) (S := fun w' => w'.cell? ⟨gb544, 0, none⟩ = some (.string a0_0) ∧ w'.cell? ⟨gb544, 1, none⟩ = some (.slice A0_1 l0_1.length c0_1) ∧ w'.cell? ⟨gb544, 2, none⟩ = some (.slice A0_2 l0_2.length c0_2) ∧ w'.cell? ⟨gb544, 3, none⟩ = some (.slice (some ad550) l0_3.length c0_3) ∧ w'.cell? ad560 = some (.int .i64 (rd y554 0)) ∧ w'.cell? (ad550.add ((rd y554 0)).toNat) = some (.slice A561_0 (rd_L6 l0_3 (rd y554 0)).length c561_0)) (ds := []) (bA 16 0) (by kernel_rfl) rfl rfl ⟨bc0 BK544.out, bc1 BK544.out, bc2 BK544.out, bc3 BK544.out, hx560_0, (hbc HB.out hw561_0 :)⟩ (fun hHeld => ?_); refine with_tabW impl_WinnersOf.tab9 impl_WinnersOf.bits9 (fun HT_ HW_ => ?_); generalize wc.drew = w48 at HO556 BK544 HB HR561_0 hx560_0 hx561_0 hHeld ⊢; refine pA 0 46 16 1 HT_.out ?_ rfl rfl; refine pA 1 47 16 3 HT_.out ?_ rfl rfl; refine pA 2 48 16 7 HT_.out ?_ rfl rfl; refine pA 3 49 16 15 HT_.out ?_ rfl rfl; refine pA 4 50 16 31 HT_.out ?_ rfl rfl; refine pA 5 51 16 63 HT_.out ?_ rfl rfl; refine pA 7 53 16 191 HT_.out ?_ rfl rfl; refine pA 8 54 16 447 HT_.out ?_ rfl rfl; refine pA 12 58 16 4543 HT_.out ?_ rfl rfl; refine tA 6 52 16 4607 HT_.out HW_.out hHeld ?_ rfl rfl; refine tA 9 55 16 5119 HT_.out HW_.out hHeld ?_ rfl rfl; refine pA 10 56 16 6143 HT_.out ?_ rfl rfl; refine tA 11 57 16 8191 HT_.out HW_.out hHeld ?_ rfl rfl; refine oA 13 59 16 16383 HT_.out (fun K hK => ?_) rfl rfl; refine goes_ Tryz.func70 (by kernel_rfl) rfl #[.slice A550_0 (rd_L6 l0_3 x23_2).length c550_0, .slice A561_0 (rd_L6 l0_3 (rd y554 0)).length c561_0, .slice A1 l1.length c1] (by rfl) rfl rfl eqT ?_
                   (with_reducible refine (impl_CompareMarks.calls kj20 _ _ (rd_L6 l0_3 x23_2) _ _ (rd_L6 l0_3 (rd y554 0)) _ _ l1 t562 _ ?side1 ?side2 ?side3 ?side4 ?side5 ?side6 A43.out).mono ?_); (case side1 => exact crT HR550_0.out HB.out); (case side2 => exact HC550_0.out); (case side3 => exact crT HR561_0.out HB.out); (case side4 => exact HC561_0.out); (case side5 => exact crT HR1.out HB.out); (case side6 => exact HC1.out); rintro e w49 ⟨rfl, hb⟩; have HS4_ := (hb.cell (World.block_lt_of_cell? _ _ (hHeld.2.2.2.2.1))).trans (hHeld.2.2.2.2.1); refine ⟨_, rfl, ?_⟩; replace HO556 := asT (Kd.R_below (roT HO556.out) hb); replace BK544 := bS BK544 hb; replace HB := hS HB hb; (try clear hb hb2 hk hi)
                   refine hK.out _ _ ⟨bc0 BK544.out, bc1 BK544.out, bc2 BK544.out, bc3 BK544.out, HS4_, (hbc HB.out hw561_0 :)⟩ (fun hHeld => ?_); clear hK K; refine nB 59 ?_ rfl; refine pA 14 60 16 32767 HT_.out ?_ rfl rfl; refine pA 15 61 16 65535 HT_.out ?_ rfl rfl; refine done_ (done_of HT_.out (by kernel_rfl)) ?_
                   try go_wp2_with (first | ((with_reducible refine gate_builtin (b := .append) (xs := #[.tmp 62, .tmp 64]) rfl ?_); (try (refine gate_guard (by rfl) ?_; dsimp only)); at_builtin; refine Kd.R_append (Kd.int .i64) (w0 := w) w.heap.size rfl (.tmp 62) (.tmp 64) 39 3 (.int .i64 0) 8 rfl Tryz.underlying39 info3 rfl (by decide) (by omega) (.slice (some ad560) y554.length co46) y554 x23_2 [.int .i64 x23_2] (fun _ => True) (fun _ => False) rfl rfl ?aP (fun _ hk => hk.elim) ?aF ?aO ?aB ?aS ?aL ?_; (case aP => exact rfl); (case aB => exact (hbT HB.out)); (case aF => exact (fun _ _ => trivial)); (case aO => exact (roT HO556.out)); (case aS => exact (below_size (hbT HB.out))); (case aL => have := LMc45.out; omega); intro v564 w50 ho hb hg hat; rw [← Ny563.out] at ho; replace BK544 := asT (blk_grown (g := gb544) (o := .cells #[.string a0_0, .slice A0_1 l0_1.length c0_1, .slice A0_2 l0_2.length c0_2, .slice (some ad550) l0_3.length c0_3] 27 (0, 0)) (bkT BK544.out) hg (Kd.R_ne HO556.out BK544.out (by decide))); replace HB := asT (hb); have HO565 := asT (ho); clear HO556 ho hb hg hat))
                   go_roundg kj20
                   case measure => have := HJ2.out; have := HK2.out; have := HJ20.out; omega
                   case rel => exact ⟨(y563), (wrap64 (x23_2 + 1)), rdT, H', ⟨by have := HJ2.out; have := HK2.out; have := HJ20.out; omega⟩, ⟨roT HO565.out⟩, kpT BK544.out, ⟨hbT HB.out⟩⟩
                  ·rw [if_neg c45] at H; exact absurd H (by simp)
                 ·rw [if_neg c44] at H; have c44b0 : (t562 == 0) = false := eB c44; have c44b1 : (t562 != 0) = true := eD c44; have H' := asT H; clear H; obtain ⟨Ao51, co51, eo51⟩ := Kd.R_slice HO_5.out; subst eo51; have q52 : (0 : Int) ≤ ((x5_2.length : Int) : Int) := dT asmT; obtain ⟨i052, hi052, _, hsz52, _⟩ := info_parts info3; have hcut52 := cut_to (P := Tryz.prog) 39 3 .i64 Tryz.underlying39 hi052 Ao51 x5_2.length co51 0 (by omega) q52 (Kd.R_reads' HO_5.out).2.1; have hr52 := Kd.R_take (m := (0 : Int).toNat) HO_5.out (by omega); have hy52 : y554.length = (0 : Int).toNat := (by rw [Ny554.out, List.length_take]; omega); rw [← Ny554.out] at hr52; rw [← hy52] at hr52 hcut52; clear hy52 hi052 hsz52 HO_5; have HO556 := asT hr52; clear hr52; replace q52 := eq_true q52
                  try go_wp2
                  replace HO556 := asT (Kd.R_drew HO556.out); replace BK544 := asT (blk_drew BK544.out); replace HB := asT (below_drew1 HB.out); have p560 : 0 ≤ (0 : Int) := (by omega); have q560 : 0 < (y554.length : Int) := dT asmT; obtain ⟨ad560, e560, hx560_0⟩ := Kd.at_int (Kd.R_reads' HO556.out).2.2 0 p560 q560
                  cases e560
                  have qi560 : (0 < y554.length) = True := eq_true (by omega)
                  (try rw [show ((0 : Int)).toNat = 0 from rfl] at hx560_0)
                  (try rw [Addr.add_zero'] at hx560_0)
                  replace p560 := eq_true p560; replace q560 := eq_true q560; have p561 : 0 ≤ ((rd y554 0) : Int) := dT asmT; have q561 : (rd y554 0) < (l0_3.length : Int) := dT asmT; obtain ⟨ad561, A561_0, c561_0, e561, hx561_0, hl561_0, hi561_0⟩ := at_L6 HR0_3.out (rd y554 0) p561 q561; have hw561_0 := hx561_0; obtain rfl : ad550 = ad561 := (by injection e561); replace hx561_0 := hbc HB.out hx561_0; have HR561_0 := asT hi561_0; have HC561_0 := asT hl561_0; clear hi561_0 hl561_0; replace p561 := eq_true p561; replace q561 := eq_true q561; refine start_ (n := 16) (S := fun w' => w'.cell? ⟨gb544, 0, none⟩ = some (.string a0_0) ∧ w'.cell? ⟨gb544, 1, none⟩ = some (.slice A0_1 l0_1.length c0_1) ∧ w'.cell? ⟨gb544, 2, none⟩ = some (.slice A0_2 l0_2.length c0_2) ∧ w'.cell? ⟨gb544, 3, none⟩ = some (.slice (some ad550) l0_3.length c0_3) ∧ w'.cell? ad560 = some (.int .i64 (rd y554 0)) ∧ w'.cell? (ad550.add ((rd y554 0)).toNat) = some (.slice A561_0 (rd_L6 l0_3 (rd y554 0)).length c561_0)) (ds := []) (bA 16 0) (by kernel_rfl) rfl rfl ⟨bc0 BK544.out, bc1 BK544.out, bc2 BK544.out, bc3 BK544.out, hx560_0, (hbc HB.out hw561_0 :)⟩ (fun hHeld => ?_); refine with_tabW impl_WinnersOf.tab9 impl_WinnersOf.bits9 (fun HT_ HW_ => ?_); generalize wc.drew = w53 at HO556 BK544 HB HR561_0 hx560_0 hx561_0 hHeld ⊢; refine pA 0 46 16 1 HT_.out ?_ rfl rfl; refine pA 1 47 16 3 HT_.out ?_ rfl rfl; refine pA 2 48 16 7 HT_.out ?_ rfl rfl; refine pA 3 49 16 15 HT_.out ?_ rfl rfl; refine pA 4 50 16 31 HT_.out ?_ rfl rfl; refine pA 5 51 16 63 HT_.out ?_ rfl rfl; refine pA 7 53 16 191 HT_.out ?_ rfl rfl; refine pA 8 54 16 447 HT_.out ?_ rfl rfl; refine pA 12 58 16 4543 HT_.out ?_ rfl rfl; refine tA 6 52 16 4607 HT_.out HW_.out hHeld ?_ rfl rfl; refine tA 9 55 16 5119 HT_.out HW_.out hHeld ?_ rfl rfl; refine pA 10 56 16 6143 HT_.out ?_ rfl rfl; refine tA 11 57 16 8191 HT_.out HW_.out hHeld ?_ rfl rfl; refine oA 13 59 16 16383 HT_.out (fun K hK => ?_) rfl rfl; refine goes_ Tryz.func70 (by kernel_rfl) rfl #[.slice A550_0 (rd_L6 l0_3 x23_2).length c550_0, .slice A561_0 (rd_L6 l0_3 (rd y554 0)).length c561_0, .slice A1 l1.length c1] (by rfl) rfl rfl eqT ?_
                  (with_reducible refine (impl_CompareMarks.calls kj20 _ _ (rd_L6 l0_3 x23_2) _ _ (rd_L6 l0_3 (rd y554 0)) _ _ l1 t562 _ ?side1 ?side2 ?side3 ?side4 ?side5 ?side6 A43.out).mono ?_); (case side1 => exact crT HR550_0.out HB.out); (case side2 => exact HC550_0.out); (case side3 => exact crT HR561_0.out HB.out); (case side4 => exact HC561_0.out); (case side5 => exact crT HR1.out HB.out); (case side6 => exact HC1.out); rintro e w54 ⟨rfl, hb⟩; have HS4_ := (hb.cell (World.block_lt_of_cell? _ _ (hHeld.2.2.2.2.1))).trans (hHeld.2.2.2.2.1); refine ⟨_, rfl, ?_⟩; replace HO556 := asT (Kd.R_below (roT HO556.out) hb); replace BK544 := bS BK544 hb; replace HB := hS HB hb; (try clear hb hb2 hk hi)
                  refine hK.out _ _ ⟨bc0 BK544.out, bc1 BK544.out, bc2 BK544.out, bc3 BK544.out, HS4_, (hbc HB.out hw561_0 :)⟩ (fun hHeld => ?_); clear hK K; refine nB 59 ?_ rfl; refine pA 14 60 16 32767 HT_.out ?_ rfl rfl; refine pA 15 61 16 65535 HT_.out ?_ rfl rfl; refine done_ (done_of HT_.out (by kernel_rfl)) ?_
                  try go_wp2
                  go_roundg kj20
                  case measure => have := HJ2.out; have := HK2.out; have := HJ20.out; omega
                  case rel => exact ⟨(y554), (wrap64 (x23_2 + 1)), rdT, H', ⟨by have := HJ2.out; have := HK2.out; have := HJ20.out; omega⟩, ⟨roT HO556.out⟩, kpT BK544.out, ⟨hbT HB.out⟩⟩
                ·rw [if_neg c42] at H; exact absurd H (by simp)
               ·rw [if_neg c41] at H; exact absurd H (by simp)
              ·rw [if_neg c40] at H; exact absurd H (by simp)
            ·rw [if_neg c33] at H; exact absurd H (by simp)
           ·replace c32 := eE c32; subst c32; rw [if_neg nF] at H; have H1 := H; clear H; have H := H1; clear H1; by_cases c55 : (x5_2.length : Int) = 0
            ·rw [if_pos c55] at H; have c55b0 : ((x5_2.length : Int) == 0) = true := eC c55; have c55b1 : ((x5_2.length : Int) != 0) = false := eA c55; clear c55; by_cases c56 : x5_2.length < 17592186044416
             ·rw [if_pos c56] at H; have LMc56 := asT c56; clear c56; obtain ⟨y566, hy566⟩ : ∃ y_ : List Int, y_ = (x5_2 ++ [x23_2]) := ⟨_, rfl⟩
              replace H : (impl_WinnersOf.l0 kj20 l1 y566 l0_3 (l0_3.length : Int) (wrap64 (x23_2 + 1)) a0_0 l0_1 l0_2 l0_3) = some r := by first | (rw [hy566]; with_reducible exact H) | (have H2_ := (Option.bind_some _ _).symm.trans H; rw [hy566]; with_reducible exact H2_) | (have H2_ := (Option.bind_some _ _).symm.trans H; with_reducible exact H2_) | with_reducible exact H | (rw [hy566]; exact H) | exact H
              have Ny566 := asT hy566; clear hy566; have H' := asT H; clear H
              try go_wp2
              replace HO_5 := asT (Kd.R_drew HO_5.out); replace BK544 := asT (blk_drew BK544.out); replace HB := asT (below_drew1 HB.out); obtain ⟨Ao58, co58, eo58⟩ := Kd.R_slice HO_5.out; (first | subst eo58 | (injection eo58 with f1_ f2_ f3_; have f4_ := f1_.symm; have f5_ := f3_.symm; clear f1_ f2_ f3_; subst f4_; subst f5_)); refine start_ (n := 16) (S := fun w' => True) (ds := []) (bA 16 0) (by kernel_rfl) rfl rfl trivial (fun hHeld => ?_); refine with_tabW impl_WinnersOf.tab9 impl_WinnersOf.bits9 (fun HT_ HW_ => ?_); generalize wc.drew = w57 at HO_5 BK544 HB hHeld ⊢; refine pA 0 46 16 1 HT_.out ?_ rfl rfl; refine pA 1 47 16 3 HT_.out ?_ rfl rfl; refine pA 2 48 16 7 HT_.out ?_ rfl rfl; refine pA 3 49 16 15 HT_.out ?_ rfl rfl; refine uA 4 50 16 31 HT_.out ?_ rfl rfl; refine uA 5 51 16 63 HT_.out ?_ rfl rfl; refine uA 6 52 16 127 HT_.out ?_ rfl rfl; refine uA 7 53 16 255 HT_.out ?_ rfl rfl; refine uA 8 54 16 511 HT_.out ?_ rfl rfl; refine uA 9 55 16 1023 HT_.out ?_ rfl rfl; refine uA 10 56 16 2047 HT_.out ?_ rfl rfl; refine uA 11 57 16 4095 HT_.out ?_ rfl rfl; refine uA 12 58 16 8191 HT_.out ?_ rfl rfl; refine uA 13 59 16 16383 HT_.out ?_ rfl rfl; refine uA 14 60 16 32767 HT_.out ?_ rfl rfl; refine pA 15 61 16 65535 HT_.out ?_ rfl rfl; refine done_ (done_of HT_.out (by kernel_rfl)) ?_
              try go_wp2_with (first | ((with_reducible refine gate_builtin (b := .append) (xs := #[.tmp 62, .tmp 64]) rfl ?_); (try (refine gate_guard (by rfl) ?_; dsimp only)); at_builtin; refine Kd.R_append (Kd.int .i64) (w0 := w) w.heap.size rfl (.tmp 62) (.tmp 64) 39 3 (.int .i64 0) 8 rfl Tryz.underlying39 info3 rfl (by decide) (by omega) (.slice Ao58 x5_2.length co58) x5_2 x23_2 [.int .i64 x23_2] (fun _ => True) (fun _ => False) rfl rfl ?aP (fun _ hk => hk.elim) ?aF ?aO ?aB ?aS ?aL ?_; (case aP => exact rfl); (case aB => exact (hbT HB.out)); (case aF => exact (fun _ _ => trivial)); (case aO => exact (roT HO_5.out)); (case aS => exact (below_size (hbT HB.out))); (case aL => have := LMc56.out; omega); intro v567 w59 ho hb hg hat; rw [← Ny566.out] at ho; replace BK544 := asT (blk_grown (g := gb544) (o := .cells #[.string a0_0, .slice A0_1 l0_1.length c0_1, .slice A0_2 l0_2.length c0_2, .slice (some ad550) l0_3.length c0_3] 27 (0, 0)) (bkT BK544.out) hg (Kd.R_ne HO_5.out BK544.out (by decide))); replace HB := asT (hb); have HO568 := asT (ho); clear HO_5 ho hb hg hat))
              go_roundg kj20
              case measure => have := HJ2.out; have := HK2.out; have := HJ20.out; omega
              case rel => exact ⟨(y566), (wrap64 (x23_2 + 1)), rdT, H', ⟨by have := HJ2.out; have := HK2.out; have := HJ20.out; omega⟩, ⟨roT HO568.out⟩, kpT BK544.out, ⟨hbT HB.out⟩⟩
             ·rw [if_neg c56] at H; exact absurd H (by simp)
            ·rw [if_neg c55] at H; have c55b0 : ((x5_2.length : Int) == 0) = false := eB c55; have c55b1 : ((x5_2.length : Int) != 0) = true := eD c55
             have c55b2 : ¬ (x5_2 = []) := fun h_ => c55 (by rw [h_]; rfl)
             by_cases c60 : 0 < (x5_2.length : Int)
             ·rw [if_pos c60] at H; have c60b0 := dt c60; have c60b1 : decide (0 < x5_2.length) = true := dt (by omega); clear c60; by_cases c61 : 0 ≤ (rd x5_2 0)
              ·rw [if_pos c61] at H; have c61b0 := dt c61; clear c61; by_cases c62 : (rd x5_2 0) < (l0_3.length : Int)
               ·rw [if_pos c62] at H; have c62b0 := dt c62; clear c62; obtain ⟨t571, A63, H⟩ := be H; by_cases c64 : t571 = 0
                ·rw [if_pos c64] at H; have c64b0 : (t571 == 0) = true := eC c64; have c64b1 : (t571 != 0) = false := eA c64; clear c64; by_cases c65 : x5_2.length < 17592186044416
                 ·rw [if_pos c65] at H; have LMc65 := asT c65; clear c65; obtain ⟨y572, hy572⟩ : ∃ y_ : List Int, y_ = (x5_2 ++ [x23_2]) := ⟨_, rfl⟩
                  replace H : (impl_WinnersOf.l0 kj20 l1 y572 l0_3 (l0_3.length : Int) (wrap64 (x23_2 + 1)) a0_0 l0_1 l0_2 l0_3) = some r := by first | (rw [hy572]; with_reducible exact H) | (have H2_ := (Option.bind_some _ _).symm.trans H; rw [hy572]; with_reducible exact H2_) | (have H2_ := (Option.bind_some _ _).symm.trans H; with_reducible exact H2_) | with_reducible exact H | (rw [hy572]; exact H) | exact H
                  have Ny572 := asT hy572; clear hy572; have H' := asT H; clear H
                  try go_wp2
                  replace HO_5 := asT (Kd.R_drew HO_5.out); replace BK544 := asT (blk_drew BK544.out); replace HB := asT (below_drew1 HB.out); obtain ⟨Ao67, co67, eo67⟩ := Kd.R_slice HO_5.out; (first | subst eo67 | (injection eo67 with f1_ f2_ f3_; have f4_ := f1_.symm; have f5_ := f3_.symm; clear f1_ f2_ f3_; subst f4_; subst f5_)); have p569 : 0 ≤ (0 : Int) := (by omega); have q569 : 0 < (x5_2.length : Int) := dT asmT; obtain ⟨ad569, e569, hx569_0⟩ := Kd.at_int (Kd.R_reads' HO_5.out).2.2 0 p569 q569
                  cases e569
                  have qi569 : (0 < x5_2.length) = True := eq_true (by omega)
                  (try rw [show ((0 : Int)).toNat = 0 from rfl] at hx569_0)
                  (try rw [Addr.add_zero'] at hx569_0)
                  replace p569 := eq_true p569; replace q569 := eq_true q569; have p570 : 0 ≤ ((rd x5_2 0) : Int) := dT asmT; have q570 : (rd x5_2 0) < (l0_3.length : Int) := dT asmT; obtain ⟨ad570, A570_0, c570_0, e570, hx570_0, hl570_0, hi570_0⟩ := at_L6 HR0_3.out (rd x5_2 0) p570 q570; have hw570_0 := hx570_0; obtain rfl : ad550 = ad570 := (by injection e570); replace hx570_0 := hbc HB.out hx570_0; have HR570_0 := asT hi570_0; have HC570_0 := asT hl570_0; clear hi570_0 hl570_0; replace p570 := eq_true p570; replace q570 := eq_true q570; refine start_ (n := 16) (S := fun w' => w'.cell? ⟨gb544, 0, none⟩ = some (.string a0_0) ∧ w'.cell? ⟨gb544, 1, none⟩ = some (.slice A0_1 l0_1.length c0_1) ∧ w'.cell? ⟨gb544, 2, none⟩ = some (.slice A0_2 l0_2.length c0_2) ∧ w'.cell? ⟨gb544, 3, none⟩ = some (.slice (some ad550) l0_3.length c0_3) ∧ w'.cell? ad569 = some (.int .i64 (rd x5_2 0)) ∧ w'.cell? (ad550.add ((rd x5_2 0)).toNat) = some (.slice A570_0 (rd_L6 l0_3 (rd x5_2 0)).length c570_0)) (ds := []) (bA 16 0) (by kernel_rfl) rfl rfl ⟨bc0 BK544.out, bc1 BK544.out, bc2 BK544.out, bc3 BK544.out, hx569_0, (hbc HB.out hw570_0 :)⟩ (fun hHeld => ?_); refine with_tabW impl_WinnersOf.tab9 impl_WinnersOf.bits9 (fun HT_ HW_ => ?_); generalize wc.drew = w66 at HO_5 BK544 HB HR570_0 hx569_0 hx570_0 hHeld ⊢; refine pA 0 46 16 1 HT_.out ?_ rfl rfl; refine pA 1 47 16 3 HT_.out ?_ rfl rfl; refine pA 2 48 16 7 HT_.out ?_ rfl rfl; refine pA 3 49 16 15 HT_.out ?_ rfl rfl; refine pA 4 50 16 31 HT_.out ?_ rfl rfl; refine pA 5 51 16 63 HT_.out ?_ rfl rfl; refine pA 7 53 16 191 HT_.out ?_ rfl rfl; refine pA 8 54 16 447 HT_.out ?_ rfl rfl; refine pA 12 58 16 4543 HT_.out ?_ rfl rfl; refine tA 6 52 16 4607 HT_.out HW_.out hHeld ?_ rfl rfl; refine tA 9 55 16 5119 HT_.out HW_.out hHeld ?_ rfl rfl; refine pA 10 56 16 6143 HT_.out ?_ rfl rfl; refine tA 11 57 16 8191 HT_.out HW_.out hHeld ?_ rfl rfl; refine oA 13 59 16 16383 HT_.out (fun K hK => ?_) rfl rfl; refine goes_ Tryz.func70 (by kernel_rfl) rfl #[.slice A550_0 (rd_L6 l0_3 x23_2).length c550_0, .slice A570_0 (rd_L6 l0_3 (rd x5_2 0)).length c570_0, .slice A1 l1.length c1] (by rfl) rfl rfl eqT ?_
                  (with_reducible refine (impl_CompareMarks.calls kj20 _ _ (rd_L6 l0_3 x23_2) _ _ (rd_L6 l0_3 (rd x5_2 0)) _ _ l1 t571 _ ?side1 ?side2 ?side3 ?side4 ?side5 ?side6 A63.out).mono ?_); (case side1 => exact crT HR550_0.out HB.out); (case side2 => exact HC550_0.out); (case side3 => exact crT HR570_0.out HB.out); (case side4 => exact HC570_0.out); (case side5 => exact crT HR1.out HB.out); (case side6 => exact HC1.out); rintro e w68 ⟨rfl, hb⟩; have HS4_ := (hb.cell (World.block_lt_of_cell? _ _ (hHeld.2.2.2.2.1))).trans (hHeld.2.2.2.2.1); refine ⟨_, rfl, ?_⟩; replace HO_5 := asT (Kd.R_below (roT HO_5.out) hb); replace BK544 := bS BK544 hb; replace HB := hS HB hb; (try clear hb hb2 hk hi)
                  refine hK.out _ _ ⟨bc0 BK544.out, bc1 BK544.out, bc2 BK544.out, bc3 BK544.out, HS4_, (hbc HB.out hw570_0 :)⟩ (fun hHeld => ?_); clear hK K; refine nB 59 ?_ rfl; refine pA 14 60 16 32767 HT_.out ?_ rfl rfl; refine pA 15 61 16 65535 HT_.out ?_ rfl rfl; refine done_ (done_of HT_.out (by kernel_rfl)) ?_
                  try go_wp2_with (first | ((with_reducible refine gate_builtin (b := .append) (xs := #[.tmp 62, .tmp 64]) rfl ?_); (try (refine gate_guard (by rfl) ?_; dsimp only)); at_builtin; refine Kd.R_append (Kd.int .i64) (w0 := w) w.heap.size rfl (.tmp 62) (.tmp 64) 39 3 (.int .i64 0) 8 rfl Tryz.underlying39 info3 rfl (by decide) (by omega) (.slice (some ad569) x5_2.length co67) x5_2 x23_2 [.int .i64 x23_2] (fun _ => True) (fun _ => False) rfl rfl ?aP (fun _ hk => hk.elim) ?aF ?aO ?aB ?aS ?aL ?_; (case aP => exact rfl); (case aB => exact (hbT HB.out)); (case aF => exact (fun _ _ => trivial)); (case aO => exact (roT HO_5.out)); (case aS => exact (below_size (hbT HB.out))); (case aL => have := LMc65.out; omega); intro v573 w69 ho hb hg hat; rw [← Ny572.out] at ho; replace BK544 := asT (blk_grown (g := gb544) (o := .cells #[.string a0_0, .slice A0_1 l0_1.length c0_1, .slice A0_2 l0_2.length c0_2, .slice (some ad550) l0_3.length c0_3] 27 (0, 0)) (bkT BK544.out) hg (Kd.R_ne HO_5.out BK544.out (by decide))); replace HB := asT (hb); have HO574 := asT (ho); clear HO_5 ho hb hg hat))
                  go_roundg kj20
                  case measure => have := HJ2.out; have := HK2.out; have := HJ20.out; omega
                  case rel => exact ⟨(y572), (wrap64 (x23_2 + 1)), rdT, H', ⟨by have := HJ2.out; have := HK2.out; have := HJ20.out; omega⟩, ⟨roT HO574.out⟩, kpT BK544.out, ⟨hbT HB.out⟩⟩
                 ·rw [if_neg c65] at H; exact absurd H (by simp)
                ·rw [if_neg c64] at H; have c64b0 : (t571 == 0) = false := eB c64; have c64b1 : (t571 != 0) = true := eD c64; have H' := asT H; clear H
                 try go_wp2
                 replace HO_5 := asT (Kd.R_drew HO_5.out); replace BK544 := asT (blk_drew BK544.out); replace HB := asT (below_drew1 HB.out); obtain ⟨Ao71, co71, eo71⟩ := Kd.R_slice HO_5.out; (first | subst eo71 | (injection eo71 with f1_ f2_ f3_; have f4_ := f1_.symm; have f5_ := f3_.symm; clear f1_ f2_ f3_; subst f4_; subst f5_)); have p569 : 0 ≤ (0 : Int) := (by omega); have q569 : 0 < (x5_2.length : Int) := dT asmT; obtain ⟨ad569, e569, hx569_0⟩ := Kd.at_int (Kd.R_reads' HO_5.out).2.2 0 p569 q569
                 cases e569
                 have qi569 : (0 < x5_2.length) = True := eq_true (by omega)
                 (try rw [show ((0 : Int)).toNat = 0 from rfl] at hx569_0)
                 (try rw [Addr.add_zero'] at hx569_0)
                 replace p569 := eq_true p569; replace q569 := eq_true q569; have p570 : 0 ≤ ((rd x5_2 0) : Int) := dT asmT; have q570 : (rd x5_2 0) < (l0_3.length : Int) := dT asmT; obtain ⟨ad570, A570_0, c570_0, e570, hx570_0, hl570_0, hi570_0⟩ := at_L6 HR0_3.out (rd x5_2 0) p570 q570; have hw570_0 := hx570_0; obtain rfl : ad550 = ad570 := (by injection e570); replace hx570_0 := hbc HB.out hx570_0; have HR570_0 := asT hi570_0; have HC570_0 := asT hl570_0; clear hi570_0 hl570_0; replace p570 := eq_true p570; replace q570 := eq_true q570; refine start_ (n := 16) (S := fun w' => w'.cell? ⟨gb544, 0, none⟩ = some (.string a0_0) ∧ w'.cell? ⟨gb544, 1, none⟩ = some (.slice A0_1 l0_1.length c0_1) ∧ w'.cell? ⟨gb544, 2, none⟩ = some (.slice A0_2 l0_2.length c0_2) ∧ w'.cell? ⟨gb544, 3, none⟩ = some (.slice (some ad550) l0_3.length c0_3) ∧ w'.cell? ad569 = some (.int .i64 (rd x5_2 0)) ∧ w'.cell? (ad550.add ((rd x5_2 0)).toNat) = some (.slice A570_0 (rd_L6 l0_3 (rd x5_2 0)).length c570_0)) (ds := []) (bA 16 0) (by kernel_rfl) rfl rfl ⟨bc0 BK544.out, bc1 BK544.out, bc2 BK544.out, bc3 BK544.out, hx569_0, (hbc HB.out hw570_0 :)⟩ (fun hHeld => ?_); refine with_tabW impl_WinnersOf.tab9 impl_WinnersOf.bits9 (fun HT_ HW_ => ?_); generalize wc.drew = w70 at HO_5 BK544 HB HR570_0 hx569_0 hx570_0 hHeld ⊢; refine pA 0 46 16 1 HT_.out ?_ rfl rfl; refine pA 1 47 16 3 HT_.out ?_ rfl rfl; refine pA 2 48 16 7 HT_.out ?_ rfl rfl; refine pA 3 49 16 15 HT_.out ?_ rfl rfl; refine pA 4 50 16 31 HT_.out ?_ rfl rfl; refine pA 5 51 16 63 HT_.out ?_ rfl rfl; refine pA 7 53 16 191 HT_.out ?_ rfl rfl; refine pA 8 54 16 447 HT_.out ?_ rfl rfl; refine pA 12 58 16 4543 HT_.out ?_ rfl rfl; refine tA 6 52 16 4607 HT_.out HW_.out hHeld ?_ rfl rfl; refine tA 9 55 16 5119 HT_.out HW_.out hHeld ?_ rfl rfl; refine pA 10 56 16 6143 HT_.out ?_ rfl rfl; refine tA 11 57 16 8191 HT_.out HW_.out hHeld ?_ rfl rfl; refine oA 13 59 16 16383 HT_.out (fun K hK => ?_) rfl rfl; refine goes_ Tryz.func70 (by kernel_rfl) rfl #[.slice A550_0 (rd_L6 l0_3 x23_2).length c550_0, .slice A570_0 (rd_L6 l0_3 (rd x5_2 0)).length c570_0, .slice A1 l1.length c1] (by rfl) rfl rfl eqT ?_
                 (with_reducible refine (impl_CompareMarks.calls kj20 _ _ (rd_L6 l0_3 x23_2) _ _ (rd_L6 l0_3 (rd x5_2 0)) _ _ l1 t571 _ ?side1 ?side2 ?side3 ?side4 ?side5 ?side6 A63.out).mono ?_); (case side1 => exact crT HR550_0.out HB.out); (case side2 => exact HC550_0.out); (case side3 => exact crT HR570_0.out HB.out); (case side4 => exact HC570_0.out); (case side5 => exact crT HR1.out HB.out); (case side6 => exact HC1.out); rintro e w72 ⟨rfl, hb⟩; have HS4_ := (hb.cell (World.block_lt_of_cell? _ _ (hHeld.2.2.2.2.1))).trans (hHeld.2.2.2.2.1); refine ⟨_, rfl, ?_⟩; replace HO_5 := asT (Kd.R_below (roT HO_5.out) hb); replace BK544 := bS BK544 hb; replace HB := hS HB hb; (try clear hb hb2 hk hi)
                 refine hK.out _ _ ⟨bc0 BK544.out, bc1 BK544.out, bc2 BK544.out, bc3 BK544.out, HS4_, (hbc HB.out hw570_0 :)⟩ (fun hHeld => ?_); clear hK K; refine nB 59 ?_ rfl; refine pA 14 60 16 32767 HT_.out ?_ rfl rfl; refine pA 15 61 16 65535 HT_.out ?_ rfl rfl; refine done_ (done_of HT_.out (by kernel_rfl)) ?_
                 try go_wp2
                 go_roundg kj20
                 case measure => have := HJ2.out; have := HK2.out; have := HJ20.out; omega
                 case rel => exact ⟨(x5_2), (wrap64 (x23_2 + 1)), rdT, H', ⟨by have := HJ2.out; have := HK2.out; have := HJ20.out; omega⟩, ⟨roT HO_5.out⟩, kpT BK544.out, ⟨hbT HB.out⟩⟩
               ·rw [if_neg c62] at H; exact absurd H (by simp)
              ·rw [if_neg c61] at H; exact absurd H (by simp)
             ·rw [if_neg c60] at H; exact absurd H (by simp)
        ·rw [if_neg c20] at H; exact absurd H (by simp)
       ·rw [if_neg c19] at H; exact absurd H (by simp)
      ·rw [if_neg c18] at H; have c18b0 := df c18; clear c18; obtain rfl := oI H
       go_wp2
       go_ret; exact ⟨_, rlT, roT HO_5.out, hbT HB.out⟩
def impl_addOnce.f (k : Nat) (l0 : List ByteArray) (a1 : ByteArray) : Option (List ByteArray) := (slices_Contains_string_string.f k l0 a1).bind fun t575 => (if t575 = true then (some l0) else (if l0.length < 8796093022208 then (some (l0 ++ [a1])) else (none)))
theorem impl_addOnce.mono : ∀ a0 a1 k, LeO (impl_addOnce.f k a0 a1) (impl_addOnce.f (k + 1) a0 a1) := by
 intro a0 a1 k; unfold impl_addOnce.f
 with_reducible repeat' first | exact slices_Contains_string_string.mono _ _ _ | exact LeO.refl _ | exact LeO.none _ | refine LeO.ite ?_ ?_ | refine LeO.bind ?_ (fun _ => ?_)
theorem impl_addOnce.calls (k : Nat) (P0_ : Nat → Prop) (u9000_ : Value) (l0 : List ByteArray) (a1 : ByteArray) (r : List ByteArray) (w0 w : World) (hB : Below w0.heap.size w0 w) (ho0 : Kd.R Kd.string 9 w w0.heap.size P0_ u9000_ l0) (h : impl_addOnce.f k l0 a1 = some r) :
  Calls Tryz.prog 106 #[u9000_, .string a1] w fun e w' => ∃ v0_ : Value, e = .returned (v0_) ∧ Kd.R Kd.string 9 w' w0.heap.size (fun k_ => (P0_ k_ ∨ w.heap.size ≤ k_)) v0_ r ∧ Below w0.heap.size w0 w' ∧ Kept w w' (fun k_ => P0_ k_) := by
 have HO0 := asT (show Kd.R Kd.string 9 w w0.heap.size (fun k_ => (P0_ k_ ∨ w.heap.size ≤ k_)) u9000_ l0 from Kd.R_mono ho0 (fun k_ hk => (.inl hk))); have HK := asT (Kept.refl w (fun k_ => P0_ k_)); have HW0 := asT hB.size; have HB := asT hB; clear hB; have H := h; unfold impl_addOnce.f at H; clear h; obtain ⟨t575, A3, H⟩ := be H; by_cases c4 : t575 = true
 ·subst c4; rw [if_pos rfl] at H; have H1 := H; clear H; have H := H1; clear H1; obtain rfl := oI H; obtain ⟨Ao5, co5, eo5⟩ := Kd.R_slice HO0.out; subst eo5; go_enter Tryz.func106, Tryz.ntmps106
  go_wp2_with (first | ((with_reducible refine gate_callee (f := 80) rfl ?_); refine goesL_ (some 7) rfl rfl Tryz.func80 (by kernel_rfl) rfl #[.slice Ao5 l0.length co5, .string a1] rfl eqT ?_; (with_reducible refine (slices_Contains_string_string.calls k _ _ l0 a1 true _ ?side1 ?side2 A3.out).mono ?_); (case side1 => exact caT (Kd.R_reads' HO0.out).2.2); (case side2 => exact (Kd.R_reads' HO0.out).2.1); rintro e w' ⟨rfl, ⟨nd, rfl⟩⟩; refine ⟨_, rfl, ?_⟩))
  go_ret; exact ⟨_, rlT, roT HO0.out, hbT HB.out, by repeat (first | (with_reducible first | exact HK.out | apply Kept.alloc | apply Kept.drewN | apply Kept.drew) | exact HK.out)⟩
 ·replace c4 := eE c4; subst c4; rw [if_neg nF] at H; have H1 := H; clear H; have H := H1; clear H1; by_cases c6 : l0.length < 8796093022208
  ·rw [if_pos c6] at H; have LMc6 := asT c6; clear c6; obtain ⟨y576, hy576⟩ : ∃ y_ : List ByteArray, y_ = (l0 ++ [a1]) := ⟨_, rfl⟩
   replace H : (some y576) = some r := by first | (rw [hy576]; with_reducible exact H) | (have H2_ := (Option.bind_some _ _).symm.trans H; rw [hy576]; with_reducible exact H2_) | (have H2_ := (Option.bind_some _ _).symm.trans H; with_reducible exact H2_) | with_reducible exact H | (rw [hy576]; exact H) | exact H
   have Ny576 := asT hy576; clear hy576; obtain rfl := oI H; obtain ⟨Ao7, co7, eo7⟩ := Kd.R_slice HO0.out; subst eo7; go_enter Tryz.func106, Tryz.ntmps106
   go_wp2_with (first | ((with_reducible refine gate_callee (f := 80) rfl ?_); refine goesL_ (some 7) rfl rfl Tryz.func80 (by kernel_rfl) rfl #[.slice Ao7 l0.length co7, .string a1] rfl eqT ?_; (with_reducible refine (slices_Contains_string_string.calls k _ _ l0 a1 false _ ?side1 ?side2 A3.out).mono ?_); (case side1 => exact caT (Kd.R_reads' HO0.out).2.2); (case side2 => exact (Kd.R_reads' HO0.out).2.1); rintro e w' ⟨rfl, ⟨nd, rfl⟩⟩; refine ⟨_, rfl, ?_⟩) | ((with_reducible refine gate_builtin (b := .append) (xs := #[.tmp 9, .tmp 11]) rfl ?_); at_builtin; refine Kd.R_append Kd.string (w0 := w0) w0.heap.size rfl (.tmp 9) (.tmp 11) 22 9 (.string ⟨#[]⟩) 16 rfl Tryz.underlying22 info9 rfl (by decide) (by omega) (.slice Ao7 l0.length co7) l0 a1 [.string a1] (fun k_ => (P0_ k_ ∨ w.heap.size ≤ k_)) (fun _ => False) rfl rfl ?aP (fun _ hk => hk.elim) ?aF ?aO ?aB ?aS ?aL ?_; (case aP => exact rfl); (case aB => exact (hbT HB.out)); (case aF => exact (fun k_ hk => (.inr (Nat.le_trans (by first | exact HK.out.1 | exact (show Kept w _ (fun k_ => P0_ k_) from by repeat (first | (with_reducible first | exact HK.out | apply Kept.alloc | apply Kept.drewN | apply Kept.drew) | exact HK.out)).1) hk)))); (case aO => exact (roT HO0.out)); (case aS => exact (below_size (hbT HB.out))); (case aL => have := LMc6.out; omega); intro v577 w8 ho hb hg hat; rw [← Ny576.out] at ho; replace HB := asT (hb); replace HK := asT (Kept.of_grown (S := (fun k_ => P0_ k_)) hg (by repeat (first | (with_reducible first | exact HK.out | apply Kept.alloc | apply Kept.drewN | apply Kept.drew) | exact HK.out)) (fun k_ e_ => (HO0.out.1 k_ e_))); have HO578 := asT (ho); clear HO0 ho hb hg hat))
   go_ret; exact ⟨_, rlT, roT HO578.out, hbT HB.out, by repeat (first | (with_reducible first | exact HK.out | apply Kept.alloc | apply Kept.drewN | apply Kept.drew) | exact HK.out)⟩
  ·rw [if_neg c6] at H; exact absurd H (by simp)
def impl_outputs.l0 : Nat → List ByteArray → List Int → Int → Int → ByteArray → List ByteArray → List (S60) → List (List Int) → Option (List ByteArray)
 | 0, _, _, _, _, _, _, _, _ => none
 | k + 1, x5, x9, x10, x11, x580000, x580001, x580002, x580003 => if x11 < x10 then (if 0 ≤ x11 then (if x11 < (x9.length : Int) then (if 0 ≤ (rd x9 x11) then (if (rd x9 x11) < (x580002.length : Int) then ((impl_OutputOf.f k ((rd_T60 x580002 (rd x9 x11)).f0)).bind fun t585 => ((impl_addOnce.f k x5 t585).bind fun t586 => (impl_outputs.l0 k t586 x9 x10 (wrap64 (x11 + 1)) x580000 x580001 x580002 x580003))) else (none)) else (none)) else (none)) else (none)) else (some x5)
def impl_outputs.f (k : Nat) (a0_0 : ByteArray) (l0_1 : List ByteArray) (l0_2 : List (S60)) (l0_3 : List (List Int)) (l1 : List Int) : Option (List ByteArray) := impl_outputs.l0 k (([] : List ByteArray)) l1 (l1.length : Int) 0 a0_0 l0_1 l0_2 l0_3
theorem impl_outputs.mono_l : ∀ k, (∀ y0 y1 y2 y3 y4 y5 y6 y7, LeO (impl_outputs.l0 k y0 y1 y2 y3 y4 y5 y6 y7) (impl_outputs.l0 (k + 1) y0 y1 y2 y3 y4 y5 y6 y7))
 | 0 => fun _ _ _ _ _ _ _ _ r h => by simp [impl_outputs.l0] at h
 | k + 1 => by
  have ih0 := impl_outputs.mono_l k
  ·intro y0 y1 y2 y3 y4 y5 y6 y7; unfold impl_outputs.l0
   with_reducible repeat' first | exact ih0 _ _ _ _ _ _ _ _ | exact impl_OutputOf.mono _ _ | exact impl_addOnce.mono _ _ _ | exact LeO.refl _ | exact LeO.none _ | refine LeO.ite ?_ ?_ | refine LeO.bind ?_ (fun _ => ?_)
theorem impl_outputs.mono : ∀ a0 a1 a2 a3 a4 k, LeO (impl_outputs.f k a0 a1 a2 a3 a4) (impl_outputs.f (k + 1) a0 a1 a2 a3 a4) := by
 intro a0 a1 a2 a3 a4 k; have ih0 := impl_outputs.mono_l k; unfold impl_outputs.f
 with_reducible repeat' first | exact ih0 _ _ _ _ _ _ _ _ | exact impl_OutputOf.mono _ _ | exact impl_addOnce.mono _ _ _ | exact LeO.refl _ | exact LeO.none _ | refine LeO.ite ?_ ?_ | refine LeO.bind ?_ (fun _ => ?_)
theorem impl_outputs.calls (k : Nat) (a0_0 : ByteArray) (A0_1 : Option Addr) (c0_1 : Nat) (l0_1 : List ByteArray) (A0_2 : Option Addr) (c0_2 : Nat) (l0_2 : List (S60)) (A0_3 : Option Addr) (c0_3 : Nat) (l0_3 : List (List Int)) (A1 : Option Addr) (c1 : Nat) (l1 : List Int) (r : List ByteArray) (w : World) (hr0_1 : Kd.C Kd.string w A0_1 l0_1.length l0_1) (hc0_1 : l0_1.length ≤ c0_1) (hr0_2 : Kd.C k60 w A0_2 l0_2.length l0_2) (hc0_2 : l0_2.length ≤ c0_2) (hr0_3 : Kd.C (Kd.slice 3 (Kd.int .i64)) w A0_3 l0_3.length l0_3) (hc0_3 : l0_3.length ≤ c0_3) (hr1 : Kd.C (Kd.int .i64) w A1 l1.length l1) (hc1 : l1.length ≤ c1) (h : impl_outputs.f k a0_0 l0_1 l0_2 l0_3 l1 = some r) :
  Calls Tryz.prog 73 #[.agg #[.string a0_0, .slice A0_1 l0_1.length c0_1, .slice A0_2 l0_2.length c0_2, .slice A0_3 l0_3.length c0_3], .slice A1 l1.length c1] w fun e w' => ∃ v0_ : Value, e = .returned (v0_) ∧ Kd.R Kd.string 9 w' w.heap.size (fun _ => True) v0_ r ∧ Below w.heap.size w w' := by
 have hu27 := Tryz.underlying27; have hu60 := Tryz.underlying60; have HR0_1 := asT hr0_1; have HC0_1 := asT hc0_1; clear hr0_1 hc0_1; have HR0_2 := asT hr0_2; have HC0_2 := asT hc0_2; clear hr0_2 hc0_2; have HR0_3 := asT hr0_3; have HC0_3 := asT hc0_3; clear hr0_3 hc0_3; have HR1 := asT hr1; have HC1 := asT hc1; clear hr1 hc1; have HB := asT (Below.refl w.heap.size w); have H := h; unfold impl_outputs.f at H; clear h; obtain ⟨y580, hy580⟩ : ∃ y_ : List ByteArray, y_ = (([] : List ByteArray)) := ⟨_, rfl⟩
 replace H : (impl_outputs.l0 k y580 l1 (l1.length : Int) 0 a0_0 l0_1 l0_2 l0_3) = some r := by first | (rw [hy580]; with_reducible exact H) | (have H2_ := (Option.bind_some _ _).symm.trans H; rw [hy580]; with_reducible exact H2_) | (have H2_ := (Option.bind_some _ _).symm.trans H; with_reducible exact H2_) | with_reducible exact H | (rw [hy580]; exact H) | exact H
 have Ny580 := asT hy580; clear hy580; have H' := asT H; clear H; go_enter Tryz.func73, Tryz.ntmps73
 go_wp2_with (first | ((with_reducible refine gate_dst (N := 2) rfl ?_); refine boxT (N := 2) (cs := #[.string a0_0, .slice A0_1 l0_1.length c0_1, .slice A0_2 l0_2.length c0_2, .slice A0_3 l0_3.length c0_3]) (t := 27) ?_; intro gb579 hg w3 hbox hb; have BK579 := asT hbox; have GW579 := asT (geT hg HB.out); have GE579 := GW579; replace HB := hS HB hb; clear hb hbox hg) | ((with_reducible refine gate_dst (N := 8) rfl ?_); refine Kd.R_lit Kd.string _ 9 ?hg (N := 8) ?hd (xs := ([] : List ByteArray)) (inner := []) (ok := fun _ => True) (okp := fun _ => True) ?hr ?hp (fun _ hk => hk) trivial (Below.refl _ _) (Nat.le_refl _) (by simp) ?_; (case hd => rfl); (case hg => rfl); (case hr => first | (go_simp; done) | (go_simp; rfl)); (case hp => exact (Reps.none _ _)); intro v581 w4 ho5 hb hg_ hnew_; clear hg_ hnew_; (first | rw [← Ny580.out] at ho5 | (simp only [Int.reduceToNat] at ho5; rw [← Ny580.out] at ho5)); have HO582 := asT (Kd.R_lower ho5 (below_size (hbT HB.out))); replace BK579 := bS BK579 hb; replace HB := hS HB hb; clear hb ho5))
 go_loopg [5, 11] k (fun kq v5 v11 w' => ∃ (x5_1 : List ByteArray) (x11_1 : Int), v11 = .int .i64 x11_1 ∧ Aside0 (impl_outputs.l0 kq x5_1 l1 (l1.length : Int) x11_1 a0_0 l0_1 l0_2 l0_3 = some r) ∧ Aside0 (kq ≤ k) ∧ Aside0 (Kd.R Kd.string 9 w' w.heap.size (fun _ => True) v5 x5_1) ∧ Aside0 (w'.heap[gb579]? = some (.cells #[.string a0_0, (.slice A0_1 l0_1.length c0_1), (.slice A0_2 l0_2.length c0_2), (.slice A0_3 l0_3.length c0_3)] 27 (0, 0))) ∧ Aside0 (Below w.heap.size w w'))
 case atStart => exact ⟨(y580), (0), rdT, H', ⟨Nat.le_refl _⟩, ⟨roT HO582.out⟩, kpT BK579.out, ⟨hbT HB.out⟩⟩
 case round =>
  clear H'; (try clear c1 p2); obtain ⟨x5_1, x11_1, rfl, HA, HK1, HO_5, BK579, HB⟩ := hrel
  cases gk with
  | zero => exact absurd HA.out (by simp [impl_outputs.l0])
  | succ k1 =>
   have H := HA.out; clear HA
   simp only [impl_outputs.l0] at H
   by_cases c6 : x11_1 < (l1.length : Int)
   ·rw [if_pos c6] at H; have c6b0 := dt c6; clear c6; by_cases c7 : 0 ≤ x11_1
    ·rw [if_pos c7] at H; have c7b0 := dt c7; clear c7; by_cases c8 : x11_1 < (l1.length : Int)
     ·rw [if_pos c8] at H; have c8b0 := dt c8; clear c8; by_cases c9 : 0 ≤ (rd l1 x11_1)
      ·rw [if_pos c9] at H; have c9b0 := dt c9; clear c9; by_cases c10 : (rd l1 x11_1) < (l0_2.length : Int)
       ·rw [if_pos c10] at H; have c10b0 := dt c10; clear c10; obtain ⟨t585, A11, H⟩ := be H; obtain ⟨t586, A12, H⟩ := be H; have H' := asT H; clear H; have p583 : 0 ≤ (x11_1 : Int) := dT asmT; have q583 : x11_1 < (l1.length : Int) := dT asmT; obtain ⟨ad583, e583, hx583_0⟩ := Kd.at_int HR1.out x11_1 p583 q583
        cases e583
        replace hx583_0 := hbc HB.out hx583_0; replace p583 := eq_true p583; replace q583 := eq_true q583; obtain ⟨hcz13_0, hcz13_1, hcz13_2, hcz13_3, hfz13_0, hfz13_1, hfz13_2, hfz13_3⟩ := bx4 BK579.out; have p584 : 0 ≤ ((rd l1 x11_1) : Int) := dT asmT; have q584 : (rd l1 x11_1) < (l0_2.length : Int) := dT asmT; obtain ⟨ad584, A584_0, c584_0, e584, hx584_0, hl584_0, hi584_0⟩ := at_T60 HR0_2.out (rd l1 x11_1) p584 q584
        cases e584
        replace hx584_0 := hbc HB.out hx584_0; have HR584_0 := asT hi584_0; have HC584_0 := asT hl584_0; clear hi584_0 hl584_0; replace p584 := eq_true p584; replace q584 := eq_true q584
        go_wp2_with (first | ((with_reducible refine gate_callee (f := 107) rfl ?_); refine goesL_ (some 21) rfl rfl Tryz.func107 (by kernel_rfl) rfl #[.agg #[.slice A584_0 ((rd_T60 l0_2 (rd l1 x11_1)).f0).length c584_0]] rfl eqT ?_; (with_reducible refine (impl_OutputOf.calls k1 _ _ ((rd_T60 l0_2 (rd l1 x11_1)).f0) t585 _ ?side1 ?side2 A11.out).mono ?_); (case side1 => exact crT HR584_0.out HB.out); (case side2 => exact HC584_0.out); rintro e w14 ⟨rfl, hb⟩; refine ⟨_, rfl, ?_⟩; replace HO_5 := asT (Kd.R_below (roT HO_5.out) hb); replace BK579 := bS BK579 hb; replace HB := hS HB hb; (try clear hb hb2 hk hi); obtain ⟨Ao15, co15, eo15⟩ := Kd.R_slice HO_5.out; subst eo15) | ((with_reducible refine gate_callee (f := 106) rfl ?_); refine goesL_ (some 22) rfl rfl Tryz.func106 (by kernel_rfl) rfl #[.slice Ao15 x5_1.length co15, .string t585] rfl eqT ?_; (with_reducible refine (impl_addOnce.calls k1 (fun k_ => some k_ = (.slice Ao15 x5_1.length co15 : Value).ownBlock) (.slice Ao15 x5_1.length co15) x5_1 t585 t586 w _ ?side1 ?side2 A12.out).mono ?_); (case side1 => repeat (first | (with_reducible first | exact HB.out | apply below_alloc | apply pw_below_drewN | apply below_drew1 | refine below_set ?_ GE579.out) | exact HB.out)); (case side2 => exact Kd.R_tight rfl HO_5.out); rintro e w16 ⟨v587, rfl, ho0, hb, hkp⟩; refine ⟨_, rfl, ?_⟩; replace BK579 := asT (blk_kept (bkT BK579.out) hkp (fun hs_ => (fun e_ => (Kd.R_ne HO_5.out BK579.out (by decide)) e_) hs_)); have HO588 := asT (Kd.R_mono (ok' := fun k_ => True) ho0 (fun k_ hk_ => trivial)); replace HB := asT (hb); clear HO_5; (try clear hb hkp ho0)))
        go_roundg k1
        case measure => have := HK1.out; omega
        case rel => exact ⟨(t586), (wrap64 (x11_1 + 1)), rdT, H', ⟨by have := HK1.out; omega⟩, ⟨roT HO588.out⟩, kpT BK579.out, ⟨hbT HB.out⟩⟩
       ·rw [if_neg c10] at H; exact absurd H (by simp)
      ·rw [if_neg c9] at H; exact absurd H (by simp)
     ·rw [if_neg c8] at H; exact absurd H (by simp)
    ·rw [if_neg c7] at H; exact absurd H (by simp)
   ·rw [if_neg c6] at H; have c6b0 := df c6; clear c6; obtain rfl := oI H
    go_wp2
    go_ret; exact ⟨_, rlT, roT HO_5.out, hbT HB.out⟩
def impl_OptimalOutputs.f (k : Nat) (a0_0 : ByteArray) (l0_1 : List ByteArray) (l0_2 : List (S60)) (l0_3 : List (List Int)) (l1 : List Int) : Option (List ByteArray) := (impl_WinnersOf.f k a0_0 l0_1 l0_2 l0_3 l1).bind fun t590 => ((impl_outputs.f k a0_0 l0_1 l0_2 l0_3 t590).bind fun t593 => (some t593))
theorem impl_OptimalOutputs.mono : ∀ a0 a1 a2 a3 a4 k, LeO (impl_OptimalOutputs.f k a0 a1 a2 a3 a4) (impl_OptimalOutputs.f (k + 1) a0 a1 a2 a3 a4) := by
 intro a0 a1 a2 a3 a4 k; unfold impl_OptimalOutputs.f
 with_reducible repeat' first | exact impl_WinnersOf.mono _ _ _ _ _ _ | exact impl_outputs.mono _ _ _ _ _ _ | exact LeO.refl _ | exact LeO.none _ | refine LeO.ite ?_ ?_ | refine LeO.bind ?_ (fun _ => ?_)
theorem impl_OptimalOutputs.calls (k : Nat) (a0_0 : ByteArray) (A0_1 : Option Addr) (c0_1 : Nat) (l0_1 : List ByteArray) (A0_2 : Option Addr) (c0_2 : Nat) (l0_2 : List (S60)) (A0_3 : Option Addr) (c0_3 : Nat) (l0_3 : List (List Int)) (A1 : Option Addr) (c1 : Nat) (l1 : List Int) (r : List ByteArray) (w : World) (hr0_1 : Kd.C Kd.string w A0_1 l0_1.length l0_1) (hc0_1 : l0_1.length ≤ c0_1) (hr0_2 : Kd.C k60 w A0_2 l0_2.length l0_2) (hc0_2 : l0_2.length ≤ c0_2) (hr0_3 : Kd.C (Kd.slice 3 (Kd.int .i64)) w A0_3 l0_3.length l0_3) (hc0_3 : l0_3.length ≤ c0_3) (hr1 : Kd.C (Kd.int .i64) w A1 l1.length l1) (hc1 : l1.length ≤ c1) (h : impl_OptimalOutputs.f k a0_0 l0_1 l0_2 l0_3 l1 = some r) :
  Calls Tryz.prog 33 #[.agg #[.string a0_0, .slice A0_1 l0_1.length c0_1, .slice A0_2 l0_2.length c0_2, .slice A0_3 l0_3.length c0_3], .slice A1 l1.length c1] w fun e w' => ∃ v0_ : Value, e = .returned (v0_) ∧ Kd.R Kd.string 9 w' w.heap.size (fun _ => True) v0_ r ∧ Below w.heap.size w w' := by
 have hu27 := Tryz.underlying27; have HR0_1 := asT hr0_1; have HC0_1 := asT hc0_1; clear hr0_1 hc0_1; have HR0_2 := asT hr0_2; have HC0_2 := asT hc0_2; clear hr0_2 hc0_2; have HR0_3 := asT hr0_3; have HC0_3 := asT hc0_3; clear hr0_3 hc0_3; have HR1 := asT hr1; have HC1 := asT hc1; clear hr1 hc1; have HB := asT (Below.refl w.heap.size w); have H := h; unfold impl_OptimalOutputs.f at H; clear h; obtain ⟨t590, A3, H⟩ := be H; obtain ⟨t593, A4, H⟩ := be H; obtain rfl := oI H; go_enter Tryz.func33, Tryz.ntmps33
 try go_wp2_with (first | ((with_reducible refine gate_dst (N := 2) rfl ?_); refine boxT (N := 2) (cs := #[.string a0_0, .slice A0_1 l0_1.length c0_1, .slice A0_2 l0_2.length c0_2, .slice A0_3 l0_3.length c0_3]) (t := 27) ?_; intro gb589 hg w5 hbox hb; have BK589 := asT hbox; have GW589 := asT (geT hg HB.out); have GE589 := GW589; replace HB := hS HB hb; clear hb hbox hg))
 replace BK589 := asT (blk_drew BK589.out); replace HB := asT (below_drew1 HB.out); refine start_ (n := 6) (S := fun w' => w'.cell? ⟨gb589, 0, none⟩ = some (.string a0_0) ∧ w'.cell? ⟨gb589, 1, none⟩ = some (.slice A0_1 l0_1.length c0_1) ∧ w'.cell? ⟨gb589, 2, none⟩ = some (.slice A0_2 l0_2.length c0_2) ∧ w'.cell? ⟨gb589, 3, none⟩ = some (.slice A0_3 l0_3.length c0_3)) (ds := []) #[false, false, false, false, false, false] (by kernel_rfl) rfl rfl ⟨bc0 BK589.out, bc1 BK589.out, bc2 BK589.out, bc3 BK589.out⟩ (fun hHeld => ?_); generalize w5.drew = w6 at BK589 HB hHeld ⊢; refine pure_ (i := 2) (N := some 7) (v := ?_) (a' := ?_) #[false, false, true, false, false, false] rfl rfl (by kernel_rfl) (fun _ _ _ h => h) (Or.inl ⟨by rfl, ?_⟩) ?_ ?_
 rotate_left
 ·intro w'
  go_simp
  (with_reducible rfl)
 rotate_left
 ·simp only [Act.put, sA, sZ, sS, i64_w, i32_w]
  rfl
 refine take_ (i := 0) (N := some 5) (v := ?_) (a' := ?_) #[true, false, true, false, false, false] rfl rfl (by kernel_rfl) (fun _ _ _ h => h) (Or.inl ⟨by rfl, ?_⟩) hHeld ?_ ?_
 rotate_left
 ·rintro w' ⟨s0, s1, s2, s3⟩
  go_simp
  (with_reducible rfl)
 rotate_left
 ·simp only [Act.put, sA, sZ, sS, i64_w, i32_w]
  rfl
 refine take_ (i := 1) (N := some 6) (v := ?_) (a' := ?_) #[true, true, true, false, false, false] rfl rfl (by kernel_rfl) (fun _ _ _ h => h) (Or.inl ⟨by rfl, ?_⟩) hHeld ?_ ?_
 rotate_left
 ·rintro w' ⟨s0, s1, s2, s3⟩
  go_simp
  (with_reducible rfl)
 rotate_left
 ·simp only [Act.put, sA, sZ, sS, i64_w, i32_w]
  rfl
 refine one_ (i := 3) (N := some 8) #[true, true, true, true, false, false] rfl rfl (by kernel_rfl) (by decide) (fun K hK => ?_); refine goes_ Tryz.func31 (by kernel_rfl) rfl #[.agg #[.string a0_0, .slice A0_1 l0_1.length c0_1, .slice A0_2 l0_2.length c0_2, .slice A0_3 l0_3.length c0_3], .slice A1 l1.length c1] (by rfl) rfl rfl eqT ?_
 (with_reducible refine (impl_WinnersOf.calls k a0_0 _ _ l0_1 _ _ l0_2 _ _ l0_3 _ _ l1 t590 _ ?side1 ?side2 ?side3 ?side4 ?side5 ?side6 ?side7 ?side8 A3.out).mono ?_); (case side1 => exact crT HR0_1.out HB.out); (case side2 => exact HC0_1.out); (case side3 => exact crT HR0_2.out HB.out); (case side4 => exact HC0_2.out); (case side5 => exact crT HR0_3.out HB.out); (case side6 => exact HC0_3.out); (case side7 => exact crT HR1.out HB.out); (case side8 => exact HC1.out); rintro e w7 ⟨v591, rfl, ho0, hb⟩; refine ⟨_, rfl, ?_⟩; have HO592 := asT (Kd.R_lower ho0 (below_size (hbT HB.out))); replace BK589 := bS BK589 hb; replace HB := hS HB hb; (try clear hb hb2 hk hi ho0); obtain ⟨Ao8, co8, eo8⟩ := Kd.R_slice HO592.out; (first | subst eo8 | (injection eo8 with f1_ f2_ f3_; have f4_ := f1_.symm; have f5_ := f3_.symm; clear f1_ f2_ f3_; subst f4_; subst f5_))
 refine hK.out _ _ ⟨bc0 BK589.out, bc1 BK589.out, bc2 BK589.out, bc3 BK589.out⟩ (fun hHeld => ?_); clear hK K; refine nB 8 ?_ rfl; refine one_ (i := 4) (N := some 9) #[true, true, true, true, true, false] rfl rfl (by kernel_rfl) (by decide) (fun K hK => ?_); refine goes_ Tryz.func73 (by kernel_rfl) rfl #[.agg #[.string a0_0, .slice A0_1 l0_1.length c0_1, .slice A0_2 l0_2.length c0_2, .slice A0_3 l0_3.length c0_3], .slice Ao8 t590.length co8] (by rfl) rfl rfl eqT ?_
 (with_reducible refine (impl_outputs.calls k a0_0 _ _ l0_1 _ _ l0_2 _ _ l0_3 _ _ t590 t593 _ ?side1 ?side2 ?side3 ?side4 ?side5 ?side6 ?side7 ?side8 A4.out).mono ?_); (case side1 => exact crT HR0_1.out HB.out); (case side2 => exact HC0_1.out); (case side3 => exact crT HR0_2.out HB.out); (case side4 => exact HC0_2.out); (case side5 => exact crT HR0_3.out HB.out); (case side6 => exact HC0_3.out); (case side7 => exact caT (Kd.R_reads' HO592.out).2.2); (case side8 => exact (Kd.R_reads' HO592.out).2.1); rintro e w9 ⟨v594, rfl, ho0, hb⟩; refine ⟨_, rfl, ?_⟩; replace HO592 := asT (Kd.R_below (roT HO592.out) hb); have HO595 := asT (Kd.R_lower ho0 (below_size (hbT HB.out))); replace BK589 := bS BK589 hb; replace HB := hS HB hb; (try clear hb hb2 hk hi ho0)
 refine hK.out _ _ ⟨bc0 BK589.out, bc1 BK589.out, bc2 BK589.out, bc3 BK589.out⟩ (fun hHeld => ?_); clear hK K; refine nB 9 ?_ rfl; refine pure_ (i := 5) (N := some 4) (v := ?_) (a' := ?_) #[true, true, true, true, true, true] rfl rfl (by kernel_rfl) (fun _ _ _ h => h) (Or.inl ⟨by rfl, ?_⟩) ?_ ?_
 rotate_left
 ·intro w'
  go_simp
  (with_reducible rfl)
 rotate_left
 ·simp only [Act.put, sA, sZ, sS, i64_w, i32_w]
  rfl
 refine done_ (by kernel_rfl) ?_
 try go_wp2
 go_ret; exact ⟨_, rlT, roT HO595.out, hbT HB.out⟩
def laws_heldStringS.l0 : Nat → List ByteArray → Int → Int → Option (Int)
 | 0, _, _, _ => none
 | k + 1, x0, x1, x5 => if x5 < (x0.length : Int) then (if 0 ≤ x5 then ((laws_markText.f k x1).bind fun t597 => (if (rdOf ByteArray.empty x0 x5).toList = t597.toList then (laws_heldStringS.l0 k x0 (wrap64 (x1 + 1)) (wrap64 (x5 + 1))) else (some (-1)))) else (none)) else (some x1)
def laws_heldStringS.f (k : Nat) (l0 : List ByteArray) (a1 : Int) : Option (Int) := laws_heldStringS.l0 k l0 a1 0
theorem laws_heldStringS.mono_l : ∀ k, (∀ y0 y1 y2, LeO (laws_heldStringS.l0 k y0 y1 y2) (laws_heldStringS.l0 (k + 1) y0 y1 y2))
 | 0 => fun _ _ _ r h => by simp [laws_heldStringS.l0] at h
 | k + 1 => by
  have ih0 := laws_heldStringS.mono_l k
  ·intro y0 y1 y2; unfold laws_heldStringS.l0
   with_reducible repeat' first | exact ih0 _ _ _ | exact laws_markText.mono _ _ | exact LeO.refl _ | exact LeO.none _ | refine LeO.ite ?_ ?_ | refine LeO.bind ?_ (fun _ => ?_)
theorem laws_heldStringS.mono : ∀ a0 a1 k, LeO (laws_heldStringS.f k a0 a1) (laws_heldStringS.f (k + 1) a0 a1) := by
 intro a0 a1 k; have ih0 := laws_heldStringS.mono_l k; unfold laws_heldStringS.f
 with_reducible repeat' first | exact ih0 _ _ _ | exact laws_markText.mono _ _ | exact LeO.refl _ | exact LeO.none _ | refine LeO.ite ?_ ?_ | refine LeO.bind ?_ (fun _ => ?_)
theorem laws_heldStringS.calls (k : Nat) (A0 : Option Addr) (c0 : Nat) (l0 : List ByteArray) (a1 : Int) (r : Int) (w : World) (hr0 : Kd.C Kd.string w A0 l0.length l0) (hc0 : l0.length ≤ c0) (h : laws_heldStringS.f k l0 a1 = some r) :
  Calls Tryz.prog 34 #[.slice A0 l0.length c0, .int .i64 a1] w fun e w' => e = .returned (.int .i64 r) ∧ Below w.heap.size w w' := by
 have HR0 := asT hr0; have HC0 := asT hc0; clear hr0 hc0; have HB := asT (Below.refl w.heap.size w); have H := h; unfold laws_heldStringS.f at H; clear h; have H' := asT H; clear H; go_enter Tryz.func34, Tryz.ntmps34
 go_wp2
 go_loopg [1, 5] k (fun kq v1 v5 w' => ∃ (x1_1 : Int) (x5_1 : Int), v1 = .int .i64 x1_1 ∧ v5 = .int .i64 x5_1 ∧ Aside0 (laws_heldStringS.l0 kq l0 x1_1 x5_1 = some r) ∧ Aside0 (kq ≤ k) ∧ Aside0 (Below w.heap.size w w'))
 case atStart => exact ⟨(a1), (0), rdT, rdT, H', ⟨Nat.le_refl _⟩, ⟨hbT HB.out⟩⟩
 case round =>
  clear H'; (try clear p2); obtain ⟨x1_1, x5_1, rfl, rfl, HA, HK1, HB⟩ := hrel
  cases gk with
  | zero => exact absurd HA.out (by simp [laws_heldStringS.l0])
  | succ k1 =>
   have H := HA.out; clear HA
   simp only [laws_heldStringS.l0] at H
   by_cases c3 : x5_1 < (l0.length : Int)
   ·rw [if_pos c3] at H; have c3b0 := dt c3; clear c3; by_cases c4 : 0 ≤ x5_1
    ·rw [if_pos c4] at H; have c4b0 := dt c4; clear c4; obtain ⟨t597, A5, H⟩ := be H; by_cases c6 : (rdOf ByteArray.empty l0 x5_1).toList = t597.toList
     ·rw [if_pos c6] at H; have c6b0 : ((rdOf ByteArray.empty l0 x5_1).toList == t597.toList) = true := eC c6; have c6b1 : ((rdOf ByteArray.empty l0 x5_1).toList != t597.toList) = false := eA c6; clear c6; have H' := asT H; clear H
      try go_wp2
      replace HB := asT (below_drew1 HB.out); have p596 : 0 ≤ (x5_1 : Int) := dT asmT; have q596 : x5_1 < (l0.length : Int) := dT asmT; obtain ⟨ad596, e596, hx596_0⟩ := Kd.at_string HR0.out x5_1 p596 q596; have hw596_0 := hx596_0
      cases e596
      replace hx596_0 := hbc HB.out hx596_0; replace p596 := eq_true p596; replace q596 := eq_true q596; refine start_ (n := 7) (S := fun w' => w'.cell? (ad596.add (x5_1).toNat) = some (.string (rdOf ByteArray.empty l0 x5_1))) (ds := []) (bA 7 0) (by kernel_rfl) rfl rfl (((HB.out.cell (World.block_lt_of_cell? w _ hw596_0)).trans hw596_0)) (fun hHeld => ?_); generalize wr.drew = w7 at HB hx596_0 hHeld ⊢; refine pure_ (i := 0) (N := some 12) (v := ?_) (a' := ?_) (bA 7 1) rfl rfl (by kernel_rfl) (fun _ _ _ h => h) (Or.inl ⟨by rfl, ?_⟩) ?_ ?_
      rotate_left
      ·intro w'
       go_simp
       (with_reducible rfl)
      rotate_left
      ·simp only [Act.put, sA, sZ, sS, i64_w, i32_w]
       rfl
      refine pure_ (i := 1) (N := some 13) (v := ?_) (a' := ?_) (bA 7 3) rfl rfl (by kernel_rfl) (fun _ _ _ h => h) (Or.inl ⟨by rfl, ?_⟩) ?_ ?_
      rotate_left
      ·intro w'
       go_simp
       (with_reducible rfl)
      rotate_left
      ·simp only [Act.put, sA, sZ, sS, i64_w, i32_w]
       rfl
      refine pure_ (i := 2) (N := some 14) (v := ?_) (a' := ?_) (bA 7 7) rfl rfl (by kernel_rfl) (fun _ _ _ h => h) (Or.inl ⟨by rfl, ?_⟩) ?_ ?_
      rotate_left
      ·intro w'
       go_simp
       (with_reducible rfl)
      rotate_left
      ·simp only [Act.put, sA, sZ, sS, i64_w, i32_w]
       rfl
      refine pure_ (i := 4) (N := some 16) (v := ?_) (a' := ?_) (bA 7 23) rfl rfl (by kernel_rfl) (fun _ _ _ h => h) (Or.inl ⟨by rfl, ?_⟩) ?_ ?_
      rotate_left
      ·intro w'
       go_simp
       (with_reducible rfl)
      rotate_left
      ·simp only [Act.put, sA, sZ, sS, i64_w, i32_w]
       rfl
      refine take_ (i := 3) (N := some 15) (v := ?_) (a' := ?_) (bA 7 31) rfl rfl (by kernel_rfl) (fun _ _ _ h => h) (Or.inl ⟨by rfl, ?_⟩) hHeld ?_ ?_
      rotate_left
      ·intro w' s0
       go_simp
       (with_reducible rfl)
      rotate_left
      ·simp only [Act.put, sA, sZ, sS, i64_w, i32_w]
       rfl
      refine one_ (i := 5) (N := some 17) (bA 7 63) rfl rfl (by kernel_rfl) (by decide) (fun K hK => ?_); refine goes_ Tryz.func46 (by kernel_rfl) rfl #[.int .i64 x1_1] (by rfl) rfl rfl eqT ?_
      (with_reducible refine (laws_markText.calls k1 x1_1 t597 _ A5.out).mono ?_); rintro e w8 ⟨rfl, hb⟩; refine ⟨_, rfl, ?_⟩; replace HB := hS HB hb; (try clear hb hb2 hk hi)
      refine hK.out _ _ (((HB.out.cell (World.block_lt_of_cell? w _ hw596_0)).trans hw596_0)) (fun hHeld => ?_); clear hK K; refine nB 17 ?_ rfl; refine pure_ (i := 6) (N := some 18) (v := ?_) (a' := ?_) (bA 7 127) rfl rfl (by kernel_rfl) (fun _ _ _ h => h) (Or.inl ⟨by rfl, ?_⟩) ?_ ?_
      rotate_left
      ·intro w'
       go_simp
       (with_reducible rfl)
      rotate_left
      ·simp only [Act.put, sA, sZ, sS, i64_w, i32_w]
       rfl
      refine done_ (by kernel_rfl) ?_
      try go_wp2
      go_roundg k1
      case measure => have := HK1.out; omega
      case rel => exact ⟨(wrap64 (x1_1 + 1)), (wrap64 (x5_1 + 1)), rdT, rdT, H', ⟨by have := HK1.out; omega⟩, ⟨hbT HB.out⟩⟩
     ·rw [if_neg c6] at H; have c6b0 : ((rdOf ByteArray.empty l0 x5_1).toList == t597.toList) = false := eB c6; have c6b1 : ((rdOf ByteArray.empty l0 x5_1).toList != t597.toList) = true := eD c6; obtain rfl := oI H
      try go_wp2
      replace HB := asT (below_drew1 HB.out); have p596 : 0 ≤ (x5_1 : Int) := dT asmT; have q596 : x5_1 < (l0.length : Int) := dT asmT; obtain ⟨ad596, e596, hx596_0⟩ := Kd.at_string HR0.out x5_1 p596 q596; have hw596_0 := hx596_0
      cases e596
      replace hx596_0 := hbc HB.out hx596_0; replace p596 := eq_true p596; replace q596 := eq_true q596; refine start_ (n := 7) (S := fun w' => w'.cell? (ad596.add (x5_1).toNat) = some (.string (rdOf ByteArray.empty l0 x5_1))) (ds := []) (bA 7 0) (by kernel_rfl) rfl rfl (((HB.out.cell (World.block_lt_of_cell? w _ hw596_0)).trans hw596_0)) (fun hHeld => ?_); generalize wr.drew = w9 at HB hx596_0 hHeld ⊢; refine pure_ (i := 0) (N := some 12) (v := ?_) (a' := ?_) (bA 7 1) rfl rfl (by kernel_rfl) (fun _ _ _ h => h) (Or.inl ⟨by rfl, ?_⟩) ?_ ?_
      rotate_left
      ·intro w'
       go_simp
       (with_reducible rfl)
      rotate_left
      ·simp only [Act.put, sA, sZ, sS, i64_w, i32_w]
       rfl
      refine pure_ (i := 1) (N := some 13) (v := ?_) (a' := ?_) (bA 7 3) rfl rfl (by kernel_rfl) (fun _ _ _ h => h) (Or.inl ⟨by rfl, ?_⟩) ?_ ?_
      rotate_left
      ·intro w'
       go_simp
       (with_reducible rfl)
      rotate_left
      ·simp only [Act.put, sA, sZ, sS, i64_w, i32_w]
       rfl
      refine pure_ (i := 2) (N := some 14) (v := ?_) (a' := ?_) (bA 7 7) rfl rfl (by kernel_rfl) (fun _ _ _ h => h) (Or.inl ⟨by rfl, ?_⟩) ?_ ?_
      rotate_left
      ·intro w'
       go_simp
       (with_reducible rfl)
      rotate_left
      ·simp only [Act.put, sA, sZ, sS, i64_w, i32_w]
       rfl
      refine pure_ (i := 4) (N := some 16) (v := ?_) (a' := ?_) (bA 7 23) rfl rfl (by kernel_rfl) (fun _ _ _ h => h) (Or.inl ⟨by rfl, ?_⟩) ?_ ?_
      rotate_left
      ·intro w'
       go_simp
       (with_reducible rfl)
      rotate_left
      ·simp only [Act.put, sA, sZ, sS, i64_w, i32_w]
       rfl
      refine take_ (i := 3) (N := some 15) (v := ?_) (a' := ?_) (bA 7 31) rfl rfl (by kernel_rfl) (fun _ _ _ h => h) (Or.inl ⟨by rfl, ?_⟩) hHeld ?_ ?_
      rotate_left
      ·intro w' s0
       go_simp
       (with_reducible rfl)
      rotate_left
      ·simp only [Act.put, sA, sZ, sS, i64_w, i32_w]
       rfl
      refine one_ (i := 5) (N := some 17) (bA 7 63) rfl rfl (by kernel_rfl) (by decide) (fun K hK => ?_); refine goes_ Tryz.func46 (by kernel_rfl) rfl #[.int .i64 x1_1] (by rfl) rfl rfl eqT ?_
      (with_reducible refine (laws_markText.calls k1 x1_1 t597 _ A5.out).mono ?_); rintro e w10 ⟨rfl, hb⟩; refine ⟨_, rfl, ?_⟩; replace HB := hS HB hb; (try clear hb hb2 hk hi)
      refine hK.out _ _ (((HB.out.cell (World.block_lt_of_cell? w _ hw596_0)).trans hw596_0)) (fun hHeld => ?_); clear hK K; refine nB 17 ?_ rfl; refine pure_ (i := 6) (N := some 18) (v := ?_) (a' := ?_) (bA 7 127) rfl rfl (by kernel_rfl) (fun _ _ _ h => h) (Or.inl ⟨by rfl, ?_⟩) ?_ ?_
      rotate_left
      ·intro w'
       go_simp
       (with_reducible rfl)
      rotate_left
      ·simp only [Act.put, sA, sZ, sS, i64_w, i32_w]
       rfl
      refine done_ (by kernel_rfl) ?_
      try go_wp2
      go_ret; exact ⟨rlT, hbT HB.out⟩
    ·rw [if_neg c4] at H; exact absurd H (by simp)
   ·rw [if_neg c3] at H; have c3b0 := df c3; clear c3; obtain rfl := oI H
    go_wp2
    go_ret; exact ⟨rlT, hbT HB.out⟩
end Go.Proofs.YtlmfpkiaikjlbaaGreat.PFnExactOptimalOutputs
