-- Made by gen.py (a program of this session) out of the translation; Lean checks it.
import Derived.Test.YtlmfpkiaikjlbaaDoorPFnExactParseRankingx0
import Derived.Test.YtlmfpkiaikjlbaaDoorPFnExactParseRankingx2
namespace Go.Proofs.YtlmfpkiaikjlbaaDoor.PFnExactParseRanking
open Go.RowKit Go.Proofs.YtlmfpkiaikjlbaaDoorB Go.Proofs.YtlmfpkiaikjlbaaDoorW.PrintWords Go.Proofs.YtlmfpkiaikjlbaaDoorW.PrintLast Go.Proofs.YtlmfpkiaikjlbaaDoorW.PrintMore
attribute [local go_sem] max2_int min2_int max_two min_two max_three min_three max_four min_four   -- for this text's walks alone
set_option linter.unusedVariables false
set_option linter.unusedSimpArgs false

/-! ### impl_isStrict: function 33 -/
def impl_isStrict.l0 : Nat → List Int → Int → List Int → Int → Int → Option (Bool)
 | 0, _, _, _, _, _ => none
 | k + 1, x0, x1, x7, x8, x9 => if x9 < x8 then (if 0 ≤ x9 then (if x9 < (x7.length : Int) then ((impl_within.f (rd x7 x9) 0 (wrap64 (x1 - 1))).bind fun t182 => (if t182 = true then (if x9 > 0 then (if 0 ≤ (wrap64 (x9 - 1)) then (if (wrap64 (x9 - 1)) < (x0.length : Int) then (if (rd x7 x9) ≤ (rd x0 (wrap64 (x9 - 1))) then (some false) else (impl_isStrict.l0 k x0 x1 x7 x8 (wrap64 (x9 + 1)))) else (none)) else (none)) else (impl_isStrict.l0 k x0 x1 x7 x8 (wrap64 (x9 + 1)))) else (some false))) else (none)) else (none)) else (some true)
def impl_isStrict.f (k : Nat) (l0 : List Int) (a1 : Int) : Option (Bool) := impl_isStrict.l0 k l0 a1 l0 (l0.length : Int) 0
theorem impl_isStrict.mono_l : ∀ k, (∀ y0 y1 y2 y3 y4, LeO (impl_isStrict.l0 k y0 y1 y2 y3 y4) (impl_isStrict.l0 (k + 1) y0 y1 y2 y3 y4))
 | 0 => fun _ _ _ _ _ r h => by simp [impl_isStrict.l0] at h
 | k + 1 => by
  have ih0 := impl_isStrict.mono_l k
  ·intro y0 y1 y2 y3 y4
   unfold impl_isStrict.l0
   with_reducible repeat' first | exact ih0 _ _ _ _ _ | exact LeO.refl _ | exact LeO.none _ | refine LeO.ite ?_ ?_ | refine LeO.bind ?_ (fun _ => ?_)
theorem impl_isStrict.mono : ∀ a0 a1 k, LeO (impl_isStrict.f k a0 a1) (impl_isStrict.f (k + 1) a0 a1) := by
 intro a0 a1 k
 have ih0 := impl_isStrict.mono_l k
 unfold impl_isStrict.f
 with_reducible repeat' first | exact ih0 _ _ _ _ _ | exact LeO.refl _ | exact LeO.none _ | refine LeO.ite ?_ ?_ | refine LeO.bind ?_ (fun _ => ?_)
set_option maxHeartbeats 8000000 in
set_option maxRecDepth 100000 in
theorem impl_isStrict.calls (k : Nat) (A0 : Option Addr) (c0 : Nat) (l0 : List Int) (a1 : Int) (r : Bool) (w : World) (hr0 : Kd.C (Kd.int .i64) w A0 l0.length l0) (hc0 : l0.length ≤ c0) (h : impl_isStrict.f k l0 a1 = some r) :
  Calls Tryd.prog 33 #[.slice A0 l0.length c0, .int .i64 a1] w fun e w' => e = .returned (.bool r) ∧ Drawn0 w w' := by
 have HR0 := Aside0.mk hr0; have HC0 := Aside0.mk hc0; clear hr0 hc0; have H := h; unfold impl_isStrict.f at H; clear h; have H' := Aside0.mk H; clear H
 go_enter Tryd.func33, Tryd.ntmps33
 go_wp2
 go_loopg [9] k (fun kq v9 w' => ∃ (x9_1 : Int), v9 = .int .i64 x9_1 ∧ Aside0 (impl_isStrict.l0 kq l0 a1 l0 (l0.length : Int) x9_1 = some r) ∧ Aside0 (kq ≤ k) ∧ Drawn0 w w')
 case atStart => exact ⟨(0), rdT, H', ⟨Nat.le_refl _⟩, drT⟩
 case round =>
  clear H'; (try clear p2); obtain ⟨x9_1, rfl, HA, HK1, ⟨m1, rfl⟩⟩ := hrel
  cases gk with
  | zero => exact absurd HA.out (by simp [impl_isStrict.l0])
  | succ k1 =>
   have H := HA.out; clear HA
   simp only [impl_isStrict.l0] at H
   by_cases c3 : x9_1 < (l0.length : Int)
   ·rw [if_pos c3] at H
    have c3b0 : decide (x9_1 < (l0.length : Int)) = true := decide_eq_true c3
    clear c3
    by_cases c4 : 0 ≤ x9_1
    ·rw [if_pos c4] at H
     have c4b0 : decide (0 ≤ x9_1) = true := decide_eq_true c4
     clear c4
     by_cases c5 : x9_1 < (l0.length : Int)
     ·rw [if_pos c5] at H
      have c5b0 : decide (x9_1 < (l0.length : Int)) = true := decide_eq_true c5
      clear c5; obtain ⟨t182, A6, H⟩ := be H
      by_cases c7 : t182 = true
      ·subst c7
       rw [if_pos rfl] at H; have H1 := H; clear H; have H := H1; clear H1
       by_cases c8 : x9_1 > 0
       ·rw [if_pos c8] at H
        have c8b0 : decide (0 < x9_1) = true := decide_eq_true c8
        clear c8; obtain ⟨ji9, hji9⟩ : ∃ j_ : Int, (wrap64 (x9_1 - 1)) = j_ := ⟨_, rfl⟩
        replace H : (if 0 ≤ (ji9) then (if (ji9) < (l0.length : Int) then (if (rd l0 x9_1) ≤ (rd l0 (ji9)) then (some false) else (impl_isStrict.l0 k1 l0 a1 l0 (l0.length : Int) (wrap64 (x9_1 + 1)))) else (none)) else (none)) = some r := by first | (rw [hji9] at H; exact H) | (simp only [hji9] at H ⊢; exact H)
        (try rw [hji9] at A6)
        have hji9w : (IntKind.i64.wrap (x9_1 - 1)) = ji9 := (i64_w _).trans hji9
        by_cases c10 : 0 ≤ (ji9)
        ·rw [if_pos c10] at H
         have c10b0 : decide (0 ≤ (ji9)) = true := decide_eq_true c10
         clear c10
         by_cases c11 : (ji9) < (l0.length : Int)
         ·rw [if_pos c11] at H
          have c11b0 : decide ((ji9) < (l0.length : Int)) = true := decide_eq_true c11
          clear c11
          by_cases c12 : (rd l0 x9_1) ≤ (rd l0 (ji9))
          ·rw [if_pos c12] at H
           have c12b0 : decide ((rd l0 x9_1) ≤ (rd l0 (ji9))) = true := decide_eq_true c12
           clear c12
           obtain rfl := Option.some.inj H
           have p181 : 0 ≤ (x9_1 : Int) := of_decide_eq_true asmT
           have q181 : x9_1 < (l0.length : Int) := of_decide_eq_true asmT
           obtain ⟨ad181, e181, hx181_0⟩ := Kd.at_int HR0.out x9_1 p181 q181
           cases e181
           replace p181 := eq_true p181; replace q181 := eq_true q181
           go_wp2_with (first | ((with_reducible refine gate_callee (f := 31) rfl ?_); refine goesL_ (some 17) rfl rfl Tryd.func31 (by kernel_rfl) rfl #[.int .i64 (rd l0 x9_1), .int .i64 0, .int .i64 (wrap64 (a1 - 1))] rfl eqT ?_; (with_reducible refine (impl_within.calls (rd l0 x9_1) 0 (wrap64 (a1 - 1)) true _ A6.out).mono ?_); rintro e w' ⟨rfl, ⟨nd, rfl⟩⟩; refine ⟨_, rfl, ?_⟩; have p183 : 0 ≤ ((ji9) : Int) := of_decide_eq_true asmT; have q183 : (ji9) < (l0.length : Int) := of_decide_eq_true asmT; obtain ⟨ad183, e183, hx183_0⟩ := Kd.at_int HR0.out (ji9) p183 q183; obtain rfl : ad181 = ad183 := (by injection e183); replace p183 := eq_true p183; replace q183 := eq_true q183))
           go_ret
           exact ⟨by first | rfl | (simp; done) | (simp only [← hji9] <;> (first | rfl | simp)) | (simp [*]; done), drT⟩
          ·rw [if_neg c12] at H
           have c12b0 : decide ((rd l0 x9_1) ≤ (rd l0 (ji9))) = false := decide_eq_false c12
           clear c12; have H' := Aside0.mk H; clear H
           have p181 : 0 ≤ (x9_1 : Int) := of_decide_eq_true asmT
           have q181 : x9_1 < (l0.length : Int) := of_decide_eq_true asmT
           obtain ⟨ad181, e181, hx181_0⟩ := Kd.at_int HR0.out x9_1 p181 q181
           cases e181
           replace p181 := eq_true p181; replace q181 := eq_true q181
           go_wp2_with (first | ((with_reducible refine gate_callee (f := 31) rfl ?_); refine goesL_ (some 17) rfl rfl Tryd.func31 (by kernel_rfl) rfl #[.int .i64 (rd l0 x9_1), .int .i64 0, .int .i64 (wrap64 (a1 - 1))] rfl eqT ?_; (with_reducible refine (impl_within.calls (rd l0 x9_1) 0 (wrap64 (a1 - 1)) true _ A6.out).mono ?_); rintro e w' ⟨rfl, ⟨nd, rfl⟩⟩; refine ⟨_, rfl, ?_⟩; have p183 : 0 ≤ ((ji9) : Int) := of_decide_eq_true asmT; have q183 : (ji9) < (l0.length : Int) := of_decide_eq_true asmT; obtain ⟨ad183, e183, hx183_0⟩ := Kd.at_int HR0.out (ji9) p183 q183; obtain rfl : ad181 = ad183 := (by injection e183); replace p183 := eq_true p183; replace q183 := eq_true q183))
           go_roundg k1
           case measure => have := HK1.out; omega
           case rel => exact ⟨(wrap64 (x9_1 + 1)), rdT, H', ⟨by have := HK1.out; omega⟩, drT⟩
         ·rw [if_neg c11] at H
          exact absurd H (by simp)
        ·rw [if_neg c10] at H
         exact absurd H (by simp)
       ·rw [if_neg c8] at H
        have c8b0 : decide (0 < x9_1) = false := decide_eq_false c8
        clear c8; have H' := Aside0.mk H; clear H
        have p181 : 0 ≤ (x9_1 : Int) := of_decide_eq_true asmT
        have q181 : x9_1 < (l0.length : Int) := of_decide_eq_true asmT
        obtain ⟨ad181, e181, hx181_0⟩ := Kd.at_int HR0.out x9_1 p181 q181
        cases e181
        replace p181 := eq_true p181; replace q181 := eq_true q181
        go_wp2_with (first | ((with_reducible refine gate_callee (f := 31) rfl ?_); refine goesL_ (some 17) rfl rfl Tryd.func31 (by kernel_rfl) rfl #[.int .i64 (rd l0 x9_1), .int .i64 0, .int .i64 (wrap64 (a1 - 1))] rfl eqT ?_; (with_reducible refine (impl_within.calls (rd l0 x9_1) 0 (wrap64 (a1 - 1)) true _ A6.out).mono ?_); rintro e w' ⟨rfl, ⟨nd, rfl⟩⟩; refine ⟨_, rfl, ?_⟩))
        go_roundg k1
        case measure => have := HK1.out; omega
        case rel => exact ⟨(wrap64 (x9_1 + 1)), rdT, H', ⟨by have := HK1.out; omega⟩, drT⟩
      ·replace c7 := Bool.eq_false_iff.mpr c7
       subst c7; rw [if_neg nF] at H; have H1 := H; clear H; have H := H1; clear H1
       obtain rfl := Option.some.inj H
       have p181 : 0 ≤ (x9_1 : Int) := of_decide_eq_true asmT
       have q181 : x9_1 < (l0.length : Int) := of_decide_eq_true asmT
       obtain ⟨ad181, e181, hx181_0⟩ := Kd.at_int HR0.out x9_1 p181 q181
       cases e181
       replace p181 := eq_true p181; replace q181 := eq_true q181
       go_wp2_with (first | ((with_reducible refine gate_callee (f := 31) rfl ?_); refine goesL_ (some 17) rfl rfl Tryd.func31 (by kernel_rfl) rfl #[.int .i64 (rd l0 x9_1), .int .i64 0, .int .i64 (wrap64 (a1 - 1))] rfl eqT ?_; (with_reducible refine (impl_within.calls (rd l0 x9_1) 0 (wrap64 (a1 - 1)) false _ A6.out).mono ?_); rintro e w' ⟨rfl, ⟨nd, rfl⟩⟩; refine ⟨_, rfl, ?_⟩))
       go_ret
       exact ⟨rdT, drT⟩
     ·rw [if_neg c5] at H
      exact absurd H (by simp)
    ·rw [if_neg c4] at H
     exact absurd H (by simp)
   ·rw [if_neg c3] at H
    have c3b0 : decide (x9_1 < (l0.length : Int)) = false := decide_eq_false c3
    clear c3
    obtain rfl := Option.some.inj H
    go_wp2
    go_ret
    exact ⟨rdT, drT⟩

/-! ### cmp_isNaN_int: function 73 -/
def cmp_isNaN_int.f (a0 : Int) : Option (Bool) := some (a0 != a0)
set_option maxHeartbeats 8000000 in
set_option maxRecDepth 100000 in
theorem cmp_isNaN_int.calls (a0 : Int) (r : Bool) (w : World) (h : cmp_isNaN_int.f a0 = some r) :
  Calls Tryd.prog 73 #[.int .i64 a0] w fun e w' => e = .returned (.bool r) ∧ Drawn0 w w' := by
 have H := h; unfold cmp_isNaN_int.f at H; clear h
 obtain rfl := Option.some.inj H
 go_enter Tryd.func73, Tryd.ntmps73
 go_wp2
 go_ret
 exact ⟨rdT, drT⟩

/-! ### cmp_Less_int: function 61 -/
def cmp_Less_int.f (a0 : Int) (a1 : Int) : Option (Bool) := (cmp_isNaN_int.f a0).bind fun t184 => (if t184 = true then ((cmp_isNaN_int.f a1).bind fun t185 => (if t185 = true then (some (decide (a0 < a1))) else (some true))) else (some (decide (a0 < a1))))
set_option maxHeartbeats 8000000 in
set_option maxRecDepth 100000 in
theorem cmp_Less_int.calls (a0 : Int) (a1 : Int) (r : Bool) (w : World) (h : cmp_Less_int.f a0 a1 = some r) :
  Calls Tryd.prog 61 #[.int .i64 a0, .int .i64 a1] w fun e w' => e = .returned (.bool r) ∧ Drawn0 w w' := by
 have H := h; unfold cmp_Less_int.f at H; clear h; obtain ⟨t184, A3, H⟩ := be H
 by_cases c4 : t184 = true
 ·subst c4
  rw [if_pos rfl] at H; obtain ⟨t185, A5, H⟩ := be H
  by_cases c6 : t185 = true
  ·subst c6
   rw [if_pos rfl] at H; have H1 := H; clear H; have H := H1; clear H1
   obtain rfl := Option.some.inj H
   go_enter Tryd.func61, Tryd.ntmps61
   go_wp2_with (first | ((with_reducible refine gate_callee (f := 73) rfl ?_); refine goesL_ (some 6) rfl rfl Tryd.func73 (by kernel_rfl) rfl #[.int .i64 a0] rfl eqT ?_; (with_reducible refine (cmp_isNaN_int.calls a0 true _ A3.out).mono ?_); rintro e w' ⟨rfl, ⟨nd, rfl⟩⟩; refine ⟨_, rfl, ?_⟩) | (go_at_call 73; (with_reducible refine (cmp_isNaN_int.calls a1 true _ A5.out).mono ?_); rintro e w' ⟨rfl, ⟨nd, rfl⟩⟩))
   go_ret
   exact ⟨rdT, drT⟩
  ·replace c6 := Bool.eq_false_iff.mpr c6
   subst c6; rw [if_neg nF] at H; have H1 := H; clear H; have H := H1; clear H1
   obtain rfl := Option.some.inj H
   go_enter Tryd.func61, Tryd.ntmps61
   go_wp2_with (first | ((with_reducible refine gate_callee (f := 73) rfl ?_); refine goesL_ (some 6) rfl rfl Tryd.func73 (by kernel_rfl) rfl #[.int .i64 a0] rfl eqT ?_; (with_reducible refine (cmp_isNaN_int.calls a0 true _ A3.out).mono ?_); rintro e w' ⟨rfl, ⟨nd, rfl⟩⟩; refine ⟨_, rfl, ?_⟩) | (go_at_call 73; (with_reducible refine (cmp_isNaN_int.calls a1 false _ A5.out).mono ?_); rintro e w' ⟨rfl, ⟨nd, rfl⟩⟩))
   go_ret
   exact ⟨rdT, drT⟩
 ·replace c4 := Bool.eq_false_iff.mpr c4
  subst c4; rw [if_neg nF] at H; have H1 := H; clear H; have H := H1; clear H1
  obtain rfl := Option.some.inj H
  go_enter Tryd.func61, Tryd.ntmps61
  go_wp2_with (first | ((with_reducible refine gate_callee (f := 73) rfl ?_); refine goesL_ (some 6) rfl rfl Tryd.func73 (by kernel_rfl) rfl #[.int .i64 a0] rfl eqT ?_; (with_reducible refine (cmp_isNaN_int.calls a0 false _ A3.out).mono ?_); rintro e w' ⟨rfl, ⟨nd, rfl⟩⟩; refine ⟨_, rfl, ?_⟩))
  go_ret
  exact ⟨rdT, drT⟩

/-! ### slices_insertionSortOrdered_int: function 55 -/
mutual
def slices_insertionSortOrdered_int.l0 : Nat → List Int → Int → Int → Int → Option (List Int)
 | 0, _, _, _, _ => none
 | k + 1, x0, x1, x2, x6 => if x6 < x2 then (slices_insertionSortOrdered_int.l1 k x0 x1 x2 x6 x6) else (some x0)
def slices_insertionSortOrdered_int.l1 : Nat → List Int → Int → Int → Int → Int → Option (List Int)
 | 0, _, _, _, _, _ => none
 | k + 1, x0, x1, x2, x6, x7 => if x7 > x1 then (if 0 ≤ x7 then (if x7 < (x0.length : Int) then (if 0 ≤ (wrap64 (x7 - 1)) then (if (wrap64 (x7 - 1)) < (x0.length : Int) then ((cmp_Less_int.f (rd x0 x7) (rd x0 (wrap64 (x7 - 1)))).bind fun t188 => (if t188 = true then (slices_insertionSortOrdered_int.l1 k ((x0.set (x7 : Int).toNat (rd x0 (wrap64 (x7 - 1)))).set ((wrap64 (x7 - 1)) : Int).toNat (rd x0 x7)) x1 x2 x6 (wrap64 (x7 - 1))) else (slices_insertionSortOrdered_int.l0 k x0 x1 x2 (wrap64 (x6 + 1))))) else (none)) else (none)) else (none)) else (none)) else (slices_insertionSortOrdered_int.l0 k x0 x1 x2 (wrap64 (x6 + 1)))
end
def slices_insertionSortOrdered_int.f (k : Nat) (l0 : List Int) (a1 : Int) (a2 : Int) : Option (List Int) := slices_insertionSortOrdered_int.l0 k l0 a1 a2 (wrap64 (a1 + 1))
theorem slices_insertionSortOrdered_int.mono_l : ∀ k, (∀ y0 y1 y2 y3, LeO (slices_insertionSortOrdered_int.l0 k y0 y1 y2 y3) (slices_insertionSortOrdered_int.l0 (k + 1) y0 y1 y2 y3)) ∧ (∀ y0 y1 y2 y3 y4, LeO (slices_insertionSortOrdered_int.l1 k y0 y1 y2 y3 y4) (slices_insertionSortOrdered_int.l1 (k + 1) y0 y1 y2 y3 y4))
 | 0 => ⟨fun _ _ _ _ r h => by simp [slices_insertionSortOrdered_int.l0] at h, fun _ _ _ _ _ r h => by simp [slices_insertionSortOrdered_int.l1] at h⟩
 | k + 1 => by
  obtain ⟨ih0, ih1⟩ := slices_insertionSortOrdered_int.mono_l k; refine ⟨?_, ?_⟩
  ·intro y0 y1 y2 y3
   unfold slices_insertionSortOrdered_int.l0
   with_reducible repeat' first | exact ih0 _ _ _ _ | exact ih1 _ _ _ _ _ | exact LeO.refl _ | exact LeO.none _ | refine LeO.ite ?_ ?_ | refine LeO.bind ?_ (fun _ => ?_)
  ·intro y0 y1 y2 y3 y4
   unfold slices_insertionSortOrdered_int.l1
   with_reducible repeat' first | exact ih0 _ _ _ _ | exact ih1 _ _ _ _ _ | exact LeO.refl _ | exact LeO.none _ | refine LeO.ite ?_ ?_ | refine LeO.bind ?_ (fun _ => ?_)
theorem slices_insertionSortOrdered_int.mono : ∀ a0 a1 a2 k, LeO (slices_insertionSortOrdered_int.f k a0 a1 a2) (slices_insertionSortOrdered_int.f (k + 1) a0 a1 a2) := by
 intro a0 a1 a2 k
 obtain ⟨ih0, ih1⟩ := slices_insertionSortOrdered_int.mono_l k
 unfold slices_insertionSortOrdered_int.f
 with_reducible repeat' first | exact ih0 _ _ _ _ | exact ih1 _ _ _ _ _ | exact LeO.refl _ | exact LeO.none _ | refine LeO.ite ?_ ?_ | refine LeO.bind ?_ (fun _ => ?_)
def slices_insertionSortOrdered_int.T4 : Bool × List (List Nat × List Nat) := (true, [([], []), ([], []), ([0, 1], [0, 1]), ([2], [2]), ([3], [3]), ([3], [3]), ([4, 5, 3], [3, 4, 5]), ([6, 3], [3, 6]), ([3], [3]), ([3], [3]), ([9, 3], [3, 9]), ([8, 10, 3], [3, 8, 10]), ([11, 3], [3, 11]), ([7, 12, 3, 3], [3, 7, 12]), ([3, 13], [3, 13])])
def slices_insertionSortOrdered_int.B4 : List Nat := [0, 0, 3, 7, 15, 15, 63, 127, 15, 15, 527, 1807, 3855, 8191, 16383]
theorem slices_insertionSortOrdered_int.tab4 : rtab .any (opsOf Tryd.f55 4) = slices_insertionSortOrdered_int.T4 := by kernel_rfl
theorem slices_insertionSortOrdered_int.bits4 : waitsOk slices_insertionSortOrdered_int.T4.2 slices_insertionSortOrdered_int.B4 = true := by kernel_rfl
def slices_insertionSortOrdered_int.T6 : Bool × List (List Nat × List Nat) := (true, [([], []), ([], []), ([], []), ([], []), ([3], [3]), ([], []), ([], []), ([6], [6]), ([5, 7], [5, 7]), ([8], [8]), ([], []), ([], []), ([10, 11], [10, 11]), ([12], [12]), ([0, 1, 0, 1, 5, 6, 7, 8, 9, 13], [0, 1]), ([14, 9, 0, 1, 5, 6, 7, 8, 9, 13], [9, 14]), ([2, 4, 0, 1, 2, 3, 4, 5, 6, 7, 8, 9, 10, 11, 12, 13, 14, 15], [2, 4]), ([16, 13, 15, 0, 1, 2, 3, 4, 5, 6, 7, 8, 9, 10, 11, 12, 13, 14, 15], [13, 16])])
def slices_insertionSortOrdered_int.B6 : List Nat := [0, 0, 0, 0, 8, 0, 0, 64, 224, 480, 0, 0, 3072, 7168, 16355, 32739, 65535, 131071]
theorem slices_insertionSortOrdered_int.tab6 : rtab .any (opsOf Tryd.f55 6) = slices_insertionSortOrdered_int.T6 := by kernel_rfl
theorem slices_insertionSortOrdered_int.bits6 : waitsOk slices_insertionSortOrdered_int.T6.2 slices_insertionSortOrdered_int.B6 = true := by kernel_rfl
set_option maxHeartbeats 8000000 in
set_option maxRecDepth 100000 in
theorem slices_insertionSortOrdered_int.calls (k : Nat) (P0_ : Nat → Prop) (u9000_ : Value) (l0 : List Int) (a1 : Int) (a2 : Int) (r : List Int) (w0 w : World) (hB : Below w0.heap.size w0 w) (ho0 : Kd.R (Kd.int .i64) 3 w w0.heap.size P0_ u9000_ l0) (h : slices_insertionSortOrdered_int.f k l0 a1 a2 = some r) :
  Calls Tryd.prog 55 #[u9000_, .int .i64 a1, .int .i64 a2] w fun e w' => e = .returned (.tuple #[]) ∧ Kd.R (Kd.int .i64) 3 w' w0.heap.size (fun k_ => (P0_ k_ ∨ w.heap.size ≤ k_)) u9000_ r ∧ Below w0.heap.size w0 w' ∧ Kept w w' (fun k_ => P0_ k_) := by
 have HO0 := asT (show Kd.R (Kd.int .i64) 3 w w0.heap.size (fun k_ => (P0_ k_ ∨ w.heap.size ≤ k_)) u9000_ l0 from Kd.R_mono ho0 (fun k_ hk => (.inl hk))); have HK := asT (Kept.refl w (fun k_ => P0_ k_)); have HW0 := Aside0.mk hB.size; have HB := Aside0.mk hB; clear hB; have H := h; unfold slices_insertionSortOrdered_int.f at H; clear h; have H' := Aside0.mk H; clear H
 go_enter Tryd.func55, Tryd.ntmps55
 go_wp2
 go_loopg [6] k (fun kq v6 w' => ∃ (x0_1 : List Int) (x6_1 : Int), v6 = .int .i64 x6_1 ∧ Aside0 (slices_insertionSortOrdered_int.l0 kq x0_1 a1 a2 x6_1 = some r) ∧ Aside0 (kq ≤ k) ∧ Aside0 (Kd.R (Kd.int .i64) 3 w' w0.heap.size (fun k_ => (P0_ k_ ∨ w.heap.size ≤ k_)) u9000_ x0_1) ∧ Aside0 (Kept w w' (fun k_ => P0_ k_)) ∧ Aside0 (Below w0.heap.size w0 w'))
 case atStart => exact ⟨(l0), (wrap64 (a1 + 1)), rdT, H', ⟨Nat.le_refl _⟩, ⟨by (with_reducible repeat (first | apply Kd.R_alloc | apply Kd.R_drewN | apply Kd.R_drew)); exact HO0.out⟩, ⟨by repeat (first | (with_reducible first | exact HK.out | apply Kept.alloc | apply Kept.drewN | apply Kept.drew) | exact HK.out)⟩, ⟨hbT HB.out⟩⟩
 case round =>
  clear H'; (try clear p2); obtain ⟨x0_1, x6_1, rfl, HA, HK1, HO_0, HK, HB⟩ := hrel
  cases gk with
  | zero => exact absurd HA.out (by simp [slices_insertionSortOrdered_int.l0])
  | succ k1 =>
   have H := HA.out; clear HA
   simp only [slices_insertionSortOrdered_int.l0] at H
   by_cases c4 : x6_1 < a2
   ·rw [if_pos c4] at H
    have c4b0 : decide (x6_1 < a2) = true := decide_eq_true c4
    clear c4; have H' := Aside0.mk H; clear H
    go_wp2
    go_loopg [7] k1 (fun kq v7 w' => ∃ (x0_2 : List Int) (x7_2 : Int), v7 = .int .i64 x7_2 ∧ Aside0 (slices_insertionSortOrdered_int.l1 kq x0_2 a1 a2 x6_1 x7_2 = some r) ∧ Aside0 (kq ≤ k1) ∧ Aside0 (Kd.R (Kd.int .i64) 3 w' w0.heap.size (fun k_ => (P0_ k_ ∨ w.heap.size ≤ k_)) u9000_ x0_2) ∧ Aside0 (Kept w w' (fun k_ => P0_ k_)) ∧ Aside0 (Below w0.heap.size w0 w'))
    case atStart => exact ⟨(x0_1), (x6_1), rdT, H', ⟨Nat.le_refl _⟩, ⟨by (with_reducible repeat (first | apply Kd.R_alloc | apply Kd.R_drewN | apply Kd.R_drew)); exact HO_0.out⟩, ⟨by repeat (first | (with_reducible first | exact HK.out | apply Kept.alloc | apply Kept.drewN | apply Kept.drew) | exact HK.out)⟩, ⟨hbT HB.out⟩⟩
    case round =>
     clear H'; (try clear p2 c4 c4b0 p2); obtain ⟨x0_2, x7_2, rfl, HA, HK2, HO_0, HK, HB⟩ := hrel
     cases gk with
     | zero => exact absurd HA.out (by simp [slices_insertionSortOrdered_int.l1])
     | succ k2 =>
      have H := HA.out; clear HA
      simp only [slices_insertionSortOrdered_int.l1] at H
      by_cases c5 : x7_2 > a1
      ·rw [if_pos c5] at H
       have c5b0 : decide (a1 < x7_2) = true := decide_eq_true c5
       clear c5
       by_cases c6 : 0 ≤ x7_2
       ·rw [if_pos c6] at H
        have c6b0 : decide (0 ≤ x7_2) = true := decide_eq_true c6
        clear c6
        by_cases c7 : x7_2 < (x0_2.length : Int)
        ·rw [if_pos c7] at H
         have c7b0 : decide (x7_2 < (x0_2.length : Int)) = true := decide_eq_true c7
         clear c7; obtain ⟨ji8, hji8⟩ : ∃ j_ : Int, (wrap64 (x7_2 - 1)) = j_ := ⟨_, rfl⟩
         replace H : (if 0 ≤ (ji8) then (if (ji8) < (x0_2.length : Int) then ((cmp_Less_int.f (rd x0_2 x7_2) (rd x0_2 (ji8))).bind fun t188 => (if t188 = true then (slices_insertionSortOrdered_int.l1 k2 ((x0_2.set (x7_2 : Int).toNat (rd x0_2 (ji8))).set ((ji8) : Int).toNat (rd x0_2 x7_2)) a1 a2 x6_1 ji8) else (slices_insertionSortOrdered_int.l0 k2 x0_2 a1 a2 (wrap64 (x6_1 + 1))))) else (none)) else (none)) = some r := by first | (rw [hji8] at H; exact H) | (simp only [hji8] at H ⊢; exact H)
         have hji8w : (IntKind.i64.wrap (x7_2 - 1)) = ji8 := (i64_w _).trans hji8
         by_cases c9 : 0 ≤ (ji8)
         ·rw [if_pos c9] at H
          have c9b0 : decide (0 ≤ (ji8)) = true := decide_eq_true c9
          clear c9
          by_cases c10 : (ji8) < (x0_2.length : Int)
          ·rw [if_pos c10] at H
           have c10b0 : decide ((ji8) < (x0_2.length : Int)) = true := decide_eq_true c10
           clear c10; obtain ⟨t188, A11, H⟩ := be H
           by_cases c12 : t188 = true
           ·subst c12
            rw [if_pos rfl] at H; obtain ⟨y191, hy191⟩ : ∃ y_ : List Int, y_ = (x0_2.set (x7_2 : Int).toNat (rd x0_2 (ji8))) := ⟨_, rfl⟩
            replace H : (slices_insertionSortOrdered_int.l1 k2 (y191.set ((ji8) : Int).toNat (rd x0_2 x7_2)) a1 a2 x6_1 ji8) = some r := by first | (rw [hy191]; with_reducible exact H) | (have H2_ := (Option.bind_some _ _).symm.trans H; rw [hy191]; with_reducible exact H2_) | (have H2_ := (Option.bind_some _ _).symm.trans H; with_reducible exact H2_) | with_reducible exact H | (rw [hy191]; exact H) | exact H
            have Ny191 := Aside0.mk hy191; clear hy191; obtain ⟨y192, hy192⟩ : ∃ y_ : List Int, y_ = (y191.set ((ji8) : Int).toNat (rd x0_2 x7_2)) := ⟨_, rfl⟩
            replace H : (slices_insertionSortOrdered_int.l1 k2 y192 a1 a2 x6_1 ji8) = some r := by first | (rw [hy192]; with_reducible exact H) | (have H2_ := (Option.bind_some _ _).symm.trans H; rw [hy192]; with_reducible exact H2_) | (have H2_ := (Option.bind_some _ _).symm.trans H; with_reducible exact H2_) | with_reducible exact H | (rw [hy192]; exact H) | exact H
            have Ny192 := Aside0.mk hy192; clear hy192; have H' := Aside0.mk H; clear H
            try go_wp2
            replace HO_0 := asT (Kd.R_drew HO_0.out); replace HK := asT (Kept.drew HK.out); replace HB := asT (below_drew1 HB.out); obtain ⟨Ao16, co16, eo16⟩ := Kd.R_slice HO_0.out; (first | subst eo16 | (injection eo16 with f1_ f2_ f3_; have f4_ := f1_.symm; have f5_ := f3_.symm; clear f1_ f2_ f3_; subst f4_; subst f5_))
            have p186 : 0 ≤ (x7_2 : Int) := of_decide_eq_true asmT
            have q186 : x7_2 < (x0_2.length : Int) := of_decide_eq_true asmT
            obtain ⟨ad186, e186, hx186_0⟩ := Kd.at_int (Kd.R_reads' HO_0.out).2.2 x7_2 p186 q186
            cases e186
            replace p186 := eq_true p186; replace q186 := eq_true q186
            have p187 : 0 ≤ ((ji8) : Int) := of_decide_eq_true asmT
            have q187 : (ji8) < (x0_2.length : Int) := of_decide_eq_true asmT
            obtain ⟨ad187, e187, hx187_0⟩ := Kd.at_int (Kd.R_reads' HO_0.out).2.2 (ji8) p187 q187
            obtain rfl : ad186 = ad187 := (by injection e187)
            replace p187 := eq_true p187; replace q187 := eq_true q187
            refine start_ (n := 15) (S := fun w' => w'.cell? (ad186.add (x7_2).toNat) = some (.int .i64 (rd x0_2 x7_2)) ∧ w'.cell? (ad186.add ((ji8)).toNat) = some (.int .i64 (rd x0_2 (ji8)))) (ds := []) (bA 15 0) (by kernel_rfl) rfl rfl ⟨hx186_0, hx187_0⟩ (fun hHeld => ?_); refine with_tabW slices_insertionSortOrdered_int.tab4 slices_insertionSortOrdered_int.bits4 (fun HT_ HW_ => ?_)
            generalize wr.drew = w15 at HO_0 HK HB hx186_0 hx187_0 hHeld ⊢
            refine pA 0 16 15 1 HT_.out ?_ rfl rfl; refine pA 1 17 15 3 HT_.out ?_ rfl rfl; refine pA 2 18 15 7 HT_.out ?_ rfl rfl; refine pA 3 19 15 15 HT_.out ?_ rfl rfl; refine pA 4 20 15 31 HT_.out ?_ rfl rfl; refine pA 5 21 15 63 HT_.out ?_ rfl rfl; refine pA 6 22 15 127 HT_.out ?_ rfl rfl; refine pA 8 24 15 383 HT_.out ?_ rfl rfl; refine pA 9 25 15 895 HT_.out ?_ rfl rfl; refine pA 10 26 15 1919 HT_.out ?_ rfl rfl; refine pA 11 27 15 3967 HT_.out ?_ rfl rfl; refine tA 7 23 15 4095 HT_.out HW_.out hHeld ?_ rfl rfl; refine tA 12 28 15 8191 HT_.out HW_.out hHeld ?_ rfl rfl
            refine oA 13 29 15 16383 HT_.out (fun K hK => ?_) rfl rfl
            refine goes_ Tryd.func61 (by kernel_rfl) rfl #[.int .i64 (rd x0_2 x7_2), .int .i64 (rd x0_2 (ji8))] (by rfl) rfl rfl (by (try simp only [List.map_toArray, List.map_cons, List.map_nil]); first | done | (simp only [hji8]; rfl) | rfl | (simp only [List.length_drop, List.length_take]; rfl)) ?_
            (with_reducible refine (cmp_Less_int.calls (rd x0_2 x7_2) (rd x0_2 (ji8)) true _ A11.out).mono ?_); rintro e w' ⟨rfl, ⟨nd, rfl⟩⟩; refine ⟨_, rfl, ?_⟩
            refine hK.out _ _ ⟨hHeld.1, hHeld.2⟩ (fun hHeld => ?_)
            clear hK K
            refine nB 29 ?_ rfl; refine pA 14 30 15 32767 HT_.out ?_ rfl rfl
            refine done_ (done_of HT_.out (by kernel_rfl)) ?_
            try go_wp2
            (try (rw [drewN_self w15]; generalize hq_ : World.drewN w15 _ = w15; have n0_ : Aside0 (Kd.R (Kd.int .i64) 3 w15 w0.heap.size (fun k_ => (P0_ k_ ∨ w.heap.size ≤ k_)) (.slice (some ad186) x0_2.length co16) x0_2) := ⟨by rw [← hq_]; exact (roT HO_0.out)⟩; have n1_ : Aside0 (Kept w w15 (fun k_ => P0_ k_)) := ⟨by rw [← hq_]; exact (by repeat (first | (with_reducible first | exact HK.out | apply Kept.alloc | apply Kept.drewN | apply Kept.drew) | exact HK.out))⟩; have n2_ : Aside0 (Below w0.heap.size w0 w15) := ⟨by rw [← hq_]; exact (hbT HB.out)⟩; clear HO_0 HK HB hq_; have HO_0 := n0_; have HK := n1_; have HB := n2_; clear n0_ n1_ n2_))
            replace HO_0 := asT (Kd.R_drew HO_0.out); replace HK := asT (Kept.drew HK.out); replace HB := asT (below_drew1 HB.out)
            have p189 : 0 ≤ ((ji8) : Int) := of_decide_eq_true asmT
            have q189 : (ji8) < (x0_2.length : Int) := of_decide_eq_true asmT
            obtain ⟨ad189, e189, hx189_0⟩ := Kd.at_int (Kd.R_reads' HO_0.out).2.2 (ji8) p189 q189
            obtain rfl : ad186 = ad189 := (by injection e189)
            replace p189 := eq_true p189; replace q189 := eq_true q189
            have p190 : 0 ≤ (x7_2 : Int) := of_decide_eq_true asmT
            have q190 : x7_2 < (x0_2.length : Int) := of_decide_eq_true asmT
            obtain ⟨ad190, e190, hx190_0⟩ := Kd.at_int (Kd.R_reads' HO_0.out).2.2 x7_2 p190 q190
            obtain rfl : ad186 = ad190 := (by injection e190)
            replace p190 := eq_true p190; replace q190 := eq_true q190
            have p13 : 0 ≤ (x7_2 : Int) := of_decide_eq_true asmT
            have q13 : (x7_2 : Int) < ((x0_2.length : Int) : Int) := of_decide_eq_true asmT
            obtain ⟨go13, co13, eo13, gb13, gl13, cl13, HG13⟩ := Kd.R_form HO_0.out (by omega)
            (first | cases eo13 | (injection eo13 with ea_ en_ ec_; (first | subst ea_ | (injection ea_ with ea_; subst ea_)); subst ec_; clear en_))
            have GB13 := Aside0.mk gb13; have GG13 := Aside0.mk HG13; clear gb13 gl13 HG13; have HMgo13 := asT (show (P0_ go13 ∨ w.heap.size ≤ go13) from (HO_0.out.1 _ rfl))
            (first | simp only [add_plain] at hx186_0 | skip)
            (first | simp only [add_plain] at hx187_0 | skip)
            (first | simp only [add_plain] at hx189_0 | skip)
            (first | simp only [add_plain] at hx190_0 | skip)
            obtain ⟨hx13_0, hf13_0⟩ := Kd.R_celln 0 HO_0.out (x7_2 : Int) p13 q13; replace p13 := eq_true p13; replace q13 := eq_true q13; have HP18 := Kd.R_putn HO_0.out (x7_2 : Int) (rd x0_2 (ji8)); rw [← Ny191.out] at HP18; have HQ18 := Aside0.mk HP18; clear HP18
            have p14 : 0 ≤ ((ji8) : Int) := of_decide_eq_true asmT
            have q14 : ((ji8) : Int) < ((x0_2.length : Int) : Int) := of_decide_eq_true asmT
            obtain ⟨hx14_0, hf14_0⟩ := Kd.R_celln 0 HQ18.out ((ji8) : Int) p14 q14; replace p14 := eq_true p14; replace q14 := eq_true q14; have HP19 := Kd.R_putn HQ18.out ((ji8) : Int) (rd x0_2 x7_2); rw [← Ny192.out] at HP19; have HQ19 := Aside0.mk HP19; clear HP19
            refine start_ (n := 18) (S := fun w' => w'.cell? ⟨go13, ((ji8)).toNat, none⟩ = some (.int .i64 (rd x0_2 (ji8))) ∧ w'.cell? ⟨go13, (x7_2).toNat, none⟩ = some (.int .i64 (rd x0_2 x7_2))) (ds := [15, 17]) (bA 18 0) (by kernel_rfl) rfl rfl ⟨hx189_0, hx190_0⟩ (fun hHeld => ?_); refine with_tabW slices_insertionSortOrdered_int.tab6 slices_insertionSortOrdered_int.bits6 (fun HT_ HW_ => ?_)
            generalize w15.drew = w17 at HO_0 HK HB GG13 HQ18 HQ19 hf13_0 hf14_0 hx13_0 hx14_0 hx186_0 hx187_0 hx189_0 hx190_0 hHeld ⊢
            refine pA 0 33 18 1 HT_.out ?_ rfl rfl; refine pA 1 34 18 3 HT_.out ?_ rfl rfl; refine pA 2 35 18 7 HT_.out ?_ rfl rfl; refine pA 3 36 18 15 HT_.out ?_ rfl rfl; refine pA 4 37 18 31 HT_.out ?_ rfl rfl; refine pA 5 38 18 63 HT_.out ?_ rfl rfl; refine pA 6 39 18 127 HT_.out ?_ rfl rfl; refine pA 7 40 18 255 HT_.out ?_ rfl rfl; refine pA 8 41 18 511 HT_.out ?_ rfl rfl; refine pA 10 43 18 1535 HT_.out ?_ rfl rfl; refine pA 11 44 18 3583 HT_.out ?_ rfl rfl; refine pA 12 45 18 7679 HT_.out ?_ rfl rfl; refine tA 9 42 18 8191 HT_.out HW_.out hHeld ?_ rfl rfl; refine tA 13 46 18 16383 HT_.out HW_.out hHeld ?_ rfl rfl; refine pA 14 47 18 32767 HT_.out ?_ rfl rfl
            refine last_ (i := 15) (N := none) (bA 18 65535) rfl rfl (one_of HT_.out (by kernel_rfl)) (by decide) (fun K hK => ?_)
            refine skip_ (w1 := ?_) (by rfl) rfl ?_ ?_
            rotate_left
            ·go_simp
             rfl
            refine hK.out _ _ ?_
            clear hK K
            refine pA 16 48 18 131071 HT_.out ?_ rfl rfl
            refine last_ (i := 17) (N := none) (bA 18 262143) rfl rfl (one_of HT_.out (by kernel_rfl)) (by decide) (fun K hK => ?_)
            refine skip_ (w1 := ?_) (by rfl) rfl ?_ ?_
            rotate_left
            ·go_simp
             rfl
            refine hK.out _ _ ?_
            clear hK K
            refine done_ (done_of HT_.out (by kernel_rfl)) ?_
            try go_wp2
            go_roundg k2
            case measure => have := HK1.out; have := HK2.out; omega
            case rel => exact ⟨(y192), (ji8), (by first | rfl | (simp; done) | (simp only [← hji8] <;> (first | rfl | simp)) | (simp [*]; done)), H', ⟨by have := HK1.out; have := HK2.out; omega⟩, ⟨by (with_reducible repeat (first | apply Kd.R_alloc | apply Kd.R_drewN | apply Kd.R_drew)); exact HQ19.out⟩, ⟨by repeat (first | (with_reducible first | exact HK.out | apply Kept.alloc | apply Kept.drewN | apply Kept.drew | refine Kept.setCell ?_ HMgo13.out _ | refine Kept.setCell ?_ HMgo13.out _) | exact HK.out)⟩, ⟨by repeat (first | (with_reducible first | exact HB.out | apply below_alloc | apply pw_below_drewN | apply below_drew1 | refine below_set ?_ GB13.out | refine below_set ?_ GB13.out) | exact HB.out)⟩⟩
           ·replace c12 := Bool.eq_false_iff.mpr c12
            subst c12; rw [if_neg nF] at H; have H' := Aside0.mk H; clear H
            try go_wp2
            replace HO_0 := asT (Kd.R_drew HO_0.out); replace HK := asT (Kept.drew HK.out); replace HB := asT (below_drew1 HB.out); obtain ⟨Ao21, co21, eo21⟩ := Kd.R_slice HO_0.out; (first | subst eo21 | (injection eo21 with f1_ f2_ f3_; have f4_ := f1_.symm; have f5_ := f3_.symm; clear f1_ f2_ f3_; subst f4_; subst f5_))
            have p186 : 0 ≤ (x7_2 : Int) := of_decide_eq_true asmT
            have q186 : x7_2 < (x0_2.length : Int) := of_decide_eq_true asmT
            obtain ⟨ad186, e186, hx186_0⟩ := Kd.at_int (Kd.R_reads' HO_0.out).2.2 x7_2 p186 q186
            cases e186
            replace p186 := eq_true p186; replace q186 := eq_true q186
            have p187 : 0 ≤ ((ji8) : Int) := of_decide_eq_true asmT
            have q187 : (ji8) < (x0_2.length : Int) := of_decide_eq_true asmT
            obtain ⟨ad187, e187, hx187_0⟩ := Kd.at_int (Kd.R_reads' HO_0.out).2.2 (ji8) p187 q187
            obtain rfl : ad186 = ad187 := (by injection e187)
            replace p187 := eq_true p187; replace q187 := eq_true q187
            refine start_ (n := 15) (S := fun w' => w'.cell? (ad186.add (x7_2).toNat) = some (.int .i64 (rd x0_2 x7_2)) ∧ w'.cell? (ad186.add ((ji8)).toNat) = some (.int .i64 (rd x0_2 (ji8)))) (ds := []) (bA 15 0) (by kernel_rfl) rfl rfl ⟨hx186_0, hx187_0⟩ (fun hHeld => ?_); refine with_tabW slices_insertionSortOrdered_int.tab4 slices_insertionSortOrdered_int.bits4 (fun HT_ HW_ => ?_)
            generalize wr.drew = w20 at HO_0 HK HB hx186_0 hx187_0 hHeld ⊢
            refine pA 0 16 15 1 HT_.out ?_ rfl rfl; refine pA 1 17 15 3 HT_.out ?_ rfl rfl; refine pA 2 18 15 7 HT_.out ?_ rfl rfl; refine pA 3 19 15 15 HT_.out ?_ rfl rfl; refine pA 4 20 15 31 HT_.out ?_ rfl rfl; refine pA 5 21 15 63 HT_.out ?_ rfl rfl; refine pA 6 22 15 127 HT_.out ?_ rfl rfl; refine pA 8 24 15 383 HT_.out ?_ rfl rfl; refine pA 9 25 15 895 HT_.out ?_ rfl rfl; refine pA 10 26 15 1919 HT_.out ?_ rfl rfl; refine pA 11 27 15 3967 HT_.out ?_ rfl rfl; refine tA 7 23 15 4095 HT_.out HW_.out hHeld ?_ rfl rfl; refine tA 12 28 15 8191 HT_.out HW_.out hHeld ?_ rfl rfl
            refine oA 13 29 15 16383 HT_.out (fun K hK => ?_) rfl rfl
            refine goes_ Tryd.func61 (by kernel_rfl) rfl #[.int .i64 (rd x0_2 x7_2), .int .i64 (rd x0_2 (ji8))] (by rfl) rfl rfl (by (try simp only [List.map_toArray, List.map_cons, List.map_nil]); first | done | (simp only [hji8]; rfl) | rfl | (simp only [List.length_drop, List.length_take]; rfl)) ?_
            (with_reducible refine (cmp_Less_int.calls (rd x0_2 x7_2) (rd x0_2 (ji8)) false _ A11.out).mono ?_); rintro e w' ⟨rfl, ⟨nd, rfl⟩⟩; refine ⟨_, rfl, ?_⟩
            refine hK.out _ _ ⟨hHeld.1, hHeld.2⟩ (fun hHeld => ?_)
            clear hK K
            refine nB 29 ?_ rfl; refine pA 14 30 15 32767 HT_.out ?_ rfl rfl
            refine done_ (done_of HT_.out (by kernel_rfl)) ?_
            try go_wp2
            go_roundg k2
            case measure => have := HK1.out; have := HK2.out; omega
            case rel => exact ⟨(x0_2), (wrap64 (x6_1 + 1)), rdT, H', ⟨by have := HK1.out; have := HK2.out; omega⟩, ⟨by (with_reducible repeat (first | apply Kd.R_alloc | apply Kd.R_drewN | apply Kd.R_drew)); exact HO_0.out⟩, ⟨by repeat (first | (with_reducible first | exact HK.out | apply Kept.alloc | apply Kept.drewN | apply Kept.drew) | exact HK.out)⟩, ⟨hbT HB.out⟩⟩
          ·rw [if_neg c10] at H
           exact absurd H (by simp)
         ·rw [if_neg c9] at H
          exact absurd H (by simp)
        ·rw [if_neg c7] at H
         exact absurd H (by simp)
       ·rw [if_neg c6] at H
        exact absurd H (by simp)
      ·rw [if_neg c5] at H
       have c5b0 : decide (a1 < x7_2) = false := decide_eq_false c5
       clear c5; have H' := Aside0.mk H; clear H
       try go_wp2
       replace HO_0 := asT (Kd.R_drew HO_0.out); replace HK := asT (Kept.drew HK.out); replace HB := asT (below_drew1 HB.out)
       refine start_ (n := 15) (S := fun w' => True) (ds := []) (bA 15 0) (by kernel_rfl) rfl rfl trivial (fun hHeld => ?_); refine with_tabW slices_insertionSortOrdered_int.tab4 slices_insertionSortOrdered_int.bits4 (fun HT_ HW_ => ?_)
       generalize wr.drew = w22 at HO_0 HK HB hHeld ⊢
       refine pA 0 16 15 1 HT_.out ?_ rfl rfl; refine pA 1 17 15 3 HT_.out ?_ rfl rfl; refine pA 2 18 15 7 HT_.out ?_ rfl rfl; refine pA 3 19 15 15 HT_.out ?_ rfl rfl; refine uA 4 20 15 31 HT_.out ?_ rfl rfl; refine uA 5 21 15 63 HT_.out ?_ rfl rfl; refine uA 6 22 15 127 HT_.out ?_ rfl rfl; refine uA 7 23 15 255 HT_.out ?_ rfl rfl; refine uA 8 24 15 511 HT_.out ?_ rfl rfl; refine uA 9 25 15 1023 HT_.out ?_ rfl rfl; refine uA 10 26 15 2047 HT_.out ?_ rfl rfl; refine uA 11 27 15 4095 HT_.out ?_ rfl rfl; refine uA 12 28 15 8191 HT_.out ?_ rfl rfl; refine uA 13 29 15 16383 HT_.out ?_ rfl rfl; refine pA 14 30 15 32767 HT_.out ?_ rfl rfl
       refine done_ (done_of HT_.out (by kernel_rfl)) ?_
       try go_wp2
       go_roundg k2
       case measure => have := HK1.out; have := HK2.out; omega
       case rel => exact ⟨(x0_2), (wrap64 (x6_1 + 1)), rdT, H', ⟨by have := HK1.out; have := HK2.out; omega⟩, ⟨by (with_reducible repeat (first | apply Kd.R_alloc | apply Kd.R_drewN | apply Kd.R_drew)); exact HO_0.out⟩, ⟨by repeat (first | (with_reducible first | exact HK.out | apply Kept.alloc | apply Kept.drewN | apply Kept.drew) | exact HK.out)⟩, ⟨hbT HB.out⟩⟩
   ·rw [if_neg c4] at H
    have c4b0 : decide (x6_1 < a2) = false := decide_eq_false c4
    clear c4
    obtain rfl := Option.some.inj H
    go_wp2
    first | go_end0 | ((try simp only [Exit.inBlock, Exit.then]); refine bodyPost_ret (results_none rfl _ _ _) rfl ?_)
    exact ⟨rlT, by (with_reducible repeat (first | apply Kd.R_alloc | apply Kd.R_drewN | apply Kd.R_drew)); exact HO_0.out, hbT HB.out, by repeat (first | (with_reducible first | exact HK.out | apply Kept.alloc | apply Kept.drewN | apply Kept.drew) | exact HK.out)⟩

/-! ### impl_IsRanking: function 24 -/
set_option maxRecDepth 100000 in
set_option maxHeartbeats 4000000 in
theorem len64_few (n : Nat) (hn : n = 1 ∨ n = 2 ∨ n = 3 ∨ n = 4 ∨ n = 5) : ∃ m : Int, ∀ w, Calls Tryd.prog 65 #[.int .u64 n] w fun e w' => e = .returned (.int .i64 m) ∧ w' = w := by
  rcases hn with rfl | rfl | rfl | rfl | rfl
  · refine ⟨1, fun w => ?_⟩
    go_enter Tryd.func65, Tryd.ntmps65
    go_wp2
    go_ret
    exact ⟨by kernel_rfl, rfl⟩
  · refine ⟨2, fun w => ?_⟩
    go_enter Tryd.func65, Tryd.ntmps65
    go_wp2
    go_ret
    exact ⟨by kernel_rfl, rfl⟩
  · refine ⟨2, fun w => ?_⟩
    go_enter Tryd.func65, Tryd.ntmps65
    go_wp2
    go_ret
    exact ⟨by kernel_rfl, rfl⟩
  · refine ⟨3, fun w => ?_⟩
    go_enter Tryd.func65, Tryd.ntmps65
    go_wp2
    go_ret
    exact ⟨by kernel_rfl, rfl⟩
  · refine ⟨3, fun w => ?_⟩
    go_enter Tryd.func65, Tryd.ntmps65
    go_wp2
    go_ret
    exact ⟨by kernel_rfl, rfl⟩
set_option maxRecDepth 100000 in
set_option maxHeartbeats 4000000 in
theorem len_few (n : Nat) (hn : n = 1 ∨ n = 2 ∨ n = 3 ∨ n = 4 ∨ n = 5) : ∃ m : Int, ∀ w, Calls Tryd.prog 49 #[.int .u64 n] w fun e w' => e = .returned (.int .i64 m) ∧ Drawn0 w w' := by
  obtain ⟨m, hm⟩ := len64_few n hn
  refine ⟨m, fun w => ?_⟩
  go_enter Tryd.func49, Tryd.ntmps49
  go_wp2_with (go_at_call 65; refine (hm _).mono ?_; rintro e w1 ⟨rfl, rfl⟩)
  go_ret
  exact ⟨rfl, Drawn0.refl _⟩
theorem infoI : (Tryd.prog.info? 3).map (fun i => (i.zero, i.size, i.bytes)) = some (some (.int .i64 0), 1, 8) := by kernel_rfl
attribute [local go_sem] Oper.semAt_some
/-- the first k of the numbers -/
theorem take_snoc_getD (zs : List Int) (k : Nat) (h : k < zs.length) : zs.take (k + 1) = zs.take k ++ [zs[k]] := List.take_succ_eq_append_getElem h

set_option maxRecDepth 100000 in
set_option maxHeartbeats 2000000 in
theorem values_each (n : Nat) (hn : 1 ≤ n) (l Bs n₀ : Nat) (sv : Value) (zs : List Int) (hreach : zs.length * 8 ≤ 140737488351232) (J Jx : List Int → World → Prop)
    (hY : ∀ pre x W, J pre W → pre.length < zs.length → YieldAt Fence.wide (n - 1) Tryd.prog l #[.int .i64 x] W fun e W' =>
      (e = .returned (.bool true) ∧ J (pre ++ [x]) W' ∧ Below n₀ W W') ∨ (e = .returned (.bool false) ∧ Jx (pre ++ [x]) W'))
    (W : World) (A : Option Addr) (c : Nat) (hsv : sv = .slice A zs.length c) (hBs : W.cell? ⟨Bs, 0, none⟩ = some sv)
    (hc : ∀ (j : Nat) (hj : j < zs.length), ∃ ad, A = some ad ∧ (ad.add j).block < n₀ ∧ W.cell? (ad.add j) = some (.int .i64 zs[j])) (h0 : J [] W) :
    CallsIn Fence.wide n Tryd.prog 42 #[.func (.yield l) #[] #[], .pointer (some ⟨Bs, 0, none⟩)] W fun e W' => (∃ v, e = .returned v) ∧
      (J zs W' ∨ (∃ pre, pre <+: zs ∧ Jx pre W')) := by
  subst hsv
  refine callsIn_of_wp Tryd.func42 rfl trivial ?_ rfl
  simp only [Tryd.ntmps42, List.size_toArray, List.length_cons, List.length_nil, Nat.reduceAdd, Nat.reduceSub, Array.replicate_succ, Array.replicate_zero, List.push_toArray, List.append_toArray, List.nil_append, List.cons_append]
  gi_wp2
  gi_loopw [7] (fun i wr => ∃ k : Nat, k ≤ zs.length ∧ i = .int .i64 k ∧ J (zs.take k) wr ∧ Below n₀ W wr)
    (fun i _ => zs.length - (intOf i).toNat)
  case atStart => exact ⟨0, Nat.zero_le _, rfl, by simpa using h0, Below.refl _ _⟩
  case round =>
    obtain ⟨k, hk, rfl, hJs, hnx⟩ := hrel
    by_cases hlt : k < zs.length
    · obtain ⟨ad, rfl, hb, hcl⟩ := hc k hlt
      have hcx : wr.cell? (ad.add k) = some (.int .i64 zs[k]) := (hnx.cell (p := ad.add k) hb).trans hcl
      obtain ⟨fn, tmps, assign, body, hy, hR⟩ := hY _ zs[k] wr hJs (by rw [List.length_take]; omega)
      gi_wp2
      refine hR.mono ?_
      rintro e W3 (⟨rfl, hJ3, hk3⟩ | ⟨rfl, hJx3⟩)
      · gi_wp2
        go_roundw
        case rel => exact ⟨k + 1, by omega, by simp, by rw [take_snoc_getD zs k hlt]; exact hJ3, hnx.trans hk3⟩
        case measure => simp [intOf]; omega
      · gi_wp2
        refine bodyPost_ret (results_none rfl _ _ _) rfl ?_
        exact ⟨⟨_, rfl⟩, .inr ⟨_, by rw [← take_snoc_getD zs k hlt]; exact List.take_prefix _ _, hJx3⟩⟩
    · obtain rfl : k = zs.length := by omega
      gi_wp2
      go_end0
      exact ⟨⟨_, rfl⟩, .inl (by simpa using hJs)⟩


theorem heap_setCell_box {W : World} {B : Nat} {v : Value} {t : TypeId} (h : W.heap[B]? = some (.cells #[v] t (0, 0))) (v' : Value) : (W.setCell ⟨B, 0, none⟩ v').heap[B]? = some (.cells #[v'] t (0, 0)) := Boxed.set v' h
theorem heap_setCell_ne {W : World} {B k : Nat} (v' : Value) (h : k ≠ B) : (W.setCell ⟨B, 0, none⟩ v').heap[k]? = W.heap[k]? := Below.heap_setCell W ⟨B, 0, none⟩ v' k h
/-- what the row that is being built is, in the box Bs -/
def Built (base Bs : Nat) (pre : List Int) (W : World) : Prop := ∃ v, W.heap[Bs]? = some (.cells #[v] 28 (0, 0)) ∧ W.ownsRow base 3 1 v pre.length (encs (Value.int .i64) pre)
theorem built_kept {base Bs : Nat} {pre : List Int} {W W' : World} {row : Option Nat} (h : Built base Bs pre W) (hg : W.grownBy W' row) (hr : ∀ r, row = some r → ∃ o : Obj, W.heap[r]? = some o ∧ o.isCells = false) : Built base Bs pre W' := by
  obtain ⟨v, hv, ho⟩ := h
  refine ⟨v, (grownBy_keeps_cells hg hr hv rfl).trans hv, own_move ho ?_⟩
  intro k hk
  obtain ⟨cells, hc⟩ := own_typed ho k hk
  exact grownBy_keeps_cells hg hr hc rfl

set_option maxRecDepth 100000 in
set_option maxHeartbeats 4000000 in
theorem appendSeq_each (n : Nat) (hn : 3 ≤ n) (g : Nat) (lb : Array Value) (eg : ∀ args w, (callFunc g args).run Tryd.prog w = .ok (.enter g args) w) (zs : List Int) (hz : zs.length ≤ 1000) (w : World)
    (hseq : SeqStopsK Fence.wide (n - 1) Tryd.prog g lb (fun x : Int => #[Value.int .i64 x]) (Below w.heap.size) (fun ys => ys = zs) (fun pre => pre <+: zs) zs.length w) :
    CallsIn Fence.wide n Tryd.prog 47 #[.slice none 0 0, .func (.func g) #[] lb] w fun e w' => ∃ v, e = .returned v ∧ w'.ownsRow w.heap.size 3 1 v zs.length (encs (Value.int .i64) zs) ∧ Below w.heap.size w w' := by
  have h1 : 1 ≤ n := by omega
  obtain ⟨i0, hi, hzz⟩ := Option.map_eq_some_iff.1 infoI
  simp only [Prod.mk.injEq] at hzz
  obtain ⟨hz0, hz1, hz2⟩ := hzz
  refine callsIn_of_wp_marks Tryd.func47 rfl trivial ?_ rfl
  simp only [Tryd.ntmps47, List.size_toArray, List.length_cons, List.length_nil, Nat.reduceAdd, Nat.reduceSub, Array.replicate_succ, Array.replicate_zero, List.push_toArray, List.append_toArray, List.nil_append, List.cons_append]
  gi_wp2
  have hB0 : Below w.heap.size w (w.alloc (.cells #[.slice none 0 0] 28)) := (Below.refl _ w).alloc (Nat.le_refl _) _
  refine wpIn_rangeFunc_ownG rfl h1 (gf := g) (lb := lb) rfl trivial eg hseq belowK_t (belowK_b (by simp)) hB0 (fun _ => rfl)
    (fun pre W => Built w.heap.size w.heap.size pre W ∧ Below w.heap.size w W)
    (fun _ _ _ => False)
    (OwnFrom.and (fun s A B row hs hg hr => built_kept hs hg (fun r e => (hr r e).2)) (ownFrom_below (Nat.le_refl _) (by simp)))
    (fun _ _ _ _ _ hs _ _ => hs)
    ⟨⟨_, World.alloc_heap_new w _, ⟨rfl, .inl ⟨rfl, rfl⟩⟩⟩, hB0⟩
    (fun x => { tmps := #[.slice none 0 0, .func (.func g) #[] lb, .pointer (some ⟨w.heap.size, 0, none⟩), undef, .slice none 0 0, .int .i64 x, .func (.func g) #[] lb, .int .i64 x, undef, undef, undef, undef, undef], defers := [] }) ?assign ?body ?done ?stop
  case assign =>
    intro l x W K hK
    gi_wp2
    exact hK
  case body =>
    rintro l pre x W ⟨⟨v, hv, ho⟩, hB⟩ hlen
    have hc : W.cell? ⟨w.heap.size, 0, none⟩ = some v := by simp [World.cell?, hv]
    have hW := hB.size
    have hBs : w.heap.size < W.heap.size := (Array.getElem?_eq_some_iff.1 hv).1
    have hnb : some w.heap.size ≠ v.ownBlock := by
      intro e
      obtain ⟨cells, hcc⟩ := own_typed ho _ e.symm
      rw [hv] at hcc
      exact absurd (Obj.cells.inj (Option.some.inj hcc)).2.1 (by decide)
    gi_wp2_with (first
    | (gi_at_builtin; refine wpListIn_append_own _ rfl _ _ 28 rfl w.heap.size 3 i0 (.int .i64 0) 1 8 Tryd.underlying28 hi hz0 hz1 hz2 rfl (by decide) _ _ _ rfl (ho.alloc _) ⟨W.heap.size, 0, none⟩ 1 1 [.int .i64 x] rfl rfl (cell_one_new _ _ _) (by simp [Value.oneCell']) (by simp only [maxLen]; omega) (by omega) (by simp; omega) ?_; intro v' w3 hown' hg3 _
       have hv3 : w3.heap[w.heap.size]? = some (.cells #[v] 28 (0, 0)) := (hg3.block _ (by simp; omega) hnb).trans ((Below.heap_alloc _ _ _ hBs).trans hv)
       have hc3 : w3.cell? ⟨w.heap.size, 0, none⟩ = some v := by simp [World.cell?, hv3]
       have hf3 : w3.frozen? ⟨w.heap.size, 0, none⟩ = false := by simp [World.frozen?, hv3]
       obtain ⟨g', cap', cur', rfl, _⟩ : ∃ (g' cap' : Nat) (cur' : Array Value), v' = .slice (some ⟨g', 0, none⟩) (pre.length + 1) cap' ∧ cur' = cur' := by
         rcases hown'.2 with ⟨_, h0⟩ | ⟨g', cap', cur', rfl, _⟩
         · exact absurd h0 (by omega)
         · exact ⟨g', cap', cur', rfl, rfl⟩
       go_frame))
    have hg3' : (W.alloc (.cells #[.int .i64 x] 3)).grownBy w3 v.ownBlock := hg3
    have hl3 : (pre ++ [x]).length = pre.length + 1 := by simp
    have hB3 : Below w.heap.size W w3 := ((Below.refl _ W).alloc hW _).grown hg3' (by simp; omega) (fun k e => own_base ho k e)
    have hK3 : KeepsFrom (w.heap.size + 1) W w3 := (((KeepsOthers.alloc W (.cells #[.int .i64 x] 3)).trans (KeepsOthers.of_grownBy hg3' (fun j o e ho' => by
      obtain ⟨cells, hcc⟩ := own_typed (ho.alloc (.cells #[.int .i64 x] 3)) j e
      rw [ho'] at hcc
      obtain rfl := Option.some.inj hcc
      rfl))).from _)
    have hne' : some w.heap.size ≠ (Value.slice (some ⟨g', 0, none⟩) (pre.length + 1) cap').ownBlock := by
      intro e
      obtain ⟨cells, hcc⟩ := own_typed hown' _ e.symm
      rw [hv3] at hcc
      exact absurd (Obj.cells.inj (Option.some.inj hcc)).2.1 (by decide)
    refine ⟨hK3.trans ((KeepsOthers.setCell _ _ _).from _), hB3.setCell (p := ⟨w.heap.size, 0, none⟩) (Nat.le_refl _) _, ⟨_, heap_setCell_box hv3 _, ?_⟩, (hB.trans hB3).setCell (p := ⟨w.heap.size, 0, none⟩) (Nat.le_refl _) _⟩
    rw [hl3, show encs (Value.int .i64) (pre ++ [x]) = encs (Value.int .i64) pre ++ [.int .i64 x] by simp [encs]]
    refine own_move hown' (fun k hk => ?_)
    exact heap_setCell_ne _ (fun e => hne' (by rw [hk, e]))
  case done =>
    rintro D ys W hD rfl ⟨⟨v, hv, ho⟩, hB⟩ hK
    have hc : W.cell? ⟨w.heap.size, 0, none⟩ = some v := by simp [World.cell?, hv]
    have hf : W.frozen? ⟨w.heap.size, 0, none⟩ = false := by simp [World.frozen?, hv]
    obtain ⟨v2, hv2, ho2⟩ := built_kept (W' := W.putObj D (.deferred none)) ⟨_, hv, ho⟩ (grownBy_putObj' _ D _) (fun r e => by cases e; exact ⟨_, hK, rfl⟩)
    rw [World.putObj_heap_other (by simp at hD; omega), hv] at hv2
    obtain rfl : v = v2 := by simpa using hv2
    have hb2 := hB.trans (belowK_b (w := w) (Nat.le_refl _) W D _ (.deferred none) (by simp at hD; omega) hK rfl rfl)
    rcases ho.2 with ⟨rfl, hz0⟩ | ⟨g', cap', cur', rfl, _⟩
    · obtain rfl : ys = [] := List.eq_nil_of_length_eq_zero hz0
      gi_wp2
      refine ⟨by simp, .inl ⟨_, _, rfl, run_takeDeferred hK, ?_⟩⟩
      refine ⟨_, results_tmp (t := 4) rfl _ _ _, ?_⟩
      exact ⟨_, rfl, ho2, hb2⟩
    · gi_wp2
      refine ⟨by simp, .inl ⟨_, _, rfl, run_takeDeferred hK, ?_⟩⟩
      refine ⟨_, results_tmp (t := 4) rfl _ _ _, ?_⟩
      exact ⟨_, rfl, ho2, hb2⟩
  case stop =>
    rintro D c pre W _ _ h _
    exact h.elim


set_option maxRecDepth 100000 in
set_option maxHeartbeats 4000000 in
theorem collect_each (n : Nat) (hn : 4 ≤ n) (g : Nat) (lb : Array Value) (eg : ∀ args w, (callFunc g args).run Tryd.prog w = .ok (.enter g args) w) (zs : List Int) (hz : zs.length ≤ 1000) (w : World)
    (hseq : SeqStopsK Fence.wide (n - 1 - 1) Tryd.prog g lb (fun x : Int => #[Value.int .i64 x]) (Below w.heap.size) (fun ys => ys = zs) (fun pre => pre <+: zs) zs.length w) :
    CallsIn Fence.wide n Tryd.prog 40 #[.func (.func g) #[] lb] w fun e w' => ∃ v, e = .returned v ∧ w'.ownsRow w.heap.size 3 1 v zs.length (encs (Value.int .i64) zs) ∧ Below w.heap.size w w' := by
  refine callsIn_of_wp Tryd.func40 rfl trivial ?_ rfl
  simp only [Tryd.ntmps40, List.size_toArray, List.length_cons, List.length_nil, Nat.reduceAdd, Nat.reduceSub, Array.replicate_succ, Array.replicate_zero, List.push_toArray, List.append_toArray, List.nil_append, List.cons_append]
  have hf : Fence.wide.fn 47 := trivial
  have h1 : 1 ≤ n := by omega
  gi_wp2_with (gi_at_call 47; refine (appendSeq_each (n - 1) (by omega) g lb eg zs hz _ hseq).mono ?_; rintro e w' ⟨v, rfl, ho, hb⟩)
  go_ret
  exact ⟨v, rfl, ho, hb⟩

set_option maxRecDepth 100000 in
set_option maxHeartbeats 4000000 in
/-- the sort of a few numbers: insertion -/
theorem pdq_few (k : Nat) (P0_ : Nat → Prop) (u : Value) (l0 r : List Int) (a1 : Int) (hl : l0.length ≤ 12) (w0 w : World) (hB : Below w0.heap.size w0 w) (ho0 : Kd.R (Kd.int .i64) 3 w w0.heap.size P0_ u l0) (h : slices_insertionSortOrdered_int.f k l0 0 l0.length = some r) :
    Calls Tryd.prog 48 #[u, .int .i64 0, .int .i64 l0.length, .int .i64 a1] w fun e w' => e = .returned (.tuple #[]) ∧ Kd.R (Kd.int .i64) 3 w' w0.heap.size (fun k_ => (P0_ k_ ∨ w.heap.size ≤ k_)) u r ∧ Below w0.heap.size w0 w' ∧ Kept w w' (fun k_ => P0_ k_) := by
  go_enter Tryd.func48, Tryd.ntmps48
  go_wp2
  go_loopw [1, 2] (fun x y wr => x = .int .i64 0 ∧ y = .int .i64 l0.length ∧ wr = w) (fun _ _ _ => 0)
  case atStart => exact ⟨rfl, rfl, rfl⟩
  case round =>
    obtain ⟨rfl, rfl, rfl⟩ := hrel
    have hw : wrap64 ((l0.length : Int) - 0) = l0.length := by unfold wrap64; omega
    have hd : decide ((l0.length : Int) ≤ 12) = true := decide_eq_true (by omega)
    go_wp2_with (go_at_call 55; refine (slices_insertionSortOrdered_int.calls k P0_ u l0 0 l0.length r w0 _ hB ho0 h).mono ?_; rintro e w' ⟨rfl, hpost⟩)
    refine bodyPost_ret (results_none rfl _ _ _) rfl ?_
    exact ⟨rfl, hpost⟩

set_option maxRecDepth 100000 in
set_option maxHeartbeats 4000000 in
theorem sort_few (k : Nat) (P0_ : Nat → Prop) (A : Option Addr) (c : Nat) (l0 r : List Int) (hl : l0.length ≤ 12) (hLen : ∃ m : Int, ∀ w, Calls Tryd.prog 49 #[.int .u64 l0.length] w fun e w' => e = .returned (.int .i64 m) ∧ Drawn0 w w') (w0 w : World) (hB : Below w0.heap.size w0 w) (ho0 : Kd.R (Kd.int .i64) 3 w w0.heap.size P0_ (.slice A l0.length c) l0) (h : slices_insertionSortOrdered_int.f k l0 0 l0.length = some r) :
    Calls Tryd.prog 41 #[.slice A l0.length c] w fun e w' => e = .returned (.tuple #[]) ∧ Kd.R (Kd.int .i64) 3 w' w0.heap.size (fun _ => True) (.slice A l0.length c) r ∧ Below w0.heap.size w0 w' := by
  obtain ⟨m, hm⟩ := hLen
  go_enter Tryd.func41, Tryd.ntmps41
  go_wp2_with (first | (go_at_call 49; refine (hm _).mono ?_; rintro e w1 ⟨rfl, ⟨q, rfl⟩⟩) | (go_at_call 48; refine (pdq_few k P0_ _ l0 r m hl w0 _ (pw_below_drewN hB q) (Kd.R_drewN ho0 q) h).mono ?_; rintro e w2 ⟨rfl, hR, hb, _⟩))
  go_end0
  exact ⟨rfl, Kd.R_mono hR (fun _ _ => trivial), hb⟩

theorem lt_of_cell {w : World} {a : Addr} {v : Value} (h : w.cell? a = some v) : a.block < w.heap.size := by
  obtain ⟨o, ho, _⟩ := cells_of_cell h
  exact (Array.getElem?_eq_some_iff.1 ho).1

set_option maxRecDepth 100000 in
set_option maxHeartbeats 4000000 in
theorem sorted_few (k : Nat) (l0 r : List Int) (hl : l0.length ≤ 12) (hLen : ∃ m : Int, ∀ w, Calls Tryd.prog 49 #[.int .u64 l0.length] w fun e w' => e = .returned (.int .i64 m) ∧ Drawn0 w w') (h : slices_insertionSortOrdered_int.f k l0 0 l0.length = some r)
    (A0 : Option Addr) (c0 : Nat) (w : World) (hr0 : Kd.C (Kd.int .i64) w A0 l0.length l0) :
    Calls Tryd.prog 34 #[.func (.func 42) #[] #[.pointer (some ⟨w.heap.size, 0, none⟩)]] (w.alloc (.cells #[.slice A0 l0.length c0] 28)) fun e w' => ∃ v, e = .returned v ∧ Kd.R (Kd.int .i64) 3 w' w.heap.size (fun _ => True) v r ∧ Below w.heap.size w w' := by
  obtain ⟨w1, hw1⟩ : ∃ w1, w.alloc (.cells #[.slice A0 l0.length c0] 28) = w1 := ⟨_, rfl⟩
  have hB1 : Below w.heap.size w w1 := by rw [← hw1]; exact (Below.refl _ w).alloc (Nat.le_refl _) _
  have hs1 : w1.heap.size = w.heap.size + 1 := by rw [← hw1]; simp
  have hbox : w1.heap[w.heap.size]? = some (.cells #[.slice A0 l0.length c0] 28 (0, 0)) := by rw [← hw1]; exact World.alloc_heap_new w _
  have hseq : SeqStopsK Fence.wide 8 Tryd.prog 42 #[.pointer (some ⟨w.heap.size, 0, none⟩)] (fun x : Int => #[Value.int .i64 x]) (Below w1.heap.size) (fun ys => ys = l0) (fun pre => pre <+: l0) l0.length w1 := by
    intro l J Jx W hW _ _ hY h0
    have hbW : W.cell? ⟨w.heap.size, 0, none⟩ = some (.slice A0 l0.length c0) := by
      rw [hW.cell (p := ⟨w.heap.size, 0, none⟩) (by simp; omega)]
      simp [World.cell?, hbox]
    refine (values_each 8 (by omega) l w.heap.size w1.heap.size _ l0 (by omega) J Jx hY W A0 c0 rfl hbW ?_ h0).mono ?_
    · intro j hj
      obtain ⟨ad, rfl, hc⟩ := Kd.at_int hr0 (j : Int) (by omega) (by omega)
      rw [Int.toNat_natCast] at hc
      have hlt := lt_of_cell hc
      refine ⟨ad, rfl, by omega, ?_⟩
      rw [hW.cell (p := ad.add j) (by omega), hB1.cell (p := ad.add j) hlt, hc]
      simp [rd, hj]
    · rintro e W' ⟨he, h' | ⟨pre, hp, hx⟩⟩
      · exact ⟨he, .inl ⟨_, rfl, h'⟩⟩
      · exact ⟨he, .inr ⟨_, hp, hx⟩⟩
  rw [hw1]
  have cC := callsIn_wide.1 (collect_each 10 (by omega) 42 _ (enters_of Tryd.func42 (by kernel_rfl) rfl) l0 (by omega) w1 hseq)
  clear hw1 hseq hbox
  go_enter Tryd.func34, Tryd.ntmps34
  go_wp2_with (go_at_call 40; refine cC.mono ?_; rintro e w2 ⟨v, rfl, ho, hb⟩)
  have hR := Kd.R_of_own (enc := Value.int .i64) (h1 := fun _ => rfl) (ok := fun _ => True) ho (fun _ _ => trivial)
  obtain ⟨A, c, rfl⟩ : ∃ A c, v = .slice A l0.length c := by
    rcases ho.2 with ⟨rfl, hz⟩ | ⟨g', cap', cur', rfl, _⟩
    · exact ⟨none, 0, by rw [hz]⟩
    · exact ⟨_, _, rfl⟩
  have cS := sort_few k (fun _ => True) A c l0 r hl hLen w1 w2 hb hR h
  go_wp2_with (go_at_call 41; refine cS.mono ?_; rintro e w3 ⟨rfl, hR3, hb3⟩)
  go_ret
  exact ⟨_, rfl, Kd.R_lower hR3 hB1.size, hB1.trans (hb3.mono hB1.size)⟩

set_option maxRecDepth 100000 in
theorem values_make (A : Option Addr) (n c : Nat) (w : World) : Calls Tryd.prog 35 #[.slice A n c] w fun e w' => e = .returned (.func (.func 42) #[] #[.pointer (some ⟨w.heap.size, 0, none⟩)]) ∧ w' = w.alloc (.cells #[.slice A n c] 28) := by
  go_enter Tryd.func35, Tryd.ntmps35
  go_wp2
  go_ret
  exact ⟨rfl, rfl⟩
def impl_IsRanking.f (k : Nat) (l0 : List Int) (a1 : Int) : Option (Bool) := (impl_within.f a1 1 5).bind fun t => if t = true then (if (l0.length : Int) = a1 then ((slices_insertionSortOrdered_int.f k l0 0 l0.length).bind fun s => impl_isStrict.f k s a1) else some false) else some false
theorem impl_IsRanking.mono : ∀ a0 a1 k, LeO (impl_IsRanking.f k a0 a1) (impl_IsRanking.f (k + 1) a0 a1) := by
  intro a0 a1 k
  unfold impl_IsRanking.f
  refine LeO.bind (LeO.refl _) (fun t => LeO.ite (LeO.ite (LeO.bind (slices_insertionSortOrdered_int.mono _ _ _ k) (fun s => impl_isStrict.mono _ _ k)) (LeO.refl _)) (LeO.refl _))
set_option maxRecDepth 100000 in
set_option maxHeartbeats 4000000 in
theorem impl_IsRanking.calls (k : Nat) (A0 : Option Addr) (c0 : Nat) (l0 : List Int) (a1 : Int) (r : Bool) (w : World) (hr0 : Kd.C (Kd.int .i64) w A0 l0.length l0) (hc0 : l0.length ≤ c0) (h : impl_IsRanking.f k l0 a1 = some r) :
    Calls Tryd.prog 24 #[.slice A0 l0.length c0, .int .i64 a1] w fun e w' => e = .returned (.bool r) ∧ Below w.heap.size w w' := by
  unfold impl_IsRanking.f at h
  obtain ⟨t, ht, h⟩ := Option.bind_eq_some_iff.1 h
  cases t
  · simp only [Bool.false_eq_true, if_false] at h
    obtain rfl := Option.some.inj h
    go_enter Tryd.func24, Tryd.ntmps24
    go_wp2_with (go_at_call 31; refine (impl_within.calls a1 1 5 false _ ht).mono ?_; rintro e w1 ⟨rfl, ⟨q, rfl⟩⟩)
    go_ret
    exact ⟨rfl, pw_below_drewN (Below.refl _ _) q⟩
  · simp only [if_true] at h
    by_cases hl : (l0.length : Int) = a1
    · rw [if_pos hl] at h
      obtain ⟨s, hs, hst⟩ := Option.bind_eq_some_iff.1 h
      clear h
      have h5 : 1 ≤ l0.length ∧ l0.length ≤ 5 := by
        unfold impl_within.f at ht
        split at ht
        · have := of_decide_eq_true (Option.some.inj ht)
          exact ⟨by omega, by omega⟩
        · exact absurd ht (by simp)
      have hLen : ∃ m : Int, ∀ w, Calls Tryd.prog 49 #[.int .u64 l0.length] w fun e w' => e = .returned (.int .i64 m) ∧ Drawn0 w w' := by
        exact len_few _ (by omega)
      subst hl
      go_enter Tryd.func24, Tryd.ntmps24
      go_wp2_with (first
        | (go_at_call 31; refine (impl_within.calls _ 1 5 true _ ht).mono ?_; rintro e w1 ⟨rfl, ⟨q, rfl⟩⟩)
        | (go_at_call 35; refine (values_make A0 _ c0 (w.drewN q)).mono ?_; rintro e w1 ⟨rfl, rfl⟩)
        | (go_at_call 34; refine (sorted_few k l0 s (by omega) hLen hs A0 c0 (w.drewN q) (Kd.C_below hr0 (pw_below_drewN (Below.refl _ _) q))).mono ?_; rintro e w1 ⟨v, rfl, hR, hb⟩; obtain ⟨A1, c1, rfl, hc1, hC1⟩ := Kd.R_reads hR)
        | (go_at_call 33; refine (impl_isStrict.calls k A1 c1 s _ r w1 hC1 hc1 hst).mono ?_; rintro e w2 ⟨rfl, ⟨q2, rfl⟩⟩))
      go_ret
      exact ⟨rfl, pw_below_drewN ((pw_below_drewN (Below.refl _ _) q).trans hb) q2⟩
    · rw [if_neg hl] at h
      obtain rfl := Option.some.inj h
      have hd : decide ((l0.length : Int) = a1) = false := decide_eq_false hl
      go_enter Tryd.func24, Tryd.ntmps24
      go_wp2_with (go_at_call 31; refine (impl_within.calls a1 1 5 true _ ht).mono ?_; rintro e w1 ⟨rfl, ⟨q, rfl⟩⟩)
      go_ret
      exact ⟨rfl, pw_below_drewN (Below.refl _ _) q⟩


/-! ### impl_ParseRanking: function 13 -/
def impl_ParseRanking.l0 : Nat → List ByteArray → List Int → List ByteArray → Int → Int → Option (List Int × Bool)
 | 0, _, _, _, _, _ => none
 | k + 1, x0, x6, x11, x12, x13 => if x13 < x12 then (if 0 ≤ x13 then (if x13 < (x11.length : Int) then ((slices_Index_string_string.f k x0 (rdOf ByteArray.empty x11 x13)).bind fun t200 => (if x6.length < 17592186044416 then (impl_ParseRanking.l0 k x0 (x6 ++ [t200]) x11 x12 (wrap64 (x13 + 1))) else (none))) else (none)) else (none)) else ((impl_AreConstraints.f k x0).bind fun t204 => (if t204 = true then ((impl_IsRanking.f k x6 (x0.length : Int)).bind fun t205 => (if t205 = true then (some (x6, true)) else (some (([] : List Int), false)))) else (some (([] : List Int), false))))
def impl_ParseRanking.f (k : Nat) (l0 : List ByteArray) (a1 : ByteArray) : Option (List Int × Bool) := (strings_Split.f a1 (⟨#[62]⟩ : ByteArray)).bind fun t196 => (impl_ParseRanking.l0 k l0 (([] : List Int)) t196 (t196.length : Int) 0)
theorem impl_ParseRanking.mono_l : ∀ k, (∀ y0 y1 y2 y3 y4, LeO (impl_ParseRanking.l0 k y0 y1 y2 y3 y4) (impl_ParseRanking.l0 (k + 1) y0 y1 y2 y3 y4))
 | 0 => fun _ _ _ _ _ r h => by simp [impl_ParseRanking.l0] at h
 | k + 1 => by
  have ih0 := impl_ParseRanking.mono_l k
  ·intro y0 y1 y2 y3 y4
   unfold impl_ParseRanking.l0
   with_reducible repeat' first | exact ih0 _ _ _ _ _ | exact impl_AreConstraints.mono _ _ | exact impl_IsRanking.mono _ _ _ | exact slices_Index_string_string.mono _ _ _ | exact LeO.refl _ | exact LeO.none _ | refine LeO.ite ?_ ?_ | refine LeO.bind ?_ (fun _ => ?_)
theorem impl_ParseRanking.mono : ∀ a0 a1 k, LeO (impl_ParseRanking.f k a0 a1) (impl_ParseRanking.f (k + 1) a0 a1) := by
 intro a0 a1 k
 have ih0 := impl_ParseRanking.mono_l k
 unfold impl_ParseRanking.f
 with_reducible repeat' first | exact ih0 _ _ _ _ _ | exact impl_AreConstraints.mono _ _ | exact impl_IsRanking.mono _ _ _ | exact slices_Index_string_string.mono _ _ _ | exact LeO.refl _ | exact LeO.none _ | refine LeO.ite ?_ ?_ | refine LeO.bind ?_ (fun _ => ?_)
set_option maxHeartbeats 8000000 in
set_option maxRecDepth 100000 in
theorem impl_ParseRanking.calls (k : Nat) (A0 : Option Addr) (c0 : Nat) (l0 : List ByteArray) (a1 : ByteArray) (r1 : List Int) (r2 : Bool) (w : World) (hM : MaxL w) (hr0 : Kd.C Kd.string w A0 l0.length l0) (hc0 : l0.length ≤ c0) (h : impl_ParseRanking.f k l0 a1 = some (r1, r2)) :
  Calls Tryd.prog 13 #[.slice A0 l0.length c0, .string a1] w fun e w' => ∃ v0_ : Value, e = .returned (.tuple #[v0_, .bool r2]) ∧ Kd.R (Kd.int .i64) 3 w' w.heap.size (fun _ => True) v0_ r1 ∧ Below w.heap.size w w' := by
 have HM := asT hM; clear hM
 have HR0 := Aside0.mk hr0; have HC0 := Aside0.mk hc0; clear hr0 hc0; have HB := asT (Below.refl w.heap.size w); have H := h; unfold impl_ParseRanking.f at H; clear h; obtain ⟨y193, hy193⟩ : ∃ y_ : List Int, y_ = (([] : List Int)) := ⟨_, rfl⟩
 replace H : ((strings_Split.f a1 (⟨#[62]⟩ : ByteArray)).bind fun t196 => (impl_ParseRanking.l0 k l0 y193 t196 (t196.length : Int) 0)) = some (r1, r2) := by first | (rw [hy193]; with_reducible exact H) | (have H2_ := (Option.bind_some _ _).symm.trans H; rw [hy193]; with_reducible exact H2_) | (have H2_ := (Option.bind_some _ _).symm.trans H; with_reducible exact H2_) | with_reducible exact H | (rw [hy193]; exact H) | exact H
 have Ny193 := Aside0.mk hy193; clear hy193; obtain ⟨t196, A3, H⟩ := be H; have H' := Aside0.mk H; clear H
 go_enter Tryd.func13, Tryd.ntmps13
 go_wp2_with (first | ((with_reducible refine gate_dst (N := 9) rfl ?_); (try (refine gate_guard (by rfl) ?_; dsimp only)); refine Kd.R_lit (Kd.int .i64) _ 3 ?hg (N := 9) ?hd (xs := ([] : List Int)) (inner := []) (ok := fun _ => True) (okp := fun _ => True) ?hr ?hp (fun _ hk => hk) trivial (Below.refl _ _) (Nat.le_refl _) (by simp) ?_; (case hd => rfl); (case hg => rfl); (case hr => first | (go_simp; done) | (go_simp; rfl)); (case hp => exact (Reps.none _ _)); intro v194 w4 ho5 hb hg_ hnew_; clear hg_ hnew_; (first | rw [← Ny193.out] at ho5 | (simp only [Int.reduceToNat] at ho5; rw [← Ny193.out] at ho5)); have HO195 := asT (Kd.R_lower ho5 (below_size (hbT HB.out))); replace HB := hS HB hb; clear hb ho5) | ((with_reducible refine gate_callee (f := 19) rfl ?_); refine goesL_ (some 11) rfl rfl Tryd.func19 (by kernel_rfl) rfl #[.string a1, .string (⟨#[62]⟩ : ByteArray)] rfl eqT ?_; (with_reducible refine (strings_Split.calls a1 (⟨#[62]⟩ : ByteArray) t196 _ ?sideM A3.out).mono ?_); (case sideM => exact HM.out.below (hbT HB.out)); rintro e w6 ⟨v197, rfl, ho0, hb⟩; refine ⟨_, rfl, ?_⟩; replace HO195 := asT (Kd.R_below (roT HO195.out) hb); have HO198 := asT (Kd.R_lower ho0 (below_size (hbT HB.out))); replace HB := hS HB hb; (try clear hb hb2 hk hi ho0); obtain ⟨Ao7, co7, eo7⟩ := Kd.R_slice HO198.out; subst eo7))
 go_loopg [6, 13] k (fun kq v6 v13 w' => ∃ (x6_1 : List Int) (x13_1 : Int), v13 = .int .i64 x13_1 ∧ Aside0 (impl_ParseRanking.l0 kq l0 x6_1 t196 (t196.length : Int) x13_1 = some (r1, r2)) ∧ Aside0 (kq ≤ k) ∧ Aside0 (Kd.R (Kd.int .i64) 3 w' w.heap.size (fun _ => True) v6 x6_1) ∧ Aside0 (Kd.R Kd.string 9 w' w.heap.size (fun _ => True) (.slice Ao7 t196.length co7) t196) ∧ Aside0 (Below w.heap.size w w'))
 case atStart => exact ⟨(y193), (0), rdT, H', ⟨Nat.le_refl _⟩, ⟨by (with_reducible repeat (first | apply Kd.R_alloc | apply Kd.R_drewN | apply Kd.R_drew)); exact HO195.out⟩, ⟨by (with_reducible repeat (first | apply Kd.R_alloc | apply Kd.R_drewN | apply Kd.R_drew)); exact HO198.out⟩, ⟨hbT HB.out⟩⟩
 case round =>
  clear H'; (try clear c1 p2); obtain ⟨x6_1, x13_1, rfl, HA, HK1, HO_6, HO_11, HB⟩ := hrel
  cases gk with
  | zero => exact absurd HA.out (by simp [impl_ParseRanking.l0])
  | succ k1 =>
   have H := HA.out; clear HA
   simp only [impl_ParseRanking.l0] at H
   by_cases c8 : x13_1 < (t196.length : Int)
   ·rw [if_pos c8] at H
    have c8b0 : decide (x13_1 < (t196.length : Int)) = true := decide_eq_true c8
    clear c8
    by_cases c9 : 0 ≤ x13_1
    ·rw [if_pos c9] at H
     have c9b0 : decide (0 ≤ x13_1) = true := decide_eq_true c9
     clear c9
     by_cases c10 : x13_1 < (t196.length : Int)
     ·rw [if_pos c10] at H
      have c10b0 : decide (x13_1 < (t196.length : Int)) = true := decide_eq_true c10
      clear c10; obtain ⟨t200, A11, H⟩ := be H
      by_cases c12 : x6_1.length < 17592186044416
      ·rw [if_pos c12] at H
       have LMc12 := Aside0.mk c12; clear c12; obtain ⟨y201, hy201⟩ : ∃ y_ : List Int, y_ = (x6_1 ++ [t200]) := ⟨_, rfl⟩
       replace H : (impl_ParseRanking.l0 k1 l0 y201 t196 (t196.length : Int) (wrap64 (x13_1 + 1))) = some (r1, r2) := by first | (rw [hy201]; with_reducible exact H) | (have H2_ := (Option.bind_some _ _).symm.trans H; rw [hy201]; with_reducible exact H2_) | (have H2_ := (Option.bind_some _ _).symm.trans H; with_reducible exact H2_) | with_reducible exact H | (rw [hy201]; exact H) | exact H
       have Ny201 := Aside0.mk hy201; clear hy201; have H' := Aside0.mk H; clear H
       have p199 : 0 ≤ (x13_1 : Int) := of_decide_eq_true asmT
       have q199 : x13_1 < (t196.length : Int) := of_decide_eq_true asmT
       obtain ⟨ad199, e199, hx199_0⟩ := Kd.at_string (Kd.R_reads' HO_11.out).2.2 x13_1 p199 q199
       cases e199
       replace p199 := eq_true p199; replace q199 := eq_true q199
       go_wp2_with (first | ((with_reducible refine gate_callee (f := 23) rfl ?_); refine goesL_ (some 20) rfl rfl Tryd.func23 (by kernel_rfl) rfl #[.slice A0 l0.length c0, .string (rdOf ByteArray.empty t196 x13_1)] rfl eqT ?_; (with_reducible refine (slices_Index_string_string.calls k1 _ _ l0 (rdOf ByteArray.empty t196 x13_1) t200 _ ?side1 ?side2 A11.out).mono ?_); (case side1 => exact crT HR0.out HB.out); (case side2 => exact HC0.out); rintro e w' ⟨rfl, ⟨nd, rfl⟩⟩; refine ⟨_, rfl, ?_⟩) | ((with_reducible refine gate_builtin (b := .append) (xs := #[.tmp 17, .tmp 21]) rfl ?_); (try (refine gate_guard (by rfl) ?_; dsimp only)); at_builtin; refine Kd.R_append (Kd.int .i64) (w0 := w) w.heap.size rfl (.tmp 17) (.tmp 21) 28 3 (.int .i64 0) 8 rfl Tryd.underlying28 info3 rfl (by decide) (by omega) u6 x6_1 t200 [.int .i64 t200] (fun _ => True) (fun _ => False) rfl rfl ?aP (fun _ hk => hk.elim) ?aF ?aO ?aB ?aS ?aL ?_; (case aP => exact rfl); (case aB => exact (hbT HB.out)); (case aF => exact (fun _ _ => trivial)); (case aO => exact (roT HO_6.out)); (case aS => exact (below_size (hbT HB.out))); (case aL => have := LMc12.out; omega); intro v202 w13 ho hb hg hat; rw [← Ny201.out] at ho; replace HO_11 := asT (Kd.R_over' (roT HO_11.out) (Kd.R_typed (roT HO_6.out)) (by decide) hg); replace HB := asT (hb); have HO203 := asT (ho); clear HO_6 ho hb hg hat))
       go_roundg k1
       case measure => have := HK1.out; omega
       case rel => exact ⟨(y201), (wrap64 (x13_1 + 1)), rdT, H', ⟨by have := HK1.out; omega⟩, ⟨by (with_reducible repeat (first | apply Kd.R_alloc | apply Kd.R_drewN | apply Kd.R_drew)); exact HO203.out⟩, ⟨by (with_reducible repeat (first | apply Kd.R_alloc | apply Kd.R_drewN | apply Kd.R_drew)); exact HO_11.out⟩, ⟨hbT HB.out⟩⟩
      ·rw [if_neg c12] at H
       exact absurd H (by simp)
     ·rw [if_neg c10] at H
      exact absurd H (by simp)
    ·rw [if_neg c9] at H
     exact absurd H (by simp)
   ·rw [if_neg c8] at H
    have c8b0 : decide (x13_1 < (t196.length : Int)) = false := decide_eq_false c8
    clear c8; obtain ⟨t204, A14, H⟩ := be H
    by_cases c15 : t204 = true
    ·subst c15
     rw [if_pos rfl] at H; obtain ⟨t205, A16, H⟩ := be H
     by_cases c17 : t205 = true
     ·subst c17
      rw [if_pos rfl] at H; have H1 := H; clear H; have H := H1; clear H1
      simp only [Option.some.injEq, Prod.mk.injEq] at H
      obtain ⟨rfl, rfl⟩ := H
      go_wp2_with (first | ((with_reducible refine gate_callee (f := 20) rfl ?_); refine goesL_ (some 25) rfl rfl Tryd.func20 (by kernel_rfl) rfl #[.slice A0 l0.length c0] rfl eqT ?_; (with_reducible refine (impl_AreConstraints.calls k1 _ _ l0 true _ ?side1 ?side2 A14.out).mono ?_); (case side1 => exact crT HR0.out HB.out); (case side2 => exact HC0.out); rintro e w18 ⟨rfl, hb⟩; refine ⟨_, rfl, ?_⟩; replace HO_6 := asT (Kd.R_below (roT HO_6.out) hb); replace HO_11 := asT (Kd.R_below (roT HO_11.out) hb); replace HB := hS HB hb; (try clear hb hb2 hk hi); obtain ⟨Ao19, co19, eo19⟩ := Kd.R_slice HO_6.out; subst eo19) | (go_at_call 24; (with_reducible refine (impl_IsRanking.calls k1 _ _ x6_1 (l0.length : Int) true _ ?side1 ?side2 A16.out).mono ?_); (case side1 => repeat (first | exact (Kd.R_reads' HO_6.out).2.2 | (with_reducible refine Kd.C_alloc ?_ _) | (with_reducible refine Kd.C_drewN ?_ _) | (with_reducible refine Kd.C_drew ?_))); (case side2 => exact (Kd.R_reads' HO_6.out).2.1); rintro e w20 ⟨rfl, hb⟩; replace HO_6 := asT (Kd.R_below (roT HO_6.out) hb); replace HO_11 := asT (Kd.R_below (roT HO_11.out) hb); replace HB := hS HB hb; (try clear hb hb2 hk hi)))
      go_ret2
      exact ⟨_, rlT, by (with_reducible repeat (first | apply Kd.R_alloc | apply Kd.R_drewN | apply Kd.R_drew)); exact HO_6.out, hbT HB.out⟩
     ·replace c17 := Bool.eq_false_iff.mpr c17
      subst c17; rw [if_neg nF] at H; have H1 := H; clear H; have H := H1; clear H1
      simp only [Option.some.injEq, Prod.mk.injEq] at H
      obtain ⟨rfl, rfl⟩ := H
      go_wp2_with (first | ((with_reducible refine gate_callee (f := 20) rfl ?_); refine goesL_ (some 25) rfl rfl Tryd.func20 (by kernel_rfl) rfl #[.slice A0 l0.length c0] rfl eqT ?_; (with_reducible refine (impl_AreConstraints.calls k1 _ _ l0 true _ ?side1 ?side2 A14.out).mono ?_); (case side1 => exact crT HR0.out HB.out); (case side2 => exact HC0.out); rintro e w21 ⟨rfl, hb⟩; refine ⟨_, rfl, ?_⟩; replace HO_6 := asT (Kd.R_below (roT HO_6.out) hb); replace HO_11 := asT (Kd.R_below (roT HO_11.out) hb); replace HB := hS HB hb; (try clear hb hb2 hk hi); obtain ⟨Ao22, co22, eo22⟩ := Kd.R_slice HO_6.out; subst eo22) | (go_at_call 24; (with_reducible refine (impl_IsRanking.calls k1 _ _ x6_1 (l0.length : Int) false _ ?side1 ?side2 A16.out).mono ?_); (case side1 => repeat (first | exact (Kd.R_reads' HO_6.out).2.2 | (with_reducible refine Kd.C_alloc ?_ _) | (with_reducible refine Kd.C_drewN ?_ _) | (with_reducible refine Kd.C_drew ?_))); (case side2 => exact (Kd.R_reads' HO_6.out).2.1); rintro e w23 ⟨rfl, hb⟩; replace HO_6 := asT (Kd.R_below (roT HO_6.out) hb); replace HO_11 := asT (Kd.R_below (roT HO_11.out) hb); replace HB := hS HB hb; (try clear hb hb2 hk hi)))
      go_ret2
      exact ⟨_, rlT, by first | exact Kd.R_nil _ _ _ _ _ | exact Kd.N_nil _ _ _ _ _ | exact Kd.V_nil _ _ _ _ _ | exact Kd.Q_nil _ _ _ _ _ | exact Kd.S_nil _ _ _ _ _, hbT HB.out⟩
    ·replace c15 := Bool.eq_false_iff.mpr c15
     subst c15; rw [if_neg nF] at H; have H1 := H; clear H; have H := H1; clear H1
     simp only [Option.some.injEq, Prod.mk.injEq] at H
     obtain ⟨rfl, rfl⟩ := H
     go_wp2_with (first | ((with_reducible refine gate_callee (f := 20) rfl ?_); refine goesL_ (some 25) rfl rfl Tryd.func20 (by kernel_rfl) rfl #[.slice A0 l0.length c0] rfl eqT ?_; (with_reducible refine (impl_AreConstraints.calls k1 _ _ l0 false _ ?side1 ?side2 A14.out).mono ?_); (case side1 => exact crT HR0.out HB.out); (case side2 => exact HC0.out); rintro e w24 ⟨rfl, hb⟩; refine ⟨_, rfl, ?_⟩; replace HO_6 := asT (Kd.R_below (roT HO_6.out) hb); replace HO_11 := asT (Kd.R_below (roT HO_11.out) hb); replace HB := hS HB hb; (try clear hb hb2 hk hi)))
     go_ret2
     exact ⟨_, rlT, by first | exact Kd.R_nil _ _ _ _ _ | exact Kd.N_nil _ _ _ _ _ | exact Kd.V_nil _ _ _ _ _ | exact Kd.Q_nil _ _ _ _ _ | exact Kd.S_nil _ _ _ _ _, hbT HB.out⟩

end Go.Proofs.YtlmfpkiaikjlbaaDoor.PFnExactParseRanking
