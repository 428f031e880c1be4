-- Made by gen.py (a program of this session) out of the translation; Lean checks it.
import Derived.Test.YtdamagcfmhimfadPFnExactProfileOfx0
import Derived.Test.YtdamagcfmhimfadPFnExactProfileOfx7
namespace Go.Proofs.Ytdamagcfmhimfad.PFnExactProfileOf
open Go.RowKit Go.Proofs.YtdamagcfmhimfadB Go.Proofs.YtdamagcfmhimfadW.PrintWords Go.Proofs.YtdamagcfmhimfadW.PrintLast Go.Proofs.YtdamagcfmhimfadW.PrintMore
attribute [local go_sem] max2_int min2_int max_two min_two max_three min_three max_four min_four   -- for this text's walks alone
set_option linter.unusedVariables false
set_option linter.unusedSimpArgs false

/-! ### impl_HasFeature: function 106 -/
def impl_HasFeature.f (a0 : Int) (a1 : Int) : Option (Bool) := (impl_within.f a1 0 4).bind fun t279 => (if t279 = true then ((some (([(⟨#[97, 105]⟩ : ByteArray), (⟨#[98, 100, 110, 97, 105]⟩ : ByteArray), (⟨#[110]⟩ : ByteArray), (⟨#[112, 98]⟩ : ByteArray), (⟨#[105]⟩ : ByteArray)] : List ByteArray) : List ByteArray)).bind fun y280 => (if 0 ≤ a1 then (if a1 < (y280.length : Int) then ((strings_IndexByte.f (rdOf ByteArray.empty y280 a1) a0).bind fun t284 => (some (decide (t284 ≥ 0)))) else (none)) else (none))) else (some false))
set_option maxHeartbeats 8000000 in
set_option maxRecDepth 100000 in
theorem impl_HasFeature.calls (a0 : Int) (a1 : Int) (r : Bool) (w : World) (h : impl_HasFeature.f a0 a1 = some r) :
  Calls Try.prog 106 #[.int .u8 a0, .int .i64 a1] w fun e w' => e = .returned (.bool r) ∧ Below w.heap.size w w' := by
 have HB := asT (Below.refl w.heap.size w)
 have H : ((impl_within.f a1 0 4).bind fun t279 => (if t279 = true then ((some (([(⟨#[97, 105]⟩ : ByteArray), (⟨#[98, 100, 110, 97, 105]⟩ : ByteArray), (⟨#[110]⟩ : ByteArray), (⟨#[112, 98]⟩ : ByteArray), (⟨#[105]⟩ : ByteArray)] : List ByteArray) : List ByteArray)).bind fun y280 => (if 0 ≤ a1 then (if a1 < (y280.length : Int) then ((strings_IndexByte.f (rdOf ByteArray.empty y280 a1) a0).bind fun t284 => (some (decide (t284 ≥ 0)))) else (none)) else (none))) else (some false))) = some r := h
 clear h; replace H := Option.bind_eq_some_iff.mp H; obtain ⟨t279, A30, H⟩ := H; replace H : (if t279 = true then ((some (([(⟨#[97, 105]⟩ : ByteArray), (⟨#[98, 100, 110, 97, 105]⟩ : ByteArray), (⟨#[110]⟩ : ByteArray), (⟨#[112, 98]⟩ : ByteArray), (⟨#[105]⟩ : ByteArray)] : List ByteArray) : List ByteArray)).bind fun y280 => (if 0 ≤ a1 then (if a1 < (y280.length : Int) then ((strings_IndexByte.f (rdOf ByteArray.empty y280 a1) a0).bind fun t284 => (some (decide (t284 ≥ 0)))) else (none)) else (none))) else (some false)) = some r := H; have A3 := Aside0.mk A30; clear A30
 by_cases c4 : t279 = true
 ·subst c4
  have H1 : ((some (([(⟨#[97, 105]⟩ : ByteArray), (⟨#[98, 100, 110, 97, 105]⟩ : ByteArray), (⟨#[110]⟩ : ByteArray), (⟨#[112, 98]⟩ : ByteArray), (⟨#[105]⟩ : ByteArray)] : List ByteArray) : List ByteArray)).bind fun y280 => (if 0 ≤ a1 then (if a1 < (y280.length : Int) then ((strings_IndexByte.f (rdOf ByteArray.empty y280 a1) a0).bind fun t284 => (some (decide (t284 ≥ 0)))) else (none)) else (none))) = some r := by rw [if_pos rfl] at H; exact H
  clear H; have H := H1; clear H1; obtain ⟨y280, hy280⟩ : ∃ y_ : List ByteArray, y_ = (([(⟨#[97, 105]⟩ : ByteArray), (⟨#[98, 100, 110, 97, 105]⟩ : ByteArray), (⟨#[110]⟩ : ByteArray), (⟨#[112, 98]⟩ : ByteArray), (⟨#[105]⟩ : ByteArray)] : List ByteArray)) := ⟨_, rfl⟩
  replace H : (if 0 ≤ a1 then (if a1 < (y280.length : Int) then ((strings_IndexByte.f (rdOf ByteArray.empty y280 a1) a0).bind fun t284 => (some (decide (t284 ≥ 0)))) else (none)) else (none)) = some r := by first | (rw [hy280]; with_reducible exact H) | (have H2_ := (Option.bind_some _ _).symm.trans H; rw [hy280]; with_reducible exact H2_) | (have H2_ := (Option.bind_some _ _).symm.trans H; with_reducible exact H2_) | with_reducible exact H | (rw [hy280]; exact H) | exact H
  have Ny280 := Aside0.mk hy280; clear hy280
  by_cases c5 : 0 ≤ a1
  ·rw [if_pos c5] at H
   have c5b0 : decide (0 ≤ a1) = true := decide_eq_true c5
   clear c5
   by_cases c6 : a1 < (y280.length : Int)
   ·rw [if_pos c6] at H
    have c6b0 : decide (a1 < (y280.length : Int)) = true := decide_eq_true c6
    clear c6; replace H := Option.bind_eq_some_iff.mp H; obtain ⟨t284, A70, H⟩ := H; replace H : (some (decide (t284 ≥ 0))) = some r := H; have A7 := Aside0.mk A70; clear A70
    obtain rfl := Option.some.inj H
    go_enter Try.func106, Try.ntmps106
    go_wp2_with (first | ((with_reducible refine gate_callee (f := 78) rfl ?_); refine goesL_ (some 6) rfl rfl Try.func78 (by kernel_rfl) rfl #[.int .i64 a1, .int .i64 0, .int .i64 4] rfl eqT ?_; (with_reducible refine (impl_within.calls a1 0 4 true _ A3.out).mono ?_); rintro e w' ⟨rfl, ⟨nd, rfl⟩⟩; refine ⟨_, rfl, ?_⟩) | ((with_reducible refine gate_dst (N := 8) rfl ?_); refine Kd.R_lit Kd.string _ 9 ?hg (N := 8) ?hd (xs := ([(⟨#[97, 105]⟩ : ByteArray), (⟨#[98, 100, 110, 97, 105]⟩ : ByteArray), (⟨#[110]⟩ : ByteArray), (⟨#[112, 98]⟩ : ByteArray), (⟨#[105]⟩ : ByteArray)] : List ByteArray)) (inner := [.string (⟨#[97, 105]⟩ : ByteArray), .string (⟨#[98, 100, 110, 97, 105]⟩ : ByteArray), .string (⟨#[110]⟩ : ByteArray), .string (⟨#[112, 98]⟩ : ByteArray), .string (⟨#[105]⟩ : ByteArray)]) (ok := fun _ => True) (okp := fun _ => True) ?hr ?hp (fun _ hk => hk) trivial (Below.refl _ _) (Nat.le_refl _) (by simp) ?_; (case hd => rfl); (case hg => rfl); (case hr => first | (go_simp; done) | (go_simp; rfl)); (case hp => exact (Reps.one (show Kd.M Kd.string _ _ _ (⟨#[97, 105]⟩ : ByteArray) [.string (⟨#[97, 105]⟩ : ByteArray)] from rfl) (Reps.one (show Kd.M Kd.string _ _ _ (⟨#[98, 100, 110, 97, 105]⟩ : ByteArray) [.string (⟨#[98, 100, 110, 97, 105]⟩ : ByteArray)] from rfl) (Reps.one (show Kd.M Kd.string _ _ _ (⟨#[110]⟩ : ByteArray) [.string (⟨#[110]⟩ : ByteArray)] from rfl) (Reps.one (show Kd.M Kd.string _ _ _ (⟨#[112, 98]⟩ : ByteArray) [.string (⟨#[112, 98]⟩ : ByteArray)] from rfl) (Reps.one (show Kd.M Kd.string _ _ _ (⟨#[105]⟩ : ByteArray) [.string (⟨#[105]⟩ : ByteArray)] from rfl) (Reps.none _ _))))))); intro v281 w8 ho9 hb hg_ hnew_; clear hg_ hnew_; (first | rw [← Ny280.out] at ho9 | (simp only [Int.reduceToNat] at ho9; rw [← Ny280.out] at ho9)); have n0_ := asT (Kd.R_lower ho9 (below_size (hbT HB.out))); have n1_ := asT (below_step (hbT HB.out) hb); clear HB; have HO282 := n0_; have HB := n1_; clear n0_ n1_ hb ho9; obtain ⟨Ao10, co10, eo10⟩ := Kd.R_slice HO282.out; subst eo10; have p283 : 0 ≤ (a1 : Int) := of_decide_eq_true asmT; have q283 : a1 < (y280.length : Int) := of_decide_eq_true asmT; obtain ⟨ad283, e283, hx283_0⟩ := Kd.at_string (Kd.R_reads' HO282.out).2.2 a1 p283 q283; cases e283; replace p283 := eq_true p283; replace q283 := eq_true q283) | ((with_reducible refine gate_callee (f := 129) rfl ?_); refine goesL_ (some 13) rfl rfl Try.func129 (by kernel_rfl) rfl #[.string (rdOf ByteArray.empty y280 a1), .int .u8 a0] rfl eqT ?_; (with_reducible refine (strings_IndexByte.calls (rdOf ByteArray.empty y280 a1) a0 t284 _ A7.out).mono ?_); rintro e w' ⟨rfl, ⟨nd, rfl⟩⟩; refine ⟨_, rfl, ?_⟩))
    go_ret
    exact ⟨rlT, hbT HB.out⟩
   ·rw [if_neg c6] at H
    exact absurd H (by simp)
  ·rw [if_neg c5] at H
   exact absurd H (by simp)
 ·replace c4 := Bool.eq_false_iff.mpr c4
  subst c4
  have H1 : (some false) = some r := by rw [if_neg (show ¬ (false = true) by decide)] at H; exact H
  clear H; have H := H1; clear H1
  obtain rfl := Option.some.inj H
  go_enter Try.func106, Try.ntmps106
  go_wp2_with (first | ((with_reducible refine gate_callee (f := 78) rfl ?_); refine goesL_ (some 6) rfl rfl Try.func78 (by kernel_rfl) rfl #[.int .i64 a1, .int .i64 0, .int .i64 4] rfl eqT ?_; (with_reducible refine (impl_within.calls a1 0 4 false _ A3.out).mono ?_); rintro e w' ⟨rfl, ⟨nd, rfl⟩⟩; refine ⟨_, rfl, ?_⟩))
  go_ret
  exact ⟨rlT, hbT HB.out⟩

/-! ### impl_isVowel: function 98 -/
def impl_isVowel.f (a0 : Int) : Option (Bool) := (impl_HasFeature.f a0 0).bind fun t285 => (some t285)
set_option maxHeartbeats 8000000 in
set_option maxRecDepth 100000 in
theorem impl_isVowel.calls (a0 : Int) (r : Bool) (w : World) (h : impl_isVowel.f a0 = some r) :
  Calls Try.prog 98 #[.int .u8 a0] w fun e w' => e = .returned (.bool r) ∧ Below w.heap.size w w' := by
 have HB := asT (Below.refl w.heap.size w)
 have H : ((impl_HasFeature.f a0 0).bind fun t285 => (some t285)) = some r := h
 clear h; replace H := Option.bind_eq_some_iff.mp H; obtain ⟨t285, A20, H⟩ := H; replace H : (some t285) = some r := H; have A2 := Aside0.mk A20; clear A20
 obtain rfl := Option.some.inj H
 go_enter Try.func98, Try.ntmps98
 go_wp2_with (first | ((with_reducible refine gate_callee (f := 106) rfl ?_); refine goesL_ (some 4) rfl rfl Try.func106 (by kernel_rfl) rfl #[.int .u8 a0, .int .i64 0] rfl eqT ?_; (with_reducible refine (impl_HasFeature.calls a0 0 t285 _ A2.out).mono ?_); rintro e w3 ⟨rfl, hb⟩; refine ⟨_, rfl, ?_⟩; have n0_ := asT (below_step (hbT HB.out) hb); clear HB; have HB := n0_; clear n0_; (try clear hb); (try clear hb2); (try clear hk); (try clear hi)))
 go_ret
 exact ⟨rlT, hbT HB.out⟩

/-! ### impl_isConsonant: function 99 -/
def impl_isConsonant.f (a0 : Int) : Option (Bool) := (impl_IsSound.f a0).bind fun t286 => (if t286 = true then ((impl_isVowel.f a0).bind fun t287 => (some (!t287))) else (some false))
set_option maxHeartbeats 8000000 in
set_option maxRecDepth 100000 in
theorem impl_isConsonant.calls (a0 : Int) (r : Bool) (w : World) (h : impl_isConsonant.f a0 = some r) :
  Calls Try.prog 99 #[.int .u8 a0] w fun e w' => e = .returned (.bool r) ∧ Below w.heap.size w w' := by
 have HB := asT (Below.refl w.heap.size w)
 have H : ((impl_IsSound.f a0).bind fun t286 => (if t286 = true then ((impl_isVowel.f a0).bind fun t287 => (some (!t287))) else (some false))) = some r := h
 clear h; replace H := Option.bind_eq_some_iff.mp H; obtain ⟨t286, A20, H⟩ := H; replace H : (if t286 = true then ((impl_isVowel.f a0).bind fun t287 => (some (!t287))) else (some false)) = some r := H; have A2 := Aside0.mk A20; clear A20
 by_cases c3 : t286 = true
 ·subst c3
  have H1 : ((impl_isVowel.f a0).bind fun t287 => (some (!t287))) = some r := by rw [if_pos rfl] at H; exact H
  clear H; have H := H1; clear H1; replace H := Option.bind_eq_some_iff.mp H; obtain ⟨t287, A40, H⟩ := H; replace H : (some (!t287)) = some r := H; have A4 := Aside0.mk A40; clear A40
  obtain rfl := Option.some.inj H
  go_enter Try.func99, Try.ntmps99
  go_wp2_with (first | ((with_reducible refine gate_callee (f := 125) rfl ?_); refine goesL_ (some 4) rfl rfl Try.func125 (by kernel_rfl) rfl #[.int .u8 a0] rfl eqT ?_; (with_reducible refine (impl_IsSound.calls a0 true _ A2.out).mono ?_); rintro e w' ⟨rfl, ⟨nd, rfl⟩⟩; refine ⟨_, rfl, ?_⟩) | (go_at_call 98; (with_reducible refine (impl_isVowel.calls a0 t287 _ A4.out).mono ?_); rintro e w5 ⟨rfl, hb⟩; have n0_ := asT (below_step (hbT HB.out) hb); clear HB; have HB := n0_; clear n0_; (try clear hb); (try clear hb2); (try clear hk); (try clear hi)))
  go_ret
  exact ⟨rlT, hbT HB.out⟩
 ·replace c3 := Bool.eq_false_iff.mpr c3
  subst c3
  have H1 : (some false) = some r := by rw [if_neg (show ¬ (false = true) by decide)] at H; exact H
  clear H; have H := H1; clear H1
  obtain rfl := Option.some.inj H
  go_enter Try.func99, Try.ntmps99
  go_wp2_with (first | ((with_reducible refine gate_callee (f := 125) rfl ?_); refine goesL_ (some 4) rfl rfl Try.func125 (by kernel_rfl) rfl #[.int .u8 a0] rfl eqT ?_; (with_reducible refine (impl_IsSound.calls a0 false _ A2.out).mono ?_); rintro e w' ⟨rfl, ⟨nd, rfl⟩⟩; refine ⟨_, rfl, ?_⟩))
  go_ret
  exact ⟨rlT, hbT HB.out⟩

/-! ### impl_CountOnsetless_1: function 97 -/
def impl_CountOnsetless_1.f (a0 : Int) (a1 : Int) (a2 : Int) : Option (Bool) := (impl_isVowel.f a1).bind fun t288 => (if t288 = true then ((impl_isConsonant.f a0).bind fun t289 => (some (!t289))) else (some false))
set_option maxHeartbeats 8000000 in
set_option maxRecDepth 100000 in
theorem impl_CountOnsetless_1.calls (a0 : Int) (a1 : Int) (a2 : Int) (r : Bool) (w : World) (h : impl_CountOnsetless_1.f a0 a1 a2 = some r) :
  Calls Try.prog 97 #[.int .u8 a0, .int .u8 a1, .int .u8 a2] w fun e w' => e = .returned (.bool r) ∧ Below w.heap.size w w' := by
 have HB := asT (Below.refl w.heap.size w)
 have H : ((impl_isVowel.f a1).bind fun t288 => (if t288 = true then ((impl_isConsonant.f a0).bind fun t289 => (some (!t289))) else (some false))) = some r := h
 clear h; replace H := Option.bind_eq_some_iff.mp H; obtain ⟨t288, A40, H⟩ := H; replace H : (if t288 = true then ((impl_isConsonant.f a0).bind fun t289 => (some (!t289))) else (some false)) = some r := H; have A4 := Aside0.mk A40; clear A40
 by_cases c5 : t288 = true
 ·subst c5
  have H1 : ((impl_isConsonant.f a0).bind fun t289 => (some (!t289))) = some r := by rw [if_pos rfl] at H; exact H
  clear H; have H := H1; clear H1; replace H := Option.bind_eq_some_iff.mp H; obtain ⟨t289, A60, H⟩ := H; replace H : (some (!t289)) = some r := H; have A6 := Aside0.mk A60; clear A60
  obtain rfl := Option.some.inj H
  go_enter Try.func97, Try.ntmps97
  go_wp2_with (first | ((with_reducible refine gate_callee (f := 98) rfl ?_); refine goesL_ (some 8) rfl rfl Try.func98 (by kernel_rfl) rfl #[.int .u8 a1] rfl eqT ?_; (with_reducible refine (impl_isVowel.calls a1 true _ A4.out).mono ?_); rintro e w7 ⟨rfl, hb⟩; refine ⟨_, rfl, ?_⟩; have n0_ := asT (below_step (hbT HB.out) hb); clear HB; have HB := n0_; clear n0_; (try clear hb); (try clear hb2); (try clear hk); (try clear hi)) | (go_at_call 99; (with_reducible refine (impl_isConsonant.calls a0 t289 _ A6.out).mono ?_); rintro e w8 ⟨rfl, hb⟩; have n0_ := asT (below_step (hbT HB.out) hb); clear HB; have HB := n0_; clear n0_; (try clear hb); (try clear hb2); (try clear hk); (try clear hi)))
  go_ret
  exact ⟨rlT, hbT HB.out⟩
 ·replace c5 := Bool.eq_false_iff.mpr c5
  subst c5
  have H1 : (some false) = some r := by rw [if_neg (show ¬ (false = true) by decide)] at H; exact H
  clear H; have H := H1; clear H1
  obtain rfl := Option.some.inj H
  go_enter Try.func97, Try.ntmps97
  go_wp2_with (first | ((with_reducible refine gate_callee (f := 98) rfl ?_); refine goesL_ (some 8) rfl rfl Try.func98 (by kernel_rfl) rfl #[.int .u8 a1] rfl eqT ?_; (with_reducible refine (impl_isVowel.calls a1 false _ A4.out).mono ?_); rintro e w9 ⟨rfl, hb⟩; refine ⟨_, rfl, ?_⟩; have n0_ := asT (below_step (hbT HB.out) hb); clear HB; have HB := n0_; clear n0_; (try clear hb); (try clear hb2); (try clear hk); (try clear hi)))
  go_ret
  exact ⟨rlT, hbT HB.out⟩

/-! ### impl_places_at_CountOnsetless_1: function 176 -/
mutual
def impl_places_at_CountOnsetless_1.l0 : Nat → ByteArray → Int → Int → Int → Option (Int)
 | 0, _, _, _, _ => none
 | k + 1, x0, x5, x10, x11 => if x11 < x10 then (if x11 > 0 then (if 0 ≤ (wrap64 (x11 - 1)) then (if (wrap64 (x11 - 1)) < (x0.size : Int) then (impl_places_at_CountOnsetless_1.j1 k x0 x5 x11 (bt x0 (wrap64 (x11 - 1))) 0 x10 x11) else (none)) else (none)) else (impl_places_at_CountOnsetless_1.j1 k x0 x5 x11 0 0 x10 x11)) else (some x5)
def impl_places_at_CountOnsetless_1.j1 : Nat → ByteArray → Int → Int → Int → Int → Int → Int → Option (Int)
 | 0, _, _, _, _, _, _, _ => none
 | k + 1, x0, x5, x6, x7, x8, x10, x11 => if (wrap64 (x6 + 1)) < (x0.size : Int) then (if 0 ≤ (wrap64 (x6 + 1)) then (impl_places_at_CountOnsetless_1.j2 k x0 x5 x6 x7 (bt x0 (wrap64 (x6 + 1))) x10 x11) else (none)) else (impl_places_at_CountOnsetless_1.j2 k x0 x5 x6 x7 x8 x10 x11)
def impl_places_at_CountOnsetless_1.j2 : Nat → ByteArray → Int → Int → Int → Int → Int → Int → Option (Int)
 | 0, _, _, _, _, _, _, _ => none
 | k + 1, x0, x5, x6, x7, x8, x10, x11 => (impl_IsForm.f k x0).bind fun t290 => (if t290 = true then (if 0 ≤ x6 then (if x6 < (x0.size : Int) then ((impl_CountOnsetless_1.f x7 (bt x0 x6) x8).bind fun t291 => (if t291 = true then (impl_places_at_CountOnsetless_1.l0 k x0 (wrap64 (x5 + 1)) x10 (wrap64 (x11 + 1))) else (impl_places_at_CountOnsetless_1.l0 k x0 x5 x10 (wrap64 (x11 + 1))))) else (none)) else (none)) else (impl_places_at_CountOnsetless_1.l0 k x0 x5 x10 (wrap64 (x11 + 1))))
end
def impl_places_at_CountOnsetless_1.f (k : Nat) (a0 : ByteArray) (a1 : Unit) : Option (Int) := impl_places_at_CountOnsetless_1.l0 k a0 0 (a0.size : Int) 0
theorem impl_places_at_CountOnsetless_1.mono_l : ∀ k, (∀ y0 y1 y2 y3, LeO (impl_places_at_CountOnsetless_1.l0 k y0 y1 y2 y3) (impl_places_at_CountOnsetless_1.l0 (k + 1) y0 y1 y2 y3)) ∧ (∀ y0 y1 y2 y3 y4 y5 y6, LeO (impl_places_at_CountOnsetless_1.j1 k y0 y1 y2 y3 y4 y5 y6) (impl_places_at_CountOnsetless_1.j1 (k + 1) y0 y1 y2 y3 y4 y5 y6)) ∧ (∀ y0 y1 y2 y3 y4 y5 y6, LeO (impl_places_at_CountOnsetless_1.j2 k y0 y1 y2 y3 y4 y5 y6) (impl_places_at_CountOnsetless_1.j2 (k + 1) y0 y1 y2 y3 y4 y5 y6))
 | 0 => ⟨fun _ _ _ _ r h => by simp [impl_places_at_CountOnsetless_1.l0] at h, fun _ _ _ _ _ _ _ r h => by simp [impl_places_at_CountOnsetless_1.j1] at h, fun _ _ _ _ _ _ _ r h => by simp [impl_places_at_CountOnsetless_1.j2] at h⟩
 | k + 1 => by
  obtain ⟨ih0, ih1, ih2⟩ := impl_places_at_CountOnsetless_1.mono_l k; refine ⟨?_, ?_, ?_⟩
  ·intro y0 y1 y2 y3
   unfold impl_places_at_CountOnsetless_1.l0
   repeat' first
   | (with_reducible exact ih0 _ _ _ _)
   | (with_reducible exact ih1 _ _ _ _ _ _ _)
   | (with_reducible exact ih2 _ _ _ _ _ _ _)
   | (with_reducible exact impl_IsForm.mono _ _)
   | (with_reducible exact LeO.refl _)
   | (with_reducible exact LeO.none _)
   | (with_reducible refine LeO.ite ?_ ?_)
   | (with_reducible refine LeO.bind ?_ (fun _ => ?_))
   | exact ih0 _ _ _ _
   | exact ih1 _ _ _ _ _ _ _
   | exact ih2 _ _ _ _ _ _ _
   | exact impl_IsForm.mono _ _
   | exact LeO.none _
   | refine LeO.ite ?_ ?_
   | refine LeO.bind ?_ (fun _ => ?_)
  ·intro y0 y1 y2 y3 y4 y5 y6
   unfold impl_places_at_CountOnsetless_1.j1
   repeat' first
   | (with_reducible exact ih0 _ _ _ _)
   | (with_reducible exact ih1 _ _ _ _ _ _ _)
   | (with_reducible exact ih2 _ _ _ _ _ _ _)
   | (with_reducible exact impl_IsForm.mono _ _)
   | (with_reducible exact LeO.refl _)
   | (with_reducible exact LeO.none _)
   | (with_reducible refine LeO.ite ?_ ?_)
   | (with_reducible refine LeO.bind ?_ (fun _ => ?_))
   | exact ih0 _ _ _ _
   | exact ih1 _ _ _ _ _ _ _
   | exact ih2 _ _ _ _ _ _ _
   | exact impl_IsForm.mono _ _
   | exact LeO.none _
   | refine LeO.ite ?_ ?_
   | refine LeO.bind ?_ (fun _ => ?_)
  ·intro y0 y1 y2 y3 y4 y5 y6
   unfold impl_places_at_CountOnsetless_1.j2
   repeat' first
   | (with_reducible exact ih0 _ _ _ _)
   | (with_reducible exact ih1 _ _ _ _ _ _ _)
   | (with_reducible exact ih2 _ _ _ _ _ _ _)
   | (with_reducible exact impl_IsForm.mono _ _)
   | (with_reducible exact LeO.refl _)
   | (with_reducible exact LeO.none _)
   | (with_reducible refine LeO.ite ?_ ?_)
   | (with_reducible refine LeO.bind ?_ (fun _ => ?_))
   | exact ih0 _ _ _ _
   | exact ih1 _ _ _ _ _ _ _
   | exact ih2 _ _ _ _ _ _ _
   | exact impl_IsForm.mono _ _
   | exact LeO.none _
   | refine LeO.ite ?_ ?_
   | refine LeO.bind ?_ (fun _ => ?_)
theorem impl_places_at_CountOnsetless_1.mono : ∀ a0 a1 k, LeO (impl_places_at_CountOnsetless_1.f k a0 a1) (impl_places_at_CountOnsetless_1.f (k + 1) a0 a1) := by
 intro a0 a1 k
 obtain ⟨ih0, ih1, ih2⟩ := impl_places_at_CountOnsetless_1.mono_l k
 unfold impl_places_at_CountOnsetless_1.f
 repeat' first
   | (with_reducible exact ih0 _ _ _ _)
   | (with_reducible exact ih1 _ _ _ _ _ _ _)
   | (with_reducible exact ih2 _ _ _ _ _ _ _)
   | (with_reducible exact impl_IsForm.mono _ _)
   | (with_reducible exact LeO.refl _)
   | (with_reducible exact LeO.none _)
   | (with_reducible refine LeO.ite ?_ ?_)
   | (with_reducible refine LeO.bind ?_ (fun _ => ?_))
   | exact ih0 _ _ _ _
   | exact ih1 _ _ _ _ _ _ _
   | exact ih2 _ _ _ _ _ _ _
   | exact impl_IsForm.mono _ _
   | exact LeO.none _
   | refine LeO.ite ?_ ?_
   | refine LeO.bind ?_ (fun _ => ?_)
set_option maxHeartbeats 8000000 in
set_option maxRecDepth 100000 in
theorem impl_places_at_CountOnsetless_1.calls (k : Nat) (a0 : ByteArray) (a1 : Unit) (r : Int) (w : World) (h : impl_places_at_CountOnsetless_1.f k a0 a1 = some r) :
  Calls Try.prog 96 #[.string a0, .func (.func 97) #[] #[]] w fun e w' => e = .returned (.int .i64 r) ∧ Below w.heap.size w w' := by
 have HB := asT (Below.refl w.heap.size w)
 have H : (impl_places_at_CountOnsetless_1.l0 k a0 0 (a0.size : Int) 0) = some r := h
 clear h; have H' := Aside0.mk H; clear H
 go_enter Try.func96, Try.ntmps96
 go_wp2
 go_loopg [5, 11] k (fun kq v5 v11 w' => ∃ (x5_1 : Int) (x11_1 : Int), v5 = .int .i64 x5_1 ∧ v11 = .int .i64 x11_1 ∧ Aside0 (impl_places_at_CountOnsetless_1.l0 kq a0 x5_1 (a0.size : Int) x11_1 = some r) ∧ Aside0 (kq ≤ k) ∧ Aside0 (Below w.heap.size w w'))
 case atStart => exact ⟨(0), (0), rdT, rdT, H', ⟨Nat.le_refl _⟩, ⟨hbT HB.out⟩⟩
 case round =>
  clear H'; (try clear p2); obtain ⟨x5_1, x11_1, rfl, rfl, HA, HK1, HB⟩ := hrel
  cases gk with
  | zero => exact absurd HA.out (by simp [impl_places_at_CountOnsetless_1.l0])
  | succ k1 =>
   have H := HA.out; clear HA
   simp only [impl_places_at_CountOnsetless_1.l0] at H
   by_cases c3 : x11_1 < (a0.size : Int)
   ·rw [if_pos c3] at H
    have c3b0 : decide (x11_1 < (a0.size : Int)) = true := decide_eq_true c3
    clear c3; have HC4 := Aside0.mk H; clear H
    go_upto_if 15 with (fail)
    go_cut [7] (fun v7 wc => ∃ (kq : Nat) (x7_3 : Int), v7 = .int .u8 x7_3 ∧ Aside0 (impl_places_at_CountOnsetless_1.j1 kq a0 x5_1 x11_1 x7_3 0 (a0.size : Int) x11_1 = some r) ∧ Aside0 (kq ≤ k1) ∧ Aside0 (Below w.heap.size w wc))
    case first =>
     have H := HC4.out; clear HC4
     by_cases c5 : x11_1 > 0
     ·rw [if_pos c5] at H
      have c5b0 : decide (0 < x11_1) = true := decide_eq_true c5
      clear c5
      (first | rw [c5b0] | (simp only [i64_w, i32_w]; rw [c5b0]) | skip)
      obtain ⟨ji6, hji6⟩ : ∃ j_ : Int, (wrap64 (x11_1 - 1)) = j_ := ⟨_, rfl⟩
      replace H : (if 0 ≤ (ji6) then (if (ji6) < (a0.size : Int) then (impl_places_at_CountOnsetless_1.j1 k1 a0 x5_1 x11_1 (bt a0 (ji6)) 0 (a0.size : Int) x11_1) else (none)) else (none)) = some r := by first | (rw [hji6] at H; exact H) | (simp only [hji6] at H ⊢; exact H)
      have hji6w : (IntKind.i64.wrap (x11_1 - 1)) = ji6 := (i64_w _).trans hji6
      by_cases c7 : 0 ≤ (ji6)
      ·rw [if_pos c7] at H
       have c7b0 : decide (0 ≤ (ji6)) = true := decide_eq_true c7
       clear c7
       by_cases c8 : (ji6) < (a0.size : Int)
       ·rw [if_pos c8] at H
        have c8b0 : decide ((ji6) < (a0.size : Int)) = true := decide_eq_true c8
        clear c8; have H' := Aside0.mk H; clear H
        have p9 : 0 ≤ ((ji6) : Int) := of_decide_eq_true asmT
        have q9 : (ji6) < (a0.size : Int) := of_decide_eq_true asmT
        have hx9 := bt_at a0 (ji6); replace p9 := eq_true p9; replace q9 := eq_true q9
        go_wp2
        go_meet
        case rel => exact ⟨_, (bt a0 (ji6)), (by first | rfl | (simp; done) | (simp only [← hji6] <;> (first | rfl | simp)) | (simp [*]; done)), H', ⟨by have := HK1.out; first | omega | exact Nat.le_refl _⟩, ⟨hbT HB.out⟩⟩
       ·rw [if_neg c8] at H
        exact absurd H (by simp)
      ·rw [if_neg c7] at H
       exact absurd H (by simp)
     ·rw [if_neg c5] at H
      have c5b0 : decide (0 < x11_1) = false := decide_eq_false c5
      clear c5
      (first | rw [c5b0] | (simp only [i64_w, i32_w]; rw [c5b0]) | skip)
      have H' := Aside0.mk H; clear H
      go_wp2
      go_meet
      case rel => exact ⟨_, (0), rdT, H', ⟨by have := HK1.out; first | omega | exact Nat.le_refl _⟩, ⟨hbT HB.out⟩⟩
    case rest =>
     clear HC4; (try clear p2); (try clear c3); (try clear c3b0); (try clear c5); (try clear c5b0); (try clear p6); (try clear c7); (try clear c7b0); (try clear c8); (try clear c8b0); (try clear c9); (try clear p9); (try clear q9); (try clear hx9); (try clear p2); (try clear p9); (try clear q9); obtain ⟨kq, x7_3, rfl, HA, HJ3, HB⟩ := hcut
     cases kq with
     | zero => exact absurd HA.out (by simp [impl_places_at_CountOnsetless_1.j1])
     | succ kj3 =>
      have H := HA.out; clear HA
      simp only [impl_places_at_CountOnsetless_1.j1] at H
      have HC10 := Aside0.mk H; clear H
      go_upto_if 24 with (fail)
      go_cut [8] (fun v8 wc => ∃ (kq : Nat) (x8_9 : Int), v8 = .int .u8 x8_9 ∧ Aside0 (impl_places_at_CountOnsetless_1.j2 kq a0 x5_1 x11_1 x7_3 x8_9 (a0.size : Int) x11_1 = some r) ∧ Aside0 (kq ≤ kj3) ∧ Aside0 (Below w.heap.size w wc))
      case first =>
       have H := HC10.out; clear HC10
       by_cases c11 : (wrap64 (x11_1 + 1)) < (a0.size : Int)
       ·rw [if_pos c11] at H
        have c11b0 : decide ((wrap64 (x11_1 + 1)) < (a0.size : Int)) = true := decide_eq_true c11
        clear c11
        (first | rw [c11b0] | (simp only [i64_w, i32_w]; rw [c11b0]) | skip)
        obtain ⟨ji12, hji12⟩ : ∃ j_ : Int, (wrap64 (x11_1 + 1)) = j_ := ⟨_, rfl⟩
        replace H : (if 0 ≤ (ji12) then (impl_places_at_CountOnsetless_1.j2 kj3 a0 x5_1 x11_1 x7_3 (bt a0 (ji12)) (a0.size : Int) x11_1) else (none)) = some r := by first | (rw [hji12] at H; exact H) | (simp only [hji12] at H ⊢; exact H)
        (try rw [hji12] at c11b0)
        have hji12w : (IntKind.i64.wrap (x11_1 + 1)) = ji12 := (i64_w _).trans hji12
        by_cases c13 : 0 ≤ (ji12)
        ·rw [if_pos c13] at H
         have c13b0 : decide (0 ≤ (ji12)) = true := decide_eq_true c13
         clear c13; have H' := Aside0.mk H; clear H
         have p14 : 0 ≤ ((ji12) : Int) := of_decide_eq_true asmT
         have q14 : (ji12) < (a0.size : Int) := of_decide_eq_true asmT
         have hx14 := bt_at a0 (ji12); replace p14 := eq_true p14; replace q14 := eq_true q14
         go_wp2
         go_meet
         case rel => exact ⟨_, (bt a0 (ji12)), (by first | rfl | (simp; done) | (simp only [← hji12] <;> (first | rfl | simp)) | (simp [*]; done)), H', ⟨by have := HK1.out; have := HJ3.out; first | omega | exact Nat.le_refl _⟩, ⟨hbT HB.out⟩⟩
        ·rw [if_neg c13] at H
         exact absurd H (by simp)
       ·rw [if_neg c11] at H
        have c11b0 : decide ((wrap64 (x11_1 + 1)) < (a0.size : Int)) = false := decide_eq_false c11
        clear c11
        (first | rw [c11b0] | (simp only [i64_w, i32_w]; rw [c11b0]) | skip)
        have H' := Aside0.mk H; clear H
        go_wp2
        go_meet
        case rel => exact ⟨_, (0), rdT, H', ⟨by have := HK1.out; have := HJ3.out; first | omega | exact Nat.le_refl _⟩, ⟨hbT HB.out⟩⟩
      case rest =>
       clear HC10; (try clear c1); (try clear p1); (try clear q1); (try clear hx1); (try clear p2); (try clear c3); (try clear c3b0); (try clear c5); (try clear c5b0); (try clear p6); (try clear c7); (try clear c7b0); (try clear c8); (try clear c8b0); (try clear c9); (try clear p9); (try clear q9); (try clear hx9); (try clear c11); (try clear c11b0); (try clear c13); (try clear c13b0); (try clear p14); (try clear q14); (try clear hx14); (try clear p14); (try clear p2); (try clear p6); (try clear p9); (try clear q14); (try clear q9); obtain ⟨kq, x8_9, rfl, HA, HJ9, HB⟩ := hcut
       cases kq with
       | zero => exact absurd HA.out (by simp [impl_places_at_CountOnsetless_1.j2])
       | succ kj9 =>
        have H := HA.out; clear HA
        simp only [impl_places_at_CountOnsetless_1.j2] at H
        replace H := Option.bind_eq_some_iff.mp H; obtain ⟨t290, A150, H⟩ := H; replace H : (if t290 = true then (if 0 ≤ x11_1 then (if x11_1 < (a0.size : Int) then ((impl_CountOnsetless_1.f x7_3 (bt a0 x11_1) x8_9).bind fun t291 => (if t291 = true then (impl_places_at_CountOnsetless_1.l0 kj9 a0 (wrap64 (x5_1 + 1)) (a0.size : Int) (wrap64 (x11_1 + 1))) else (impl_places_at_CountOnsetless_1.l0 kj9 a0 x5_1 (a0.size : Int) (wrap64 (x11_1 + 1))))) else (none)) else (none)) else (impl_places_at_CountOnsetless_1.l0 kj9 a0 x5_1 (a0.size : Int) (wrap64 (x11_1 + 1)))) = some r := H; have A15 := Aside0.mk A150; clear A150
        by_cases c16 : t290 = true
        ·subst c16
         have H1 : (if 0 ≤ x11_1 then (if x11_1 < (a0.size : Int) then ((impl_CountOnsetless_1.f x7_3 (bt a0 x11_1) x8_9).bind fun t291 => (if t291 = true then (impl_places_at_CountOnsetless_1.l0 kj9 a0 (wrap64 (x5_1 + 1)) (a0.size : Int) (wrap64 (x11_1 + 1))) else (impl_places_at_CountOnsetless_1.l0 kj9 a0 x5_1 (a0.size : Int) (wrap64 (x11_1 + 1))))) else (none)) else (none)) = some r := by rw [if_pos rfl] at H; exact H
         clear H; have H := H1; clear H1
         by_cases c17 : 0 ≤ x11_1
         ·rw [if_pos c17] at H
          have c17b0 : decide (0 ≤ x11_1) = true := decide_eq_true c17
          clear c17
          by_cases c18 : x11_1 < (a0.size : Int)
          ·rw [if_pos c18] at H
           have c18b0 : decide (x11_1 < (a0.size : Int)) = true := decide_eq_true c18
           clear c18; replace H := Option.bind_eq_some_iff.mp H; obtain ⟨t291, A200, H⟩ := H; replace H : (if t291 = true then (impl_places_at_CountOnsetless_1.l0 kj9 a0 (wrap64 (x5_1 + 1)) (a0.size : Int) (wrap64 (x11_1 + 1))) else (impl_places_at_CountOnsetless_1.l0 kj9 a0 x5_1 (a0.size : Int) (wrap64 (x11_1 + 1)))) = some r := H; have A20 := Aside0.mk A200; clear A200
           by_cases c21 : t291 = true
           ·subst c21
            have H1 : (impl_places_at_CountOnsetless_1.l0 kj9 a0 (wrap64 (x5_1 + 1)) (a0.size : Int) (wrap64 (x11_1 + 1))) = some r := by rw [if_pos rfl] at H; exact H
            clear H; have H := H1; clear H1; have H' := Aside0.mk H; clear H
            go_wp2_with (first | ((with_reducible refine gate_callee (f := 94) rfl ?_); refine goesL_ (some 30) rfl rfl Try.func94 (by kernel_rfl) rfl #[.string a0] rfl eqT ?_; (with_reducible refine (impl_IsForm.calls kj9 a0 true _ A15.out).mono ?_); rintro e w' ⟨rfl, ⟨nd, rfl⟩⟩; refine ⟨_, rfl, ?_⟩; have p19 : 0 ≤ (x11_1 : Int) := of_decide_eq_true asmT; have q19 : x11_1 < (a0.size : Int) := of_decide_eq_true asmT; have hx19 := bt_at a0 x11_1; replace p19 := eq_true p19; replace q19 := eq_true q19) | (go_at_call 97; (with_reducible refine (impl_CountOnsetless_1.calls x7_3 (bt a0 x11_1) x8_9 true _ A20.out).mono ?_); rintro e w22 ⟨rfl, hb⟩; have n0_ := asT (below_step (hbT HB.out) hb); clear HB; have HB := n0_; clear n0_; (try clear hb); (try clear hb2); (try clear hk); (try clear hi)))
            go_roundg kj9
            case measure => have := HK1.out; have := HJ3.out; have := HJ9.out; omega
            case rel => exact ⟨(wrap64 (x5_1 + 1)), (wrap64 (x11_1 + 1)), rdT, rdT, H', ⟨by have := HK1.out; have := HJ3.out; have := HJ9.out; omega⟩, ⟨hbT HB.out⟩⟩
           ·replace c21 := Bool.eq_false_iff.mpr c21
            subst c21
            have H1 : (impl_places_at_CountOnsetless_1.l0 kj9 a0 x5_1 (a0.size : Int) (wrap64 (x11_1 + 1))) = some r := by rw [if_neg (show ¬ (false = true) by decide)] at H; exact H
            clear H; have H := H1; clear H1; have H' := Aside0.mk H; clear H
            go_wp2_with (first | ((with_reducible refine gate_callee (f := 94) rfl ?_); refine goesL_ (some 30) rfl rfl Try.func94 (by kernel_rfl) rfl #[.string a0] rfl eqT ?_; (with_reducible refine (impl_IsForm.calls kj9 a0 true _ A15.out).mono ?_); rintro e w' ⟨rfl, ⟨nd, rfl⟩⟩; refine ⟨_, rfl, ?_⟩; have p19 : 0 ≤ (x11_1 : Int) := of_decide_eq_true asmT; have q19 : x11_1 < (a0.size : Int) := of_decide_eq_true asmT; have hx19 := bt_at a0 x11_1; replace p19 := eq_true p19; replace q19 := eq_true q19) | (go_at_call 97; (with_reducible refine (impl_CountOnsetless_1.calls x7_3 (bt a0 x11_1) x8_9 false _ A20.out).mono ?_); rintro e w23 ⟨rfl, hb⟩; have n0_ := asT (below_step (hbT HB.out) hb); clear HB; have HB := n0_; clear n0_; (try clear hb); (try clear hb2); (try clear hk); (try clear hi)))
            go_roundg kj9
            case measure => have := HK1.out; have := HJ3.out; have := HJ9.out; omega
            case rel => exact ⟨(x5_1), (wrap64 (x11_1 + 1)), rdT, rdT, H', ⟨by have := HK1.out; have := HJ3.out; have := HJ9.out; omega⟩, ⟨hbT HB.out⟩⟩
          ·rw [if_neg c18] at H
           exact absurd H (by simp)
         ·rw [if_neg c17] at H
          exact absurd H (by simp)
        ·replace c16 := Bool.eq_false_iff.mpr c16
         subst c16
         have H1 : (impl_places_at_CountOnsetless_1.l0 kj9 a0 x5_1 (a0.size : Int) (wrap64 (x11_1 + 1))) = some r := by rw [if_neg (show ¬ (false = true) by decide)] at H; exact H
         clear H; have H := H1; clear H1; have H' := Aside0.mk H; clear H
         go_wp2_with (first | ((with_reducible refine gate_callee (f := 94) rfl ?_); refine goesL_ (some 30) rfl rfl Try.func94 (by kernel_rfl) rfl #[.string a0] rfl eqT ?_; (with_reducible refine (impl_IsForm.calls kj9 a0 false _ A15.out).mono ?_); rintro e w' ⟨rfl, ⟨nd, rfl⟩⟩; refine ⟨_, rfl, ?_⟩))
         go_roundg kj9
         case measure => have := HK1.out; have := HJ3.out; have := HJ9.out; omega
         case rel => exact ⟨(x5_1), (wrap64 (x11_1 + 1)), rdT, rdT, H', ⟨by have := HK1.out; have := HJ3.out; have := HJ9.out; omega⟩, ⟨hbT HB.out⟩⟩
   ·rw [if_neg c3] at H
    have c3b0 : decide (x11_1 < (a0.size : Int)) = false := decide_eq_false c3
    clear c3
    obtain rfl := Option.some.inj H
    go_wp2
    go_ret
    exact ⟨rlT, hbT HB.out⟩

/-! ### impl_CountOnsetless: function 57 -/
def impl_CountOnsetless.f (k : Nat) (a0 : ByteArray) : Option (Int) := (impl_places_at_CountOnsetless_1.f k a0 ()).bind fun t292 => (some t292)
theorem impl_CountOnsetless.mono : ∀ a0 k, LeO (impl_CountOnsetless.f k a0) (impl_CountOnsetless.f (k + 1) a0) := by
 intro a0 k
 unfold impl_CountOnsetless.f
 repeat' first
   | (with_reducible exact impl_places_at_CountOnsetless_1.mono _ _ _)
   | (with_reducible exact LeO.refl _)
   | (with_reducible exact LeO.none _)
   | (with_reducible refine LeO.ite ?_ ?_)
   | (with_reducible refine LeO.bind ?_ (fun _ => ?_))
   | exact impl_places_at_CountOnsetless_1.mono _ _ _
   | exact LeO.none _
   | refine LeO.ite ?_ ?_
   | refine LeO.bind ?_ (fun _ => ?_)
set_option maxHeartbeats 8000000 in
set_option maxRecDepth 100000 in
theorem impl_CountOnsetless.calls (k : Nat) (a0 : ByteArray) (r : Int) (w : World) (h : impl_CountOnsetless.f k a0 = some r) :
  Calls Try.prog 57 #[.string a0] w fun e w' => e = .returned (.int .i64 r) ∧ Below w.heap.size w w' := by
 have HB := asT (Below.refl w.heap.size w)
 have H : ((impl_places_at_CountOnsetless_1.f k a0 ()).bind fun t292 => (some t292)) = some r := h
 clear h; replace H := Option.bind_eq_some_iff.mp H; obtain ⟨t292, A20, H⟩ := H; replace H : (some t292) = some r := H; have A2 := Aside0.mk A20; clear A20
 obtain rfl := Option.some.inj H
 go_enter Try.func57, Try.ntmps57
 go_wp2_with (first | ((with_reducible refine gate_callee (f := 96) rfl ?_); refine goesL_ (some 4) rfl rfl Try.func96 (by kernel_rfl) rfl #[.string a0, .func (.func 97) #[] #[]] rfl eqT ?_; (with_reducible refine (impl_places_at_CountOnsetless_1.calls k a0 () t292 _ A2.out).mono ?_); rintro e w3 ⟨rfl, hb⟩; refine ⟨_, rfl, ?_⟩; have n0_ := asT (below_step (hbT HB.out) hb); clear HB; have HB := n0_; clear n0_; (try clear hb); (try clear hb2); (try clear hk); (try clear hi)))
 go_ret
 exact ⟨rlT, hbT HB.out⟩

/-! ### impl_CountCodas_1: function 100 -/
def impl_CountCodas_1.f (a0 : Int) (a1 : Int) (a2 : Int) : Option (Bool) := (impl_isConsonant.f a1).bind fun t293 => (if t293 = true then ((impl_isVowel.f a2).bind fun t294 => (some (!t294))) else (some false))
set_option maxHeartbeats 8000000 in
set_option maxRecDepth 100000 in
theorem impl_CountCodas_1.calls (a0 : Int) (a1 : Int) (a2 : Int) (r : Bool) (w : World) (h : impl_CountCodas_1.f a0 a1 a2 = some r) :
  Calls Try.prog 100 #[.int .u8 a0, .int .u8 a1, .int .u8 a2] w fun e w' => e = .returned (.bool r) ∧ Below w.heap.size w w' := by
 have HB := asT (Below.refl w.heap.size w)
 have H : ((impl_isConsonant.f a1).bind fun t293 => (if t293 = true then ((impl_isVowel.f a2).bind fun t294 => (some (!t294))) else (some false))) = some r := h
 clear h; replace H := Option.bind_eq_some_iff.mp H; obtain ⟨t293, A40, H⟩ := H; replace H : (if t293 = true then ((impl_isVowel.f a2).bind fun t294 => (some (!t294))) else (some false)) = some r := H; have A4 := Aside0.mk A40; clear A40
 by_cases c5 : t293 = true
 ·subst c5
  have H1 : ((impl_isVowel.f a2).bind fun t294 => (some (!t294))) = some r := by rw [if_pos rfl] at H; exact H
  clear H; have H := H1; clear H1; replace H := Option.bind_eq_some_iff.mp H; obtain ⟨t294, A60, H⟩ := H; replace H : (some (!t294)) = some r := H; have A6 := Aside0.mk A60; clear A60
  obtain rfl := Option.some.inj H
  go_enter Try.func100, Try.ntmps100
  go_wp2_with (first | ((with_reducible refine gate_callee (f := 99) rfl ?_); refine goesL_ (some 8) rfl rfl Try.func99 (by kernel_rfl) rfl #[.int .u8 a1] rfl eqT ?_; (with_reducible refine (impl_isConsonant.calls a1 true _ A4.out).mono ?_); rintro e w7 ⟨rfl, hb⟩; refine ⟨_, rfl, ?_⟩; have n0_ := asT (below_step (hbT HB.out) hb); clear HB; have HB := n0_; clear n0_; (try clear hb); (try clear hb2); (try clear hk); (try clear hi)) | (go_at_call 98; (with_reducible refine (impl_isVowel.calls a2 t294 _ A6.out).mono ?_); rintro e w8 ⟨rfl, hb⟩; have n0_ := asT (below_step (hbT HB.out) hb); clear HB; have HB := n0_; clear n0_; (try clear hb); (try clear hb2); (try clear hk); (try clear hi)))
  go_ret
  exact ⟨rlT, hbT HB.out⟩
 ·replace c5 := Bool.eq_false_iff.mpr c5
  subst c5
  have H1 : (some false) = some r := by rw [if_neg (show ¬ (false = true) by decide)] at H; exact H
  clear H; have H := H1; clear H1
  obtain rfl := Option.some.inj H
  go_enter Try.func100, Try.ntmps100
  go_wp2_with (first | ((with_reducible refine gate_callee (f := 99) rfl ?_); refine goesL_ (some 8) rfl rfl Try.func99 (by kernel_rfl) rfl #[.int .u8 a1] rfl eqT ?_; (with_reducible refine (impl_isConsonant.calls a1 false _ A4.out).mono ?_); rintro e w9 ⟨rfl, hb⟩; refine ⟨_, rfl, ?_⟩; have n0_ := asT (below_step (hbT HB.out) hb); clear HB; have HB := n0_; clear n0_; (try clear hb); (try clear hb2); (try clear hk); (try clear hi)))
  go_ret
  exact ⟨rlT, hbT HB.out⟩

/-! ### impl_places_at_CountCodas_1: function 177 -/
mutual
def impl_places_at_CountCodas_1.l0 : Nat → ByteArray → Int → Int → Int → Option (Int)
 | 0, _, _, _, _ => none
 | k + 1, x0, x5, x10, x11 => if x11 < x10 then (if x11 > 0 then (if 0 ≤ (wrap64 (x11 - 1)) then (if (wrap64 (x11 - 1)) < (x0.size : Int) then (impl_places_at_CountCodas_1.j1 k x0 x5 x11 (bt x0 (wrap64 (x11 - 1))) 0 x10 x11) else (none)) else (none)) else (impl_places_at_CountCodas_1.j1 k x0 x5 x11 0 0 x10 x11)) else (some x5)
def impl_places_at_CountCodas_1.j1 : Nat → ByteArray → Int → Int → Int → Int → Int → Int → Option (Int)
 | 0, _, _, _, _, _, _, _ => none
 | k + 1, x0, x5, x6, x7, x8, x10, x11 => if (wrap64 (x6 + 1)) < (x0.size : Int) then (if 0 ≤ (wrap64 (x6 + 1)) then (impl_places_at_CountCodas_1.j2 k x0 x5 x6 x7 (bt x0 (wrap64 (x6 + 1))) x10 x11) else (none)) else (impl_places_at_CountCodas_1.j2 k x0 x5 x6 x7 x8 x10 x11)
def impl_places_at_CountCodas_1.j2 : Nat → ByteArray → Int → Int → Int → Int → Int → Int → Option (Int)
 | 0, _, _, _, _, _, _, _ => none
 | k + 1, x0, x5, x6, x7, x8, x10, x11 => (impl_IsForm.f k x0).bind fun t295 => (if t295 = true then (if 0 ≤ x6 then (if x6 < (x0.size : Int) then ((impl_CountCodas_1.f x7 (bt x0 x6) x8).bind fun t296 => (if t296 = true then (impl_places_at_CountCodas_1.l0 k x0 (wrap64 (x5 + 1)) x10 (wrap64 (x11 + 1))) else (impl_places_at_CountCodas_1.l0 k x0 x5 x10 (wrap64 (x11 + 1))))) else (none)) else (none)) else (impl_places_at_CountCodas_1.l0 k x0 x5 x10 (wrap64 (x11 + 1))))
end
def impl_places_at_CountCodas_1.f (k : Nat) (a0 : ByteArray) (a1 : Unit) : Option (Int) := impl_places_at_CountCodas_1.l0 k a0 0 (a0.size : Int) 0
theorem impl_places_at_CountCodas_1.mono_l : ∀ k, (∀ y0 y1 y2 y3, LeO (impl_places_at_CountCodas_1.l0 k y0 y1 y2 y3) (impl_places_at_CountCodas_1.l0 (k + 1) y0 y1 y2 y3)) ∧ (∀ y0 y1 y2 y3 y4 y5 y6, LeO (impl_places_at_CountCodas_1.j1 k y0 y1 y2 y3 y4 y5 y6) (impl_places_at_CountCodas_1.j1 (k + 1) y0 y1 y2 y3 y4 y5 y6)) ∧ (∀ y0 y1 y2 y3 y4 y5 y6, LeO (impl_places_at_CountCodas_1.j2 k y0 y1 y2 y3 y4 y5 y6) (impl_places_at_CountCodas_1.j2 (k + 1) y0 y1 y2 y3 y4 y5 y6))
 | 0 => ⟨fun _ _ _ _ r h => by simp [impl_places_at_CountCodas_1.l0] at h, fun _ _ _ _ _ _ _ r h => by simp [impl_places_at_CountCodas_1.j1] at h, fun _ _ _ _ _ _ _ r h => by simp [impl_places_at_CountCodas_1.j2] at h⟩
 | k + 1 => by
  obtain ⟨ih0, ih1, ih2⟩ := impl_places_at_CountCodas_1.mono_l k; refine ⟨?_, ?_, ?_⟩
  ·intro y0 y1 y2 y3
   unfold impl_places_at_CountCodas_1.l0
   repeat' first
   | (with_reducible exact ih0 _ _ _ _)
   | (with_reducible exact ih1 _ _ _ _ _ _ _)
   | (with_reducible exact ih2 _ _ _ _ _ _ _)
   | (with_reducible exact impl_IsForm.mono _ _)
   | (with_reducible exact LeO.refl _)
   | (with_reducible exact LeO.none _)
   | (with_reducible refine LeO.ite ?_ ?_)
   | (with_reducible refine LeO.bind ?_ (fun _ => ?_))
   | exact ih0 _ _ _ _
   | exact ih1 _ _ _ _ _ _ _
   | exact ih2 _ _ _ _ _ _ _
   | exact impl_IsForm.mono _ _
   | exact LeO.none _
   | refine LeO.ite ?_ ?_
   | refine LeO.bind ?_ (fun _ => ?_)
  ·intro y0 y1 y2 y3 y4 y5 y6
   unfold impl_places_at_CountCodas_1.j1
   repeat' first
   | (with_reducible exact ih0 _ _ _ _)
   | (with_reducible exact ih1 _ _ _ _ _ _ _)
   | (with_reducible exact ih2 _ _ _ _ _ _ _)
   | (with_reducible exact impl_IsForm.mono _ _)
   | (with_reducible exact LeO.refl _)
   | (with_reducible exact LeO.none _)
   | (with_reducible refine LeO.ite ?_ ?_)
   | (with_reducible refine LeO.bind ?_ (fun _ => ?_))
   | exact ih0 _ _ _ _
   | exact ih1 _ _ _ _ _ _ _
   | exact ih2 _ _ _ _ _ _ _
   | exact impl_IsForm.mono _ _
   | exact LeO.none _
   | refine LeO.ite ?_ ?_
   | refine LeO.bind ?_ (fun _ => ?_)
  ·intro y0 y1 y2 y3 y4 y5 y6
   unfold impl_places_at_CountCodas_1.j2
   repeat' first
   | (with_reducible exact ih0 _ _ _ _)
   | (with_reducible exact ih1 _ _ _ _ _ _ _)
   | (with_reducible exact ih2 _ _ _ _ _ _ _)
   | (with_reducible exact impl_IsForm.mono _ _)
   | (with_reducible exact LeO.refl _)
   | (with_reducible exact LeO.none _)
   | (with_reducible refine LeO.ite ?_ ?_)
   | (with_reducible refine LeO.bind ?_ (fun _ => ?_))
   | exact ih0 _ _ _ _
   | exact ih1 _ _ _ _ _ _ _
   | exact ih2 _ _ _ _ _ _ _
   | exact impl_IsForm.mono _ _
   | exact LeO.none _
   | refine LeO.ite ?_ ?_
   | refine LeO.bind ?_ (fun _ => ?_)
theorem impl_places_at_CountCodas_1.mono : ∀ a0 a1 k, LeO (impl_places_at_CountCodas_1.f k a0 a1) (impl_places_at_CountCodas_1.f (k + 1) a0 a1) := by
 intro a0 a1 k
 obtain ⟨ih0, ih1, ih2⟩ := impl_places_at_CountCodas_1.mono_l k
 unfold impl_places_at_CountCodas_1.f
 repeat' first
   | (with_reducible exact ih0 _ _ _ _)
   | (with_reducible exact ih1 _ _ _ _ _ _ _)
   | (with_reducible exact ih2 _ _ _ _ _ _ _)
   | (with_reducible exact impl_IsForm.mono _ _)
   | (with_reducible exact LeO.refl _)
   | (with_reducible exact LeO.none _)
   | (with_reducible refine LeO.ite ?_ ?_)
   | (with_reducible refine LeO.bind ?_ (fun _ => ?_))
   | exact ih0 _ _ _ _
   | exact ih1 _ _ _ _ _ _ _
   | exact ih2 _ _ _ _ _ _ _
   | exact impl_IsForm.mono _ _
   | exact LeO.none _
   | refine LeO.ite ?_ ?_
   | refine LeO.bind ?_ (fun _ => ?_)
set_option maxHeartbeats 8000000 in
set_option maxRecDepth 100000 in
theorem impl_places_at_CountCodas_1.calls (k : Nat) (a0 : ByteArray) (a1 : Unit) (r : Int) (w : World) (h : impl_places_at_CountCodas_1.f k a0 a1 = some r) :
  Calls Try.prog 96 #[.string a0, .func (.func 100) #[] #[]] w fun e w' => e = .returned (.int .i64 r) ∧ Below w.heap.size w w' := by
 have HB := asT (Below.refl w.heap.size w)
 have H : (impl_places_at_CountCodas_1.l0 k a0 0 (a0.size : Int) 0) = some r := h
 clear h; have H' := Aside0.mk H; clear H
 go_enter Try.func96, Try.ntmps96
 go_wp2
 go_loopg [5, 11] k (fun kq v5 v11 w' => ∃ (x5_1 : Int) (x11_1 : Int), v5 = .int .i64 x5_1 ∧ v11 = .int .i64 x11_1 ∧ Aside0 (impl_places_at_CountCodas_1.l0 kq a0 x5_1 (a0.size : Int) x11_1 = some r) ∧ Aside0 (kq ≤ k) ∧ Aside0 (Below w.heap.size w w'))
 case atStart => exact ⟨(0), (0), rdT, rdT, H', ⟨Nat.le_refl _⟩, ⟨hbT HB.out⟩⟩
 case round =>
  clear H'; (try clear p2); obtain ⟨x5_1, x11_1, rfl, rfl, HA, HK1, HB⟩ := hrel
  cases gk with
  | zero => exact absurd HA.out (by simp [impl_places_at_CountCodas_1.l0])
  | succ k1 =>
   have H := HA.out; clear HA
   simp only [impl_places_at_CountCodas_1.l0] at H
   by_cases c3 : x11_1 < (a0.size : Int)
   ·rw [if_pos c3] at H
    have c3b0 : decide (x11_1 < (a0.size : Int)) = true := decide_eq_true c3
    clear c3; have HC4 := Aside0.mk H; clear H
    go_upto_if 15 with (fail)
    go_cut [7] (fun v7 wc => ∃ (kq : Nat) (x7_3 : Int), v7 = .int .u8 x7_3 ∧ Aside0 (impl_places_at_CountCodas_1.j1 kq a0 x5_1 x11_1 x7_3 0 (a0.size : Int) x11_1 = some r) ∧ Aside0 (kq ≤ k1) ∧ Aside0 (Below w.heap.size w wc))
    case first =>
     have H := HC4.out; clear HC4
     by_cases c5 : x11_1 > 0
     ·rw [if_pos c5] at H
      have c5b0 : decide (0 < x11_1) = true := decide_eq_true c5
      clear c5
      (first | rw [c5b0] | (simp only [i64_w, i32_w]; rw [c5b0]) | skip)
      obtain ⟨ji6, hji6⟩ : ∃ j_ : Int, (wrap64 (x11_1 - 1)) = j_ := ⟨_, rfl⟩
      replace H : (if 0 ≤ (ji6) then (if (ji6) < (a0.size : Int) then (impl_places_at_CountCodas_1.j1 k1 a0 x5_1 x11_1 (bt a0 (ji6)) 0 (a0.size : Int) x11_1) else (none)) else (none)) = some r := by first | (rw [hji6] at H; exact H) | (simp only [hji6] at H ⊢; exact H)
      have hji6w : (IntKind.i64.wrap (x11_1 - 1)) = ji6 := (i64_w _).trans hji6
      by_cases c7 : 0 ≤ (ji6)
      ·rw [if_pos c7] at H
       have c7b0 : decide (0 ≤ (ji6)) = true := decide_eq_true c7
       clear c7
       by_cases c8 : (ji6) < (a0.size : Int)
       ·rw [if_pos c8] at H
        have c8b0 : decide ((ji6) < (a0.size : Int)) = true := decide_eq_true c8
        clear c8; have H' := Aside0.mk H; clear H
        have p9 : 0 ≤ ((ji6) : Int) := of_decide_eq_true asmT
        have q9 : (ji6) < (a0.size : Int) := of_decide_eq_true asmT
        have hx9 := bt_at a0 (ji6); replace p9 := eq_true p9; replace q9 := eq_true q9
        go_wp2
        go_meet
        case rel => exact ⟨_, (bt a0 (ji6)), (by first | rfl | (simp; done) | (simp only [← hji6] <;> (first | rfl | simp)) | (simp [*]; done)), H', ⟨by have := HK1.out; first | omega | exact Nat.le_refl _⟩, ⟨hbT HB.out⟩⟩
       ·rw [if_neg c8] at H
        exact absurd H (by simp)
      ·rw [if_neg c7] at H
       exact absurd H (by simp)
     ·rw [if_neg c5] at H
      have c5b0 : decide (0 < x11_1) = false := decide_eq_false c5
      clear c5
      (first | rw [c5b0] | (simp only [i64_w, i32_w]; rw [c5b0]) | skip)
      have H' := Aside0.mk H; clear H
      go_wp2
      go_meet
      case rel => exact ⟨_, (0), rdT, H', ⟨by have := HK1.out; first | omega | exact Nat.le_refl _⟩, ⟨hbT HB.out⟩⟩
    case rest =>
     clear HC4; (try clear p2); (try clear c3); (try clear c3b0); (try clear c5); (try clear c5b0); (try clear p6); (try clear c7); (try clear c7b0); (try clear c8); (try clear c8b0); (try clear c9); (try clear p9); (try clear q9); (try clear hx9); (try clear p2); (try clear p9); (try clear q9); obtain ⟨kq, x7_3, rfl, HA, HJ3, HB⟩ := hcut
     cases kq with
     | zero => exact absurd HA.out (by simp [impl_places_at_CountCodas_1.j1])
     | succ kj3 =>
      have H := HA.out; clear HA
      simp only [impl_places_at_CountCodas_1.j1] at H
      have HC10 := Aside0.mk H; clear H
      go_upto_if 24 with (fail)
      go_cut [8] (fun v8 wc => ∃ (kq : Nat) (x8_9 : Int), v8 = .int .u8 x8_9 ∧ Aside0 (impl_places_at_CountCodas_1.j2 kq a0 x5_1 x11_1 x7_3 x8_9 (a0.size : Int) x11_1 = some r) ∧ Aside0 (kq ≤ kj3) ∧ Aside0 (Below w.heap.size w wc))
      case first =>
       have H := HC10.out; clear HC10
       by_cases c11 : (wrap64 (x11_1 + 1)) < (a0.size : Int)
       ·rw [if_pos c11] at H
        have c11b0 : decide ((wrap64 (x11_1 + 1)) < (a0.size : Int)) = true := decide_eq_true c11
        clear c11
        (first | rw [c11b0] | (simp only [i64_w, i32_w]; rw [c11b0]) | skip)
        obtain ⟨ji12, hji12⟩ : ∃ j_ : Int, (wrap64 (x11_1 + 1)) = j_ := ⟨_, rfl⟩
        replace H : (if 0 ≤ (ji12) then (impl_places_at_CountCodas_1.j2 kj3 a0 x5_1 x11_1 x7_3 (bt a0 (ji12)) (a0.size : Int) x11_1) else (none)) = some r := by first | (rw [hji12] at H; exact H) | (simp only [hji12] at H ⊢; exact H)
        (try rw [hji12] at c11b0)
        have hji12w : (IntKind.i64.wrap (x11_1 + 1)) = ji12 := (i64_w _).trans hji12
        by_cases c13 : 0 ≤ (ji12)
        ·rw [if_pos c13] at H
         have c13b0 : decide (0 ≤ (ji12)) = true := decide_eq_true c13
         clear c13; have H' := Aside0.mk H; clear H
         have p14 : 0 ≤ ((ji12) : Int) := of_decide_eq_true asmT
         have q14 : (ji12) < (a0.size : Int) := of_decide_eq_true asmT
         have hx14 := bt_at a0 (ji12); replace p14 := eq_true p14; replace q14 := eq_true q14
         go_wp2
         go_meet
         case rel => exact ⟨_, (bt a0 (ji12)), (by first | rfl | (simp; done) | (simp only [← hji12] <;> (first | rfl | simp)) | (simp [*]; done)), H', ⟨by have := HK1.out; have := HJ3.out; first | omega | exact Nat.le_refl _⟩, ⟨hbT HB.out⟩⟩
        ·rw [if_neg c13] at H
         exact absurd H (by simp)
       ·rw [if_neg c11] at H
        have c11b0 : decide ((wrap64 (x11_1 + 1)) < (a0.size : Int)) = false := decide_eq_false c11
        clear c11
        (first | rw [c11b0] | (simp only [i64_w, i32_w]; rw [c11b0]) | skip)
        have H' := Aside0.mk H; clear H
        go_wp2
        go_meet
        case rel => exact ⟨_, (0), rdT, H', ⟨by have := HK1.out; have := HJ3.out; first | omega | exact Nat.le_refl _⟩, ⟨hbT HB.out⟩⟩
      case rest =>
       clear HC10; (try clear c1); (try clear p1); (try clear q1); (try clear hx1); (try clear p2); (try clear c3); (try clear c3b0); (try clear c5); (try clear c5b0); (try clear p6); (try clear c7); (try clear c7b0); (try clear c8); (try clear c8b0); (try clear c9); (try clear p9); (try clear q9); (try clear hx9); (try clear c11); (try clear c11b0); (try clear c13); (try clear c13b0); (try clear p14); (try clear q14); (try clear hx14); (try clear p14); (try clear p2); (try clear p6); (try clear p9); (try clear q14); (try clear q9); obtain ⟨kq, x8_9, rfl, HA, HJ9, HB⟩ := hcut
       cases kq with
       | zero => exact absurd HA.out (by simp [impl_places_at_CountCodas_1.j2])
       | succ kj9 =>
        have H := HA.out; clear HA
        simp only [impl_places_at_CountCodas_1.j2] at H
        replace H := Option.bind_eq_some_iff.mp H; obtain ⟨t295, A150, H⟩ := H; replace H : (if t295 = true then (if 0 ≤ x11_1 then (if x11_1 < (a0.size : Int) then ((impl_CountCodas_1.f x7_3 (bt a0 x11_1) x8_9).bind fun t296 => (if t296 = true then (impl_places_at_CountCodas_1.l0 kj9 a0 (wrap64 (x5_1 + 1)) (a0.size : Int) (wrap64 (x11_1 + 1))) else (impl_places_at_CountCodas_1.l0 kj9 a0 x5_1 (a0.size : Int) (wrap64 (x11_1 + 1))))) else (none)) else (none)) else (impl_places_at_CountCodas_1.l0 kj9 a0 x5_1 (a0.size : Int) (wrap64 (x11_1 + 1)))) = some r := H; have A15 := Aside0.mk A150; clear A150
        by_cases c16 : t295 = true
        ·subst c16
         have H1 : (if 0 ≤ x11_1 then (if x11_1 < (a0.size : Int) then ((impl_CountCodas_1.f x7_3 (bt a0 x11_1) x8_9).bind fun t296 => (if t296 = true then (impl_places_at_CountCodas_1.l0 kj9 a0 (wrap64 (x5_1 + 1)) (a0.size : Int) (wrap64 (x11_1 + 1))) else (impl_places_at_CountCodas_1.l0 kj9 a0 x5_1 (a0.size : Int) (wrap64 (x11_1 + 1))))) else (none)) else (none)) = some r := by rw [if_pos rfl] at H; exact H
         clear H; have H := H1; clear H1
         by_cases c17 : 0 ≤ x11_1
         ·rw [if_pos c17] at H
          have c17b0 : decide (0 ≤ x11_1) = true := decide_eq_true c17
          clear c17
          by_cases c18 : x11_1 < (a0.size : Int)
          ·rw [if_pos c18] at H
           have c18b0 : decide (x11_1 < (a0.size : Int)) = true := decide_eq_true c18
           clear c18; replace H := Option.bind_eq_some_iff.mp H; obtain ⟨t296, A200, H⟩ := H; replace H : (if t296 = true then (impl_places_at_CountCodas_1.l0 kj9 a0 (wrap64 (x5_1 + 1)) (a0.size : Int) (wrap64 (x11_1 + 1))) else (impl_places_at_CountCodas_1.l0 kj9 a0 x5_1 (a0.size : Int) (wrap64 (x11_1 + 1)))) = some r := H; have A20 := Aside0.mk A200; clear A200
           by_cases c21 : t296 = true
           ·subst c21
            have H1 : (impl_places_at_CountCodas_1.l0 kj9 a0 (wrap64 (x5_1 + 1)) (a0.size : Int) (wrap64 (x11_1 + 1))) = some r := by rw [if_pos rfl] at H; exact H
            clear H; have H := H1; clear H1; have H' := Aside0.mk H; clear H
            go_wp2_with (first | ((with_reducible refine gate_callee (f := 94) rfl ?_); refine goesL_ (some 30) rfl rfl Try.func94 (by kernel_rfl) rfl #[.string a0] rfl eqT ?_; (with_reducible refine (impl_IsForm.calls kj9 a0 true _ A15.out).mono ?_); rintro e w' ⟨rfl, ⟨nd, rfl⟩⟩; refine ⟨_, rfl, ?_⟩; have p19 : 0 ≤ (x11_1 : Int) := of_decide_eq_true asmT; have q19 : x11_1 < (a0.size : Int) := of_decide_eq_true asmT; have hx19 := bt_at a0 x11_1; replace p19 := eq_true p19; replace q19 := eq_true q19) | (go_at_call 100; (with_reducible refine (impl_CountCodas_1.calls x7_3 (bt a0 x11_1) x8_9 true _ A20.out).mono ?_); rintro e w22 ⟨rfl, hb⟩; have n0_ := asT (below_step (hbT HB.out) hb); clear HB; have HB := n0_; clear n0_; (try clear hb); (try clear hb2); (try clear hk); (try clear hi)))
            go_roundg kj9
            case measure => have := HK1.out; have := HJ3.out; have := HJ9.out; omega
            case rel => exact ⟨(wrap64 (x5_1 + 1)), (wrap64 (x11_1 + 1)), rdT, rdT, H', ⟨by have := HK1.out; have := HJ3.out; have := HJ9.out; omega⟩, ⟨hbT HB.out⟩⟩
           ·replace c21 := Bool.eq_false_iff.mpr c21
            subst c21
            have H1 : (impl_places_at_CountCodas_1.l0 kj9 a0 x5_1 (a0.size : Int) (wrap64 (x11_1 + 1))) = some r := by rw [if_neg (show ¬ (false = true) by decide)] at H; exact H
            clear H; have H := H1; clear H1; have H' := Aside0.mk H; clear H
            go_wp2_with (first | ((with_reducible refine gate_callee (f := 94) rfl ?_); refine goesL_ (some 30) rfl rfl Try.func94 (by kernel_rfl) rfl #[.string a0] rfl eqT ?_; (with_reducible refine (impl_IsForm.calls kj9 a0 true _ A15.out).mono ?_); rintro e w' ⟨rfl, ⟨nd, rfl⟩⟩; refine ⟨_, rfl, ?_⟩; have p19 : 0 ≤ (x11_1 : Int) := of_decide_eq_true asmT; have q19 : x11_1 < (a0.size : Int) := of_decide_eq_true asmT; have hx19 := bt_at a0 x11_1; replace p19 := eq_true p19; replace q19 := eq_true q19) | (go_at_call 100; (with_reducible refine (impl_CountCodas_1.calls x7_3 (bt a0 x11_1) x8_9 false _ A20.out).mono ?_); rintro e w23 ⟨rfl, hb⟩; have n0_ := asT (below_step (hbT HB.out) hb); clear HB; have HB := n0_; clear n0_; (try clear hb); (try clear hb2); (try clear hk); (try clear hi)))
            go_roundg kj9
            case measure => have := HK1.out; have := HJ3.out; have := HJ9.out; omega
            case rel => exact ⟨(x5_1), (wrap64 (x11_1 + 1)), rdT, rdT, H', ⟨by have := HK1.out; have := HJ3.out; have := HJ9.out; omega⟩, ⟨hbT HB.out⟩⟩
          ·rw [if_neg c18] at H
           exact absurd H (by simp)
         ·rw [if_neg c17] at H
          exact absurd H (by simp)
        ·replace c16 := Bool.eq_false_iff.mpr c16
         subst c16
         have H1 : (impl_places_at_CountCodas_1.l0 kj9 a0 x5_1 (a0.size : Int) (wrap64 (x11_1 + 1))) = some r := by rw [if_neg (show ¬ (false = true) by decide)] at H; exact H
         clear H; have H := H1; clear H1; have H' := Aside0.mk H; clear H
         go_wp2_with (first | ((with_reducible refine gate_callee (f := 94) rfl ?_); refine goesL_ (some 30) rfl rfl Try.func94 (by kernel_rfl) rfl #[.string a0] rfl eqT ?_; (with_reducible refine (impl_IsForm.calls kj9 a0 false _ A15.out).mono ?_); rintro e w' ⟨rfl, ⟨nd, rfl⟩⟩; refine ⟨_, rfl, ?_⟩))
         go_roundg kj9
         case measure => have := HK1.out; have := HJ3.out; have := HJ9.out; omega
         case rel => exact ⟨(x5_1), (wrap64 (x11_1 + 1)), rdT, rdT, H', ⟨by have := HK1.out; have := HJ3.out; have := HJ9.out; omega⟩, ⟨hbT HB.out⟩⟩
   ·rw [if_neg c3] at H
    have c3b0 : decide (x11_1 < (a0.size : Int)) = false := decide_eq_false c3
    clear c3
    obtain rfl := Option.some.inj H
    go_wp2
    go_ret
    exact ⟨rlT, hbT HB.out⟩

/-! ### impl_CountCodas: function 58 -/
def impl_CountCodas.f (k : Nat) (a0 : ByteArray) : Option (Int) := (impl_places_at_CountCodas_1.f k a0 ()).bind fun t297 => (some t297)
theorem impl_CountCodas.mono : ∀ a0 k, LeO (impl_CountCodas.f k a0) (impl_CountCodas.f (k + 1) a0) := by
 intro a0 k
 unfold impl_CountCodas.f
 repeat' first
   | (with_reducible exact impl_places_at_CountCodas_1.mono _ _ _)
   | (with_reducible exact LeO.refl _)
   | (with_reducible exact LeO.none _)
   | (with_reducible refine LeO.ite ?_ ?_)
   | (with_reducible refine LeO.bind ?_ (fun _ => ?_))
   | exact impl_places_at_CountCodas_1.mono _ _ _
   | exact LeO.none _
   | refine LeO.ite ?_ ?_
   | refine LeO.bind ?_ (fun _ => ?_)
set_option maxHeartbeats 8000000 in
set_option maxRecDepth 100000 in
theorem impl_CountCodas.calls (k : Nat) (a0 : ByteArray) (r : Int) (w : World) (h : impl_CountCodas.f k a0 = some r) :
  Calls Try.prog 58 #[.string a0] w fun e w' => e = .returned (.int .i64 r) ∧ Below w.heap.size w w' := by
 have HB := asT (Below.refl w.heap.size w)
 have H : ((impl_places_at_CountCodas_1.f k a0 ()).bind fun t297 => (some t297)) = some r := h
 clear h; replace H := Option.bind_eq_some_iff.mp H; obtain ⟨t297, A20, H⟩ := H; replace H : (some t297) = some r := H; have A2 := Aside0.mk A20; clear A20
 obtain rfl := Option.some.inj H
 go_enter Try.func58, Try.ntmps58
 go_wp2_with (first | ((with_reducible refine gate_callee (f := 96) rfl ?_); refine goesL_ (some 4) rfl rfl Try.func96 (by kernel_rfl) rfl #[.string a0, .func (.func 100) #[] #[]] rfl eqT ?_; (with_reducible refine (impl_places_at_CountCodas_1.calls k a0 () t297 _ A2.out).mono ?_); rintro e w3 ⟨rfl, hb⟩; refine ⟨_, rfl, ?_⟩; have n0_ := asT (below_step (hbT HB.out) hb); clear HB; have HB := n0_; clear n0_; (try clear hb); (try clear hb2); (try clear hk); (try clear hi)))
 go_ret
 exact ⟨rlT, hbT HB.out⟩

/-! ### impl_CountClusters_1: function 101 -/
def impl_CountClusters_1.f (a0 : Int) (a1 : Int) (a2 : Int) : Option (Bool) := (impl_isConsonant.f a0).bind fun t298 => (if t298 = true then ((impl_isConsonant.f a1).bind fun t299 => (some t299)) else (some false))
set_option maxHeartbeats 8000000 in
set_option maxRecDepth 100000 in
theorem impl_CountClusters_1.calls (a0 : Int) (a1 : Int) (a2 : Int) (r : Bool) (w : World) (h : impl_CountClusters_1.f a0 a1 a2 = some r) :
  Calls Try.prog 101 #[.int .u8 a0, .int .u8 a1, .int .u8 a2] w fun e w' => e = .returned (.bool r) ∧ Below w.heap.size w w' := by
 have HB := asT (Below.refl w.heap.size w)
 have H : ((impl_isConsonant.f a0).bind fun t298 => (if t298 = true then ((impl_isConsonant.f a1).bind fun t299 => (some t299)) else (some false))) = some r := h
 clear h; replace H := Option.bind_eq_some_iff.mp H; obtain ⟨t298, A40, H⟩ := H; replace H : (if t298 = true then ((impl_isConsonant.f a1).bind fun t299 => (some t299)) else (some false)) = some r := H; have A4 := Aside0.mk A40; clear A40
 by_cases c5 : t298 = true
 ·subst c5
  have H1 : ((impl_isConsonant.f a1).bind fun t299 => (some t299)) = some r := by rw [if_pos rfl] at H; exact H
  clear H; have H := H1; clear H1; replace H := Option.bind_eq_some_iff.mp H; obtain ⟨t299, A60, H⟩ := H; replace H : (some t299) = some r := H; have A6 := Aside0.mk A60; clear A60
  obtain rfl := Option.some.inj H
  go_enter Try.func101, Try.ntmps101
  go_wp2_with (first | ((with_reducible refine gate_callee (f := 99) rfl ?_); refine goesL_ (some 8) rfl rfl Try.func99 (by kernel_rfl) rfl #[.int .u8 a0] rfl eqT ?_; (with_reducible refine (impl_isConsonant.calls a0 true _ A4.out).mono ?_); rintro e w7 ⟨rfl, hb⟩; refine ⟨_, rfl, ?_⟩; have n0_ := asT (below_step (hbT HB.out) hb); clear HB; have HB := n0_; clear n0_; (try clear hb); (try clear hb2); (try clear hk); (try clear hi)) | (go_at_call 99; (with_reducible refine (impl_isConsonant.calls a1 t299 _ A6.out).mono ?_); rintro e w8 ⟨rfl, hb⟩; have n0_ := asT (below_step (hbT HB.out) hb); clear HB; have HB := n0_; clear n0_; (try clear hb); (try clear hb2); (try clear hk); (try clear hi)))
  go_ret
  exact ⟨rlT, hbT HB.out⟩
 ·replace c5 := Bool.eq_false_iff.mpr c5
  subst c5
  have H1 : (some false) = some r := by rw [if_neg (show ¬ (false = true) by decide)] at H; exact H
  clear H; have H := H1; clear H1
  obtain rfl := Option.some.inj H
  go_enter Try.func101, Try.ntmps101
  go_wp2_with (first | ((with_reducible refine gate_callee (f := 99) rfl ?_); refine goesL_ (some 8) rfl rfl Try.func99 (by kernel_rfl) rfl #[.int .u8 a0] rfl eqT ?_; (with_reducible refine (impl_isConsonant.calls a0 false _ A4.out).mono ?_); rintro e w9 ⟨rfl, hb⟩; refine ⟨_, rfl, ?_⟩; have n0_ := asT (below_step (hbT HB.out) hb); clear HB; have HB := n0_; clear n0_; (try clear hb); (try clear hb2); (try clear hk); (try clear hi)))
  go_ret
  exact ⟨rlT, hbT HB.out⟩

end Go.Proofs.Ytdamagcfmhimfad.PFnExactProfileOf
