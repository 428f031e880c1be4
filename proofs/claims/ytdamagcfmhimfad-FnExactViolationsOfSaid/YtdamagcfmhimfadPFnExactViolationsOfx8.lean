-- Made by gen.py (a program of this session) out of the translation; Lean checks it.
import Derived.Test.YtdamagcfmhimfadPFnExactViolationsOfx0
import Derived.Test.YtdamagcfmhimfadPFnExactViolationsOfx5
import Derived.Test.YtdamagcfmhimfadPFnExactViolationsOfx6
import Derived.Test.YtdamagcfmhimfadPFnExactViolationsOfx7
namespace Go.Proofs.Ytdamagcfmhimfad.PFnExactViolationsOf
open Go.RowKit Go.Proofs.YtdamagcfmhimfadB Go.Proofs.YtdamagcfmhimfadW.PrintWords Go.Proofs.YtdamagcfmhimfadW.PrintLast Go.Proofs.YtdamagcfmhimfadW.PrintMore
attribute [local go_sem] max2_int min2_int max_two min_two max_three min_three max_four min_four   -- for this text's walks alone
set_option linter.unusedVariables false
set_option linter.unusedSimpArgs false

/-! ### impl_CountFinalVoiced: function 61 -/
def impl_CountFinalVoiced.f (k : Nat) (a0 : ByteArray) : Option (Int) := (impl_places_at_CountFinalVoiced_1.f k a0 ()).bind fun t271 => (some t271)
theorem impl_CountFinalVoiced.mono : ∀ a0 k, LeO (impl_CountFinalVoiced.f k a0) (impl_CountFinalVoiced.f (k + 1) a0) := by
 intro a0 k
 unfold impl_CountFinalVoiced.f
 repeat' first
   | (with_reducible exact impl_places_at_CountFinalVoiced_1.mono _ _ _)
   | (with_reducible exact LeO.refl _)
   | (with_reducible exact LeO.none _)
   | (with_reducible refine LeO.ite ?_ ?_)
   | (with_reducible refine LeO.bind ?_ (fun _ => ?_))
   | exact impl_places_at_CountFinalVoiced_1.mono _ _ _
   | exact LeO.none _
   | refine LeO.ite ?_ ?_
   | refine LeO.bind ?_ (fun _ => ?_)
set_option maxHeartbeats 8000000 in
set_option maxRecDepth 100000 in
theorem impl_CountFinalVoiced.calls (k : Nat) (a0 : ByteArray) (r : Int) (w : World) (h : impl_CountFinalVoiced.f k a0 = some r) :
  Calls Try.prog 61 #[.string a0] w fun e w' => e = .returned (.int .i64 r) ∧ Below w.heap.size w w' := by
 have HB := asT (Below.refl w.heap.size w)
 have H : ((impl_places_at_CountFinalVoiced_1.f k a0 ()).bind fun t271 => (some t271)) = some r := h
 clear h; replace H := Option.bind_eq_some_iff.mp H; obtain ⟨t271, A20, H⟩ := H; replace H : (some t271) = some r := H; have A2 := Aside0.mk A20; clear A20
 obtain rfl := Option.some.inj H
 go_enter Try.func61, Try.ntmps61
 go_wp2_with (first | ((with_reducible refine gate_callee (f := 96) rfl ?_); refine goesL_ (some 4) rfl rfl Try.func96 (by kernel_rfl) rfl #[.string a0, .func (.func 104) #[] #[]] rfl eqT ?_; (with_reducible refine (impl_places_at_CountFinalVoiced_1.calls k a0 () t271 _ A2.out).mono ?_); rintro e w3 ⟨rfl, hb⟩; refine ⟨_, rfl, ?_⟩; have n0_ := asT (below_step (hbT HB.out) hb); clear HB; have HB := n0_; clear n0_; (try clear hb); (try clear hb2); (try clear hk); (try clear hi)))
 go_ret
 exact ⟨rlT, hbT HB.out⟩

/-! ### impl_isVoiceless: function 107 -/
def impl_isVoiceless.f (a0 : Int) : Option (Bool) := (impl_IsObstruent.f a0).bind fun t272 => (if t272 = true then ((impl_HasFeature.f a0 1).bind fun t273 => (some (!t273))) else (some false))
set_option maxHeartbeats 8000000 in
set_option maxRecDepth 100000 in
theorem impl_isVoiceless.calls (a0 : Int) (r : Bool) (w : World) (h : impl_isVoiceless.f a0 = some r) :
  Calls Try.prog 107 #[.int .u8 a0] w fun e w' => e = .returned (.bool r) ∧ Below w.heap.size w w' := by
 have HB := asT (Below.refl w.heap.size w)
 have H : ((impl_IsObstruent.f a0).bind fun t272 => (if t272 = true then ((impl_HasFeature.f a0 1).bind fun t273 => (some (!t273))) else (some false))) = some r := h
 clear h; replace H := Option.bind_eq_some_iff.mp H; obtain ⟨t272, A20, H⟩ := H; replace H : (if t272 = true then ((impl_HasFeature.f a0 1).bind fun t273 => (some (!t273))) else (some false)) = some r := H; have A2 := Aside0.mk A20; clear A20
 by_cases c3 : t272 = true
 ·subst c3
  have H1 : ((impl_HasFeature.f a0 1).bind fun t273 => (some (!t273))) = some r := by rw [if_pos rfl] at H; exact H
  clear H; have H := H1; clear H1; replace H := Option.bind_eq_some_iff.mp H; obtain ⟨t273, A40, H⟩ := H; replace H : (some (!t273)) = some r := H; have A4 := Aside0.mk A40; clear A40
  obtain rfl := Option.some.inj H
  go_enter Try.func107, Try.ntmps107
  go_wp2_with (first | ((with_reducible refine gate_callee (f := 128) rfl ?_); refine goesL_ (some 4) rfl rfl Try.func128 (by kernel_rfl) rfl #[.int .u8 a0] rfl eqT ?_; (with_reducible refine (impl_IsObstruent.calls a0 true _ A2.out).mono ?_); rintro e w' ⟨rfl, ⟨nd, rfl⟩⟩; refine ⟨_, rfl, ?_⟩) | (go_at_call 106; (with_reducible refine (impl_HasFeature.calls a0 1 t273 _ A4.out).mono ?_); rintro e w5 ⟨rfl, hb⟩; have n0_ := asT (below_step (hbT HB.out) hb); clear HB; have HB := n0_; clear n0_; (try clear hb); (try clear hb2); (try clear hk); (try clear hi)))
  go_ret
  exact ⟨rlT, hbT HB.out⟩
 ·replace c3 := Bool.eq_false_iff.mpr c3
  subst c3
  have H1 : (some false) = some r := by rw [if_neg (show ¬ (false = true) by decide)] at H; exact H
  clear H; have H := H1; clear H1
  obtain rfl := Option.some.inj H
  go_enter Try.func107, Try.ntmps107
  go_wp2_with (first | ((with_reducible refine gate_callee (f := 128) rfl ?_); refine goesL_ (some 4) rfl rfl Try.func128 (by kernel_rfl) rfl #[.int .u8 a0] rfl eqT ?_; (with_reducible refine (impl_IsObstruent.calls a0 false _ A2.out).mono ?_); rintro e w' ⟨rfl, ⟨nd, rfl⟩⟩; refine ⟨_, rfl, ?_⟩))
  go_ret
  exact ⟨rlT, hbT HB.out⟩

/-! ### impl_CountNasalVoiceless_1: function 105 -/
def impl_CountNasalVoiceless_1.f (a0 : Int) (a1 : Int) (a2 : Int) : Option (Bool) := (impl_HasFeature.f a0 2).bind fun t274 => (if t274 = true then ((impl_isVoiceless.f a1).bind fun t275 => (some t275)) else (some false))
set_option maxHeartbeats 8000000 in
set_option maxRecDepth 100000 in
theorem impl_CountNasalVoiceless_1.calls (a0 : Int) (a1 : Int) (a2 : Int) (r : Bool) (w : World) (h : impl_CountNasalVoiceless_1.f a0 a1 a2 = some r) :
  Calls Try.prog 105 #[.int .u8 a0, .int .u8 a1, .int .u8 a2] w fun e w' => e = .returned (.bool r) ∧ Below w.heap.size w w' := by
 have HB := asT (Below.refl w.heap.size w)
 have H : ((impl_HasFeature.f a0 2).bind fun t274 => (if t274 = true then ((impl_isVoiceless.f a1).bind fun t275 => (some t275)) else (some false))) = some r := h
 clear h; replace H := Option.bind_eq_some_iff.mp H; obtain ⟨t274, A40, H⟩ := H; replace H : (if t274 = true then ((impl_isVoiceless.f a1).bind fun t275 => (some t275)) else (some false)) = some r := H; have A4 := Aside0.mk A40; clear A40
 by_cases c5 : t274 = true
 ·subst c5
  have H1 : ((impl_isVoiceless.f a1).bind fun t275 => (some t275)) = some r := by rw [if_pos rfl] at H; exact H
  clear H; have H := H1; clear H1; replace H := Option.bind_eq_some_iff.mp H; obtain ⟨t275, A60, H⟩ := H; replace H : (some t275) = some r := H; have A6 := Aside0.mk A60; clear A60
  obtain rfl := Option.some.inj H
  go_enter Try.func105, Try.ntmps105
  go_wp2_with (first | ((with_reducible refine gate_callee (f := 106) rfl ?_); refine goesL_ (some 8) rfl rfl Try.func106 (by kernel_rfl) rfl #[.int .u8 a0, .int .i64 2] rfl eqT ?_; (with_reducible refine (impl_HasFeature.calls a0 2 true _ A4.out).mono ?_); rintro e w7 ⟨rfl, hb⟩; refine ⟨_, rfl, ?_⟩; have n0_ := asT (below_step (hbT HB.out) hb); clear HB; have HB := n0_; clear n0_; (try clear hb); (try clear hb2); (try clear hk); (try clear hi)) | (go_at_call 107; (with_reducible refine (impl_isVoiceless.calls a1 t275 _ A6.out).mono ?_); rintro e w8 ⟨rfl, hb⟩; have n0_ := asT (below_step (hbT HB.out) hb); clear HB; have HB := n0_; clear n0_; (try clear hb); (try clear hb2); (try clear hk); (try clear hi)))
  go_ret
  exact ⟨rlT, hbT HB.out⟩
 ·replace c5 := Bool.eq_false_iff.mpr c5
  subst c5
  have H1 : (some false) = some r := by rw [if_neg (show ¬ (false = true) by decide)] at H; exact H
  clear H; have H := H1; clear H1
  obtain rfl := Option.some.inj H
  go_enter Try.func105, Try.ntmps105
  go_wp2_with (first | ((with_reducible refine gate_callee (f := 106) rfl ?_); refine goesL_ (some 8) rfl rfl Try.func106 (by kernel_rfl) rfl #[.int .u8 a0, .int .i64 2] rfl eqT ?_; (with_reducible refine (impl_HasFeature.calls a0 2 false _ A4.out).mono ?_); rintro e w9 ⟨rfl, hb⟩; refine ⟨_, rfl, ?_⟩; have n0_ := asT (below_step (hbT HB.out) hb); clear HB; have HB := n0_; clear n0_; (try clear hb); (try clear hb2); (try clear hk); (try clear hi)))
  go_ret
  exact ⟨rlT, hbT HB.out⟩

/-! ### impl_places_at_CountNasalVoiceless_1: function 181 -/
mutual
def impl_places_at_CountNasalVoiceless_1.l0 : Nat → ByteArray → Int → Int → Int → Option (Int)
 | 0, _, _, _, _ => none
 | k + 1, x0, x5, x10, x11 => if x11 < x10 then (if x11 > 0 then (if 0 ≤ (wrap64 (x11 - 1)) then (if (wrap64 (x11 - 1)) < (x0.size : Int) then (impl_places_at_CountNasalVoiceless_1.j1 k x0 x5 x11 (bt x0 (wrap64 (x11 - 1))) 0 x10 x11) else (none)) else (none)) else (impl_places_at_CountNasalVoiceless_1.j1 k x0 x5 x11 0 0 x10 x11)) else (some x5)
def impl_places_at_CountNasalVoiceless_1.j1 : Nat → ByteArray → Int → Int → Int → Int → Int → Int → Option (Int)
 | 0, _, _, _, _, _, _, _ => none
 | k + 1, x0, x5, x6, x7, x8, x10, x11 => if (wrap64 (x6 + 1)) < (x0.size : Int) then (if 0 ≤ (wrap64 (x6 + 1)) then (impl_places_at_CountNasalVoiceless_1.j2 k x0 x5 x6 x7 (bt x0 (wrap64 (x6 + 1))) x10 x11) else (none)) else (impl_places_at_CountNasalVoiceless_1.j2 k x0 x5 x6 x7 x8 x10 x11)
def impl_places_at_CountNasalVoiceless_1.j2 : Nat → ByteArray → Int → Int → Int → Int → Int → Int → Option (Int)
 | 0, _, _, _, _, _, _, _ => none
 | k + 1, x0, x5, x6, x7, x8, x10, x11 => (impl_IsForm.f k x0).bind fun t276 => (if t276 = true then (if 0 ≤ x6 then (if x6 < (x0.size : Int) then ((impl_CountNasalVoiceless_1.f x7 (bt x0 x6) x8).bind fun t277 => (if t277 = true then (impl_places_at_CountNasalVoiceless_1.l0 k x0 (wrap64 (x5 + 1)) x10 (wrap64 (x11 + 1))) else (impl_places_at_CountNasalVoiceless_1.l0 k x0 x5 x10 (wrap64 (x11 + 1))))) else (none)) else (none)) else (impl_places_at_CountNasalVoiceless_1.l0 k x0 x5 x10 (wrap64 (x11 + 1))))
end
def impl_places_at_CountNasalVoiceless_1.f (k : Nat) (a0 : ByteArray) (a1 : Unit) : Option (Int) := impl_places_at_CountNasalVoiceless_1.l0 k a0 0 (a0.size : Int) 0
theorem impl_places_at_CountNasalVoiceless_1.mono_l : ∀ k, (∀ y0 y1 y2 y3, LeO (impl_places_at_CountNasalVoiceless_1.l0 k y0 y1 y2 y3) (impl_places_at_CountNasalVoiceless_1.l0 (k + 1) y0 y1 y2 y3)) ∧ (∀ y0 y1 y2 y3 y4 y5 y6, LeO (impl_places_at_CountNasalVoiceless_1.j1 k y0 y1 y2 y3 y4 y5 y6) (impl_places_at_CountNasalVoiceless_1.j1 (k + 1) y0 y1 y2 y3 y4 y5 y6)) ∧ (∀ y0 y1 y2 y3 y4 y5 y6, LeO (impl_places_at_CountNasalVoiceless_1.j2 k y0 y1 y2 y3 y4 y5 y6) (impl_places_at_CountNasalVoiceless_1.j2 (k + 1) y0 y1 y2 y3 y4 y5 y6))
 | 0 => ⟨fun _ _ _ _ r h => by simp [impl_places_at_CountNasalVoiceless_1.l0] at h, fun _ _ _ _ _ _ _ r h => by simp [impl_places_at_CountNasalVoiceless_1.j1] at h, fun _ _ _ _ _ _ _ r h => by simp [impl_places_at_CountNasalVoiceless_1.j2] at h⟩
 | k + 1 => by
  obtain ⟨ih0, ih1, ih2⟩ := impl_places_at_CountNasalVoiceless_1.mono_l k; refine ⟨?_, ?_, ?_⟩
  ·intro y0 y1 y2 y3
   unfold impl_places_at_CountNasalVoiceless_1.l0
   repeat' first
   | (with_reducible exact ih0 _ _ _ _)
   | (with_reducible exact ih1 _ _ _ _ _ _ _)
   | (with_reducible exact ih2 _ _ _ _ _ _ _)
   | (with_reducible exact impl_IsForm.mono _ _)
   | (with_reducible exact LeO.refl _)
   | (with_reducible exact LeO.none _)
   | (with_reducible refine LeO.ite ?_ ?_)
   | (with_reducible refine LeO.bind ?_ (fun _ => ?_))
   | exact ih0 _ _ _ _
   | exact ih1 _ _ _ _ _ _ _
   | exact ih2 _ _ _ _ _ _ _
   | exact impl_IsForm.mono _ _
   | exact LeO.none _
   | refine LeO.ite ?_ ?_
   | refine LeO.bind ?_ (fun _ => ?_)
  ·intro y0 y1 y2 y3 y4 y5 y6
   unfold impl_places_at_CountNasalVoiceless_1.j1
   repeat' first
   | (with_reducible exact ih0 _ _ _ _)
   | (with_reducible exact ih1 _ _ _ _ _ _ _)
   | (with_reducible exact ih2 _ _ _ _ _ _ _)
   | (with_reducible exact impl_IsForm.mono _ _)
   | (with_reducible exact LeO.refl _)
   | (with_reducible exact LeO.none _)
   | (with_reducible refine LeO.ite ?_ ?_)
   | (with_reducible refine LeO.bind ?_ (fun _ => ?_))
   | exact ih0 _ _ _ _
   | exact ih1 _ _ _ _ _ _ _
   | exact ih2 _ _ _ _ _ _ _
   | exact impl_IsForm.mono _ _
   | exact LeO.none _
   | refine LeO.ite ?_ ?_
   | refine LeO.bind ?_ (fun _ => ?_)
  ·intro y0 y1 y2 y3 y4 y5 y6
   unfold impl_places_at_CountNasalVoiceless_1.j2
   repeat' first
   | (with_reducible exact ih0 _ _ _ _)
   | (with_reducible exact ih1 _ _ _ _ _ _ _)
   | (with_reducible exact ih2 _ _ _ _ _ _ _)
   | (with_reducible exact impl_IsForm.mono _ _)
   | (with_reducible exact LeO.refl _)
   | (with_reducible exact LeO.none _)
   | (with_reducible refine LeO.ite ?_ ?_)
   | (with_reducible refine LeO.bind ?_ (fun _ => ?_))
   | exact ih0 _ _ _ _
   | exact ih1 _ _ _ _ _ _ _
   | exact ih2 _ _ _ _ _ _ _
   | exact impl_IsForm.mono _ _
   | exact LeO.none _
   | refine LeO.ite ?_ ?_
   | refine LeO.bind ?_ (fun _ => ?_)
theorem impl_places_at_CountNasalVoiceless_1.mono : ∀ a0 a1 k, LeO (impl_places_at_CountNasalVoiceless_1.f k a0 a1) (impl_places_at_CountNasalVoiceless_1.f (k + 1) a0 a1) := by
 intro a0 a1 k
 obtain ⟨ih0, ih1, ih2⟩ := impl_places_at_CountNasalVoiceless_1.mono_l k
 unfold impl_places_at_CountNasalVoiceless_1.f
 repeat' first
   | (with_reducible exact ih0 _ _ _ _)
   | (with_reducible exact ih1 _ _ _ _ _ _ _)
   | (with_reducible exact ih2 _ _ _ _ _ _ _)
   | (with_reducible exact impl_IsForm.mono _ _)
   | (with_reducible exact LeO.refl _)
   | (with_reducible exact LeO.none _)
   | (with_reducible refine LeO.ite ?_ ?_)
   | (with_reducible refine LeO.bind ?_ (fun _ => ?_))
   | exact ih0 _ _ _ _
   | exact ih1 _ _ _ _ _ _ _
   | exact ih2 _ _ _ _ _ _ _
   | exact impl_IsForm.mono _ _
   | exact LeO.none _
   | refine LeO.ite ?_ ?_
   | refine LeO.bind ?_ (fun _ => ?_)
set_option maxHeartbeats 8000000 in
set_option maxRecDepth 100000 in
theorem impl_places_at_CountNasalVoiceless_1.calls (k : Nat) (a0 : ByteArray) (a1 : Unit) (r : Int) (w : World) (h : impl_places_at_CountNasalVoiceless_1.f k a0 a1 = some r) :
  Calls Try.prog 96 #[.string a0, .func (.func 105) #[] #[]] w fun e w' => e = .returned (.int .i64 r) ∧ Below w.heap.size w w' := by
 have HB := asT (Below.refl w.heap.size w)
 have H : (impl_places_at_CountNasalVoiceless_1.l0 k a0 0 (a0.size : Int) 0) = some r := h
 clear h; have H' := Aside0.mk H; clear H
 go_enter Try.func96, Try.ntmps96
 go_wp2
 go_loopg [5, 11] k (fun kq v5 v11 w' => ∃ (x5_1 : Int) (x11_1 : Int), v5 = .int .i64 x5_1 ∧ v11 = .int .i64 x11_1 ∧ Aside0 (impl_places_at_CountNasalVoiceless_1.l0 kq a0 x5_1 (a0.size : Int) x11_1 = some r) ∧ Aside0 (kq ≤ k) ∧ Aside0 (Below w.heap.size w w'))
 case atStart => exact ⟨(0), (0), rdT, rdT, H', ⟨Nat.le_refl _⟩, ⟨hbT HB.out⟩⟩
 case round =>
  clear H'; (try clear p2); obtain ⟨x5_1, x11_1, rfl, rfl, HA, HK1, HB⟩ := hrel
  cases gk with
  | zero => exact absurd HA.out (by simp [impl_places_at_CountNasalVoiceless_1.l0])
  | succ k1 =>
   have H := HA.out; clear HA
   simp only [impl_places_at_CountNasalVoiceless_1.l0] at H
   by_cases c3 : x11_1 < (a0.size : Int)
   ·rw [if_pos c3] at H
    have c3b0 : decide (x11_1 < (a0.size : Int)) = true := decide_eq_true c3
    clear c3; have HC4 := Aside0.mk H; clear H
    go_upto_if 15 with (fail)
    go_cut [7] (fun v7 wc => ∃ (kq : Nat) (x7_3 : Int), v7 = .int .u8 x7_3 ∧ Aside0 (impl_places_at_CountNasalVoiceless_1.j1 kq a0 x5_1 x11_1 x7_3 0 (a0.size : Int) x11_1 = some r) ∧ Aside0 (kq ≤ k1) ∧ Aside0 (Below w.heap.size w wc))
    case first =>
     have H := HC4.out; clear HC4
     by_cases c5 : x11_1 > 0
     ·rw [if_pos c5] at H
      have c5b0 : decide (0 < x11_1) = true := decide_eq_true c5
      clear c5
      (first | rw [c5b0] | (simp only [i64_w, i32_w]; rw [c5b0]) | skip)
      obtain ⟨ji6, hji6⟩ : ∃ j_ : Int, (wrap64 (x11_1 - 1)) = j_ := ⟨_, rfl⟩
      replace H : (if 0 ≤ (ji6) then (if (ji6) < (a0.size : Int) then (impl_places_at_CountNasalVoiceless_1.j1 k1 a0 x5_1 x11_1 (bt a0 (ji6)) 0 (a0.size : Int) x11_1) else (none)) else (none)) = some r := by first | (rw [hji6] at H; exact H) | (simp only [hji6] at H ⊢; exact H)
      have hji6w : (IntKind.i64.wrap (x11_1 - 1)) = ji6 := (i64_w _).trans hji6
      by_cases c7 : 0 ≤ (ji6)
      ·rw [if_pos c7] at H
       have c7b0 : decide (0 ≤ (ji6)) = true := decide_eq_true c7
       clear c7
       by_cases c8 : (ji6) < (a0.size : Int)
       ·rw [if_pos c8] at H
        have c8b0 : decide ((ji6) < (a0.size : Int)) = true := decide_eq_true c8
        clear c8; have H' := Aside0.mk H; clear H
        have p9 : 0 ≤ ((ji6) : Int) := of_decide_eq_true asmT
        have q9 : (ji6) < (a0.size : Int) := of_decide_eq_true asmT
        have hx9 := bt_at a0 (ji6); replace p9 := eq_true p9; replace q9 := eq_true q9
        go_wp2
        go_meet
        case rel => exact ⟨_, (bt a0 (ji6)), (by first | rfl | (simp; done) | (simp only [← hji6] <;> (first | rfl | simp)) | (simp [*]; done)), H', ⟨by have := HK1.out; first | omega | exact Nat.le_refl _⟩, ⟨hbT HB.out⟩⟩
       ·rw [if_neg c8] at H
        exact absurd H (by simp)
      ·rw [if_neg c7] at H
       exact absurd H (by simp)
     ·rw [if_neg c5] at H
      have c5b0 : decide (0 < x11_1) = false := decide_eq_false c5
      clear c5
      (first | rw [c5b0] | (simp only [i64_w, i32_w]; rw [c5b0]) | skip)
      have H' := Aside0.mk H; clear H
      go_wp2
      go_meet
      case rel => exact ⟨_, (0), rdT, H', ⟨by have := HK1.out; first | omega | exact Nat.le_refl _⟩, ⟨hbT HB.out⟩⟩
    case rest =>
     clear HC4; (try clear p2); (try clear c3); (try clear c3b0); (try clear c5); (try clear c5b0); (try clear p6); (try clear c7); (try clear c7b0); (try clear c8); (try clear c8b0); (try clear c9); (try clear p9); (try clear q9); (try clear hx9); (try clear p2); (try clear p9); (try clear q9); obtain ⟨kq, x7_3, rfl, HA, HJ3, HB⟩ := hcut
     cases kq with
     | zero => exact absurd HA.out (by simp [impl_places_at_CountNasalVoiceless_1.j1])
     | succ kj3 =>
      have H := HA.out; clear HA
      simp only [impl_places_at_CountNasalVoiceless_1.j1] at H
      have HC10 := Aside0.mk H; clear H
      go_upto_if 24 with (fail)
      go_cut [8] (fun v8 wc => ∃ (kq : Nat) (x8_9 : Int), v8 = .int .u8 x8_9 ∧ Aside0 (impl_places_at_CountNasalVoiceless_1.j2 kq a0 x5_1 x11_1 x7_3 x8_9 (a0.size : Int) x11_1 = some r) ∧ Aside0 (kq ≤ kj3) ∧ Aside0 (Below w.heap.size w wc))
      case first =>
       have H := HC10.out; clear HC10
       by_cases c11 : (wrap64 (x11_1 + 1)) < (a0.size : Int)
       ·rw [if_pos c11] at H
        have c11b0 : decide ((wrap64 (x11_1 + 1)) < (a0.size : Int)) = true := decide_eq_true c11
        clear c11
        (first | rw [c11b0] | (simp only [i64_w, i32_w]; rw [c11b0]) | skip)
        obtain ⟨ji12, hji12⟩ : ∃ j_ : Int, (wrap64 (x11_1 + 1)) = j_ := ⟨_, rfl⟩
        replace H : (if 0 ≤ (ji12) then (impl_places_at_CountNasalVoiceless_1.j2 kj3 a0 x5_1 x11_1 x7_3 (bt a0 (ji12)) (a0.size : Int) x11_1) else (none)) = some r := by first | (rw [hji12] at H; exact H) | (simp only [hji12] at H ⊢; exact H)
        (try rw [hji12] at c11b0)
        have hji12w : (IntKind.i64.wrap (x11_1 + 1)) = ji12 := (i64_w _).trans hji12
        by_cases c13 : 0 ≤ (ji12)
        ·rw [if_pos c13] at H
         have c13b0 : decide (0 ≤ (ji12)) = true := decide_eq_true c13
         clear c13; have H' := Aside0.mk H; clear H
         have p14 : 0 ≤ ((ji12) : Int) := of_decide_eq_true asmT
         have q14 : (ji12) < (a0.size : Int) := of_decide_eq_true asmT
         have hx14 := bt_at a0 (ji12); replace p14 := eq_true p14; replace q14 := eq_true q14
         go_wp2
         go_meet
         case rel => exact ⟨_, (bt a0 (ji12)), (by first | rfl | (simp; done) | (simp only [← hji12] <;> (first | rfl | simp)) | (simp [*]; done)), H', ⟨by have := HK1.out; have := HJ3.out; first | omega | exact Nat.le_refl _⟩, ⟨hbT HB.out⟩⟩
        ·rw [if_neg c13] at H
         exact absurd H (by simp)
       ·rw [if_neg c11] at H
        have c11b0 : decide ((wrap64 (x11_1 + 1)) < (a0.size : Int)) = false := decide_eq_false c11
        clear c11
        (first | rw [c11b0] | (simp only [i64_w, i32_w]; rw [c11b0]) | skip)
        have H' := Aside0.mk H; clear H
        go_wp2
        go_meet
        case rel => exact ⟨_, (0), rdT, H', ⟨by have := HK1.out; have := HJ3.out; first | omega | exact Nat.le_refl _⟩, ⟨hbT HB.out⟩⟩
      case rest =>
       clear HC10; (try clear c1); (try clear p1); (try clear q1); (try clear hx1); (try clear p2); (try clear c3); (try clear c3b0); (try clear c5); (try clear c5b0); (try clear p6); (try clear c7); (try clear c7b0); (try clear c8); (try clear c8b0); (try clear c9); (try clear p9); (try clear q9); (try clear hx9); (try clear c11); (try clear c11b0); (try clear c13); (try clear c13b0); (try clear p14); (try clear q14); (try clear hx14); (try clear p14); (try clear p2); (try clear p6); (try clear p9); (try clear q14); (try clear q9); obtain ⟨kq, x8_9, rfl, HA, HJ9, HB⟩ := hcut
       cases kq with
       | zero => exact absurd HA.out (by simp [impl_places_at_CountNasalVoiceless_1.j2])
       | succ kj9 =>
        have H := HA.out; clear HA
        simp only [impl_places_at_CountNasalVoiceless_1.j2] at H
        replace H := Option.bind_eq_some_iff.mp H; obtain ⟨t276, A150, H⟩ := H; replace H : (if t276 = true then (if 0 ≤ x11_1 then (if x11_1 < (a0.size : Int) then ((impl_CountNasalVoiceless_1.f x7_3 (bt a0 x11_1) x8_9).bind fun t277 => (if t277 = true then (impl_places_at_CountNasalVoiceless_1.l0 kj9 a0 (wrap64 (x5_1 + 1)) (a0.size : Int) (wrap64 (x11_1 + 1))) else (impl_places_at_CountNasalVoiceless_1.l0 kj9 a0 x5_1 (a0.size : Int) (wrap64 (x11_1 + 1))))) else (none)) else (none)) else (impl_places_at_CountNasalVoiceless_1.l0 kj9 a0 x5_1 (a0.size : Int) (wrap64 (x11_1 + 1)))) = some r := H; have A15 := Aside0.mk A150; clear A150
        by_cases c16 : t276 = true
        ·subst c16
         have H1 : (if 0 ≤ x11_1 then (if x11_1 < (a0.size : Int) then ((impl_CountNasalVoiceless_1.f x7_3 (bt a0 x11_1) x8_9).bind fun t277 => (if t277 = true then (impl_places_at_CountNasalVoiceless_1.l0 kj9 a0 (wrap64 (x5_1 + 1)) (a0.size : Int) (wrap64 (x11_1 + 1))) else (impl_places_at_CountNasalVoiceless_1.l0 kj9 a0 x5_1 (a0.size : Int) (wrap64 (x11_1 + 1))))) else (none)) else (none)) = some r := by rw [if_pos rfl] at H; exact H
         clear H; have H := H1; clear H1
         by_cases c17 : 0 ≤ x11_1
         ·rw [if_pos c17] at H
          have c17b0 : decide (0 ≤ x11_1) = true := decide_eq_true c17
          clear c17
          by_cases c18 : x11_1 < (a0.size : Int)
          ·rw [if_pos c18] at H
           have c18b0 : decide (x11_1 < (a0.size : Int)) = true := decide_eq_true c18
           clear c18; replace H := Option.bind_eq_some_iff.mp H; obtain ⟨t277, A200, H⟩ := H; replace H : (if t277 = true then (impl_places_at_CountNasalVoiceless_1.l0 kj9 a0 (wrap64 (x5_1 + 1)) (a0.size : Int) (wrap64 (x11_1 + 1))) else (impl_places_at_CountNasalVoiceless_1.l0 kj9 a0 x5_1 (a0.size : Int) (wrap64 (x11_1 + 1)))) = some r := H; have A20 := Aside0.mk A200; clear A200
           by_cases c21 : t277 = true
           ·subst c21
            have H1 : (impl_places_at_CountNasalVoiceless_1.l0 kj9 a0 (wrap64 (x5_1 + 1)) (a0.size : Int) (wrap64 (x11_1 + 1))) = some r := by rw [if_pos rfl] at H; exact H
            clear H; have H := H1; clear H1; have H' := Aside0.mk H; clear H
            go_wp2_with (first | ((with_reducible refine gate_callee (f := 94) rfl ?_); refine goesL_ (some 30) rfl rfl Try.func94 (by kernel_rfl) rfl #[.string a0] rfl eqT ?_; (with_reducible refine (impl_IsForm.calls kj9 a0 true _ A15.out).mono ?_); rintro e w' ⟨rfl, ⟨nd, rfl⟩⟩; refine ⟨_, rfl, ?_⟩; have p19 : 0 ≤ (x11_1 : Int) := of_decide_eq_true asmT; have q19 : x11_1 < (a0.size : Int) := of_decide_eq_true asmT; have hx19 := bt_at a0 x11_1; replace p19 := eq_true p19; replace q19 := eq_true q19) | (go_at_call 105; (with_reducible refine (impl_CountNasalVoiceless_1.calls x7_3 (bt a0 x11_1) x8_9 true _ A20.out).mono ?_); rintro e w22 ⟨rfl, hb⟩; have n0_ := asT (below_step (hbT HB.out) hb); clear HB; have HB := n0_; clear n0_; (try clear hb); (try clear hb2); (try clear hk); (try clear hi)))
            go_roundg kj9
            case measure => have := HK1.out; have := HJ3.out; have := HJ9.out; omega
            case rel => exact ⟨(wrap64 (x5_1 + 1)), (wrap64 (x11_1 + 1)), rdT, rdT, H', ⟨by have := HK1.out; have := HJ3.out; have := HJ9.out; omega⟩, ⟨hbT HB.out⟩⟩
           ·replace c21 := Bool.eq_false_iff.mpr c21
            subst c21
            have H1 : (impl_places_at_CountNasalVoiceless_1.l0 kj9 a0 x5_1 (a0.size : Int) (wrap64 (x11_1 + 1))) = some r := by rw [if_neg (show ¬ (false = true) by decide)] at H; exact H
            clear H; have H := H1; clear H1; have H' := Aside0.mk H; clear H
            go_wp2_with (first | ((with_reducible refine gate_callee (f := 94) rfl ?_); refine goesL_ (some 30) rfl rfl Try.func94 (by kernel_rfl) rfl #[.string a0] rfl eqT ?_; (with_reducible refine (impl_IsForm.calls kj9 a0 true _ A15.out).mono ?_); rintro e w' ⟨rfl, ⟨nd, rfl⟩⟩; refine ⟨_, rfl, ?_⟩; have p19 : 0 ≤ (x11_1 : Int) := of_decide_eq_true asmT; have q19 : x11_1 < (a0.size : Int) := of_decide_eq_true asmT; have hx19 := bt_at a0 x11_1; replace p19 := eq_true p19; replace q19 := eq_true q19) | (go_at_call 105; (with_reducible refine (impl_CountNasalVoiceless_1.calls x7_3 (bt a0 x11_1) x8_9 false _ A20.out).mono ?_); rintro e w23 ⟨rfl, hb⟩; have n0_ := asT (below_step (hbT HB.out) hb); clear HB; have HB := n0_; clear n0_; (try clear hb); (try clear hb2); (try clear hk); (try clear hi)))
            go_roundg kj9
            case measure => have := HK1.out; have := HJ3.out; have := HJ9.out; omega
            case rel => exact ⟨(x5_1), (wrap64 (x11_1 + 1)), rdT, rdT, H', ⟨by have := HK1.out; have := HJ3.out; have := HJ9.out; omega⟩, ⟨hbT HB.out⟩⟩
          ·rw [if_neg c18] at H
           exact absurd H (by simp)
         ·rw [if_neg c17] at H
          exact absurd H (by simp)
        ·replace c16 := Bool.eq_false_iff.mpr c16
         subst c16
         have H1 : (impl_places_at_CountNasalVoiceless_1.l0 kj9 a0 x5_1 (a0.size : Int) (wrap64 (x11_1 + 1))) = some r := by rw [if_neg (show ¬ (false = true) by decide)] at H; exact H
         clear H; have H := H1; clear H1; have H' := Aside0.mk H; clear H
         go_wp2_with (first | ((with_reducible refine gate_callee (f := 94) rfl ?_); refine goesL_ (some 30) rfl rfl Try.func94 (by kernel_rfl) rfl #[.string a0] rfl eqT ?_; (with_reducible refine (impl_IsForm.calls kj9 a0 false _ A15.out).mono ?_); rintro e w' ⟨rfl, ⟨nd, rfl⟩⟩; refine ⟨_, rfl, ?_⟩))
         go_roundg kj9
         case measure => have := HK1.out; have := HJ3.out; have := HJ9.out; omega
         case rel => exact ⟨(x5_1), (wrap64 (x11_1 + 1)), rdT, rdT, H', ⟨by have := HK1.out; have := HJ3.out; have := HJ9.out; omega⟩, ⟨hbT HB.out⟩⟩
   ·rw [if_neg c3] at H
    have c3b0 : decide (x11_1 < (a0.size : Int)) = false := decide_eq_false c3
    clear c3
    obtain rfl := Option.some.inj H
    go_wp2
    go_ret
    exact ⟨rlT, hbT HB.out⟩

/-! ### impl_CountNasalVoiceless: function 62 -/
def impl_CountNasalVoiceless.f (k : Nat) (a0 : ByteArray) : Option (Int) := (impl_places_at_CountNasalVoiceless_1.f k a0 ()).bind fun t278 => (some t278)
theorem impl_CountNasalVoiceless.mono : ∀ a0 k, LeO (impl_CountNasalVoiceless.f k a0) (impl_CountNasalVoiceless.f (k + 1) a0) := by
 intro a0 k
 unfold impl_CountNasalVoiceless.f
 repeat' first
   | (with_reducible exact impl_places_at_CountNasalVoiceless_1.mono _ _ _)
   | (with_reducible exact LeO.refl _)
   | (with_reducible exact LeO.none _)
   | (with_reducible refine LeO.ite ?_ ?_)
   | (with_reducible refine LeO.bind ?_ (fun _ => ?_))
   | exact impl_places_at_CountNasalVoiceless_1.mono _ _ _
   | exact LeO.none _
   | refine LeO.ite ?_ ?_
   | refine LeO.bind ?_ (fun _ => ?_)
set_option maxHeartbeats 8000000 in
set_option maxRecDepth 100000 in
theorem impl_CountNasalVoiceless.calls (k : Nat) (a0 : ByteArray) (r : Int) (w : World) (h : impl_CountNasalVoiceless.f k a0 = some r) :
  Calls Try.prog 62 #[.string a0] w fun e w' => e = .returned (.int .i64 r) ∧ Below w.heap.size w w' := by
 have HB := asT (Below.refl w.heap.size w)
 have H : ((impl_places_at_CountNasalVoiceless_1.f k a0 ()).bind fun t278 => (some t278)) = some r := h
 clear h; replace H := Option.bind_eq_some_iff.mp H; obtain ⟨t278, A20, H⟩ := H; replace H : (some t278) = some r := H; have A2 := Aside0.mk A20; clear A20
 obtain rfl := Option.some.inj H
 go_enter Try.func62, Try.ntmps62
 go_wp2_with (first | ((with_reducible refine gate_callee (f := 96) rfl ?_); refine goesL_ (some 4) rfl rfl Try.func96 (by kernel_rfl) rfl #[.string a0, .func (.func 105) #[] #[]] rfl eqT ?_; (with_reducible refine (impl_places_at_CountNasalVoiceless_1.calls k a0 () t278 _ A2.out).mono ?_); rintro e w3 ⟨rfl, hb⟩; refine ⟨_, rfl, ?_⟩; have n0_ := asT (below_step (hbT HB.out) hb); clear HB; have HB := n0_; clear n0_; (try clear hb); (try clear hb2); (try clear hk); (try clear hi)))
 go_ret
 exact ⟨rlT, hbT HB.out⟩

/-! ### impl_CountDeleted_1: function 109 -/
def impl_CountDeleted_1.f (a0_0 : Int) (a0_1 : Int) : Option (Bool) := some (a0_1 == 0)
set_option maxHeartbeats 8000000 in
set_option maxRecDepth 100000 in
theorem impl_CountDeleted_1.calls (a0_0 : Int) (a0_1 : Int) (r : Bool) (w : World) (h : impl_CountDeleted_1.f a0_0 a0_1 = some r) :
  Calls Try.prog 109 #[.agg #[.int .u8 a0_0, .int .u8 a0_1]] w fun e w' => e = .returned (.bool r) ∧ Below w.heap.size w w' := by
 have hu83 := Try.underlying83; have HB := asT (Below.refl w.heap.size w)
 have H : (some (a0_1 == 0)) = some r := h
 clear h
 obtain rfl := Option.some.inj H
 go_enter Try.func109, Try.ntmps109
 go_wp2_with (first | ((with_reducible refine gate_dst (N := 1) rfl ?_); refine boxT (N := 1) (cs := #[.int .u8 a0_0, .int .u8 a0_1]) (t := 83) ?_; intro gb279 hg w2 hbox hb; have n0_ := asT (below_step (hbT HB.out) hb); have n1_ := asT (hbox); have n2_ := asT (geT hg HB.out); have n3_ := asT (geT hg HB.out); clear HB; have HB := n0_; have BK279 := n1_; have GW279 := n2_; have GE279 := n3_; clear n0_ n1_ n2_ n3_ hb hbox hg; have hcz3_0 : w2.cell? ⟨gb279, 0, none⟩ = some (.int .u8 a0_0) := (blk_cell BK279.out 0).trans rfl; have hcz3_1 : w2.cell? ⟨gb279, 1, none⟩ = some (.int .u8 a0_1) := (blk_cell BK279.out 1).trans rfl; have hfz3_0 := blk_frozen BK279.out 0; have hfz3_1 := blk_frozen BK279.out 1))
 go_ret
 exact ⟨rlT, hbT HB.out⟩

/-! ### impl_links_at_CountDeleted_1: function 182 -/
def impl_links_at_CountDeleted_1.l0 : Nat → Int → List (S83) → Int → Int → List (S83) → Option (Int)
 | 0, _, _, _, _, _ => none
 | k + 1, x5, x9, x10, x11, x281000 => if x11 < x10 then (if 0 ≤ x11 then (if x11 < (x9.length : Int) then ((impl_IsCandidate.f k x281000).bind fun t283 => (if t283 = true then ((impl_CountDeleted_1.f ((rd_T83 x9 x11).f0) ((rd_T83 x9 x11).f1)).bind fun t284 => (if t284 = true then (impl_links_at_CountDeleted_1.l0 k (wrap64 (x5 + 1)) x9 x10 (wrap64 (x11 + 1)) x281000) else (impl_links_at_CountDeleted_1.l0 k x5 x9 x10 (wrap64 (x11 + 1)) x281000))) else (impl_links_at_CountDeleted_1.l0 k x5 x9 x10 (wrap64 (x11 + 1)) x281000))) else (none)) else (none)) else (some x5)
def impl_links_at_CountDeleted_1.f (k : Nat) (l0_0 : List (S83)) (a1 : Unit) : Option (Int) := impl_links_at_CountDeleted_1.l0 k 0 l0_0 (l0_0.length : Int) 0 l0_0
theorem impl_links_at_CountDeleted_1.mono_l : ∀ k, (∀ y0 y1 y2 y3 y4, LeO (impl_links_at_CountDeleted_1.l0 k y0 y1 y2 y3 y4) (impl_links_at_CountDeleted_1.l0 (k + 1) y0 y1 y2 y3 y4))
 | 0 => fun _ _ _ _ _ r h => by simp [impl_links_at_CountDeleted_1.l0] at h
 | k + 1 => by
  have ih0 := impl_links_at_CountDeleted_1.mono_l k
  ·intro y0 y1 y2 y3 y4
   unfold impl_links_at_CountDeleted_1.l0
   repeat' first
   | (with_reducible exact ih0 _ _ _ _ _)
   | (with_reducible exact impl_IsCandidate.mono _ _)
   | (with_reducible exact LeO.refl _)
   | (with_reducible exact LeO.none _)
   | (with_reducible refine LeO.ite ?_ ?_)
   | (with_reducible refine LeO.bind ?_ (fun _ => ?_))
   | exact ih0 _ _ _ _ _
   | exact impl_IsCandidate.mono _ _
   | exact LeO.none _
   | refine LeO.ite ?_ ?_
   | refine LeO.bind ?_ (fun _ => ?_)
theorem impl_links_at_CountDeleted_1.mono : ∀ a0 a1 k, LeO (impl_links_at_CountDeleted_1.f k a0 a1) (impl_links_at_CountDeleted_1.f (k + 1) a0 a1) := by
 intro a0 a1 k
 have ih0 := impl_links_at_CountDeleted_1.mono_l k
 unfold impl_links_at_CountDeleted_1.f
 repeat' first
   | (with_reducible exact ih0 _ _ _ _ _)
   | (with_reducible exact impl_IsCandidate.mono _ _)
   | (with_reducible exact LeO.refl _)
   | (with_reducible exact LeO.none _)
   | (with_reducible refine LeO.ite ?_ ?_)
   | (with_reducible refine LeO.bind ?_ (fun _ => ?_))
   | exact ih0 _ _ _ _ _
   | exact impl_IsCandidate.mono _ _
   | exact LeO.none _
   | refine LeO.ite ?_ ?_
   | refine LeO.bind ?_ (fun _ => ?_)
set_option maxHeartbeats 8000000 in
set_option maxRecDepth 100000 in
theorem impl_links_at_CountDeleted_1.calls (k : Nat) (A0_0 : Option Addr) (c0_0 : Nat) (l0_0 : List (S83)) (a1 : Unit) (r : Int) (w : World) (hr0_0 : Kd.C k83 w A0_0 l0_0.length l0_0) (hc0_0 : l0_0.length ≤ c0_0) (h : impl_links_at_CountDeleted_1.f k l0_0 a1 = some r) :
  Calls Try.prog 108 #[.agg #[.slice A0_0 l0_0.length c0_0], .func (.func 109) #[] #[]] w fun e w' => e = .returned (.int .i64 r) ∧ Below w.heap.size w w' := by
 have hu34 := Try.underlying34; have hu83 := Try.underlying83; have HR0_0 := Aside0.mk hr0_0; have HC0_0 := Aside0.mk hc0_0; clear hr0_0 hc0_0; have HB := asT (Below.refl w.heap.size w)
 have H : (impl_links_at_CountDeleted_1.l0 k 0 l0_0 (l0_0.length : Int) 0 l0_0) = some r := h
 clear h; have H' := Aside0.mk H; clear H
 go_enter Try.func108, Try.ntmps108
 go_wp2_with (first | ((with_reducible refine gate_dst (N := 2) rfl ?_); refine boxT (N := 2) (cs := #[.slice A0_0 l0_0.length c0_0]) (t := 34) ?_; intro gb280 hg w3 hbox hb; have n0_ := asT (below_step (hbT HB.out) hb); have n1_ := asT (hbox); have n2_ := asT (geT hg HB.out); have n3_ := asT (geT hg HB.out); clear HB; have HB := n0_; have BK280 := n1_; have GW280 := n2_; have GE280 := n3_; clear n0_ n1_ n2_ n3_ hb hbox hg; have hcz4_0 : w3.cell? ⟨gb280, 0, none⟩ = some (.slice A0_0 l0_0.length c0_0) := (blk_cell BK280.out 0).trans rfl; have hfz4_0 := blk_frozen BK280.out 0))
 go_loopg [5, 11] k (fun kq v5 v11 w' => ∃ (x5_1 : Int) (x11_1 : Int), v5 = .int .i64 x5_1 ∧ v11 = .int .i64 x11_1 ∧ Aside0 (impl_links_at_CountDeleted_1.l0 kq x5_1 l0_0 (l0_0.length : Int) x11_1 l0_0 = some r) ∧ Aside0 (kq ≤ k) ∧ Aside0 (w'.heap[gb280]? = some (.cells #[(.slice A0_0 l0_0.length c0_0)] 34 (0, 0))) ∧ Aside0 (Below w.heap.size w w'))
 case atStart => exact ⟨(0), (0), rdT, rdT, H', ⟨Nat.le_refl _⟩, ⟨by (with_reducible repeat (first | refine blk_drewN ?_ _ | refine blk_drew ?_ | refine blk_alloc ?_ _)); exact BK280.out⟩, ⟨hbT HB.out⟩⟩
 case round =>
  clear H'; (try clear c1); (try clear p2); (try clear hcz4_0); (try clear hfz4_0); obtain ⟨x5_1, x11_1, rfl, rfl, HA, HK1, BK280, HB⟩ := hrel
  cases gk with
  | zero => exact absurd HA.out (by simp [impl_links_at_CountDeleted_1.l0])
  | succ k1 =>
   have H := HA.out; clear HA
   simp only [impl_links_at_CountDeleted_1.l0] at H
   by_cases c5 : x11_1 < (l0_0.length : Int)
   ·rw [if_pos c5] at H
    have c5b0 : decide (x11_1 < (l0_0.length : Int)) = true := decide_eq_true c5
    clear c5
    by_cases c6 : 0 ≤ x11_1
    ·rw [if_pos c6] at H
     have c6b0 : decide (0 ≤ x11_1) = true := decide_eq_true c6
     clear c6
     by_cases c7 : x11_1 < (l0_0.length : Int)
     ·rw [if_pos c7] at H
      have c7b0 : decide (x11_1 < (l0_0.length : Int)) = true := decide_eq_true c7
      clear c7; replace H := Option.bind_eq_some_iff.mp H; obtain ⟨t283, A80, H⟩ := H; replace H : (if t283 = true then ((impl_CountDeleted_1.f ((rd_T83 l0_0 x11_1).f0) ((rd_T83 l0_0 x11_1).f1)).bind fun t284 => (if t284 = true then (impl_links_at_CountDeleted_1.l0 k1 (wrap64 (x5_1 + 1)) l0_0 (l0_0.length : Int) (wrap64 (x11_1 + 1)) l0_0) else (impl_links_at_CountDeleted_1.l0 k1 x5_1 l0_0 (l0_0.length : Int) (wrap64 (x11_1 + 1)) l0_0))) else (impl_links_at_CountDeleted_1.l0 k1 x5_1 l0_0 (l0_0.length : Int) (wrap64 (x11_1 + 1)) l0_0)) = some r := H; have A8 := Aside0.mk A80; clear A80
      by_cases c9 : t283 = true
      ·subst c9
       have H1 : ((impl_CountDeleted_1.f ((rd_T83 l0_0 x11_1).f0) ((rd_T83 l0_0 x11_1).f1)).bind fun t284 => (if t284 = true then (impl_links_at_CountDeleted_1.l0 k1 (wrap64 (x5_1 + 1)) l0_0 (l0_0.length : Int) (wrap64 (x11_1 + 1)) l0_0) else (impl_links_at_CountDeleted_1.l0 k1 x5_1 l0_0 (l0_0.length : Int) (wrap64 (x11_1 + 1)) l0_0))) = some r := by rw [if_pos rfl] at H; exact H
       clear H; have H := H1; clear H1; replace H := Option.bind_eq_some_iff.mp H; obtain ⟨t284, A100, H⟩ := H; replace H : (if t284 = true then (impl_links_at_CountDeleted_1.l0 k1 (wrap64 (x5_1 + 1)) l0_0 (l0_0.length : Int) (wrap64 (x11_1 + 1)) l0_0) else (impl_links_at_CountDeleted_1.l0 k1 x5_1 l0_0 (l0_0.length : Int) (wrap64 (x11_1 + 1)) l0_0)) = some r := H; have A10 := Aside0.mk A100; clear A100
       by_cases c11 : t284 = true
       ·subst c11
        have H1 : (impl_links_at_CountDeleted_1.l0 k1 (wrap64 (x5_1 + 1)) l0_0 (l0_0.length : Int) (wrap64 (x11_1 + 1)) l0_0) = some r := by rw [if_pos rfl] at H; exact H
        clear H; have H := H1; clear H1; have H' := Aside0.mk H; clear H
        have p281 : 0 ≤ (x11_1 : Int) := of_decide_eq_true asmT
        have q281 : x11_1 < (l0_0.length : Int) := of_decide_eq_true asmT
        obtain ⟨ad281, e281, hx281_0, hx281_1⟩ := at_T83 HR0_0.out x11_1 p281 q281
        cases e281
        replace hx281_0 := (HB.out.cell (World.block_lt_of_cell? w _ hx281_0)).trans hx281_0; replace hx281_1 := (HB.out.cell (World.block_lt_of_cell? w _ hx281_1)).trans hx281_1; replace p281 := eq_true p281; replace q281 := eq_true q281
        go_wp2_with (first | ((with_reducible refine gate_dst (N := 7) rfl ?_); refine boxT (N := 7) (cs := #[.int .u8 0, .int .u8 0]) (t := 83) ?_; intro gb282 hg w12 hbox hb; have n0_ := asT (blk_below (g := gb280) (o := .cells #[.slice (some ad281) l0_0.length c0_0] 34 (0, 0)) (bkT BK280.out) hb); have n1_ := asT (below_step (hbT HB.out) hb); have n2_ := asT (hbox); have n3_ := asT (geT hg HB.out); have n4_ := asT (geT hg HB.out); have n5_ := asT ((by rw [hg]; exact Nat.ne_of_lt (blk_lt (g := gb280) (o := .cells #[.slice (some ad281) l0_0.length c0_0] 34 (0, 0)) (bkT BK280.out)) : gb280 ≠ gb282)); have n6_ := asT ((by rw [hg]; exact Nat.ne_of_gt (blk_lt (g := gb280) (o := .cells #[.slice (some ad281) l0_0.length c0_0] 34 (0, 0)) (bkT BK280.out)) : gb282 ≠ gb280)); clear BK280 HB; have BK280 := n0_; have HB := n1_; have BK282 := n2_; have GW282 := n3_; have GE282 := n4_; have NB280_282 := n5_; have NB282_280 := n6_; clear n0_ n1_ n2_ n3_ n4_ n5_ n6_ hb hbox hg; have hnb13 := NB282_280.out; have hnc13 := NB280_282.out; have hcz14_0 : w12.cell? ⟨gb282, 0, none⟩ = some (.int .u8 0) := (blk_cell BK282.out 0).trans rfl; have hcz14_1 : w12.cell? ⟨gb282, 1, none⟩ = some (.int .u8 0) := (blk_cell BK282.out 1).trans rfl; have hfz14_0 := blk_frozen BK282.out 0; have hfz14_1 := blk_frozen BK282.out 1; have hcz15_0 : w12.cell? ⟨gb280, 0, none⟩ = some (.slice (some ad281) l0_0.length c0_0) := (blk_cell BK280.out 0).trans rfl; have hfz15_0 := blk_frozen BK280.out 0) | ((with_reducible refine gate_callee (f := 55) rfl ?_); refine goesL_ (some 16) rfl rfl Try.func55 (by kernel_rfl) rfl #[.agg #[.slice (some ad281) l0_0.length c0_0]] rfl eqT ?_; (with_reducible refine (impl_IsCandidate.calls k1 _ _ l0_0 true _ ?side1 ?side2 A8.out).mono ?_); (case side1 => exact Kd.C_below HR0_0.out (hbT HB.out)); (case side2 => exact HC0_0.out); rintro e w16 ⟨rfl, hb⟩; refine ⟨_, rfl, ?_⟩; have n0_ := asT (blk_below (g := gb280) (o := .cells #[.slice (some ad281) l0_0.length c0_0] 34 (0, 0)) (by (with_reducible repeat (first | refine blk_drewN ?_ _ | refine blk_drew ?_ | refine blk_alloc ?_ _)); refine blk_far ?_ NB280_282.out _; (with_reducible repeat (first | refine blk_drewN ?_ _ | refine blk_drew ?_ | refine blk_alloc ?_ _)); refine blk_far ?_ NB280_282.out _; (with_reducible repeat (first | refine blk_drewN ?_ _ | refine blk_drew ?_ | refine blk_alloc ?_ _)); exact BK280.out) hb); have n1_ := asT (blk_below (g := gb282) (o := .cells #[.int .u8 ((rd_T83 l0_0 x11_1).f0), .int .u8 ((rd_T83 l0_0 x11_1).f1)] 83 (0, 0)) (by (with_reducible repeat (first | refine blk_drewN ?_ _ | refine blk_drew ?_ | refine blk_alloc ?_ _)); refine blk_put (cs := #[.int .u8 ((rd_T83 l0_0 x11_1).f0), .int .u8 0]) ?_ 1 _ rfl; (with_reducible repeat (first | refine blk_drewN ?_ _ | refine blk_drew ?_ | refine blk_alloc ?_ _)); refine blk_put (cs := #[.int .u8 0, .int .u8 0]) ?_ 0 _ rfl; (with_reducible repeat (first | refine blk_drewN ?_ _ | refine blk_drew ?_ | refine blk_alloc ?_ _)); exact BK282.out) hb); have n2_ := asT (below_step (hbT HB.out) hb); clear BK280 BK282 HB; have BK280 := n0_; have BK282 := n1_; have HB := n2_; clear n0_ n1_ n2_; (try clear hb); (try clear hb2); (try clear hk); (try clear hi); have hcz17_0 : w16.cell? ⟨gb282, 0, none⟩ = some (.int .u8 ((rd_T83 l0_0 x11_1).f0)) := (blk_cell BK282.out 0).trans rfl; have hcz17_1 : w16.cell? ⟨gb282, 1, none⟩ = some (.int .u8 ((rd_T83 l0_0 x11_1).f1)) := (blk_cell BK282.out 1).trans rfl; have hfz17_0 := blk_frozen BK282.out 0; have hfz17_1 := blk_frozen BK282.out 1) | (go_at_call 109; (with_reducible refine (impl_CountDeleted_1.calls ((rd_T83 l0_0 x11_1).f0) ((rd_T83 l0_0 x11_1).f1) true _ A10.out).mono ?_); rintro e w18 ⟨rfl, hb⟩; have n0_ := asT (blk_below (g := gb280) (o := .cells #[.slice (some ad281) l0_0.length c0_0] 34 (0, 0)) (bkT BK280.out) hb); have n1_ := asT (blk_below (g := gb282) (o := .cells #[.int .u8 ((rd_T83 l0_0 x11_1).f0), .int .u8 ((rd_T83 l0_0 x11_1).f1)] 83 (0, 0)) (bkT BK282.out) hb); have n2_ := asT (below_step (hbT HB.out) hb); clear BK280 BK282 HB; have BK280 := n0_; have BK282 := n1_; have HB := n2_; clear n0_ n1_ n2_; (try clear hb); (try clear hb2); (try clear hk); (try clear hi)))
        go_roundg k1
        case measure => have := HK1.out; omega
        case rel => exact ⟨(wrap64 (x5_1 + 1)), (wrap64 (x11_1 + 1)), rdT, rdT, H', ⟨by have := HK1.out; omega⟩, ⟨by (with_reducible repeat (first | refine blk_drewN ?_ _ | refine blk_drew ?_ | refine blk_alloc ?_ _)); exact BK280.out⟩, ⟨hbT HB.out⟩⟩
       ·replace c11 := Bool.eq_false_iff.mpr c11
        subst c11
        have H1 : (impl_links_at_CountDeleted_1.l0 k1 x5_1 l0_0 (l0_0.length : Int) (wrap64 (x11_1 + 1)) l0_0) = some r := by rw [if_neg (show ¬ (false = true) by decide)] at H; exact H
        clear H; have H := H1; clear H1; have H' := Aside0.mk H; clear H
        have p281 : 0 ≤ (x11_1 : Int) := of_decide_eq_true asmT
        have q281 : x11_1 < (l0_0.length : Int) := of_decide_eq_true asmT
        obtain ⟨ad281, e281, hx281_0, hx281_1⟩ := at_T83 HR0_0.out x11_1 p281 q281
        cases e281
        replace hx281_0 := (HB.out.cell (World.block_lt_of_cell? w _ hx281_0)).trans hx281_0; replace hx281_1 := (HB.out.cell (World.block_lt_of_cell? w _ hx281_1)).trans hx281_1; replace p281 := eq_true p281; replace q281 := eq_true q281
        go_wp2_with (first | ((with_reducible refine gate_dst (N := 7) rfl ?_); refine boxT (N := 7) (cs := #[.int .u8 0, .int .u8 0]) (t := 83) ?_; intro gb282 hg w19 hbox hb; have n0_ := asT (blk_below (g := gb280) (o := .cells #[.slice (some ad281) l0_0.length c0_0] 34 (0, 0)) (bkT BK280.out) hb); have n1_ := asT (below_step (hbT HB.out) hb); have n2_ := asT (hbox); have n3_ := asT (geT hg HB.out); have n4_ := asT (geT hg HB.out); have n5_ := asT ((by rw [hg]; exact Nat.ne_of_lt (blk_lt (g := gb280) (o := .cells #[.slice (some ad281) l0_0.length c0_0] 34 (0, 0)) (bkT BK280.out)) : gb280 ≠ gb282)); have n6_ := asT ((by rw [hg]; exact Nat.ne_of_gt (blk_lt (g := gb280) (o := .cells #[.slice (some ad281) l0_0.length c0_0] 34 (0, 0)) (bkT BK280.out)) : gb282 ≠ gb280)); clear BK280 HB; have BK280 := n0_; have HB := n1_; have BK282 := n2_; have GW282 := n3_; have GE282 := n4_; have NB280_282 := n5_; have NB282_280 := n6_; clear n0_ n1_ n2_ n3_ n4_ n5_ n6_ hb hbox hg; have hnb20 := NB282_280.out; have hnc20 := NB280_282.out; have hcz21_0 : w19.cell? ⟨gb282, 0, none⟩ = some (.int .u8 0) := (blk_cell BK282.out 0).trans rfl; have hcz21_1 : w19.cell? ⟨gb282, 1, none⟩ = some (.int .u8 0) := (blk_cell BK282.out 1).trans rfl; have hfz21_0 := blk_frozen BK282.out 0; have hfz21_1 := blk_frozen BK282.out 1; have hcz22_0 : w19.cell? ⟨gb280, 0, none⟩ = some (.slice (some ad281) l0_0.length c0_0) := (blk_cell BK280.out 0).trans rfl; have hfz22_0 := blk_frozen BK280.out 0) | ((with_reducible refine gate_callee (f := 55) rfl ?_); refine goesL_ (some 16) rfl rfl Try.func55 (by kernel_rfl) rfl #[.agg #[.slice (some ad281) l0_0.length c0_0]] rfl eqT ?_; (with_reducible refine (impl_IsCandidate.calls k1 _ _ l0_0 true _ ?side1 ?side2 A8.out).mono ?_); (case side1 => exact Kd.C_below HR0_0.out (hbT HB.out)); (case side2 => exact HC0_0.out); rintro e w23 ⟨rfl, hb⟩; refine ⟨_, rfl, ?_⟩; have n0_ := asT (blk_below (g := gb280) (o := .cells #[.slice (some ad281) l0_0.length c0_0] 34 (0, 0)) (by (with_reducible repeat (first | refine blk_drewN ?_ _ | refine blk_drew ?_ | refine blk_alloc ?_ _)); refine blk_far ?_ NB280_282.out _; (with_reducible repeat (first | refine blk_drewN ?_ _ | refine blk_drew ?_ | refine blk_alloc ?_ _)); refine blk_far ?_ NB280_282.out _; (with_reducible repeat (first | refine blk_drewN ?_ _ | refine blk_drew ?_ | refine blk_alloc ?_ _)); exact BK280.out) hb); have n1_ := asT (blk_below (g := gb282) (o := .cells #[.int .u8 ((rd_T83 l0_0 x11_1).f0), .int .u8 ((rd_T83 l0_0 x11_1).f1)] 83 (0, 0)) (by (with_reducible repeat (first | refine blk_drewN ?_ _ | refine blk_drew ?_ | refine blk_alloc ?_ _)); refine blk_put (cs := #[.int .u8 ((rd_T83 l0_0 x11_1).f0), .int .u8 0]) ?_ 1 _ rfl; (with_reducible repeat (first | refine blk_drewN ?_ _ | refine blk_drew ?_ | refine blk_alloc ?_ _)); refine blk_put (cs := #[.int .u8 0, .int .u8 0]) ?_ 0 _ rfl; (with_reducible repeat (first | refine blk_drewN ?_ _ | refine blk_drew ?_ | refine blk_alloc ?_ _)); exact BK282.out) hb); have n2_ := asT (below_step (hbT HB.out) hb); clear BK280 BK282 HB; have BK280 := n0_; have BK282 := n1_; have HB := n2_; clear n0_ n1_ n2_; (try clear hb); (try clear hb2); (try clear hk); (try clear hi); have hcz24_0 : w23.cell? ⟨gb282, 0, none⟩ = some (.int .u8 ((rd_T83 l0_0 x11_1).f0)) := (blk_cell BK282.out 0).trans rfl; have hcz24_1 : w23.cell? ⟨gb282, 1, none⟩ = some (.int .u8 ((rd_T83 l0_0 x11_1).f1)) := (blk_cell BK282.out 1).trans rfl; have hfz24_0 := blk_frozen BK282.out 0; have hfz24_1 := blk_frozen BK282.out 1) | (go_at_call 109; (with_reducible refine (impl_CountDeleted_1.calls ((rd_T83 l0_0 x11_1).f0) ((rd_T83 l0_0 x11_1).f1) false _ A10.out).mono ?_); rintro e w25 ⟨rfl, hb⟩; have n0_ := asT (blk_below (g := gb280) (o := .cells #[.slice (some ad281) l0_0.length c0_0] 34 (0, 0)) (bkT BK280.out) hb); have n1_ := asT (blk_below (g := gb282) (o := .cells #[.int .u8 ((rd_T83 l0_0 x11_1).f0), .int .u8 ((rd_T83 l0_0 x11_1).f1)] 83 (0, 0)) (bkT BK282.out) hb); have n2_ := asT (below_step (hbT HB.out) hb); clear BK280 BK282 HB; have BK280 := n0_; have BK282 := n1_; have HB := n2_; clear n0_ n1_ n2_; (try clear hb); (try clear hb2); (try clear hk); (try clear hi)))
        go_roundg k1
        case measure => have := HK1.out; omega
        case rel => exact ⟨(x5_1), (wrap64 (x11_1 + 1)), rdT, rdT, H', ⟨by have := HK1.out; omega⟩, ⟨by (with_reducible repeat (first | refine blk_drewN ?_ _ | refine blk_drew ?_ | refine blk_alloc ?_ _)); exact BK280.out⟩, ⟨hbT HB.out⟩⟩
      ·replace c9 := Bool.eq_false_iff.mpr c9
       subst c9
       have H1 : (impl_links_at_CountDeleted_1.l0 k1 x5_1 l0_0 (l0_0.length : Int) (wrap64 (x11_1 + 1)) l0_0) = some r := by rw [if_neg (show ¬ (false = true) by decide)] at H; exact H
       clear H; have H := H1; clear H1; have H' := Aside0.mk H; clear H
       have p281 : 0 ≤ (x11_1 : Int) := of_decide_eq_true asmT
       have q281 : x11_1 < (l0_0.length : Int) := of_decide_eq_true asmT
       obtain ⟨ad281, e281, hx281_0, hx281_1⟩ := at_T83 HR0_0.out x11_1 p281 q281
       cases e281
       replace hx281_0 := (HB.out.cell (World.block_lt_of_cell? w _ hx281_0)).trans hx281_0; replace hx281_1 := (HB.out.cell (World.block_lt_of_cell? w _ hx281_1)).trans hx281_1; replace p281 := eq_true p281; replace q281 := eq_true q281
       go_wp2_with (first | ((with_reducible refine gate_dst (N := 7) rfl ?_); refine boxT (N := 7) (cs := #[.int .u8 0, .int .u8 0]) (t := 83) ?_; intro gb282 hg w26 hbox hb; have n0_ := asT (blk_below (g := gb280) (o := .cells #[.slice (some ad281) l0_0.length c0_0] 34 (0, 0)) (bkT BK280.out) hb); have n1_ := asT (below_step (hbT HB.out) hb); have n2_ := asT (hbox); have n3_ := asT (geT hg HB.out); have n4_ := asT (geT hg HB.out); have n5_ := asT ((by rw [hg]; exact Nat.ne_of_lt (blk_lt (g := gb280) (o := .cells #[.slice (some ad281) l0_0.length c0_0] 34 (0, 0)) (bkT BK280.out)) : gb280 ≠ gb282)); have n6_ := asT ((by rw [hg]; exact Nat.ne_of_gt (blk_lt (g := gb280) (o := .cells #[.slice (some ad281) l0_0.length c0_0] 34 (0, 0)) (bkT BK280.out)) : gb282 ≠ gb280)); clear BK280 HB; have BK280 := n0_; have HB := n1_; have BK282 := n2_; have GW282 := n3_; have GE282 := n4_; have NB280_282 := n5_; have NB282_280 := n6_; clear n0_ n1_ n2_ n3_ n4_ n5_ n6_ hb hbox hg; have hnb27 := NB282_280.out; have hnc27 := NB280_282.out; have hcz28_0 : w26.cell? ⟨gb282, 0, none⟩ = some (.int .u8 0) := (blk_cell BK282.out 0).trans rfl; have hcz28_1 : w26.cell? ⟨gb282, 1, none⟩ = some (.int .u8 0) := (blk_cell BK282.out 1).trans rfl; have hfz28_0 := blk_frozen BK282.out 0; have hfz28_1 := blk_frozen BK282.out 1; have hcz29_0 : w26.cell? ⟨gb280, 0, none⟩ = some (.slice (some ad281) l0_0.length c0_0) := (blk_cell BK280.out 0).trans rfl; have hfz29_0 := blk_frozen BK280.out 0) | ((with_reducible refine gate_callee (f := 55) rfl ?_); refine goesL_ (some 16) rfl rfl Try.func55 (by kernel_rfl) rfl #[.agg #[.slice (some ad281) l0_0.length c0_0]] rfl eqT ?_; (with_reducible refine (impl_IsCandidate.calls k1 _ _ l0_0 false _ ?side1 ?side2 A8.out).mono ?_); (case side1 => exact Kd.C_below HR0_0.out (hbT HB.out)); (case side2 => exact HC0_0.out); rintro e w30 ⟨rfl, hb⟩; refine ⟨_, rfl, ?_⟩; have n0_ := asT (blk_below (g := gb280) (o := .cells #[.slice (some ad281) l0_0.length c0_0] 34 (0, 0)) (by (with_reducible repeat (first | refine blk_drewN ?_ _ | refine blk_drew ?_ | refine blk_alloc ?_ _)); refine blk_far ?_ NB280_282.out _; (with_reducible repeat (first | refine blk_drewN ?_ _ | refine blk_drew ?_ | refine blk_alloc ?_ _)); refine blk_far ?_ NB280_282.out _; (with_reducible repeat (first | refine blk_drewN ?_ _ | refine blk_drew ?_ | refine blk_alloc ?_ _)); exact BK280.out) hb); have n1_ := asT (blk_below (g := gb282) (o := .cells #[.int .u8 ((rd_T83 l0_0 x11_1).f0), .int .u8 ((rd_T83 l0_0 x11_1).f1)] 83 (0, 0)) (by (with_reducible repeat (first | refine blk_drewN ?_ _ | refine blk_drew ?_ | refine blk_alloc ?_ _)); refine blk_put (cs := #[.int .u8 ((rd_T83 l0_0 x11_1).f0), .int .u8 0]) ?_ 1 _ rfl; (with_reducible repeat (first | refine blk_drewN ?_ _ | refine blk_drew ?_ | refine blk_alloc ?_ _)); refine blk_put (cs := #[.int .u8 0, .int .u8 0]) ?_ 0 _ rfl; (with_reducible repeat (first | refine blk_drewN ?_ _ | refine blk_drew ?_ | refine blk_alloc ?_ _)); exact BK282.out) hb); have n2_ := asT (below_step (hbT HB.out) hb); clear BK280 BK282 HB; have BK280 := n0_; have BK282 := n1_; have HB := n2_; clear n0_ n1_ n2_; (try clear hb); (try clear hb2); (try clear hk); (try clear hi)))
       go_roundg k1
       case measure => have := HK1.out; omega
       case rel => exact ⟨(x5_1), (wrap64 (x11_1 + 1)), rdT, rdT, H', ⟨by have := HK1.out; omega⟩, ⟨by (with_reducible repeat (first | refine blk_drewN ?_ _ | refine blk_drew ?_ | refine blk_alloc ?_ _)); exact BK280.out⟩, ⟨hbT HB.out⟩⟩
     ·rw [if_neg c7] at H
      exact absurd H (by simp)
    ·rw [if_neg c6] at H
     exact absurd H (by simp)
   ·rw [if_neg c5] at H
    have c5b0 : decide (x11_1 < (l0_0.length : Int)) = false := decide_eq_false c5
    clear c5
    obtain rfl := Option.some.inj H
    go_wp2
    go_ret
    exact ⟨rlT, hbT HB.out⟩

/-! ### impl_CountDeleted: function 63 -/
def impl_CountDeleted.f (k : Nat) (l0_0 : List (S83)) : Option (Int) := (impl_links_at_CountDeleted_1.f k l0_0 ()).bind fun t286 => (some t286)
theorem impl_CountDeleted.mono : ∀ a0 k, LeO (impl_CountDeleted.f k a0) (impl_CountDeleted.f (k + 1) a0) := by
 intro a0 k
 unfold impl_CountDeleted.f
 repeat' first
   | (with_reducible exact impl_links_at_CountDeleted_1.mono _ _ _)
   | (with_reducible exact LeO.refl _)
   | (with_reducible exact LeO.none _)
   | (with_reducible refine LeO.ite ?_ ?_)
   | (with_reducible refine LeO.bind ?_ (fun _ => ?_))
   | exact impl_links_at_CountDeleted_1.mono _ _ _
   | exact LeO.none _
   | refine LeO.ite ?_ ?_
   | refine LeO.bind ?_ (fun _ => ?_)
set_option maxHeartbeats 8000000 in
set_option maxRecDepth 100000 in
theorem impl_CountDeleted.calls (k : Nat) (A0_0 : Option Addr) (c0_0 : Nat) (l0_0 : List (S83)) (r : Int) (w : World) (hr0_0 : Kd.C k83 w A0_0 l0_0.length l0_0) (hc0_0 : l0_0.length ≤ c0_0) (h : impl_CountDeleted.f k l0_0 = some r) :
  Calls Try.prog 63 #[.agg #[.slice A0_0 l0_0.length c0_0]] w fun e w' => e = .returned (.int .i64 r) ∧ Below w.heap.size w w' := by
 have hu34 := Try.underlying34; have HR0_0 := Aside0.mk hr0_0; have HC0_0 := Aside0.mk hc0_0; clear hr0_0 hc0_0; have HB := asT (Below.refl w.heap.size w)
 have H : ((impl_links_at_CountDeleted_1.f k l0_0 ()).bind fun t286 => (some t286)) = some r := h
 clear h; replace H := Option.bind_eq_some_iff.mp H; obtain ⟨t286, A20, H⟩ := H; replace H : (some t286) = some r := H; have A2 := Aside0.mk A20; clear A20
 obtain rfl := Option.some.inj H
 go_enter Try.func63, Try.ntmps63
 go_wp2_with (first | ((with_reducible refine gate_dst (N := 1) rfl ?_); refine boxT (N := 1) (cs := #[.slice A0_0 l0_0.length c0_0]) (t := 34) ?_; intro gb285 hg w3 hbox hb; have n0_ := asT (below_step (hbT HB.out) hb); have n1_ := asT (hbox); have n2_ := asT (geT hg HB.out); have n3_ := asT (geT hg HB.out); clear HB; have HB := n0_; have BK285 := n1_; have GW285 := n2_; have GE285 := n3_; clear n0_ n1_ n2_ n3_ hb hbox hg; have hcz4_0 : w3.cell? ⟨gb285, 0, none⟩ = some (.slice A0_0 l0_0.length c0_0) := (blk_cell BK285.out 0).trans rfl; have hfz4_0 := blk_frozen BK285.out 0) | ((with_reducible refine gate_callee (f := 108) rfl ?_); refine goesL_ (some 4) rfl rfl Try.func108 (by kernel_rfl) rfl #[.agg #[.slice A0_0 l0_0.length c0_0], .func (.func 109) #[] #[]] rfl eqT ?_; (with_reducible refine (impl_links_at_CountDeleted_1.calls k _ _ l0_0 () t286 _ ?side1 ?side2 A2.out).mono ?_); (case side1 => exact crT HR0_0.out HB.out); (case side2 => exact HC0_0.out); rintro e w5 ⟨rfl, hb⟩; refine ⟨_, rfl, ?_⟩; have n0_ := asT (blk_below (bkT BK285.out) hb); have n1_ := asT (below_step (hbT HB.out) hb); clear BK285 HB; have BK285 := n0_; have HB := n1_; clear n0_ n1_; (try clear hb); (try clear hb2); (try clear hk); (try clear hi)))
 go_ret
 exact ⟨rlT, hbT HB.out⟩

/-! ### impl_CountInserted_1: function 110 -/
def impl_CountInserted_1.f (a0_0 : Int) (a0_1 : Int) : Option (Bool) := some (a0_0 == 0)
set_option maxHeartbeats 8000000 in
set_option maxRecDepth 100000 in
theorem impl_CountInserted_1.calls (a0_0 : Int) (a0_1 : Int) (r : Bool) (w : World) (h : impl_CountInserted_1.f a0_0 a0_1 = some r) :
  Calls Try.prog 110 #[.agg #[.int .u8 a0_0, .int .u8 a0_1]] w fun e w' => e = .returned (.bool r) ∧ Below w.heap.size w w' := by
 have hu83 := Try.underlying83; have HB := asT (Below.refl w.heap.size w)
 have H : (some (a0_0 == 0)) = some r := h
 clear h
 obtain rfl := Option.some.inj H
 go_enter Try.func110, Try.ntmps110
 go_wp2_with (first | ((with_reducible refine gate_dst (N := 1) rfl ?_); refine boxT (N := 1) (cs := #[.int .u8 a0_0, .int .u8 a0_1]) (t := 83) ?_; intro gb287 hg w2 hbox hb; have n0_ := asT (below_step (hbT HB.out) hb); have n1_ := asT (hbox); have n2_ := asT (geT hg HB.out); have n3_ := asT (geT hg HB.out); clear HB; have HB := n0_; have BK287 := n1_; have GW287 := n2_; have GE287 := n3_; clear n0_ n1_ n2_ n3_ hb hbox hg; have hcz3_0 : w2.cell? ⟨gb287, 0, none⟩ = some (.int .u8 a0_0) := (blk_cell BK287.out 0).trans rfl; have hcz3_1 : w2.cell? ⟨gb287, 1, none⟩ = some (.int .u8 a0_1) := (blk_cell BK287.out 1).trans rfl; have hfz3_0 := blk_frozen BK287.out 0; have hfz3_1 := blk_frozen BK287.out 1))
 go_ret
 exact ⟨rlT, hbT HB.out⟩

/-! ### impl_links_at_CountInserted_1: function 183 -/
def impl_links_at_CountInserted_1.l0 : Nat → Int → List (S83) → Int → Int → List (S83) → Option (Int)
 | 0, _, _, _, _, _ => none
 | k + 1, x5, x9, x10, x11, x289000 => if x11 < x10 then (if 0 ≤ x11 then (if x11 < (x9.length : Int) then ((impl_IsCandidate.f k x289000).bind fun t291 => (if t291 = true then ((impl_CountInserted_1.f ((rd_T83 x9 x11).f0) ((rd_T83 x9 x11).f1)).bind fun t292 => (if t292 = true then (impl_links_at_CountInserted_1.l0 k (wrap64 (x5 + 1)) x9 x10 (wrap64 (x11 + 1)) x289000) else (impl_links_at_CountInserted_1.l0 k x5 x9 x10 (wrap64 (x11 + 1)) x289000))) else (impl_links_at_CountInserted_1.l0 k x5 x9 x10 (wrap64 (x11 + 1)) x289000))) else (none)) else (none)) else (some x5)
def impl_links_at_CountInserted_1.f (k : Nat) (l0_0 : List (S83)) (a1 : Unit) : Option (Int) := impl_links_at_CountInserted_1.l0 k 0 l0_0 (l0_0.length : Int) 0 l0_0
theorem impl_links_at_CountInserted_1.mono_l : ∀ k, (∀ y0 y1 y2 y3 y4, LeO (impl_links_at_CountInserted_1.l0 k y0 y1 y2 y3 y4) (impl_links_at_CountInserted_1.l0 (k + 1) y0 y1 y2 y3 y4))
 | 0 => fun _ _ _ _ _ r h => by simp [impl_links_at_CountInserted_1.l0] at h
 | k + 1 => by
  have ih0 := impl_links_at_CountInserted_1.mono_l k
  ·intro y0 y1 y2 y3 y4
   unfold impl_links_at_CountInserted_1.l0
   repeat' first
   | (with_reducible exact ih0 _ _ _ _ _)
   | (with_reducible exact impl_IsCandidate.mono _ _)
   | (with_reducible exact LeO.refl _)
   | (with_reducible exact LeO.none _)
   | (with_reducible refine LeO.ite ?_ ?_)
   | (with_reducible refine LeO.bind ?_ (fun _ => ?_))
   | exact ih0 _ _ _ _ _
   | exact impl_IsCandidate.mono _ _
   | exact LeO.none _
   | refine LeO.ite ?_ ?_
   | refine LeO.bind ?_ (fun _ => ?_)
theorem impl_links_at_CountInserted_1.mono : ∀ a0 a1 k, LeO (impl_links_at_CountInserted_1.f k a0 a1) (impl_links_at_CountInserted_1.f (k + 1) a0 a1) := by
 intro a0 a1 k
 have ih0 := impl_links_at_CountInserted_1.mono_l k
 unfold impl_links_at_CountInserted_1.f
 repeat' first
   | (with_reducible exact ih0 _ _ _ _ _)
   | (with_reducible exact impl_IsCandidate.mono _ _)
   | (with_reducible exact LeO.refl _)
   | (with_reducible exact LeO.none _)
   | (with_reducible refine LeO.ite ?_ ?_)
   | (with_reducible refine LeO.bind ?_ (fun _ => ?_))
   | exact ih0 _ _ _ _ _
   | exact impl_IsCandidate.mono _ _
   | exact LeO.none _
   | refine LeO.ite ?_ ?_
   | refine LeO.bind ?_ (fun _ => ?_)
set_option maxHeartbeats 8000000 in
set_option maxRecDepth 100000 in
theorem impl_links_at_CountInserted_1.calls (k : Nat) (A0_0 : Option Addr) (c0_0 : Nat) (l0_0 : List (S83)) (a1 : Unit) (r : Int) (w : World) (hr0_0 : Kd.C k83 w A0_0 l0_0.length l0_0) (hc0_0 : l0_0.length ≤ c0_0) (h : impl_links_at_CountInserted_1.f k l0_0 a1 = some r) :
  Calls Try.prog 108 #[.agg #[.slice A0_0 l0_0.length c0_0], .func (.func 110) #[] #[]] w fun e w' => e = .returned (.int .i64 r) ∧ Below w.heap.size w w' := by
 have hu34 := Try.underlying34; have hu83 := Try.underlying83; have HR0_0 := Aside0.mk hr0_0; have HC0_0 := Aside0.mk hc0_0; clear hr0_0 hc0_0; have HB := asT (Below.refl w.heap.size w)
 have H : (impl_links_at_CountInserted_1.l0 k 0 l0_0 (l0_0.length : Int) 0 l0_0) = some r := h
 clear h; have H' := Aside0.mk H; clear H
 go_enter Try.func108, Try.ntmps108
 go_wp2_with (first | ((with_reducible refine gate_dst (N := 2) rfl ?_); refine boxT (N := 2) (cs := #[.slice A0_0 l0_0.length c0_0]) (t := 34) ?_; intro gb288 hg w3 hbox hb; have n0_ := asT (below_step (hbT HB.out) hb); have n1_ := asT (hbox); have n2_ := asT (geT hg HB.out); have n3_ := asT (geT hg HB.out); clear HB; have HB := n0_; have BK288 := n1_; have GW288 := n2_; have GE288 := n3_; clear n0_ n1_ n2_ n3_ hb hbox hg; have hcz4_0 : w3.cell? ⟨gb288, 0, none⟩ = some (.slice A0_0 l0_0.length c0_0) := (blk_cell BK288.out 0).trans rfl; have hfz4_0 := blk_frozen BK288.out 0))
 go_loopg [5, 11] k (fun kq v5 v11 w' => ∃ (x5_1 : Int) (x11_1 : Int), v5 = .int .i64 x5_1 ∧ v11 = .int .i64 x11_1 ∧ Aside0 (impl_links_at_CountInserted_1.l0 kq x5_1 l0_0 (l0_0.length : Int) x11_1 l0_0 = some r) ∧ Aside0 (kq ≤ k) ∧ Aside0 (w'.heap[gb288]? = some (.cells #[(.slice A0_0 l0_0.length c0_0)] 34 (0, 0))) ∧ Aside0 (Below w.heap.size w w'))
 case atStart => exact ⟨(0), (0), rdT, rdT, H', ⟨Nat.le_refl _⟩, ⟨by (with_reducible repeat (first | refine blk_drewN ?_ _ | refine blk_drew ?_ | refine blk_alloc ?_ _)); exact BK288.out⟩, ⟨hbT HB.out⟩⟩
 case round =>
  clear H'; (try clear c1); (try clear p2); (try clear hcz4_0); (try clear hfz4_0); obtain ⟨x5_1, x11_1, rfl, rfl, HA, HK1, BK288, HB⟩ := hrel
  cases gk with
  | zero => exact absurd HA.out (by simp [impl_links_at_CountInserted_1.l0])
  | succ k1 =>
   have H := HA.out; clear HA
   simp only [impl_links_at_CountInserted_1.l0] at H
   by_cases c5 : x11_1 < (l0_0.length : Int)
   ·rw [if_pos c5] at H
    have c5b0 : decide (x11_1 < (l0_0.length : Int)) = true := decide_eq_true c5
    clear c5
    by_cases c6 : 0 ≤ x11_1
    ·rw [if_pos c6] at H
     have c6b0 : decide (0 ≤ x11_1) = true := decide_eq_true c6
     clear c6
     by_cases c7 : x11_1 < (l0_0.length : Int)
     ·rw [if_pos c7] at H
      have c7b0 : decide (x11_1 < (l0_0.length : Int)) = true := decide_eq_true c7
      clear c7; replace H := Option.bind_eq_some_iff.mp H; obtain ⟨t291, A80, H⟩ := H; replace H : (if t291 = true then ((impl_CountInserted_1.f ((rd_T83 l0_0 x11_1).f0) ((rd_T83 l0_0 x11_1).f1)).bind fun t292 => (if t292 = true then (impl_links_at_CountInserted_1.l0 k1 (wrap64 (x5_1 + 1)) l0_0 (l0_0.length : Int) (wrap64 (x11_1 + 1)) l0_0) else (impl_links_at_CountInserted_1.l0 k1 x5_1 l0_0 (l0_0.length : Int) (wrap64 (x11_1 + 1)) l0_0))) else (impl_links_at_CountInserted_1.l0 k1 x5_1 l0_0 (l0_0.length : Int) (wrap64 (x11_1 + 1)) l0_0)) = some r := H; have A8 := Aside0.mk A80; clear A80
      by_cases c9 : t291 = true
      ·subst c9
       have H1 : ((impl_CountInserted_1.f ((rd_T83 l0_0 x11_1).f0) ((rd_T83 l0_0 x11_1).f1)).bind fun t292 => (if t292 = true then (impl_links_at_CountInserted_1.l0 k1 (wrap64 (x5_1 + 1)) l0_0 (l0_0.length : Int) (wrap64 (x11_1 + 1)) l0_0) else (impl_links_at_CountInserted_1.l0 k1 x5_1 l0_0 (l0_0.length : Int) (wrap64 (x11_1 + 1)) l0_0))) = some r := by rw [if_pos rfl] at H; exact H
       clear H; have H := H1; clear H1; replace H := Option.bind_eq_some_iff.mp H; obtain ⟨t292, A100, H⟩ := H; replace H : (if t292 = true then (impl_links_at_CountInserted_1.l0 k1 (wrap64 (x5_1 + 1)) l0_0 (l0_0.length : Int) (wrap64 (x11_1 + 1)) l0_0) else (impl_links_at_CountInserted_1.l0 k1 x5_1 l0_0 (l0_0.length : Int) (wrap64 (x11_1 + 1)) l0_0)) = some r := H; have A10 := Aside0.mk A100; clear A100
       by_cases c11 : t292 = true
       ·subst c11
        have H1 : (impl_links_at_CountInserted_1.l0 k1 (wrap64 (x5_1 + 1)) l0_0 (l0_0.length : Int) (wrap64 (x11_1 + 1)) l0_0) = some r := by rw [if_pos rfl] at H; exact H
        clear H; have H := H1; clear H1; have H' := Aside0.mk H; clear H
        have p289 : 0 ≤ (x11_1 : Int) := of_decide_eq_true asmT
        have q289 : x11_1 < (l0_0.length : Int) := of_decide_eq_true asmT
        obtain ⟨ad289, e289, hx289_0, hx289_1⟩ := at_T83 HR0_0.out x11_1 p289 q289
        cases e289
        replace hx289_0 := (HB.out.cell (World.block_lt_of_cell? w _ hx289_0)).trans hx289_0; replace hx289_1 := (HB.out.cell (World.block_lt_of_cell? w _ hx289_1)).trans hx289_1; replace p289 := eq_true p289; replace q289 := eq_true q289
        go_wp2_with (first | ((with_reducible refine gate_dst (N := 7) rfl ?_); refine boxT (N := 7) (cs := #[.int .u8 0, .int .u8 0]) (t := 83) ?_; intro gb290 hg w12 hbox hb; have n0_ := asT (blk_below (g := gb288) (o := .cells #[.slice (some ad289) l0_0.length c0_0] 34 (0, 0)) (bkT BK288.out) hb); have n1_ := asT (below_step (hbT HB.out) hb); have n2_ := asT (hbox); have n3_ := asT (geT hg HB.out); have n4_ := asT (geT hg HB.out); have n5_ := asT ((by rw [hg]; exact Nat.ne_of_lt (blk_lt (g := gb288) (o := .cells #[.slice (some ad289) l0_0.length c0_0] 34 (0, 0)) (bkT BK288.out)) : gb288 ≠ gb290)); have n6_ := asT ((by rw [hg]; exact Nat.ne_of_gt (blk_lt (g := gb288) (o := .cells #[.slice (some ad289) l0_0.length c0_0] 34 (0, 0)) (bkT BK288.out)) : gb290 ≠ gb288)); clear BK288 HB; have BK288 := n0_; have HB := n1_; have BK290 := n2_; have GW290 := n3_; have GE290 := n4_; have NB288_290 := n5_; have NB290_288 := n6_; clear n0_ n1_ n2_ n3_ n4_ n5_ n6_ hb hbox hg; have hnb13 := NB290_288.out; have hnc13 := NB288_290.out; have hcz14_0 : w12.cell? ⟨gb290, 0, none⟩ = some (.int .u8 0) := (blk_cell BK290.out 0).trans rfl; have hcz14_1 : w12.cell? ⟨gb290, 1, none⟩ = some (.int .u8 0) := (blk_cell BK290.out 1).trans rfl; have hfz14_0 := blk_frozen BK290.out 0; have hfz14_1 := blk_frozen BK290.out 1; have hcz15_0 : w12.cell? ⟨gb288, 0, none⟩ = some (.slice (some ad289) l0_0.length c0_0) := (blk_cell BK288.out 0).trans rfl; have hfz15_0 := blk_frozen BK288.out 0) | ((with_reducible refine gate_callee (f := 55) rfl ?_); refine goesL_ (some 16) rfl rfl Try.func55 (by kernel_rfl) rfl #[.agg #[.slice (some ad289) l0_0.length c0_0]] rfl eqT ?_; (with_reducible refine (impl_IsCandidate.calls k1 _ _ l0_0 true _ ?side1 ?side2 A8.out).mono ?_); (case side1 => exact Kd.C_below HR0_0.out (hbT HB.out)); (case side2 => exact HC0_0.out); rintro e w16 ⟨rfl, hb⟩; refine ⟨_, rfl, ?_⟩; have n0_ := asT (blk_below (g := gb288) (o := .cells #[.slice (some ad289) l0_0.length c0_0] 34 (0, 0)) (by (with_reducible repeat (first | refine blk_drewN ?_ _ | refine blk_drew ?_ | refine blk_alloc ?_ _)); refine blk_far ?_ NB288_290.out _; (with_reducible repeat (first | refine blk_drewN ?_ _ | refine blk_drew ?_ | refine blk_alloc ?_ _)); refine blk_far ?_ NB288_290.out _; (with_reducible repeat (first | refine blk_drewN ?_ _ | refine blk_drew ?_ | refine blk_alloc ?_ _)); exact BK288.out) hb); have n1_ := asT (blk_below (g := gb290) (o := .cells #[.int .u8 ((rd_T83 l0_0 x11_1).f0), .int .u8 ((rd_T83 l0_0 x11_1).f1)] 83 (0, 0)) (by (with_reducible repeat (first | refine blk_drewN ?_ _ | refine blk_drew ?_ | refine blk_alloc ?_ _)); refine blk_put (cs := #[.int .u8 ((rd_T83 l0_0 x11_1).f0), .int .u8 0]) ?_ 1 _ rfl; (with_reducible repeat (first | refine blk_drewN ?_ _ | refine blk_drew ?_ | refine blk_alloc ?_ _)); refine blk_put (cs := #[.int .u8 0, .int .u8 0]) ?_ 0 _ rfl; (with_reducible repeat (first | refine blk_drewN ?_ _ | refine blk_drew ?_ | refine blk_alloc ?_ _)); exact BK290.out) hb); have n2_ := asT (below_step (hbT HB.out) hb); clear BK288 BK290 HB; have BK288 := n0_; have BK290 := n1_; have HB := n2_; clear n0_ n1_ n2_; (try clear hb); (try clear hb2); (try clear hk); (try clear hi); have hcz17_0 : w16.cell? ⟨gb290, 0, none⟩ = some (.int .u8 ((rd_T83 l0_0 x11_1).f0)) := (blk_cell BK290.out 0).trans rfl; have hcz17_1 : w16.cell? ⟨gb290, 1, none⟩ = some (.int .u8 ((rd_T83 l0_0 x11_1).f1)) := (blk_cell BK290.out 1).trans rfl; have hfz17_0 := blk_frozen BK290.out 0; have hfz17_1 := blk_frozen BK290.out 1) | (go_at_call 110; (with_reducible refine (impl_CountInserted_1.calls ((rd_T83 l0_0 x11_1).f0) ((rd_T83 l0_0 x11_1).f1) true _ A10.out).mono ?_); rintro e w18 ⟨rfl, hb⟩; have n0_ := asT (blk_below (g := gb288) (o := .cells #[.slice (some ad289) l0_0.length c0_0] 34 (0, 0)) (bkT BK288.out) hb); have n1_ := asT (blk_below (g := gb290) (o := .cells #[.int .u8 ((rd_T83 l0_0 x11_1).f0), .int .u8 ((rd_T83 l0_0 x11_1).f1)] 83 (0, 0)) (bkT BK290.out) hb); have n2_ := asT (below_step (hbT HB.out) hb); clear BK288 BK290 HB; have BK288 := n0_; have BK290 := n1_; have HB := n2_; clear n0_ n1_ n2_; (try clear hb); (try clear hb2); (try clear hk); (try clear hi)))
        go_roundg k1
        case measure => have := HK1.out; omega
        case rel => exact ⟨(wrap64 (x5_1 + 1)), (wrap64 (x11_1 + 1)), rdT, rdT, H', ⟨by have := HK1.out; omega⟩, ⟨by (with_reducible repeat (first | refine blk_drewN ?_ _ | refine blk_drew ?_ | refine blk_alloc ?_ _)); exact BK288.out⟩, ⟨hbT HB.out⟩⟩
       ·replace c11 := Bool.eq_false_iff.mpr c11
        subst c11
        have H1 : (impl_links_at_CountInserted_1.l0 k1 x5_1 l0_0 (l0_0.length : Int) (wrap64 (x11_1 + 1)) l0_0) = some r := by rw [if_neg (show ¬ (false = true) by decide)] at H; exact H
        clear H; have H := H1; clear H1; have H' := Aside0.mk H; clear H
        have p289 : 0 ≤ (x11_1 : Int) := of_decide_eq_true asmT
        have q289 : x11_1 < (l0_0.length : Int) := of_decide_eq_true asmT
        obtain ⟨ad289, e289, hx289_0, hx289_1⟩ := at_T83 HR0_0.out x11_1 p289 q289
        cases e289
        replace hx289_0 := (HB.out.cell (World.block_lt_of_cell? w _ hx289_0)).trans hx289_0; replace hx289_1 := (HB.out.cell (World.block_lt_of_cell? w _ hx289_1)).trans hx289_1; replace p289 := eq_true p289; replace q289 := eq_true q289
        go_wp2_with (first | ((with_reducible refine gate_dst (N := 7) rfl ?_); refine boxT (N := 7) (cs := #[.int .u8 0, .int .u8 0]) (t := 83) ?_; intro gb290 hg w19 hbox hb; have n0_ := asT (blk_below (g := gb288) (o := .cells #[.slice (some ad289) l0_0.length c0_0] 34 (0, 0)) (bkT BK288.out) hb); have n1_ := asT (below_step (hbT HB.out) hb); have n2_ := asT (hbox); have n3_ := asT (geT hg HB.out); have n4_ := asT (geT hg HB.out); have n5_ := asT ((by rw [hg]; exact Nat.ne_of_lt (blk_lt (g := gb288) (o := .cells #[.slice (some ad289) l0_0.length c0_0] 34 (0, 0)) (bkT BK288.out)) : gb288 ≠ gb290)); have n6_ := asT ((by rw [hg]; exact Nat.ne_of_gt (blk_lt (g := gb288) (o := .cells #[.slice (some ad289) l0_0.length c0_0] 34 (0, 0)) (bkT BK288.out)) : gb290 ≠ gb288)); clear BK288 HB; have BK288 := n0_; have HB := n1_; have BK290 := n2_; have GW290 := n3_; have GE290 := n4_; have NB288_290 := n5_; have NB290_288 := n6_; clear n0_ n1_ n2_ n3_ n4_ n5_ n6_ hb hbox hg; have hnb20 := NB290_288.out; have hnc20 := NB288_290.out; have hcz21_0 : w19.cell? ⟨gb290, 0, none⟩ = some (.int .u8 0) := (blk_cell BK290.out 0).trans rfl; have hcz21_1 : w19.cell? ⟨gb290, 1, none⟩ = some (.int .u8 0) := (blk_cell BK290.out 1).trans rfl; have hfz21_0 := blk_frozen BK290.out 0; have hfz21_1 := blk_frozen BK290.out 1; have hcz22_0 : w19.cell? ⟨gb288, 0, none⟩ = some (.slice (some ad289) l0_0.length c0_0) := (blk_cell BK288.out 0).trans rfl; have hfz22_0 := blk_frozen BK288.out 0) | ((with_reducible refine gate_callee (f := 55) rfl ?_); refine goesL_ (some 16) rfl rfl Try.func55 (by kernel_rfl) rfl #[.agg #[.slice (some ad289) l0_0.length c0_0]] rfl eqT ?_; (with_reducible refine (impl_IsCandidate.calls k1 _ _ l0_0 true _ ?side1 ?side2 A8.out).mono ?_); (case side1 => exact Kd.C_below HR0_0.out (hbT HB.out)); (case side2 => exact HC0_0.out); rintro e w23 ⟨rfl, hb⟩; refine ⟨_, rfl, ?_⟩; have n0_ := asT (blk_below (g := gb288) (o := .cells #[.slice (some ad289) l0_0.length c0_0] 34 (0, 0)) (by (with_reducible repeat (first | refine blk_drewN ?_ _ | refine blk_drew ?_ | refine blk_alloc ?_ _)); refine blk_far ?_ NB288_290.out _; (with_reducible repeat (first | refine blk_drewN ?_ _ | refine blk_drew ?_ | refine blk_alloc ?_ _)); refine blk_far ?_ NB288_290.out _; (with_reducible repeat (first | refine blk_drewN ?_ _ | refine blk_drew ?_ | refine blk_alloc ?_ _)); exact BK288.out) hb); have n1_ := asT (blk_below (g := gb290) (o := .cells #[.int .u8 ((rd_T83 l0_0 x11_1).f0), .int .u8 ((rd_T83 l0_0 x11_1).f1)] 83 (0, 0)) (by (with_reducible repeat (first | refine blk_drewN ?_ _ | refine blk_drew ?_ | refine blk_alloc ?_ _)); refine blk_put (cs := #[.int .u8 ((rd_T83 l0_0 x11_1).f0), .int .u8 0]) ?_ 1 _ rfl; (with_reducible repeat (first | refine blk_drewN ?_ _ | refine blk_drew ?_ | refine blk_alloc ?_ _)); refine blk_put (cs := #[.int .u8 0, .int .u8 0]) ?_ 0 _ rfl; (with_reducible repeat (first | refine blk_drewN ?_ _ | refine blk_drew ?_ | refine blk_alloc ?_ _)); exact BK290.out) hb); have n2_ := asT (below_step (hbT HB.out) hb); clear BK288 BK290 HB; have BK288 := n0_; have BK290 := n1_; have HB := n2_; clear n0_ n1_ n2_; (try clear hb); (try clear hb2); (try clear hk); (try clear hi); have hcz24_0 : w23.cell? ⟨gb290, 0, none⟩ = some (.int .u8 ((rd_T83 l0_0 x11_1).f0)) := (blk_cell BK290.out 0).trans rfl; have hcz24_1 : w23.cell? ⟨gb290, 1, none⟩ = some (.int .u8 ((rd_T83 l0_0 x11_1).f1)) := (blk_cell BK290.out 1).trans rfl; have hfz24_0 := blk_frozen BK290.out 0; have hfz24_1 := blk_frozen BK290.out 1) | (go_at_call 110; (with_reducible refine (impl_CountInserted_1.calls ((rd_T83 l0_0 x11_1).f0) ((rd_T83 l0_0 x11_1).f1) false _ A10.out).mono ?_); rintro e w25 ⟨rfl, hb⟩; have n0_ := asT (blk_below (g := gb288) (o := .cells #[.slice (some ad289) l0_0.length c0_0] 34 (0, 0)) (bkT BK288.out) hb); have n1_ := asT (blk_below (g := gb290) (o := .cells #[.int .u8 ((rd_T83 l0_0 x11_1).f0), .int .u8 ((rd_T83 l0_0 x11_1).f1)] 83 (0, 0)) (bkT BK290.out) hb); have n2_ := asT (below_step (hbT HB.out) hb); clear BK288 BK290 HB; have BK288 := n0_; have BK290 := n1_; have HB := n2_; clear n0_ n1_ n2_; (try clear hb); (try clear hb2); (try clear hk); (try clear hi)))
        go_roundg k1
        case measure => have := HK1.out; omega
        case rel => exact ⟨(x5_1), (wrap64 (x11_1 + 1)), rdT, rdT, H', ⟨by have := HK1.out; omega⟩, ⟨by (with_reducible repeat (first | refine blk_drewN ?_ _ | refine blk_drew ?_ | refine blk_alloc ?_ _)); exact BK288.out⟩, ⟨hbT HB.out⟩⟩
      ·replace c9 := Bool.eq_false_iff.mpr c9
       subst c9
       have H1 : (impl_links_at_CountInserted_1.l0 k1 x5_1 l0_0 (l0_0.length : Int) (wrap64 (x11_1 + 1)) l0_0) = some r := by rw [if_neg (show ¬ (false = true) by decide)] at H; exact H
       clear H; have H := H1; clear H1; have H' := Aside0.mk H; clear H
       have p289 : 0 ≤ (x11_1 : Int) := of_decide_eq_true asmT
       have q289 : x11_1 < (l0_0.length : Int) := of_decide_eq_true asmT
       obtain ⟨ad289, e289, hx289_0, hx289_1⟩ := at_T83 HR0_0.out x11_1 p289 q289
       cases e289
       replace hx289_0 := (HB.out.cell (World.block_lt_of_cell? w _ hx289_0)).trans hx289_0; replace hx289_1 := (HB.out.cell (World.block_lt_of_cell? w _ hx289_1)).trans hx289_1; replace p289 := eq_true p289; replace q289 := eq_true q289
       go_wp2_with (first | ((with_reducible refine gate_dst (N := 7) rfl ?_); refine boxT (N := 7) (cs := #[.int .u8 0, .int .u8 0]) (t := 83) ?_; intro gb290 hg w26 hbox hb; have n0_ := asT (blk_below (g := gb288) (o := .cells #[.slice (some ad289) l0_0.length c0_0] 34 (0, 0)) (bkT BK288.out) hb); have n1_ := asT (below_step (hbT HB.out) hb); have n2_ := asT (hbox); have n3_ := asT (geT hg HB.out); have n4_ := asT (geT hg HB.out); have n5_ := asT ((by rw [hg]; exact Nat.ne_of_lt (blk_lt (g := gb288) (o := .cells #[.slice (some ad289) l0_0.length c0_0] 34 (0, 0)) (bkT BK288.out)) : gb288 ≠ gb290)); have n6_ := asT ((by rw [hg]; exact Nat.ne_of_gt (blk_lt (g := gb288) (o := .cells #[.slice (some ad289) l0_0.length c0_0] 34 (0, 0)) (bkT BK288.out)) : gb290 ≠ gb288)); clear BK288 HB; have BK288 := n0_; have HB := n1_; have BK290 := n2_; have GW290 := n3_; have GE290 := n4_; have NB288_290 := n5_; have NB290_288 := n6_; clear n0_ n1_ n2_ n3_ n4_ n5_ n6_ hb hbox hg; have hnb27 := NB290_288.out; have hnc27 := NB288_290.out; have hcz28_0 : w26.cell? ⟨gb290, 0, none⟩ = some (.int .u8 0) := (blk_cell BK290.out 0).trans rfl; have hcz28_1 : w26.cell? ⟨gb290, 1, none⟩ = some (.int .u8 0) := (blk_cell BK290.out 1).trans rfl; have hfz28_0 := blk_frozen BK290.out 0; have hfz28_1 := blk_frozen BK290.out 1; have hcz29_0 : w26.cell? ⟨gb288, 0, none⟩ = some (.slice (some ad289) l0_0.length c0_0) := (blk_cell BK288.out 0).trans rfl; have hfz29_0 := blk_frozen BK288.out 0) | ((with_reducible refine gate_callee (f := 55) rfl ?_); refine goesL_ (some 16) rfl rfl Try.func55 (by kernel_rfl) rfl #[.agg #[.slice (some ad289) l0_0.length c0_0]] rfl eqT ?_; (with_reducible refine (impl_IsCandidate.calls k1 _ _ l0_0 false _ ?side1 ?side2 A8.out).mono ?_); (case side1 => exact Kd.C_below HR0_0.out (hbT HB.out)); (case side2 => exact HC0_0.out); rintro e w30 ⟨rfl, hb⟩; refine ⟨_, rfl, ?_⟩; have n0_ := asT (blk_below (g := gb288) (o := .cells #[.slice (some ad289) l0_0.length c0_0] 34 (0, 0)) (by (with_reducible repeat (first | refine blk_drewN ?_ _ | refine blk_drew ?_ | refine blk_alloc ?_ _)); refine blk_far ?_ NB288_290.out _; (with_reducible repeat (first | refine blk_drewN ?_ _ | refine blk_drew ?_ | refine blk_alloc ?_ _)); refine blk_far ?_ NB288_290.out _; (with_reducible repeat (first | refine blk_drewN ?_ _ | refine blk_drew ?_ | refine blk_alloc ?_ _)); exact BK288.out) hb); have n1_ := asT (blk_below (g := gb290) (o := .cells #[.int .u8 ((rd_T83 l0_0 x11_1).f0), .int .u8 ((rd_T83 l0_0 x11_1).f1)] 83 (0, 0)) (by (with_reducible repeat (first | refine blk_drewN ?_ _ | refine blk_drew ?_ | refine blk_alloc ?_ _)); refine blk_put (cs := #[.int .u8 ((rd_T83 l0_0 x11_1).f0), .int .u8 0]) ?_ 1 _ rfl; (with_reducible repeat (first | refine blk_drewN ?_ _ | refine blk_drew ?_ | refine blk_alloc ?_ _)); refine blk_put (cs := #[.int .u8 0, .int .u8 0]) ?_ 0 _ rfl; (with_reducible repeat (first | refine blk_drewN ?_ _ | refine blk_drew ?_ | refine blk_alloc ?_ _)); exact BK290.out) hb); have n2_ := asT (below_step (hbT HB.out) hb); clear BK288 BK290 HB; have BK288 := n0_; have BK290 := n1_; have HB := n2_; clear n0_ n1_ n2_; (try clear hb); (try clear hb2); (try clear hk); (try clear hi)))
       go_roundg k1
       case measure => have := HK1.out; omega
       case rel => exact ⟨(x5_1), (wrap64 (x11_1 + 1)), rdT, rdT, H', ⟨by have := HK1.out; omega⟩, ⟨by (with_reducible repeat (first | refine blk_drewN ?_ _ | refine blk_drew ?_ | refine blk_alloc ?_ _)); exact BK288.out⟩, ⟨hbT HB.out⟩⟩
     ·rw [if_neg c7] at H
      exact absurd H (by simp)
    ·rw [if_neg c6] at H
     exact absurd H (by simp)
   ·rw [if_neg c5] at H
    have c5b0 : decide (x11_1 < (l0_0.length : Int)) = false := decide_eq_false c5
    clear c5
    obtain rfl := Option.some.inj H
    go_wp2
    go_ret
    exact ⟨rlT, hbT HB.out⟩

/-! ### impl_CountInserted: function 64 -/
def impl_CountInserted.f (k : Nat) (l0_0 : List (S83)) : Option (Int) := (impl_links_at_CountInserted_1.f k l0_0 ()).bind fun t294 => (some t294)
theorem impl_CountInserted.mono : ∀ a0 k, LeO (impl_CountInserted.f k a0) (impl_CountInserted.f (k + 1) a0) := by
 intro a0 k
 unfold impl_CountInserted.f
 repeat' first
   | (with_reducible exact impl_links_at_CountInserted_1.mono _ _ _)
   | (with_reducible exact LeO.refl _)
   | (with_reducible exact LeO.none _)
   | (with_reducible refine LeO.ite ?_ ?_)
   | (with_reducible refine LeO.bind ?_ (fun _ => ?_))
   | exact impl_links_at_CountInserted_1.mono _ _ _
   | exact LeO.none _
   | refine LeO.ite ?_ ?_
   | refine LeO.bind ?_ (fun _ => ?_)
set_option maxHeartbeats 8000000 in
set_option maxRecDepth 100000 in
theorem impl_CountInserted.calls (k : Nat) (A0_0 : Option Addr) (c0_0 : Nat) (l0_0 : List (S83)) (r : Int) (w : World) (hr0_0 : Kd.C k83 w A0_0 l0_0.length l0_0) (hc0_0 : l0_0.length ≤ c0_0) (h : impl_CountInserted.f k l0_0 = some r) :
  Calls Try.prog 64 #[.agg #[.slice A0_0 l0_0.length c0_0]] w fun e w' => e = .returned (.int .i64 r) ∧ Below w.heap.size w w' := by
 have hu34 := Try.underlying34; have HR0_0 := Aside0.mk hr0_0; have HC0_0 := Aside0.mk hc0_0; clear hr0_0 hc0_0; have HB := asT (Below.refl w.heap.size w)
 have H : ((impl_links_at_CountInserted_1.f k l0_0 ()).bind fun t294 => (some t294)) = some r := h
 clear h; replace H := Option.bind_eq_some_iff.mp H; obtain ⟨t294, A20, H⟩ := H; replace H : (some t294) = some r := H; have A2 := Aside0.mk A20; clear A20
 obtain rfl := Option.some.inj H
 go_enter Try.func64, Try.ntmps64
 go_wp2_with (first | ((with_reducible refine gate_dst (N := 1) rfl ?_); refine boxT (N := 1) (cs := #[.slice A0_0 l0_0.length c0_0]) (t := 34) ?_; intro gb293 hg w3 hbox hb; have n0_ := asT (below_step (hbT HB.out) hb); have n1_ := asT (hbox); have n2_ := asT (geT hg HB.out); have n3_ := asT (geT hg HB.out); clear HB; have HB := n0_; have BK293 := n1_; have GW293 := n2_; have GE293 := n3_; clear n0_ n1_ n2_ n3_ hb hbox hg; have hcz4_0 : w3.cell? ⟨gb293, 0, none⟩ = some (.slice A0_0 l0_0.length c0_0) := (blk_cell BK293.out 0).trans rfl; have hfz4_0 := blk_frozen BK293.out 0) | ((with_reducible refine gate_callee (f := 108) rfl ?_); refine goesL_ (some 4) rfl rfl Try.func108 (by kernel_rfl) rfl #[.agg #[.slice A0_0 l0_0.length c0_0], .func (.func 110) #[] #[]] rfl eqT ?_; (with_reducible refine (impl_links_at_CountInserted_1.calls k _ _ l0_0 () t294 _ ?side1 ?side2 A2.out).mono ?_); (case side1 => exact crT HR0_0.out HB.out); (case side2 => exact HC0_0.out); rintro e w5 ⟨rfl, hb⟩; refine ⟨_, rfl, ?_⟩; have n0_ := asT (blk_below (bkT BK293.out) hb); have n1_ := asT (below_step (hbT HB.out) hb); clear BK293 HB; have BK293 := n0_; have HB := n1_; clear n0_ n1_; (try clear hb); (try clear hb2); (try clear hk); (try clear hi)))
 go_ret
 exact ⟨rlT, hbT HB.out⟩

/-! ### impl_CountVoiceChanged_1: function 111 -/
def impl_CountVoiceChanged_1.f (a0_0 : Int) (a0_1 : Int) : Option (Bool) := if a0_0 = 0 then (some false) else (if a0_1 = 0 then (some false) else (some (a0_0 != a0_1)))
set_option maxHeartbeats 8000000 in
set_option maxRecDepth 100000 in
theorem impl_CountVoiceChanged_1.calls (a0_0 : Int) (a0_1 : Int) (r : Bool) (w : World) (h : impl_CountVoiceChanged_1.f a0_0 a0_1 = some r) :
  Calls Try.prog 111 #[.agg #[.int .u8 a0_0, .int .u8 a0_1]] w fun e w' => e = .returned (.bool r) ∧ Below w.heap.size w w' := by
 have hu83 := Try.underlying83; have HB := asT (Below.refl w.heap.size w)
 have H : (if a0_0 = 0 then (some false) else (if a0_1 = 0 then (some false) else (some (a0_0 != a0_1)))) = some r := h
 clear h
 by_cases c2 : a0_0 = 0
 ·rw [if_pos c2] at H
  have c2b0 : (a0_0 == 0) = true := beq_iff_eq.mpr c2
  have c2b1 : (a0_0 != 0) = false := bne_eq_false_iff_eq.mpr c2
  clear c2
  obtain rfl := Option.some.inj H
  go_enter Try.func111, Try.ntmps111
  go_wp2_with (first | ((with_reducible refine gate_dst (N := 1) rfl ?_); refine boxT (N := 1) (cs := #[.int .u8 a0_0, .int .u8 a0_1]) (t := 83) ?_; intro gb295 hg w3 hbox hb; have n0_ := asT (below_step (hbT HB.out) hb); have n1_ := asT (hbox); have n2_ := asT (geT hg HB.out); have n3_ := asT (geT hg HB.out); clear HB; have HB := n0_; have BK295 := n1_; have GW295 := n2_; have GE295 := n3_; clear n0_ n1_ n2_ n3_ hb hbox hg; have hcz4_0 : w3.cell? ⟨gb295, 0, none⟩ = some (.int .u8 a0_0) := (blk_cell BK295.out 0).trans rfl; have hcz4_1 : w3.cell? ⟨gb295, 1, none⟩ = some (.int .u8 a0_1) := (blk_cell BK295.out 1).trans rfl; have hfz4_0 := blk_frozen BK295.out 0; have hfz4_1 := blk_frozen BK295.out 1))
  go_ret
  exact ⟨rlT, hbT HB.out⟩
 ·rw [if_neg c2] at H
  have c2b0 : (a0_0 == 0) = false := beq_eq_false_iff_ne.mpr c2
  have c2b1 : (a0_0 != 0) = true := bne_iff_ne.mpr c2
  by_cases c5 : a0_1 = 0
  ·rw [if_pos c5] at H
   have c5b0 : (a0_1 == 0) = true := beq_iff_eq.mpr c5
   have c5b1 : (a0_1 != 0) = false := bne_eq_false_iff_eq.mpr c5
   clear c5
   obtain rfl := Option.some.inj H
   go_enter Try.func111, Try.ntmps111
   go_wp2_with (first | ((with_reducible refine gate_dst (N := 1) rfl ?_); refine boxT (N := 1) (cs := #[.int .u8 a0_0, .int .u8 a0_1]) (t := 83) ?_; intro gb295 hg w6 hbox hb; have n0_ := asT (below_step (hbT HB.out) hb); have n1_ := asT (hbox); have n2_ := asT (geT hg HB.out); have n3_ := asT (geT hg HB.out); clear HB; have HB := n0_; have BK295 := n1_; have GW295 := n2_; have GE295 := n3_; clear n0_ n1_ n2_ n3_ hb hbox hg; have hcz7_0 : w6.cell? ⟨gb295, 0, none⟩ = some (.int .u8 a0_0) := (blk_cell BK295.out 0).trans rfl; have hcz7_1 : w6.cell? ⟨gb295, 1, none⟩ = some (.int .u8 a0_1) := (blk_cell BK295.out 1).trans rfl; have hfz7_0 := blk_frozen BK295.out 0; have hfz7_1 := blk_frozen BK295.out 1))
   go_ret
   exact ⟨rlT, hbT HB.out⟩
  ·rw [if_neg c5] at H
   have c5b0 : (a0_1 == 0) = false := beq_eq_false_iff_ne.mpr c5
   have c5b1 : (a0_1 != 0) = true := bne_iff_ne.mpr c5
   obtain rfl := Option.some.inj H
   go_enter Try.func111, Try.ntmps111
   go_wp2_with (first | ((with_reducible refine gate_dst (N := 1) rfl ?_); refine boxT (N := 1) (cs := #[.int .u8 a0_0, .int .u8 a0_1]) (t := 83) ?_; intro gb295 hg w8 hbox hb; have n0_ := asT (below_step (hbT HB.out) hb); have n1_ := asT (hbox); have n2_ := asT (geT hg HB.out); have n3_ := asT (geT hg HB.out); clear HB; have HB := n0_; have BK295 := n1_; have GW295 := n2_; have GE295 := n3_; clear n0_ n1_ n2_ n3_ hb hbox hg; have hcz9_0 : w8.cell? ⟨gb295, 0, none⟩ = some (.int .u8 a0_0) := (blk_cell BK295.out 0).trans rfl; have hcz9_1 : w8.cell? ⟨gb295, 1, none⟩ = some (.int .u8 a0_1) := (blk_cell BK295.out 1).trans rfl; have hfz9_0 := blk_frozen BK295.out 0; have hfz9_1 := blk_frozen BK295.out 1))
   go_ret
   exact ⟨rlT, hbT HB.out⟩

/-! ### impl_links_at_CountVoiceChanged_1: function 184 -/
def impl_links_at_CountVoiceChanged_1.l0 : Nat → Int → List (S83) → Int → Int → List (S83) → Option (Int)
 | 0, _, _, _, _, _ => none
 | k + 1, x5, x9, x10, x11, x297000 => if x11 < x10 then (if 0 ≤ x11 then (if x11 < (x9.length : Int) then ((impl_IsCandidate.f k x297000).bind fun t299 => (if t299 = true then ((impl_CountVoiceChanged_1.f ((rd_T83 x9 x11).f0) ((rd_T83 x9 x11).f1)).bind fun t300 => (if t300 = true then (impl_links_at_CountVoiceChanged_1.l0 k (wrap64 (x5 + 1)) x9 x10 (wrap64 (x11 + 1)) x297000) else (impl_links_at_CountVoiceChanged_1.l0 k x5 x9 x10 (wrap64 (x11 + 1)) x297000))) else (impl_links_at_CountVoiceChanged_1.l0 k x5 x9 x10 (wrap64 (x11 + 1)) x297000))) else (none)) else (none)) else (some x5)
def impl_links_at_CountVoiceChanged_1.f (k : Nat) (l0_0 : List (S83)) (a1 : Unit) : Option (Int) := impl_links_at_CountVoiceChanged_1.l0 k 0 l0_0 (l0_0.length : Int) 0 l0_0
theorem impl_links_at_CountVoiceChanged_1.mono_l : ∀ k, (∀ y0 y1 y2 y3 y4, LeO (impl_links_at_CountVoiceChanged_1.l0 k y0 y1 y2 y3 y4) (impl_links_at_CountVoiceChanged_1.l0 (k + 1) y0 y1 y2 y3 y4))
 | 0 => fun _ _ _ _ _ r h => by simp [impl_links_at_CountVoiceChanged_1.l0] at h
 | k + 1 => by
  have ih0 := impl_links_at_CountVoiceChanged_1.mono_l k
  ·intro y0 y1 y2 y3 y4
   unfold impl_links_at_CountVoiceChanged_1.l0
   repeat' first
   | (with_reducible exact ih0 _ _ _ _ _)
   | (with_reducible exact impl_IsCandidate.mono _ _)
   | (with_reducible exact LeO.refl _)
   | (with_reducible exact LeO.none _)
   | (with_reducible refine LeO.ite ?_ ?_)
   | (with_reducible refine LeO.bind ?_ (fun _ => ?_))
   | exact ih0 _ _ _ _ _
   | exact impl_IsCandidate.mono _ _
   | exact LeO.none _
   | refine LeO.ite ?_ ?_
   | refine LeO.bind ?_ (fun _ => ?_)
theorem impl_links_at_CountVoiceChanged_1.mono : ∀ a0 a1 k, LeO (impl_links_at_CountVoiceChanged_1.f k a0 a1) (impl_links_at_CountVoiceChanged_1.f (k + 1) a0 a1) := by
 intro a0 a1 k
 have ih0 := impl_links_at_CountVoiceChanged_1.mono_l k
 unfold impl_links_at_CountVoiceChanged_1.f
 repeat' first
   | (with_reducible exact ih0 _ _ _ _ _)
   | (with_reducible exact impl_IsCandidate.mono _ _)
   | (with_reducible exact LeO.refl _)
   | (with_reducible exact LeO.none _)
   | (with_reducible refine LeO.ite ?_ ?_)
   | (with_reducible refine LeO.bind ?_ (fun _ => ?_))
   | exact ih0 _ _ _ _ _
   | exact impl_IsCandidate.mono _ _
   | exact LeO.none _
   | refine LeO.ite ?_ ?_
   | refine LeO.bind ?_ (fun _ => ?_)
set_option maxHeartbeats 8000000 in
set_option maxRecDepth 100000 in
theorem impl_links_at_CountVoiceChanged_1.calls (k : Nat) (A0_0 : Option Addr) (c0_0 : Nat) (l0_0 : List (S83)) (a1 : Unit) (r : Int) (w : World) (hr0_0 : Kd.C k83 w A0_0 l0_0.length l0_0) (hc0_0 : l0_0.length ≤ c0_0) (h : impl_links_at_CountVoiceChanged_1.f k l0_0 a1 = some r) :
  Calls Try.prog 108 #[.agg #[.slice A0_0 l0_0.length c0_0], .func (.func 111) #[] #[]] w fun e w' => e = .returned (.int .i64 r) ∧ Below w.heap.size w w' := by
 have hu34 := Try.underlying34; have hu83 := Try.underlying83; have HR0_0 := Aside0.mk hr0_0; have HC0_0 := Aside0.mk hc0_0; clear hr0_0 hc0_0; have HB := asT (Below.refl w.heap.size w)
 have H : (impl_links_at_CountVoiceChanged_1.l0 k 0 l0_0 (l0_0.length : Int) 0 l0_0) = some r := h
 clear h; have H' := Aside0.mk H; clear H
 go_enter Try.func108, Try.ntmps108
 go_wp2_with (first | ((with_reducible refine gate_dst (N := 2) rfl ?_); refine boxT (N := 2) (cs := #[.slice A0_0 l0_0.length c0_0]) (t := 34) ?_; intro gb296 hg w3 hbox hb; have n0_ := asT (below_step (hbT HB.out) hb); have n1_ := asT (hbox); have n2_ := asT (geT hg HB.out); have n3_ := asT (geT hg HB.out); clear HB; have HB := n0_; have BK296 := n1_; have GW296 := n2_; have GE296 := n3_; clear n0_ n1_ n2_ n3_ hb hbox hg; have hcz4_0 : w3.cell? ⟨gb296, 0, none⟩ = some (.slice A0_0 l0_0.length c0_0) := (blk_cell BK296.out 0).trans rfl; have hfz4_0 := blk_frozen BK296.out 0))
 go_loopg [5, 11] k (fun kq v5 v11 w' => ∃ (x5_1 : Int) (x11_1 : Int), v5 = .int .i64 x5_1 ∧ v11 = .int .i64 x11_1 ∧ Aside0 (impl_links_at_CountVoiceChanged_1.l0 kq x5_1 l0_0 (l0_0.length : Int) x11_1 l0_0 = some r) ∧ Aside0 (kq ≤ k) ∧ Aside0 (w'.heap[gb296]? = some (.cells #[(.slice A0_0 l0_0.length c0_0)] 34 (0, 0))) ∧ Aside0 (Below w.heap.size w w'))
 case atStart => exact ⟨(0), (0), rdT, rdT, H', ⟨Nat.le_refl _⟩, ⟨by (with_reducible repeat (first | refine blk_drewN ?_ _ | refine blk_drew ?_ | refine blk_alloc ?_ _)); exact BK296.out⟩, ⟨hbT HB.out⟩⟩
 case round =>
  clear H'; (try clear c1); (try clear p2); (try clear hcz4_0); (try clear hfz4_0); obtain ⟨x5_1, x11_1, rfl, rfl, HA, HK1, BK296, HB⟩ := hrel
  cases gk with
  | zero => exact absurd HA.out (by simp [impl_links_at_CountVoiceChanged_1.l0])
  | succ k1 =>
   have H := HA.out; clear HA
   simp only [impl_links_at_CountVoiceChanged_1.l0] at H
   by_cases c5 : x11_1 < (l0_0.length : Int)
   ·rw [if_pos c5] at H
    have c5b0 : decide (x11_1 < (l0_0.length : Int)) = true := decide_eq_true c5
    clear c5
    by_cases c6 : 0 ≤ x11_1
    ·rw [if_pos c6] at H
     have c6b0 : decide (0 ≤ x11_1) = true := decide_eq_true c6
     clear c6
     by_cases c7 : x11_1 < (l0_0.length : Int)
     ·rw [if_pos c7] at H
      have c7b0 : decide (x11_1 < (l0_0.length : Int)) = true := decide_eq_true c7
      clear c7; replace H := Option.bind_eq_some_iff.mp H; obtain ⟨t299, A80, H⟩ := H; replace H : (if t299 = true then ((impl_CountVoiceChanged_1.f ((rd_T83 l0_0 x11_1).f0) ((rd_T83 l0_0 x11_1).f1)).bind fun t300 => (if t300 = true then (impl_links_at_CountVoiceChanged_1.l0 k1 (wrap64 (x5_1 + 1)) l0_0 (l0_0.length : Int) (wrap64 (x11_1 + 1)) l0_0) else (impl_links_at_CountVoiceChanged_1.l0 k1 x5_1 l0_0 (l0_0.length : Int) (wrap64 (x11_1 + 1)) l0_0))) else (impl_links_at_CountVoiceChanged_1.l0 k1 x5_1 l0_0 (l0_0.length : Int) (wrap64 (x11_1 + 1)) l0_0)) = some r := H; have A8 := Aside0.mk A80; clear A80
      by_cases c9 : t299 = true
      ·subst c9
       have H1 : ((impl_CountVoiceChanged_1.f ((rd_T83 l0_0 x11_1).f0) ((rd_T83 l0_0 x11_1).f1)).bind fun t300 => (if t300 = true then (impl_links_at_CountVoiceChanged_1.l0 k1 (wrap64 (x5_1 + 1)) l0_0 (l0_0.length : Int) (wrap64 (x11_1 + 1)) l0_0) else (impl_links_at_CountVoiceChanged_1.l0 k1 x5_1 l0_0 (l0_0.length : Int) (wrap64 (x11_1 + 1)) l0_0))) = some r := by rw [if_pos rfl] at H; exact H
       clear H; have H := H1; clear H1; replace H := Option.bind_eq_some_iff.mp H; obtain ⟨t300, A100, H⟩ := H; replace H : (if t300 = true then (impl_links_at_CountVoiceChanged_1.l0 k1 (wrap64 (x5_1 + 1)) l0_0 (l0_0.length : Int) (wrap64 (x11_1 + 1)) l0_0) else (impl_links_at_CountVoiceChanged_1.l0 k1 x5_1 l0_0 (l0_0.length : Int) (wrap64 (x11_1 + 1)) l0_0)) = some r := H; have A10 := Aside0.mk A100; clear A100
       by_cases c11 : t300 = true
       ·subst c11
        have H1 : (impl_links_at_CountVoiceChanged_1.l0 k1 (wrap64 (x5_1 + 1)) l0_0 (l0_0.length : Int) (wrap64 (x11_1 + 1)) l0_0) = some r := by rw [if_pos rfl] at H; exact H
        clear H; have H := H1; clear H1; have H' := Aside0.mk H; clear H
        have p297 : 0 ≤ (x11_1 : Int) := of_decide_eq_true asmT
        have q297 : x11_1 < (l0_0.length : Int) := of_decide_eq_true asmT
        obtain ⟨ad297, e297, hx297_0, hx297_1⟩ := at_T83 HR0_0.out x11_1 p297 q297
        cases e297
        replace hx297_0 := (HB.out.cell (World.block_lt_of_cell? w _ hx297_0)).trans hx297_0; replace hx297_1 := (HB.out.cell (World.block_lt_of_cell? w _ hx297_1)).trans hx297_1; replace p297 := eq_true p297; replace q297 := eq_true q297
        go_wp2_with (first | ((with_reducible refine gate_dst (N := 7) rfl ?_); refine boxT (N := 7) (cs := #[.int .u8 0, .int .u8 0]) (t := 83) ?_; intro gb298 hg w12 hbox hb; have n0_ := asT (blk_below (g := gb296) (o := .cells #[.slice (some ad297) l0_0.length c0_0] 34 (0, 0)) (bkT BK296.out) hb); have n1_ := asT (below_step (hbT HB.out) hb); have n2_ := asT (hbox); have n3_ := asT (geT hg HB.out); have n4_ := asT (geT hg HB.out); have n5_ := asT ((by rw [hg]; exact Nat.ne_of_lt (blk_lt (g := gb296) (o := .cells #[.slice (some ad297) l0_0.length c0_0] 34 (0, 0)) (bkT BK296.out)) : gb296 ≠ gb298)); have n6_ := asT ((by rw [hg]; exact Nat.ne_of_gt (blk_lt (g := gb296) (o := .cells #[.slice (some ad297) l0_0.length c0_0] 34 (0, 0)) (bkT BK296.out)) : gb298 ≠ gb296)); clear BK296 HB; have BK296 := n0_; have HB := n1_; have BK298 := n2_; have GW298 := n3_; have GE298 := n4_; have NB296_298 := n5_; have NB298_296 := n6_; clear n0_ n1_ n2_ n3_ n4_ n5_ n6_ hb hbox hg; have hnb13 := NB298_296.out; have hnc13 := NB296_298.out; have hcz14_0 : w12.cell? ⟨gb298, 0, none⟩ = some (.int .u8 0) := (blk_cell BK298.out 0).trans rfl; have hcz14_1 : w12.cell? ⟨gb298, 1, none⟩ = some (.int .u8 0) := (blk_cell BK298.out 1).trans rfl; have hfz14_0 := blk_frozen BK298.out 0; have hfz14_1 := blk_frozen BK298.out 1; have hcz15_0 : w12.cell? ⟨gb296, 0, none⟩ = some (.slice (some ad297) l0_0.length c0_0) := (blk_cell BK296.out 0).trans rfl; have hfz15_0 := blk_frozen BK296.out 0) | ((with_reducible refine gate_callee (f := 55) rfl ?_); refine goesL_ (some 16) rfl rfl Try.func55 (by kernel_rfl) rfl #[.agg #[.slice (some ad297) l0_0.length c0_0]] rfl eqT ?_; (with_reducible refine (impl_IsCandidate.calls k1 _ _ l0_0 true _ ?side1 ?side2 A8.out).mono ?_); (case side1 => exact Kd.C_below HR0_0.out (hbT HB.out)); (case side2 => exact HC0_0.out); rintro e w16 ⟨rfl, hb⟩; refine ⟨_, rfl, ?_⟩; have n0_ := asT (blk_below (g := gb296) (o := .cells #[.slice (some ad297) l0_0.length c0_0] 34 (0, 0)) (by (with_reducible repeat (first | refine blk_drewN ?_ _ | refine blk_drew ?_ | refine blk_alloc ?_ _)); refine blk_far ?_ NB296_298.out _; (with_reducible repeat (first | refine blk_drewN ?_ _ | refine blk_drew ?_ | refine blk_alloc ?_ _)); refine blk_far ?_ NB296_298.out _; (with_reducible repeat (first | refine blk_drewN ?_ _ | refine blk_drew ?_ | refine blk_alloc ?_ _)); exact BK296.out) hb); have n1_ := asT (blk_below (g := gb298) (o := .cells #[.int .u8 ((rd_T83 l0_0 x11_1).f0), .int .u8 ((rd_T83 l0_0 x11_1).f1)] 83 (0, 0)) (by (with_reducible repeat (first | refine blk_drewN ?_ _ | refine blk_drew ?_ | refine blk_alloc ?_ _)); refine blk_put (cs := #[.int .u8 ((rd_T83 l0_0 x11_1).f0), .int .u8 0]) ?_ 1 _ rfl; (with_reducible repeat (first | refine blk_drewN ?_ _ | refine blk_drew ?_ | refine blk_alloc ?_ _)); refine blk_put (cs := #[.int .u8 0, .int .u8 0]) ?_ 0 _ rfl; (with_reducible repeat (first | refine blk_drewN ?_ _ | refine blk_drew ?_ | refine blk_alloc ?_ _)); exact BK298.out) hb); have n2_ := asT (below_step (hbT HB.out) hb); clear BK296 BK298 HB; have BK296 := n0_; have BK298 := n1_; have HB := n2_; clear n0_ n1_ n2_; (try clear hb); (try clear hb2); (try clear hk); (try clear hi); have hcz17_0 : w16.cell? ⟨gb298, 0, none⟩ = some (.int .u8 ((rd_T83 l0_0 x11_1).f0)) := (blk_cell BK298.out 0).trans rfl; have hcz17_1 : w16.cell? ⟨gb298, 1, none⟩ = some (.int .u8 ((rd_T83 l0_0 x11_1).f1)) := (blk_cell BK298.out 1).trans rfl; have hfz17_0 := blk_frozen BK298.out 0; have hfz17_1 := blk_frozen BK298.out 1) | (go_at_call 111; (with_reducible refine (impl_CountVoiceChanged_1.calls ((rd_T83 l0_0 x11_1).f0) ((rd_T83 l0_0 x11_1).f1) true _ A10.out).mono ?_); rintro e w18 ⟨rfl, hb⟩; have n0_ := asT (blk_below (g := gb296) (o := .cells #[.slice (some ad297) l0_0.length c0_0] 34 (0, 0)) (bkT BK296.out) hb); have n1_ := asT (blk_below (g := gb298) (o := .cells #[.int .u8 ((rd_T83 l0_0 x11_1).f0), .int .u8 ((rd_T83 l0_0 x11_1).f1)] 83 (0, 0)) (bkT BK298.out) hb); have n2_ := asT (below_step (hbT HB.out) hb); clear BK296 BK298 HB; have BK296 := n0_; have BK298 := n1_; have HB := n2_; clear n0_ n1_ n2_; (try clear hb); (try clear hb2); (try clear hk); (try clear hi)))
        go_roundg k1
        case measure => have := HK1.out; omega
        case rel => exact ⟨(wrap64 (x5_1 + 1)), (wrap64 (x11_1 + 1)), rdT, rdT, H', ⟨by have := HK1.out; omega⟩, ⟨by (with_reducible repeat (first | refine blk_drewN ?_ _ | refine blk_drew ?_ | refine blk_alloc ?_ _)); exact BK296.out⟩, ⟨hbT HB.out⟩⟩
       ·replace c11 := Bool.eq_false_iff.mpr c11
        subst c11
        have H1 : (impl_links_at_CountVoiceChanged_1.l0 k1 x5_1 l0_0 (l0_0.length : Int) (wrap64 (x11_1 + 1)) l0_0) = some r := by rw [if_neg (show ¬ (false = true) by decide)] at H; exact H
        clear H; have H := H1; clear H1; have H' := Aside0.mk H; clear H
        have p297 : 0 ≤ (x11_1 : Int) := of_decide_eq_true asmT
        have q297 : x11_1 < (l0_0.length : Int) := of_decide_eq_true asmT
        obtain ⟨ad297, e297, hx297_0, hx297_1⟩ := at_T83 HR0_0.out x11_1 p297 q297
        cases e297
        replace hx297_0 := (HB.out.cell (World.block_lt_of_cell? w _ hx297_0)).trans hx297_0; replace hx297_1 := (HB.out.cell (World.block_lt_of_cell? w _ hx297_1)).trans hx297_1; replace p297 := eq_true p297; replace q297 := eq_true q297
        go_wp2_with (first | ((with_reducible refine gate_dst (N := 7) rfl ?_); refine boxT (N := 7) (cs := #[.int .u8 0, .int .u8 0]) (t := 83) ?_; intro gb298 hg w19 hbox hb; have n0_ := asT (blk_below (g := gb296) (o := .cells #[.slice (some ad297) l0_0.length c0_0] 34 (0, 0)) (bkT BK296.out) hb); have n1_ := asT (below_step (hbT HB.out) hb); have n2_ := asT (hbox); have n3_ := asT (geT hg HB.out); have n4_ := asT (geT hg HB.out); have n5_ := asT ((by rw [hg]; exact Nat.ne_of_lt (blk_lt (g := gb296) (o := .cells #[.slice (some ad297) l0_0.length c0_0] 34 (0, 0)) (bkT BK296.out)) : gb296 ≠ gb298)); have n6_ := asT ((by rw [hg]; exact Nat.ne_of_gt (blk_lt (g := gb296) (o := .cells #[.slice (some ad297) l0_0.length c0_0] 34 (0, 0)) (bkT BK296.out)) : gb298 ≠ gb296)); clear BK296 HB; have BK296 := n0_; have HB := n1_; have BK298 := n2_; have GW298 := n3_; have GE298 := n4_; have NB296_298 := n5_; have NB298_296 := n6_; clear n0_ n1_ n2_ n3_ n4_ n5_ n6_ hb hbox hg; have hnb20 := NB298_296.out; have hnc20 := NB296_298.out; have hcz21_0 : w19.cell? ⟨gb298, 0, none⟩ = some (.int .u8 0) := (blk_cell BK298.out 0).trans rfl; have hcz21_1 : w19.cell? ⟨gb298, 1, none⟩ = some (.int .u8 0) := (blk_cell BK298.out 1).trans rfl; have hfz21_0 := blk_frozen BK298.out 0; have hfz21_1 := blk_frozen BK298.out 1; have hcz22_0 : w19.cell? ⟨gb296, 0, none⟩ = some (.slice (some ad297) l0_0.length c0_0) := (blk_cell BK296.out 0).trans rfl; have hfz22_0 := blk_frozen BK296.out 0) | ((with_reducible refine gate_callee (f := 55) rfl ?_); refine goesL_ (some 16) rfl rfl Try.func55 (by kernel_rfl) rfl #[.agg #[.slice (some ad297) l0_0.length c0_0]] rfl eqT ?_; (with_reducible refine (impl_IsCandidate.calls k1 _ _ l0_0 true _ ?side1 ?side2 A8.out).mono ?_); (case side1 => exact Kd.C_below HR0_0.out (hbT HB.out)); (case side2 => exact HC0_0.out); rintro e w23 ⟨rfl, hb⟩; refine ⟨_, rfl, ?_⟩; have n0_ := asT (blk_below (g := gb296) (o := .cells #[.slice (some ad297) l0_0.length c0_0] 34 (0, 0)) (by (with_reducible repeat (first | refine blk_drewN ?_ _ | refine blk_drew ?_ | refine blk_alloc ?_ _)); refine blk_far ?_ NB296_298.out _; (with_reducible repeat (first | refine blk_drewN ?_ _ | refine blk_drew ?_ | refine blk_alloc ?_ _)); refine blk_far ?_ NB296_298.out _; (with_reducible repeat (first | refine blk_drewN ?_ _ | refine blk_drew ?_ | refine blk_alloc ?_ _)); exact BK296.out) hb); have n1_ := asT (blk_below (g := gb298) (o := .cells #[.int .u8 ((rd_T83 l0_0 x11_1).f0), .int .u8 ((rd_T83 l0_0 x11_1).f1)] 83 (0, 0)) (by (with_reducible repeat (first | refine blk_drewN ?_ _ | refine blk_drew ?_ | refine blk_alloc ?_ _)); refine blk_put (cs := #[.int .u8 ((rd_T83 l0_0 x11_1).f0), .int .u8 0]) ?_ 1 _ rfl; (with_reducible repeat (first | refine blk_drewN ?_ _ | refine blk_drew ?_ | refine blk_alloc ?_ _)); refine blk_put (cs := #[.int .u8 0, .int .u8 0]) ?_ 0 _ rfl; (with_reducible repeat (first | refine blk_drewN ?_ _ | refine blk_drew ?_ | refine blk_alloc ?_ _)); exact BK298.out) hb); have n2_ := asT (below_step (hbT HB.out) hb); clear BK296 BK298 HB; have BK296 := n0_; have BK298 := n1_; have HB := n2_; clear n0_ n1_ n2_; (try clear hb); (try clear hb2); (try clear hk); (try clear hi); have hcz24_0 : w23.cell? ⟨gb298, 0, none⟩ = some (.int .u8 ((rd_T83 l0_0 x11_1).f0)) := (blk_cell BK298.out 0).trans rfl; have hcz24_1 : w23.cell? ⟨gb298, 1, none⟩ = some (.int .u8 ((rd_T83 l0_0 x11_1).f1)) := (blk_cell BK298.out 1).trans rfl; have hfz24_0 := blk_frozen BK298.out 0; have hfz24_1 := blk_frozen BK298.out 1) | (go_at_call 111; (with_reducible refine (impl_CountVoiceChanged_1.calls ((rd_T83 l0_0 x11_1).f0) ((rd_T83 l0_0 x11_1).f1) false _ A10.out).mono ?_); rintro e w25 ⟨rfl, hb⟩; have n0_ := asT (blk_below (g := gb296) (o := .cells #[.slice (some ad297) l0_0.length c0_0] 34 (0, 0)) (bkT BK296.out) hb); have n1_ := asT (blk_below (g := gb298) (o := .cells #[.int .u8 ((rd_T83 l0_0 x11_1).f0), .int .u8 ((rd_T83 l0_0 x11_1).f1)] 83 (0, 0)) (bkT BK298.out) hb); have n2_ := asT (below_step (hbT HB.out) hb); clear BK296 BK298 HB; have BK296 := n0_; have BK298 := n1_; have HB := n2_; clear n0_ n1_ n2_; (try clear hb); (try clear hb2); (try clear hk); (try clear hi)))
        go_roundg k1
        case measure => have := HK1.out; omega
        case rel => exact ⟨(x5_1), (wrap64 (x11_1 + 1)), rdT, rdT, H', ⟨by have := HK1.out; omega⟩, ⟨by (with_reducible repeat (first | refine blk_drewN ?_ _ | refine blk_drew ?_ | refine blk_alloc ?_ _)); exact BK296.out⟩, ⟨hbT HB.out⟩⟩
      ·replace c9 := Bool.eq_false_iff.mpr c9
       subst c9
       have H1 : (impl_links_at_CountVoiceChanged_1.l0 k1 x5_1 l0_0 (l0_0.length : Int) (wrap64 (x11_1 + 1)) l0_0) = some r := by rw [if_neg (show ¬ (false = true) by decide)] at H; exact H
       clear H; have H := H1; clear H1; have H' := Aside0.mk H; clear H
       have p297 : 0 ≤ (x11_1 : Int) := of_decide_eq_true asmT
       have q297 : x11_1 < (l0_0.length : Int) := of_decide_eq_true asmT
       obtain ⟨ad297, e297, hx297_0, hx297_1⟩ := at_T83 HR0_0.out x11_1 p297 q297
       cases e297
       replace hx297_0 := (HB.out.cell (World.block_lt_of_cell? w _ hx297_0)).trans hx297_0; replace hx297_1 := (HB.out.cell (World.block_lt_of_cell? w _ hx297_1)).trans hx297_1; replace p297 := eq_true p297; replace q297 := eq_true q297
       go_wp2_with (first | ((with_reducible refine gate_dst (N := 7) rfl ?_); refine boxT (N := 7) (cs := #[.int .u8 0, .int .u8 0]) (t := 83) ?_; intro gb298 hg w26 hbox hb; have n0_ := asT (blk_below (g := gb296) (o := .cells #[.slice (some ad297) l0_0.length c0_0] 34 (0, 0)) (bkT BK296.out) hb); have n1_ := asT (below_step (hbT HB.out) hb); have n2_ := asT (hbox); have n3_ := asT (geT hg HB.out); have n4_ := asT (geT hg HB.out); have n5_ := asT ((by rw [hg]; exact Nat.ne_of_lt (blk_lt (g := gb296) (o := .cells #[.slice (some ad297) l0_0.length c0_0] 34 (0, 0)) (bkT BK296.out)) : gb296 ≠ gb298)); have n6_ := asT ((by rw [hg]; exact Nat.ne_of_gt (blk_lt (g := gb296) (o := .cells #[.slice (some ad297) l0_0.length c0_0] 34 (0, 0)) (bkT BK296.out)) : gb298 ≠ gb296)); clear BK296 HB; have BK296 := n0_; have HB := n1_; have BK298 := n2_; have GW298 := n3_; have GE298 := n4_; have NB296_298 := n5_; have NB298_296 := n6_; clear n0_ n1_ n2_ n3_ n4_ n5_ n6_ hb hbox hg; have hnb27 := NB298_296.out; have hnc27 := NB296_298.out; have hcz28_0 : w26.cell? ⟨gb298, 0, none⟩ = some (.int .u8 0) := (blk_cell BK298.out 0).trans rfl; have hcz28_1 : w26.cell? ⟨gb298, 1, none⟩ = some (.int .u8 0) := (blk_cell BK298.out 1).trans rfl; have hfz28_0 := blk_frozen BK298.out 0; have hfz28_1 := blk_frozen BK298.out 1; have hcz29_0 : w26.cell? ⟨gb296, 0, none⟩ = some (.slice (some ad297) l0_0.length c0_0) := (blk_cell BK296.out 0).trans rfl; have hfz29_0 := blk_frozen BK296.out 0) | ((with_reducible refine gate_callee (f := 55) rfl ?_); refine goesL_ (some 16) rfl rfl Try.func55 (by kernel_rfl) rfl #[.agg #[.slice (some ad297) l0_0.length c0_0]] rfl eqT ?_; (with_reducible refine (impl_IsCandidate.calls k1 _ _ l0_0 false _ ?side1 ?side2 A8.out).mono ?_); (case side1 => exact Kd.C_below HR0_0.out (hbT HB.out)); (case side2 => exact HC0_0.out); rintro e w30 ⟨rfl, hb⟩; refine ⟨_, rfl, ?_⟩; have n0_ := asT (blk_below (g := gb296) (o := .cells #[.slice (some ad297) l0_0.length c0_0] 34 (0, 0)) (by (with_reducible repeat (first | refine blk_drewN ?_ _ | refine blk_drew ?_ | refine blk_alloc ?_ _)); refine blk_far ?_ NB296_298.out _; (with_reducible repeat (first | refine blk_drewN ?_ _ | refine blk_drew ?_ | refine blk_alloc ?_ _)); refine blk_far ?_ NB296_298.out _; (with_reducible repeat (first | refine blk_drewN ?_ _ | refine blk_drew ?_ | refine blk_alloc ?_ _)); exact BK296.out) hb); have n1_ := asT (blk_below (g := gb298) (o := .cells #[.int .u8 ((rd_T83 l0_0 x11_1).f0), .int .u8 ((rd_T83 l0_0 x11_1).f1)] 83 (0, 0)) (by (with_reducible repeat (first | refine blk_drewN ?_ _ | refine blk_drew ?_ | refine blk_alloc ?_ _)); refine blk_put (cs := #[.int .u8 ((rd_T83 l0_0 x11_1).f0), .int .u8 0]) ?_ 1 _ rfl; (with_reducible repeat (first | refine blk_drewN ?_ _ | refine blk_drew ?_ | refine blk_alloc ?_ _)); refine blk_put (cs := #[.int .u8 0, .int .u8 0]) ?_ 0 _ rfl; (with_reducible repeat (first | refine blk_drewN ?_ _ | refine blk_drew ?_ | refine blk_alloc ?_ _)); exact BK298.out) hb); have n2_ := asT (below_step (hbT HB.out) hb); clear BK296 BK298 HB; have BK296 := n0_; have BK298 := n1_; have HB := n2_; clear n0_ n1_ n2_; (try clear hb); (try clear hb2); (try clear hk); (try clear hi)))
       go_roundg k1
       case measure => have := HK1.out; omega
       case rel => exact ⟨(x5_1), (wrap64 (x11_1 + 1)), rdT, rdT, H', ⟨by have := HK1.out; omega⟩, ⟨by (with_reducible repeat (first | refine blk_drewN ?_ _ | refine blk_drew ?_ | refine blk_alloc ?_ _)); exact BK296.out⟩, ⟨hbT HB.out⟩⟩
     ·rw [if_neg c7] at H
      exact absurd H (by simp)
    ·rw [if_neg c6] at H
     exact absurd H (by simp)
   ·rw [if_neg c5] at H
    have c5b0 : decide (x11_1 < (l0_0.length : Int)) = false := decide_eq_false c5
    clear c5
    obtain rfl := Option.some.inj H
    go_wp2
    go_ret
    exact ⟨rlT, hbT HB.out⟩

/-! ### impl_CountVoiceChanged: function 65 -/
def impl_CountVoiceChanged.f (k : Nat) (l0_0 : List (S83)) : Option (Int) := (impl_links_at_CountVoiceChanged_1.f k l0_0 ()).bind fun t302 => (some t302)
theorem impl_CountVoiceChanged.mono : ∀ a0 k, LeO (impl_CountVoiceChanged.f k a0) (impl_CountVoiceChanged.f (k + 1) a0) := by
 intro a0 k
 unfold impl_CountVoiceChanged.f
 repeat' first
   | (with_reducible exact impl_links_at_CountVoiceChanged_1.mono _ _ _)
   | (with_reducible exact LeO.refl _)
   | (with_reducible exact LeO.none _)
   | (with_reducible refine LeO.ite ?_ ?_)
   | (with_reducible refine LeO.bind ?_ (fun _ => ?_))
   | exact impl_links_at_CountVoiceChanged_1.mono _ _ _
   | exact LeO.none _
   | refine LeO.ite ?_ ?_
   | refine LeO.bind ?_ (fun _ => ?_)
set_option maxHeartbeats 8000000 in
set_option maxRecDepth 100000 in
theorem impl_CountVoiceChanged.calls (k : Nat) (A0_0 : Option Addr) (c0_0 : Nat) (l0_0 : List (S83)) (r : Int) (w : World) (hr0_0 : Kd.C k83 w A0_0 l0_0.length l0_0) (hc0_0 : l0_0.length ≤ c0_0) (h : impl_CountVoiceChanged.f k l0_0 = some r) :
  Calls Try.prog 65 #[.agg #[.slice A0_0 l0_0.length c0_0]] w fun e w' => e = .returned (.int .i64 r) ∧ Below w.heap.size w w' := by
 have hu34 := Try.underlying34; have HR0_0 := Aside0.mk hr0_0; have HC0_0 := Aside0.mk hc0_0; clear hr0_0 hc0_0; have HB := asT (Below.refl w.heap.size w)
 have H : ((impl_links_at_CountVoiceChanged_1.f k l0_0 ()).bind fun t302 => (some t302)) = some r := h
 clear h; replace H := Option.bind_eq_some_iff.mp H; obtain ⟨t302, A20, H⟩ := H; replace H : (some t302) = some r := H; have A2 := Aside0.mk A20; clear A20
 obtain rfl := Option.some.inj H
 go_enter Try.func65, Try.ntmps65
 go_wp2_with (first | ((with_reducible refine gate_dst (N := 1) rfl ?_); refine boxT (N := 1) (cs := #[.slice A0_0 l0_0.length c0_0]) (t := 34) ?_; intro gb301 hg w3 hbox hb; have n0_ := asT (below_step (hbT HB.out) hb); have n1_ := asT (hbox); have n2_ := asT (geT hg HB.out); have n3_ := asT (geT hg HB.out); clear HB; have HB := n0_; have BK301 := n1_; have GW301 := n2_; have GE301 := n3_; clear n0_ n1_ n2_ n3_ hb hbox hg; have hcz4_0 : w3.cell? ⟨gb301, 0, none⟩ = some (.slice A0_0 l0_0.length c0_0) := (blk_cell BK301.out 0).trans rfl; have hfz4_0 := blk_frozen BK301.out 0) | ((with_reducible refine gate_callee (f := 108) rfl ?_); refine goesL_ (some 4) rfl rfl Try.func108 (by kernel_rfl) rfl #[.agg #[.slice A0_0 l0_0.length c0_0], .func (.func 111) #[] #[]] rfl eqT ?_; (with_reducible refine (impl_links_at_CountVoiceChanged_1.calls k _ _ l0_0 () t302 _ ?side1 ?side2 A2.out).mono ?_); (case side1 => exact crT HR0_0.out HB.out); (case side2 => exact HC0_0.out); rintro e w5 ⟨rfl, hb⟩; refine ⟨_, rfl, ?_⟩; have n0_ := asT (blk_below (bkT BK301.out) hb); have n1_ := asT (below_step (hbT HB.out) hb); clear BK301 HB; have BK301 := n0_; have HB := n1_; clear n0_ n1_; (try clear hb); (try clear hb2); (try clear hk); (try clear hi)))
 go_ret
 exact ⟨rlT, hbT HB.out⟩

end Go.Proofs.Ytdamagcfmhimfad.PFnExactViolationsOf
