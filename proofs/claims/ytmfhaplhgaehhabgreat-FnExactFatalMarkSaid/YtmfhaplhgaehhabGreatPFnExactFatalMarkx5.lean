-- Made by gen.py (a program of this session) out of the translation; Lean checks it.
import Derived.Test.YtmfhaplhgaehhabGreatPFnExactFatalMarkx0
import Derived.Test.YtmfhaplhgaehhabGreatPFnExactFatalMarkx3
import Derived.Test.YtmfhaplhgaehhabGreatPFnExactFatalMarkx4
namespace Go.Proofs.YtmfhaplhgaehhabGreat.PFnExactFatalMark
open Go.RowKit Go.Proofs.YtmfhaplhgaehhabGreatB Go.Proofs.YtmfhaplhgaehhabGreatW.PrintWords Go.Proofs.YtmfhaplhgaehhabGreatW.PrintLast Go.Proofs.YtmfhaplhgaehhabGreatW.PrintMore
attribute [local go_sem] max2_int min2_int max_two min_two max_three min_three max_four min_four   -- for this text's walks alone
set_option linter.unusedVariables false
set_option linter.unusedSimpArgs false
def spec_l8Voiced.f (a0 : Int) : Option (Bool) := (spec_IsObstruent.f a0).bind fun t253 => (if t253 = true then ((spec_HasFeature.f a0 1).bind fun t254 => (some t254)) else (some false))
set_option maxHeartbeats 8000000 in
set_option maxRecDepth 100000 in
theorem spec_l8Voiced.calls (a0 : Int) (r : Bool) (w : World) (h : spec_l8Voiced.f a0 = some r) :
  Calls Tryz.prog 147 #[.int .u8 a0] w fun e w' => e = .returned (.bool r) ∧ Drawn0 w w' := by
 have H := h; unfold spec_l8Voiced.f at H; clear h; obtain ⟨t253, A2, H⟩ := be H
 by_cases c3 : t253 = true
 ·subst c3
  rw [if_pos rfl] at H; obtain ⟨t254, A4, H⟩ := be H
  obtain rfl := Option.some.inj H
  go_enter Tryz.func147, Tryz.ntmps147
  go_wp2_with (first | ((with_reducible refine gate_callee (f := 149) rfl ?_); refine goesL_ (some 4) rfl rfl Tryz.func149 (by kernel_rfl) rfl #[.int .u8 a0] rfl eqT ?_; (with_reducible refine (spec_IsObstruent.calls a0 true _ A2.out).mono ?_); rintro e w' ⟨rfl, ⟨nd, rfl⟩⟩; refine ⟨_, rfl, ?_⟩) | (go_at_call 148; (with_reducible refine (spec_HasFeature.calls a0 1 t254 _ A4.out).mono ?_); rintro e w' ⟨rfl, ⟨nd, rfl⟩⟩))
  go_ret
  exact ⟨rdT, drT⟩
 ·replace c3 := Bool.eq_false_iff.mpr c3
  subst c3; rw [if_neg nF] at H; have H1 := H; clear H; have H := H1; clear H1
  obtain rfl := Option.some.inj H
  go_enter Tryz.func147, Tryz.ntmps147
  go_wp2_with (first | ((with_reducible refine gate_callee (f := 149) rfl ?_); refine goesL_ (some 4) rfl rfl Tryz.func149 (by kernel_rfl) rfl #[.int .u8 a0] rfl eqT ?_; (with_reducible refine (spec_IsObstruent.calls a0 false _ A2.out).mono ?_); rintro e w' ⟨rfl, ⟨nd, rfl⟩⟩; refine ⟨_, rfl, ?_⟩))
  go_ret
  exact ⟨rdT, drT⟩
mutual
def spec_CountVoiced.l0 : Nat → ByteArray → Int → Int → Option (Int)
 | 0, _, _, _ => none
 | k + 1, x0, x3, x4 => if x4 < (x0.size : Int) then ((spec_IsForm.f k x0).bind fun t255 => (spec_CountVoiced.j1 k x0 x3 x4 t255)) else (spec_CountVoiced.j1 k x0 x3 x4 false)
def spec_CountVoiced.j1 : Nat → ByteArray → Int → Int → Bool → Option (Int)
 | 0, _, _, _, _ => none
 | k + 1, x0, x3, x4, x12 => if x12 = true then (if 0 ≤ x4 then (if x4 < (x0.size : Int) then ((spec_l8Voiced.f (bt x0 x4)).bind fun t256 => (if t256 = true then (spec_CountVoiced.l0 k x0 (wrap64 (x3 + 1)) (wrap64 (x4 + 1))) else (spec_CountVoiced.l0 k x0 x3 (wrap64 (x4 + 1))))) else (none)) else (none)) else (some x3)
end
def spec_CountVoiced.f (k : Nat) (a0 : ByteArray) : Option (Int) := spec_CountVoiced.l0 k a0 0 0
theorem spec_CountVoiced.mono_l : ∀ k, (∀ y0 y1 y2, LeO (spec_CountVoiced.l0 k y0 y1 y2) (spec_CountVoiced.l0 (k + 1) y0 y1 y2)) ∧ (∀ y0 y1 y2 y3, LeO (spec_CountVoiced.j1 k y0 y1 y2 y3) (spec_CountVoiced.j1 (k + 1) y0 y1 y2 y3))
 | 0 => ⟨fun _ _ _ r h => by simp [spec_CountVoiced.l0] at h, fun _ _ _ _ r h => by simp [spec_CountVoiced.j1] at h⟩
 | k + 1 => by
  obtain ⟨ih0, ih1⟩ := spec_CountVoiced.mono_l k; refine ⟨?_, ?_⟩
  ·intro y0 y1 y2
   unfold spec_CountVoiced.l0
   with_reducible repeat' first | exact ih0 _ _ _ | exact ih1 _ _ _ _ | exact spec_IsForm.mono _ _ | exact LeO.refl _ | exact LeO.none _ | refine LeO.ite ?_ ?_ | refine LeO.bind ?_ (fun _ => ?_)
  ·intro y0 y1 y2 y3
   unfold spec_CountVoiced.j1
   with_reducible repeat' first | exact ih0 _ _ _ | exact ih1 _ _ _ _ | exact spec_IsForm.mono _ _ | exact LeO.refl _ | exact LeO.none _ | refine LeO.ite ?_ ?_ | refine LeO.bind ?_ (fun _ => ?_)
theorem spec_CountVoiced.mono : ∀ a0 k, LeO (spec_CountVoiced.f k a0) (spec_CountVoiced.f (k + 1) a0) := by
 intro a0 k
 obtain ⟨ih0, ih1⟩ := spec_CountVoiced.mono_l k
 unfold spec_CountVoiced.f
 with_reducible repeat' first | exact ih0 _ _ _ | exact ih1 _ _ _ _ | exact spec_IsForm.mono _ _ | exact LeO.refl _ | exact LeO.none _ | refine LeO.ite ?_ ?_ | refine LeO.bind ?_ (fun _ => ?_)
set_option maxHeartbeats 8000000 in
set_option maxRecDepth 100000 in
theorem spec_CountVoiced.calls (k : Nat) (a0 : ByteArray) (r : Int) (w : World) (h : spec_CountVoiced.f k a0 = some r) :
  Calls Tryz.prog 118 #[.string a0] w fun e w' => e = .returned (.int .i64 r) ∧ Drawn0 w w' := by
 have H := h; unfold spec_CountVoiced.f at H; clear h; have H' := Aside0.mk H; clear H
 go_enter Tryz.func118, Tryz.ntmps118
 go_wp2
 go_loopg [3, 4] k (fun kq v3 v4 w' => ∃ (x3_1 : Int) (x4_1 : Int), v3 = .int .i64 x3_1 ∧ v4 = .int .i64 x4_1 ∧ Aside0 (spec_CountVoiced.l0 kq a0 x3_1 x4_1 = some r) ∧ Aside0 (kq ≤ k) ∧ Drawn0 w w')
 case atStart => exact ⟨(0), (0), rdT, rdT, H', ⟨Nat.le_refl _⟩, drT⟩
 case round =>
  clear H'; (try clear c1); obtain ⟨x3_1, x4_1, rfl, rfl, HA, HK1, ⟨m1, rfl⟩⟩ := hrel
  cases gk with
  | zero => exact absurd HA.out (by simp [spec_CountVoiced.l0])
  | succ k1 =>
   have H := HA.out; clear HA
   simp only [spec_CountVoiced.l0] at H
   have HC2 := Aside0.mk H; clear H
   go_upto_region 3 with (fail)
   go_cut [12] (fun v12 wc => ∃ (kq : Nat) (x12_1 : Bool), v12 = .bool x12_1 ∧ Aside0 (spec_CountVoiced.j1 kq a0 x3_1 x4_1 x12_1 = some r) ∧ Aside0 (kq ≤ k1) ∧ Drawn0 w wc)
   case first =>
    have H := HC2.out; clear HC2
    by_cases c3 : x4_1 < (a0.size : Int)
    ·rw [if_pos c3] at H
     have c3b0 : decide (x4_1 < (a0.size : Int)) = true := decide_eq_true c3
     clear c3
     (first | rw [c3b0] | (simp only [i64_w, i32_w]; rw [c3b0]) | skip)
     obtain ⟨t255, A4, H⟩ := be H; have H' := Aside0.mk H; clear H
     go_wp2_with (first | (go_at_call 66; (with_reducible refine (spec_IsForm.calls k1 a0 t255 _ A4.out).mono ?_); rintro e w' ⟨rfl, ⟨nd, rfl⟩⟩))
     go_meet
     case rel => exact ⟨_, (t255), rdT, H', ⟨by have := HK1.out; first | omega | exact Nat.le_refl _⟩, drT⟩
    ·rw [if_neg c3] at H
     have c3b0 : decide (x4_1 < (a0.size : Int)) = false := decide_eq_false c3
     clear c3
     (first | rw [c3b0] | (simp only [i64_w, i32_w]; rw [c3b0]) | skip)
     have H' := Aside0.mk H; clear H
     go_wp2
     go_meet
     case rel => exact ⟨_, (false), rdT, H', ⟨by have := HK1.out; first | omega | exact Nat.le_refl _⟩, drT⟩
   case rest =>
    clear HC2; (try clear c1 p2 c3 c3b0); obtain ⟨kq, x12_1, rfl, HA, HJ1, ⟨mc1, rfl⟩⟩ := hcut
    cases kq with
    | zero => exact absurd HA.out (by simp [spec_CountVoiced.j1])
    | succ kj1 =>
     have H := HA.out; clear HA
     simp only [spec_CountVoiced.j1] at H
     by_cases c5 : x12_1 = true
     ·subst c5
      rw [if_pos rfl] at H; have H1 := H; clear H; have H := H1; clear H1
      by_cases c6 : 0 ≤ x4_1
      ·rw [if_pos c6] at H
       have c6b0 : decide (0 ≤ x4_1) = true := decide_eq_true c6
       clear c6
       by_cases c7 : x4_1 < (a0.size : Int)
       ·rw [if_pos c7] at H
        have c7b0 : decide (x4_1 < (a0.size : Int)) = true := decide_eq_true c7
        clear c7; obtain ⟨t256, A9, H⟩ := be H
        by_cases c10 : t256 = true
        ·subst c10
         rw [if_pos rfl] at H; have H' := Aside0.mk H; clear H
         have p8 : 0 ≤ (x4_1 : Int) := of_decide_eq_true asmT
         have q8 : x4_1 < (a0.size : Int) := of_decide_eq_true asmT
         have hx8 := bt_at a0 x4_1; replace p8 := eq_true p8; replace q8 := eq_true q8
         go_wp2_with (first | ((with_reducible refine gate_callee (f := 147) rfl ?_); refine goesL_ (some 18) rfl rfl Tryz.func147 (by kernel_rfl) rfl #[.int .u8 (bt a0 x4_1)] rfl eqT ?_; (with_reducible refine (spec_l8Voiced.calls (bt a0 x4_1) true _ A9.out).mono ?_); rintro e w' ⟨rfl, ⟨nd, rfl⟩⟩; refine ⟨_, rfl, ?_⟩))
         go_roundg kj1
         case measure => have := HK1.out; have := HJ1.out; omega
         case rel => exact ⟨(wrap64 (x3_1 + 1)), (wrap64 (x4_1 + 1)), rdT, rdT, H', ⟨by have := HK1.out; have := HJ1.out; omega⟩, drT⟩
        ·replace c10 := Bool.eq_false_iff.mpr c10
         subst c10; rw [if_neg nF] at H; have H' := Aside0.mk H; clear H
         have p8 : 0 ≤ (x4_1 : Int) := of_decide_eq_true asmT
         have q8 : x4_1 < (a0.size : Int) := of_decide_eq_true asmT
         have hx8 := bt_at a0 x4_1; replace p8 := eq_true p8; replace q8 := eq_true q8
         go_wp2_with (first | ((with_reducible refine gate_callee (f := 147) rfl ?_); refine goesL_ (some 18) rfl rfl Tryz.func147 (by kernel_rfl) rfl #[.int .u8 (bt a0 x4_1)] rfl eqT ?_; (with_reducible refine (spec_l8Voiced.calls (bt a0 x4_1) false _ A9.out).mono ?_); rintro e w' ⟨rfl, ⟨nd, rfl⟩⟩; refine ⟨_, rfl, ?_⟩))
         go_roundg kj1
         case measure => have := HK1.out; have := HJ1.out; omega
         case rel => exact ⟨(x3_1), (wrap64 (x4_1 + 1)), rdT, rdT, H', ⟨by have := HK1.out; have := HJ1.out; omega⟩, drT⟩
       ·rw [if_neg c7] at H
        exact absurd H (by simp)
      ·rw [if_neg c6] at H
       exact absurd H (by simp)
     ·replace c5 := Bool.eq_false_iff.mpr c5
      subst c5; rw [if_neg nF] at H; have H1 := H; clear H; have H := H1; clear H1
      obtain rfl := Option.some.inj H
      go_wp2
      go_ret
      exact ⟨rdT, drT⟩
def spec_CountFinalVoiced.f (k : Nat) (a0 : ByteArray) : Option (Int) := (spec_IsForm.f k a0).bind fun t257 => (if t257 = true then (if a0.toList = ([] : List UInt8) then (some 0) else (if 0 ≤ (wrap64 ((a0.size : Int) - 1)) then (if (wrap64 ((a0.size : Int) - 1)) < (a0.size : Int) then ((spec_l8Voiced.f (bt a0 (wrap64 ((a0.size : Int) - 1)))).bind fun t258 => (if t258 = true then (some 1) else (some 0))) else (none)) else (none))) else (some 0))
theorem spec_CountFinalVoiced.mono : ∀ a0 k, LeO (spec_CountFinalVoiced.f k a0) (spec_CountFinalVoiced.f (k + 1) a0) := by
 intro a0 k
 unfold spec_CountFinalVoiced.f
 with_reducible repeat' first | exact spec_IsForm.mono _ _ | exact LeO.refl _ | exact LeO.none _ | refine LeO.ite ?_ ?_ | refine LeO.bind ?_ (fun _ => ?_)
set_option maxHeartbeats 8000000 in
set_option maxRecDepth 100000 in
theorem spec_CountFinalVoiced.calls (k : Nat) (a0 : ByteArray) (r : Int) (w : World) (h : spec_CountFinalVoiced.f k a0 = some r) :
  Calls Tryz.prog 119 #[.string a0] w fun e w' => e = .returned (.int .i64 r) ∧ Drawn0 w w' := by
 have H := h; unfold spec_CountFinalVoiced.f at H; clear h; obtain ⟨t257, A2, H⟩ := be H
 by_cases c3 : t257 = true
 ·subst c3
  rw [if_pos rfl] at H; have H1 := H; clear H; have H := H1; clear H1
  by_cases c4 : a0.toList = ([] : List UInt8)
  ·rw [if_pos c4] at H
   have c4b0 : (a0.toList == ([] : List UInt8)) = true := beq_iff_eq.mpr c4
   have c4b1 : (a0.toList != ([] : List UInt8)) = false := bne_eq_false_iff_eq.mpr c4
   clear c4
   obtain rfl := Option.some.inj H
   go_enter Tryz.func119, Tryz.ntmps119
   go_wp2_with (first | ((with_reducible refine gate_callee (f := 66) rfl ?_); refine goesL_ (some 4) rfl rfl Tryz.func66 (by kernel_rfl) rfl #[.string a0] rfl eqT ?_; (with_reducible refine (spec_IsForm.calls k a0 true _ A2.out).mono ?_); rintro e w' ⟨rfl, ⟨nd, rfl⟩⟩; refine ⟨_, rfl, ?_⟩))
   go_ret
   exact ⟨rdT, drT⟩
  ·rw [if_neg c4] at H
   have c4b0 : (a0.toList == ([] : List UInt8)) = false := beq_eq_false_iff_ne.mpr c4
   have c4b1 : (a0.toList != ([] : List UInt8)) = true := bne_iff_ne.mpr c4
   obtain ⟨ji5, hji5⟩ : ∃ j_ : Int, (wrap64 ((a0.size : Int) - 1)) = j_ := ⟨_, rfl⟩
   replace H : (if 0 ≤ (ji5) then (if (ji5) < (a0.size : Int) then ((spec_l8Voiced.f (bt a0 (ji5))).bind fun t258 => (if t258 = true then (some 1) else (some 0))) else (none)) else (none)) = some r := by first | (rw [hji5] at H; exact H) | (simp only [hji5] at H ⊢; exact H)
   (try rw [hji5] at A2)
   have hji5w : (IntKind.i64.wrap ((a0.size : Int) - 1)) = ji5 := (i64_w _).trans hji5
   by_cases c6 : 0 ≤ (ji5)
   ·rw [if_pos c6] at H
    have c6b0 : decide (0 ≤ (ji5)) = true := decide_eq_true c6
    clear c6
    by_cases c7 : (ji5) < (a0.size : Int)
    ·rw [if_pos c7] at H
     have c7b0 : decide ((ji5) < (a0.size : Int)) = true := decide_eq_true c7
     clear c7; obtain ⟨t258, A9, H⟩ := be H
     by_cases c10 : t258 = true
     ·subst c10
      rw [if_pos rfl] at H; have H1 := H; clear H; have H := H1; clear H1
      obtain rfl := Option.some.inj H
      go_enter Tryz.func119, Tryz.ntmps119
      go_wp2_with (first | ((with_reducible refine gate_callee (f := 66) rfl ?_); refine goesL_ (some 4) rfl rfl Tryz.func66 (by kernel_rfl) rfl #[.string a0] rfl eqT ?_; (with_reducible refine (spec_IsForm.calls k a0 true _ A2.out).mono ?_); rintro e w' ⟨rfl, ⟨nd, rfl⟩⟩; refine ⟨_, rfl, ?_⟩; have p8 : 0 ≤ ((ji5) : Int) := of_decide_eq_true asmT; have q8 : (ji5) < (a0.size : Int) := of_decide_eq_true asmT; have hx8 := bt_at a0 (ji5); replace p8 := eq_true p8; replace q8 := eq_true q8) | (go_at_call 147; (with_reducible refine (spec_l8Voiced.calls (bt a0 (ji5)) true _ A9.out).mono ?_); rintro e w' ⟨rfl, ⟨nd, rfl⟩⟩))
      go_ret
      exact ⟨by first | rfl | (simp; done) | (simp only [← hji5] <;> (first | rfl | simp)) | (simp [*]; done), drT⟩
     ·replace c10 := Bool.eq_false_iff.mpr c10
      subst c10; rw [if_neg nF] at H; have H1 := H; clear H; have H := H1; clear H1
      obtain rfl := Option.some.inj H
      go_enter Tryz.func119, Tryz.ntmps119
      go_wp2_with (first | ((with_reducible refine gate_callee (f := 66) rfl ?_); refine goesL_ (some 4) rfl rfl Tryz.func66 (by kernel_rfl) rfl #[.string a0] rfl eqT ?_; (with_reducible refine (spec_IsForm.calls k a0 true _ A2.out).mono ?_); rintro e w' ⟨rfl, ⟨nd, rfl⟩⟩; refine ⟨_, rfl, ?_⟩; have p8 : 0 ≤ ((ji5) : Int) := of_decide_eq_true asmT; have q8 : (ji5) < (a0.size : Int) := of_decide_eq_true asmT; have hx8 := bt_at a0 (ji5); replace p8 := eq_true p8; replace q8 := eq_true q8) | (go_at_call 147; (with_reducible refine (spec_l8Voiced.calls (bt a0 (ji5)) false _ A9.out).mono ?_); rintro e w' ⟨rfl, ⟨nd, rfl⟩⟩))
      go_ret
      exact ⟨by first | rfl | (simp; done) | (simp only [← hji5] <;> (first | rfl | simp)) | (simp [*]; done), drT⟩
    ·rw [if_neg c7] at H
     exact absurd H (by simp)
   ·rw [if_neg c6] at H
    exact absurd H (by simp)
 ·replace c3 := Bool.eq_false_iff.mpr c3
  subst c3; rw [if_neg nF] at H; have H1 := H; clear H; have H := H1; clear H1
  obtain rfl := Option.some.inj H
  go_enter Tryz.func119, Tryz.ntmps119
  go_wp2_with (first | ((with_reducible refine gate_callee (f := 66) rfl ?_); refine goesL_ (some 4) rfl rfl Tryz.func66 (by kernel_rfl) rfl #[.string a0] rfl eqT ?_; (with_reducible refine (spec_IsForm.calls k a0 false _ A2.out).mono ?_); rintro e w' ⟨rfl, ⟨nd, rfl⟩⟩; refine ⟨_, rfl, ?_⟩))
  go_ret
  exact ⟨rdT, drT⟩
mutual
def spec_CountNasalVoiceless.l0 : Nat → ByteArray → Int → Int → Option (Int)
 | 0, _, _, _ => none
 | k + 1, x0, x3, x4 => if x4 < (x0.size : Int) then ((spec_IsForm.f k x0).bind fun t259 => (spec_CountNasalVoiceless.j1 k x0 x3 x4 t259)) else (spec_CountNasalVoiceless.j1 k x0 x3 x4 false)
def spec_CountNasalVoiceless.j1 : Nat → ByteArray → Int → Int → Bool → Option (Int)
 | 0, _, _, _, _ => none
 | k + 1, x0, x3, x4, x12 => if x12 = true then (if 0 ≤ (wrap64 (x4 - 1)) then (if (wrap64 (x4 - 1)) < (x0.size : Int) then ((spec_HasFeature.f (bt x0 (wrap64 (x4 - 1))) 2).bind fun t260 => (if t260 = true then (if 0 ≤ x4 then (if x4 < (x0.size : Int) then ((spec_IsObstruent.f (bt x0 x4)).bind fun t261 => (if t261 = true then ((spec_HasFeature.f (bt x0 x4) 1).bind fun t262 => (if t262 = true then (spec_CountNasalVoiceless.l0 k x0 x3 (wrap64 (x4 + 1))) else (spec_CountNasalVoiceless.l0 k x0 (wrap64 (x3 + 1)) (wrap64 (x4 + 1))))) else (spec_CountNasalVoiceless.l0 k x0 x3 (wrap64 (x4 + 1))))) else (none)) else (none)) else (spec_CountNasalVoiceless.l0 k x0 x3 (wrap64 (x4 + 1))))) else (none)) else (none)) else (some x3)
end
def spec_CountNasalVoiceless.f (k : Nat) (a0 : ByteArray) : Option (Int) := spec_CountNasalVoiceless.l0 k a0 0 1
theorem spec_CountNasalVoiceless.mono_l : ∀ k, (∀ y0 y1 y2, LeO (spec_CountNasalVoiceless.l0 k y0 y1 y2) (spec_CountNasalVoiceless.l0 (k + 1) y0 y1 y2)) ∧ (∀ y0 y1 y2 y3, LeO (spec_CountNasalVoiceless.j1 k y0 y1 y2 y3) (spec_CountNasalVoiceless.j1 (k + 1) y0 y1 y2 y3))
 | 0 => ⟨fun _ _ _ r h => by simp [spec_CountNasalVoiceless.l0] at h, fun _ _ _ _ r h => by simp [spec_CountNasalVoiceless.j1] at h⟩
 | k + 1 => by
  obtain ⟨ih0, ih1⟩ := spec_CountNasalVoiceless.mono_l k; refine ⟨?_, ?_⟩
  ·intro y0 y1 y2
   unfold spec_CountNasalVoiceless.l0
   with_reducible repeat' first | exact ih0 _ _ _ | exact ih1 _ _ _ _ | exact spec_IsForm.mono _ _ | exact LeO.refl _ | exact LeO.none _ | refine LeO.ite ?_ ?_ | refine LeO.bind ?_ (fun _ => ?_)
  ·intro y0 y1 y2 y3
   unfold spec_CountNasalVoiceless.j1
   with_reducible repeat' first | exact ih0 _ _ _ | exact ih1 _ _ _ _ | exact spec_IsForm.mono _ _ | exact LeO.refl _ | exact LeO.none _ | refine LeO.ite ?_ ?_ | refine LeO.bind ?_ (fun _ => ?_)
theorem spec_CountNasalVoiceless.mono : ∀ a0 k, LeO (spec_CountNasalVoiceless.f k a0) (spec_CountNasalVoiceless.f (k + 1) a0) := by
 intro a0 k
 obtain ⟨ih0, ih1⟩ := spec_CountNasalVoiceless.mono_l k
 unfold spec_CountNasalVoiceless.f
 with_reducible repeat' first | exact ih0 _ _ _ | exact ih1 _ _ _ _ | exact spec_IsForm.mono _ _ | exact LeO.refl _ | exact LeO.none _ | refine LeO.ite ?_ ?_ | refine LeO.bind ?_ (fun _ => ?_)
set_option maxHeartbeats 8000000 in
set_option maxRecDepth 100000 in
theorem spec_CountNasalVoiceless.calls (k : Nat) (a0 : ByteArray) (r : Int) (w : World) (h : spec_CountNasalVoiceless.f k a0 = some r) :
  Calls Tryz.prog 120 #[.string a0] w fun e w' => e = .returned (.int .i64 r) ∧ Drawn0 w w' := by
 have H := h; unfold spec_CountNasalVoiceless.f at H; clear h; have H' := Aside0.mk H; clear H
 go_enter Tryz.func120, Tryz.ntmps120
 go_wp2
 go_loopg [3, 4] k (fun kq v3 v4 w' => ∃ (x3_1 : Int) (x4_1 : Int), v3 = .int .i64 x3_1 ∧ v4 = .int .i64 x4_1 ∧ Aside0 (spec_CountNasalVoiceless.l0 kq a0 x3_1 x4_1 = some r) ∧ Aside0 (kq ≤ k) ∧ Drawn0 w w')
 case atStart => exact ⟨(0), (1), rdT, rdT, H', ⟨Nat.le_refl _⟩, drT⟩
 case round =>
  clear H'; (try clear c1); obtain ⟨x3_1, x4_1, rfl, rfl, HA, HK1, ⟨m1, rfl⟩⟩ := hrel
  cases gk with
  | zero => exact absurd HA.out (by simp [spec_CountNasalVoiceless.l0])
  | succ k1 =>
   have H := HA.out; clear HA
   simp only [spec_CountNasalVoiceless.l0] at H
   have HC2 := Aside0.mk H; clear H
   go_upto_region 3 with (fail)
   go_cut [12] (fun v12 wc => ∃ (kq : Nat) (x12_1 : Bool), v12 = .bool x12_1 ∧ Aside0 (spec_CountNasalVoiceless.j1 kq a0 x3_1 x4_1 x12_1 = some r) ∧ Aside0 (kq ≤ k1) ∧ Drawn0 w wc)
   case first =>
    have H := HC2.out; clear HC2
    by_cases c3 : x4_1 < (a0.size : Int)
    ·rw [if_pos c3] at H
     have c3b0 : decide (x4_1 < (a0.size : Int)) = true := decide_eq_true c3
     clear c3
     (first | rw [c3b0] | (simp only [i64_w, i32_w]; rw [c3b0]) | skip)
     obtain ⟨t259, A4, H⟩ := be H; have H' := Aside0.mk H; clear H
     go_wp2_with (first | (go_at_call 66; (with_reducible refine (spec_IsForm.calls k1 a0 t259 _ A4.out).mono ?_); rintro e w' ⟨rfl, ⟨nd, rfl⟩⟩))
     go_meet
     case rel => exact ⟨_, (t259), rdT, H', ⟨by have := HK1.out; first | omega | exact Nat.le_refl _⟩, drT⟩
    ·rw [if_neg c3] at H
     have c3b0 : decide (x4_1 < (a0.size : Int)) = false := decide_eq_false c3
     clear c3
     (first | rw [c3b0] | (simp only [i64_w, i32_w]; rw [c3b0]) | skip)
     have H' := Aside0.mk H; clear H
     go_wp2
     go_meet
     case rel => exact ⟨_, (false), rdT, H', ⟨by have := HK1.out; first | omega | exact Nat.le_refl _⟩, drT⟩
   case rest =>
    clear HC2; (try clear c1 p2 c3 c3b0); obtain ⟨kq, x12_1, rfl, HA, HJ1, ⟨mc1, rfl⟩⟩ := hcut
    cases kq with
    | zero => exact absurd HA.out (by simp [spec_CountNasalVoiceless.j1])
    | succ kj1 =>
     have H := HA.out; clear HA
     simp only [spec_CountNasalVoiceless.j1] at H
     by_cases c5 : x12_1 = true
     ·subst c5
      rw [if_pos rfl] at H; obtain ⟨ji6, hji6⟩ : ∃ j_ : Int, (wrap64 (x4_1 - 1)) = j_ := ⟨_, rfl⟩
      replace H : (if 0 ≤ (ji6) then (if (ji6) < (a0.size : Int) then ((spec_HasFeature.f (bt a0 (ji6)) 2).bind fun t260 => (if t260 = true then (if 0 ≤ x4_1 then (if x4_1 < (a0.size : Int) then ((spec_IsObstruent.f (bt a0 x4_1)).bind fun t261 => (if t261 = true then ((spec_HasFeature.f (bt a0 x4_1) 1).bind fun t262 => (if t262 = true then (spec_CountNasalVoiceless.l0 kj1 a0 x3_1 (wrap64 (x4_1 + 1))) else (spec_CountNasalVoiceless.l0 kj1 a0 (wrap64 (x3_1 + 1)) (wrap64 (x4_1 + 1))))) else (spec_CountNasalVoiceless.l0 kj1 a0 x3_1 (wrap64 (x4_1 + 1))))) else (none)) else (none)) else (spec_CountNasalVoiceless.l0 kj1 a0 x3_1 (wrap64 (x4_1 + 1))))) else (none)) else (none)) = some r := by first | (rw [hji6] at H; exact H) | (simp only [hji6] at H ⊢; exact H)
      have hji6w : (IntKind.i64.wrap (x4_1 - 1)) = ji6 := (i64_w _).trans hji6
      by_cases c7 : 0 ≤ (ji6)
      ·rw [if_pos c7] at H
       have c7b0 : decide (0 ≤ (ji6)) = true := decide_eq_true c7
       clear c7
       by_cases c8 : (ji6) < (a0.size : Int)
       ·rw [if_pos c8] at H
        have c8b0 : decide ((ji6) < (a0.size : Int)) = true := decide_eq_true c8
        clear c8; obtain ⟨t260, A10, H⟩ := be H
        by_cases c11 : t260 = true
        ·subst c11
         rw [if_pos rfl] at H; have H1 := H; clear H; have H := H1; clear H1
         by_cases c12 : 0 ≤ x4_1
         ·rw [if_pos c12] at H
          have c12b0 : decide (0 ≤ x4_1) = true := decide_eq_true c12
          clear c12
          by_cases c13 : x4_1 < (a0.size : Int)
          ·rw [if_pos c13] at H
           have c13b0 : decide (x4_1 < (a0.size : Int)) = true := decide_eq_true c13
           clear c13; obtain ⟨t261, A15, H⟩ := be H
           by_cases c16 : t261 = true
           ·subst c16
            rw [if_pos rfl] at H; obtain ⟨t262, A18, H⟩ := be H
            by_cases c19 : t262 = true
            ·subst c19
             rw [if_pos rfl] at H; have H' := Aside0.mk H; clear H
             have p9 : 0 ≤ ((ji6) : Int) := of_decide_eq_true asmT
             have q9 : (ji6) < (a0.size : Int) := of_decide_eq_true asmT
             have hx9 := bt_at a0 (ji6); replace p9 := eq_true p9; replace q9 := eq_true q9
             go_wp2_with (first | ((with_reducible refine gate_callee (f := 148) rfl ?_); refine goesL_ (some 19) rfl rfl Tryz.func148 (by kernel_rfl) rfl #[.int .u8 (bt a0 (ji6)), .int .i64 2] rfl (by (try simp only [List.map_toArray, List.map_cons, List.map_nil]); first | done | (simp only [hji6]; rfl) | rfl | (simp only [List.length_drop, List.length_take]; rfl)) ?_; (with_reducible refine (spec_HasFeature.calls (bt a0 (ji6)) 2 true _ A10.out).mono ?_); rintro e w' ⟨rfl, ⟨nd, rfl⟩⟩; refine ⟨_, rfl, ?_⟩; have p14 : 0 ≤ (x4_1 : Int) := of_decide_eq_true asmT; have q14 : x4_1 < (a0.size : Int) := of_decide_eq_true asmT; have hx14 := bt_at a0 x4_1; replace p14 := eq_true p14; replace q14 := eq_true q14) | (go_at_call 149; (with_reducible refine (spec_IsObstruent.calls (bt a0 x4_1) true _ A15.out).mono ?_); rintro e w' ⟨rfl, ⟨nd, rfl⟩⟩; have p17 : 0 ≤ (x4_1 : Int) := of_decide_eq_true asmT; have q17 : x4_1 < (a0.size : Int) := of_decide_eq_true asmT; have hx17 := bt_at a0 x4_1; replace p17 := eq_true p17; replace q17 := eq_true q17) | (go_at_call 148; (with_reducible refine (spec_HasFeature.calls (bt a0 x4_1) 1 true _ A18.out).mono ?_); rintro e w' ⟨rfl, ⟨nd, rfl⟩⟩))
             go_roundg kj1
             case measure => have := HK1.out; have := HJ1.out; omega
             case rel => exact ⟨(x3_1), (wrap64 (x4_1 + 1)), rdT, rdT, H', ⟨by have := HK1.out; have := HJ1.out; omega⟩, drT⟩
            ·replace c19 := Bool.eq_false_iff.mpr c19
             subst c19; rw [if_neg nF] at H; have H' := Aside0.mk H; clear H
             have p9 : 0 ≤ ((ji6) : Int) := of_decide_eq_true asmT
             have q9 : (ji6) < (a0.size : Int) := of_decide_eq_true asmT
             have hx9 := bt_at a0 (ji6); replace p9 := eq_true p9; replace q9 := eq_true q9
             go_wp2_with (first | ((with_reducible refine gate_callee (f := 148) rfl ?_); refine goesL_ (some 19) rfl rfl Tryz.func148 (by kernel_rfl) rfl #[.int .u8 (bt a0 (ji6)), .int .i64 2] rfl (by (try simp only [List.map_toArray, List.map_cons, List.map_nil]); first | done | (simp only [hji6]; rfl) | rfl | (simp only [List.length_drop, List.length_take]; rfl)) ?_; (with_reducible refine (spec_HasFeature.calls (bt a0 (ji6)) 2 true _ A10.out).mono ?_); rintro e w' ⟨rfl, ⟨nd, rfl⟩⟩; refine ⟨_, rfl, ?_⟩; have p14 : 0 ≤ (x4_1 : Int) := of_decide_eq_true asmT; have q14 : x4_1 < (a0.size : Int) := of_decide_eq_true asmT; have hx14 := bt_at a0 x4_1; replace p14 := eq_true p14; replace q14 := eq_true q14) | (go_at_call 149; (with_reducible refine (spec_IsObstruent.calls (bt a0 x4_1) true _ A15.out).mono ?_); rintro e w' ⟨rfl, ⟨nd, rfl⟩⟩; have p17 : 0 ≤ (x4_1 : Int) := of_decide_eq_true asmT; have q17 : x4_1 < (a0.size : Int) := of_decide_eq_true asmT; have hx17 := bt_at a0 x4_1; replace p17 := eq_true p17; replace q17 := eq_true q17) | (go_at_call 148; (with_reducible refine (spec_HasFeature.calls (bt a0 x4_1) 1 false _ A18.out).mono ?_); rintro e w' ⟨rfl, ⟨nd, rfl⟩⟩))
             go_roundg kj1
             case measure => have := HK1.out; have := HJ1.out; omega
             case rel => exact ⟨(wrap64 (x3_1 + 1)), (wrap64 (x4_1 + 1)), rdT, rdT, H', ⟨by have := HK1.out; have := HJ1.out; omega⟩, drT⟩
           ·replace c16 := Bool.eq_false_iff.mpr c16
            subst c16; rw [if_neg nF] at H; have H' := Aside0.mk H; clear H
            have p9 : 0 ≤ ((ji6) : Int) := of_decide_eq_true asmT
            have q9 : (ji6) < (a0.size : Int) := of_decide_eq_true asmT
            have hx9 := bt_at a0 (ji6); replace p9 := eq_true p9; replace q9 := eq_true q9
            go_wp2_with (first | ((with_reducible refine gate_callee (f := 148) rfl ?_); refine goesL_ (some 19) rfl rfl Tryz.func148 (by kernel_rfl) rfl #[.int .u8 (bt a0 (ji6)), .int .i64 2] rfl (by (try simp only [List.map_toArray, List.map_cons, List.map_nil]); first | done | (simp only [hji6]; rfl) | rfl | (simp only [List.length_drop, List.length_take]; rfl)) ?_; (with_reducible refine (spec_HasFeature.calls (bt a0 (ji6)) 2 true _ A10.out).mono ?_); rintro e w' ⟨rfl, ⟨nd, rfl⟩⟩; refine ⟨_, rfl, ?_⟩; have p14 : 0 ≤ (x4_1 : Int) := of_decide_eq_true asmT; have q14 : x4_1 < (a0.size : Int) := of_decide_eq_true asmT; have hx14 := bt_at a0 x4_1; replace p14 := eq_true p14; replace q14 := eq_true q14) | (go_at_call 149; (with_reducible refine (spec_IsObstruent.calls (bt a0 x4_1) false _ A15.out).mono ?_); rintro e w' ⟨rfl, ⟨nd, rfl⟩⟩))
            go_roundg kj1
            case measure => have := HK1.out; have := HJ1.out; omega
            case rel => exact ⟨(x3_1), (wrap64 (x4_1 + 1)), rdT, rdT, H', ⟨by have := HK1.out; have := HJ1.out; omega⟩, drT⟩
          ·rw [if_neg c13] at H
           exact absurd H (by simp)
         ·rw [if_neg c12] at H
          exact absurd H (by simp)
        ·replace c11 := Bool.eq_false_iff.mpr c11
         subst c11; rw [if_neg nF] at H; have H' := Aside0.mk H; clear H
         have p9 : 0 ≤ ((ji6) : Int) := of_decide_eq_true asmT
         have q9 : (ji6) < (a0.size : Int) := of_decide_eq_true asmT
         have hx9 := bt_at a0 (ji6); replace p9 := eq_true p9; replace q9 := eq_true q9
         go_wp2_with (first | ((with_reducible refine gate_callee (f := 148) rfl ?_); refine goesL_ (some 19) rfl rfl Tryz.func148 (by kernel_rfl) rfl #[.int .u8 (bt a0 (ji6)), .int .i64 2] rfl (by (try simp only [List.map_toArray, List.map_cons, List.map_nil]); first | done | (simp only [hji6]; rfl) | rfl | (simp only [List.length_drop, List.length_take]; rfl)) ?_; (with_reducible refine (spec_HasFeature.calls (bt a0 (ji6)) 2 false _ A10.out).mono ?_); rintro e w' ⟨rfl, ⟨nd, rfl⟩⟩; refine ⟨_, rfl, ?_⟩))
         go_roundg kj1
         case measure => have := HK1.out; have := HJ1.out; omega
         case rel => exact ⟨(x3_1), (wrap64 (x4_1 + 1)), rdT, rdT, H', ⟨by have := HK1.out; have := HJ1.out; omega⟩, drT⟩
       ·rw [if_neg c8] at H
        exact absurd H (by simp)
      ·rw [if_neg c7] at H
       exact absurd H (by simp)
     ·replace c5 := Bool.eq_false_iff.mpr c5
      subst c5; rw [if_neg nF] at H; have H1 := H; clear H; have H := H1; clear H1
      obtain rfl := Option.some.inj H
      go_wp2
      go_ret
      exact ⟨rdT, drT⟩
mutual
def spec_CountDeleted.l0 : Nat → Int → Int → List (S103) → Option (Int)
 | 0, _, _, _ => none
 | k + 1, x3, x4, x264000 => if x4 < (x264000.length : Int) then ((spec_IsCandidate.f k x264000).bind fun t264 => (spec_CountDeleted.j1 k x3 x4 t264 x264000)) else (spec_CountDeleted.j1 k x3 x4 false x264000)
def spec_CountDeleted.j1 : Nat → Int → Int → Bool → List (S103) → Option (Int)
 | 0, _, _, _, _ => none
 | k + 1, x3, x4, x13, x264000 => if x13 = true then (if 0 ≤ x4 then (if x4 < (x264000.length : Int) then (if ((rd_T103 x264000 x4).f1) = 0 then (spec_CountDeleted.l0 k (wrap64 (x3 + 1)) (wrap64 (x4 + 1)) x264000) else (spec_CountDeleted.l0 k x3 (wrap64 (x4 + 1)) x264000)) else (none)) else (none)) else (some x3)
end
def spec_CountDeleted.f (k : Nat) (l0_0 : List (S103)) : Option (Int) := spec_CountDeleted.l0 k 0 0 l0_0
theorem spec_CountDeleted.mono_l : ∀ k, (∀ y0 y1 y2, LeO (spec_CountDeleted.l0 k y0 y1 y2) (spec_CountDeleted.l0 (k + 1) y0 y1 y2)) ∧ (∀ y0 y1 y2 y3, LeO (spec_CountDeleted.j1 k y0 y1 y2 y3) (spec_CountDeleted.j1 (k + 1) y0 y1 y2 y3))
 | 0 => ⟨fun _ _ _ r h => by simp [spec_CountDeleted.l0] at h, fun _ _ _ _ r h => by simp [spec_CountDeleted.j1] at h⟩
 | k + 1 => by
  obtain ⟨ih0, ih1⟩ := spec_CountDeleted.mono_l k; refine ⟨?_, ?_⟩
  ·intro y0 y1 y2
   unfold spec_CountDeleted.l0
   with_reducible repeat' first | exact ih0 _ _ _ | exact ih1 _ _ _ _ | exact spec_IsCandidate.mono _ _ | exact LeO.refl _ | exact LeO.none _ | refine LeO.ite ?_ ?_ | refine LeO.bind ?_ (fun _ => ?_)
  ·intro y0 y1 y2 y3
   unfold spec_CountDeleted.j1
   with_reducible repeat' first | exact ih0 _ _ _ | exact ih1 _ _ _ _ | exact spec_IsCandidate.mono _ _ | exact LeO.refl _ | exact LeO.none _ | refine LeO.ite ?_ ?_ | refine LeO.bind ?_ (fun _ => ?_)
theorem spec_CountDeleted.mono : ∀ a0 k, LeO (spec_CountDeleted.f k a0) (spec_CountDeleted.f (k + 1) a0) := by
 intro a0 k
 obtain ⟨ih0, ih1⟩ := spec_CountDeleted.mono_l k
 unfold spec_CountDeleted.f
 with_reducible repeat' first | exact ih0 _ _ _ | exact ih1 _ _ _ _ | exact spec_IsCandidate.mono _ _ | exact LeO.refl _ | exact LeO.none _ | refine LeO.ite ?_ ?_ | refine LeO.bind ?_ (fun _ => ?_)
set_option maxHeartbeats 8000000 in
set_option maxRecDepth 100000 in
theorem spec_CountDeleted.calls (k : Nat) (A0_0 : Option Addr) (c0_0 : Nat) (l0_0 : List (S103)) (r : Int) (w : World) (hr0_0 : Kd.C k103 w A0_0 l0_0.length l0_0) (hc0_0 : l0_0.length ≤ c0_0) (h : spec_CountDeleted.f k l0_0 = some r) :
  Calls Tryz.prog 121 #[.agg #[.slice A0_0 l0_0.length c0_0]] w fun e w' => e = .returned (.int .i64 r) ∧ Below w.heap.size w w' := by
 have hu77 := Tryz.underlying77; have HR0_0 := Aside0.mk hr0_0; have HC0_0 := Aside0.mk hc0_0; clear hr0_0 hc0_0; have HB := asT (Below.refl w.heap.size w); have H := h; unfold spec_CountDeleted.f at H; clear h; have H' := Aside0.mk H; clear H
 go_enter Tryz.func121, Tryz.ntmps121
 go_wp2_with (first | ((with_reducible refine gate_dst (N := 1) rfl ?_); refine boxT (N := 1) (cs := #[.slice A0_0 l0_0.length c0_0]) (t := 77) ?_; intro gb263 hg w2 hbox hb; have BK263 := asT hbox; have GW263 := asT (geT hg HB.out); have GE263 := GW263; replace HB := hS HB hb; clear hb hbox hg))
 go_loopg [3, 4] k (fun kq v3 v4 w' => ∃ (x3_1 : Int) (x4_1 : Int), v3 = .int .i64 x3_1 ∧ v4 = .int .i64 x4_1 ∧ Aside0 (spec_CountDeleted.l0 kq x3_1 x4_1 l0_0 = some r) ∧ Aside0 (kq ≤ k) ∧ Aside0 (w'.heap[gb263]? = some (.cells #[(.slice A0_0 l0_0.length c0_0)] 77 (0, 0))) ∧ Aside0 (Below w.heap.size w w'))
 case atStart => exact ⟨(0), (0), rdT, rdT, H', ⟨Nat.le_refl _⟩, ⟨by (with_reducible repeat (first | refine blk_drewN ?_ _ | refine blk_drew ?_ | refine blk_alloc ?_ _)); exact BK263.out⟩, ⟨hbT HB.out⟩⟩
 case round =>
  clear H'; (try clear c1 p2); obtain ⟨x3_1, x4_1, rfl, rfl, HA, HK1, BK263, HB⟩ := hrel
  cases gk with
  | zero => exact absurd HA.out (by simp [spec_CountDeleted.l0])
  | succ k1 =>
   have H := HA.out; clear HA
   simp only [spec_CountDeleted.l0] at H
   have HC3 := Aside0.mk H; clear H
   go_upto_region 3 with (fail)
   go_cut [13] (fun v13 wc => ∃ (kq : Nat) (x13_2 : Bool), v13 = .bool x13_2 ∧ Aside0 (spec_CountDeleted.j1 kq x3_1 x4_1 x13_2 l0_0 = some r) ∧ Aside0 (kq ≤ k1) ∧ Aside0 (wc.heap[gb263]? = some (.cells #[(.slice A0_0 l0_0.length c0_0)] 77 (0, 0))) ∧ Aside0 (Below w.heap.size w wc))
   case first =>
    have H := HC3.out; clear HC3
    by_cases c4 : x4_1 < (l0_0.length : Int)
    ·rw [if_pos c4] at H
     have c4b0 : decide (x4_1 < (l0_0.length : Int)) = true := decide_eq_true c4
     clear c4
     (first | rw [c4b0] | (simp only [i64_w, i32_w]; rw [c4b0]) | skip)
     obtain ⟨t264, A5, H⟩ := be H; have H' := Aside0.mk H; clear H
     have hcz6_0 := bc0 BK263.out
     have hfz6_0 := blk_frozen BK263.out 0
     go_wp2_with (first | (go_at_call 69; (with_reducible refine (spec_IsCandidate.calls k1 _ _ l0_0 t264 _ ?side1 ?side2 A5.out).mono ?_); (case side1 => exact crT HR0_0.out HB.out); (case side2 => exact HC0_0.out); rintro e w7 ⟨rfl, hb⟩; replace BK263 := bS BK263 hb; replace HB := hS HB hb; (try clear hb hb2 hk hi)))
     go_meet
     case rel => exact ⟨_, (t264), rdT, H', ⟨by have := HK1.out; first | omega | exact Nat.le_refl _⟩, ⟨by (with_reducible repeat (first | refine blk_drewN ?_ _ | refine blk_drew ?_ | refine blk_alloc ?_ _)); exact BK263.out⟩, ⟨hbT HB.out⟩⟩
    ·rw [if_neg c4] at H
     have c4b0 : decide (x4_1 < (l0_0.length : Int)) = false := decide_eq_false c4
     clear c4
     (first | rw [c4b0] | (simp only [i64_w, i32_w]; rw [c4b0]) | skip)
     have H' := Aside0.mk H; clear H
     have hcz8_0 := bc0 BK263.out
     have hfz8_0 := blk_frozen BK263.out 0
     go_wp2
     go_meet
     case rel => exact ⟨_, (false), rdT, H', ⟨by have := HK1.out; first | omega | exact Nat.le_refl _⟩, ⟨by (with_reducible repeat (first | refine blk_drewN ?_ _ | refine blk_drew ?_ | refine blk_alloc ?_ _)); exact BK263.out⟩, ⟨hbT HB.out⟩⟩
   case rest =>
    clear HC3; (try clear c1 p2 c4 c4b0 hcz6_0 hcz8_0 hfz6_0 hfz8_0 p2); obtain ⟨kq, x13_2, rfl, HA, HJ2, BK263, HB⟩ := hcut
    cases kq with
    | zero => exact absurd HA.out (by simp [spec_CountDeleted.j1])
    | succ kj2 =>
     have H := HA.out; clear HA
     simp only [spec_CountDeleted.j1] at H
     by_cases c9 : x13_2 = true
     ·subst c9
      rw [if_pos rfl] at H; have H1 := H; clear H; have H := H1; clear H1
      by_cases c10 : 0 ≤ x4_1
      ·rw [if_pos c10] at H
       have c10b0 : decide (0 ≤ x4_1) = true := decide_eq_true c10
       clear c10
       by_cases c11 : x4_1 < (l0_0.length : Int)
       ·rw [if_pos c11] at H
        have c11b0 : decide (x4_1 < (l0_0.length : Int)) = true := decide_eq_true c11
        clear c11
        by_cases c12 : ((rd_T103 l0_0 x4_1).f1) = 0
        ·rw [if_pos c12] at H
         have c12b0 : (((rd_T103 l0_0 x4_1).f1) == 0) = true := beq_iff_eq.mpr c12
         have c12b1 : (((rd_T103 l0_0 x4_1).f1) != 0) = false := bne_eq_false_iff_eq.mpr c12
         clear c12; have H' := Aside0.mk H; clear H
         have hcz13_0 := bc0 BK263.out
         have hfz13_0 := blk_frozen BK263.out 0
         have p265 : 0 ≤ (x4_1 : Int) := of_decide_eq_true asmT
         have q265 : x4_1 < (l0_0.length : Int) := of_decide_eq_true asmT
         obtain ⟨ad265, e265, hx265_0, hx265_1⟩ := at_T103 HR0_0.out x4_1 p265 q265
         cases e265
         replace hx265_0 := hbc HB.out hx265_0; replace hx265_1 := hbc HB.out hx265_1; replace p265 := eq_true p265; replace q265 := eq_true q265
         go_wp2
         go_roundg kj2
         case measure => have := HK1.out; have := HJ2.out; omega
         case rel => exact ⟨(wrap64 (x3_1 + 1)), (wrap64 (x4_1 + 1)), rdT, rdT, H', ⟨by have := HK1.out; have := HJ2.out; omega⟩, ⟨by (with_reducible repeat (first | refine blk_drewN ?_ _ | refine blk_drew ?_ | refine blk_alloc ?_ _)); exact BK263.out⟩, ⟨hbT HB.out⟩⟩
        ·rw [if_neg c12] at H
         have c12b0 : (((rd_T103 l0_0 x4_1).f1) == 0) = false := beq_eq_false_iff_ne.mpr c12
         have c12b1 : (((rd_T103 l0_0 x4_1).f1) != 0) = true := bne_iff_ne.mpr c12
         have H' := Aside0.mk H; clear H
         have hcz14_0 := bc0 BK263.out
         have hfz14_0 := blk_frozen BK263.out 0
         have p265 : 0 ≤ (x4_1 : Int) := of_decide_eq_true asmT
         have q265 : x4_1 < (l0_0.length : Int) := of_decide_eq_true asmT
         obtain ⟨ad265, e265, hx265_0, hx265_1⟩ := at_T103 HR0_0.out x4_1 p265 q265
         cases e265
         replace hx265_0 := hbc HB.out hx265_0; replace hx265_1 := hbc HB.out hx265_1; replace p265 := eq_true p265; replace q265 := eq_true q265
         go_wp2
         go_roundg kj2
         case measure => have := HK1.out; have := HJ2.out; omega
         case rel => exact ⟨(x3_1), (wrap64 (x4_1 + 1)), rdT, rdT, H', ⟨by have := HK1.out; have := HJ2.out; omega⟩, ⟨by (with_reducible repeat (first | refine blk_drewN ?_ _ | refine blk_drew ?_ | refine blk_alloc ?_ _)); exact BK263.out⟩, ⟨hbT HB.out⟩⟩
       ·rw [if_neg c11] at H
        exact absurd H (by simp)
      ·rw [if_neg c10] at H
       exact absurd H (by simp)
     ·replace c9 := Bool.eq_false_iff.mpr c9
      subst c9; rw [if_neg nF] at H; have H1 := H; clear H; have H := H1; clear H1
      obtain rfl := Option.some.inj H
      go_wp2
      go_ret
      exact ⟨rlT, hbT HB.out⟩
mutual
def spec_CountInserted.l0 : Nat → Int → Int → List (S103) → Option (Int)
 | 0, _, _, _ => none
 | k + 1, x3, x4, x267000 => if x4 < (x267000.length : Int) then ((spec_IsCandidate.f k x267000).bind fun t267 => (spec_CountInserted.j1 k x3 x4 t267 x267000)) else (spec_CountInserted.j1 k x3 x4 false x267000)
def spec_CountInserted.j1 : Nat → Int → Int → Bool → List (S103) → Option (Int)
 | 0, _, _, _, _ => none
 | k + 1, x3, x4, x13, x267000 => if x13 = true then (if 0 ≤ x4 then (if x4 < (x267000.length : Int) then (if ((rd_T103 x267000 x4).f0) = 0 then (spec_CountInserted.l0 k (wrap64 (x3 + 1)) (wrap64 (x4 + 1)) x267000) else (spec_CountInserted.l0 k x3 (wrap64 (x4 + 1)) x267000)) else (none)) else (none)) else (some x3)
end
def spec_CountInserted.f (k : Nat) (l0_0 : List (S103)) : Option (Int) := spec_CountInserted.l0 k 0 0 l0_0
theorem spec_CountInserted.mono_l : ∀ k, (∀ y0 y1 y2, LeO (spec_CountInserted.l0 k y0 y1 y2) (spec_CountInserted.l0 (k + 1) y0 y1 y2)) ∧ (∀ y0 y1 y2 y3, LeO (spec_CountInserted.j1 k y0 y1 y2 y3) (spec_CountInserted.j1 (k + 1) y0 y1 y2 y3))
 | 0 => ⟨fun _ _ _ r h => by simp [spec_CountInserted.l0] at h, fun _ _ _ _ r h => by simp [spec_CountInserted.j1] at h⟩
 | k + 1 => by
  obtain ⟨ih0, ih1⟩ := spec_CountInserted.mono_l k; refine ⟨?_, ?_⟩
  ·intro y0 y1 y2
   unfold spec_CountInserted.l0
   with_reducible repeat' first | exact ih0 _ _ _ | exact ih1 _ _ _ _ | exact spec_IsCandidate.mono _ _ | exact LeO.refl _ | exact LeO.none _ | refine LeO.ite ?_ ?_ | refine LeO.bind ?_ (fun _ => ?_)
  ·intro y0 y1 y2 y3
   unfold spec_CountInserted.j1
   with_reducible repeat' first | exact ih0 _ _ _ | exact ih1 _ _ _ _ | exact spec_IsCandidate.mono _ _ | exact LeO.refl _ | exact LeO.none _ | refine LeO.ite ?_ ?_ | refine LeO.bind ?_ (fun _ => ?_)
theorem spec_CountInserted.mono : ∀ a0 k, LeO (spec_CountInserted.f k a0) (spec_CountInserted.f (k + 1) a0) := by
 intro a0 k
 obtain ⟨ih0, ih1⟩ := spec_CountInserted.mono_l k
 unfold spec_CountInserted.f
 with_reducible repeat' first | exact ih0 _ _ _ | exact ih1 _ _ _ _ | exact spec_IsCandidate.mono _ _ | exact LeO.refl _ | exact LeO.none _ | refine LeO.ite ?_ ?_ | refine LeO.bind ?_ (fun _ => ?_)
set_option maxHeartbeats 8000000 in
set_option maxRecDepth 100000 in
theorem spec_CountInserted.calls (k : Nat) (A0_0 : Option Addr) (c0_0 : Nat) (l0_0 : List (S103)) (r : Int) (w : World) (hr0_0 : Kd.C k103 w A0_0 l0_0.length l0_0) (hc0_0 : l0_0.length ≤ c0_0) (h : spec_CountInserted.f k l0_0 = some r) :
  Calls Tryz.prog 122 #[.agg #[.slice A0_0 l0_0.length c0_0]] w fun e w' => e = .returned (.int .i64 r) ∧ Below w.heap.size w w' := by
 have hu77 := Tryz.underlying77; have HR0_0 := Aside0.mk hr0_0; have HC0_0 := Aside0.mk hc0_0; clear hr0_0 hc0_0; have HB := asT (Below.refl w.heap.size w); have H := h; unfold spec_CountInserted.f at H; clear h; have H' := Aside0.mk H; clear H
 go_enter Tryz.func122, Tryz.ntmps122
 go_wp2_with (first | ((with_reducible refine gate_dst (N := 1) rfl ?_); refine boxT (N := 1) (cs := #[.slice A0_0 l0_0.length c0_0]) (t := 77) ?_; intro gb266 hg w2 hbox hb; have BK266 := asT hbox; have GW266 := asT (geT hg HB.out); have GE266 := GW266; replace HB := hS HB hb; clear hb hbox hg))
 go_loopg [3, 4] k (fun kq v3 v4 w' => ∃ (x3_1 : Int) (x4_1 : Int), v3 = .int .i64 x3_1 ∧ v4 = .int .i64 x4_1 ∧ Aside0 (spec_CountInserted.l0 kq x3_1 x4_1 l0_0 = some r) ∧ Aside0 (kq ≤ k) ∧ Aside0 (w'.heap[gb266]? = some (.cells #[(.slice A0_0 l0_0.length c0_0)] 77 (0, 0))) ∧ Aside0 (Below w.heap.size w w'))
 case atStart => exact ⟨(0), (0), rdT, rdT, H', ⟨Nat.le_refl _⟩, ⟨by (with_reducible repeat (first | refine blk_drewN ?_ _ | refine blk_drew ?_ | refine blk_alloc ?_ _)); exact BK266.out⟩, ⟨hbT HB.out⟩⟩
 case round =>
  clear H'; (try clear c1 p2); obtain ⟨x3_1, x4_1, rfl, rfl, HA, HK1, BK266, HB⟩ := hrel
  cases gk with
  | zero => exact absurd HA.out (by simp [spec_CountInserted.l0])
  | succ k1 =>
   have H := HA.out; clear HA
   simp only [spec_CountInserted.l0] at H
   have HC3 := Aside0.mk H; clear H
   go_upto_region 3 with (fail)
   go_cut [13] (fun v13 wc => ∃ (kq : Nat) (x13_2 : Bool), v13 = .bool x13_2 ∧ Aside0 (spec_CountInserted.j1 kq x3_1 x4_1 x13_2 l0_0 = some r) ∧ Aside0 (kq ≤ k1) ∧ Aside0 (wc.heap[gb266]? = some (.cells #[(.slice A0_0 l0_0.length c0_0)] 77 (0, 0))) ∧ Aside0 (Below w.heap.size w wc))
   case first =>
    have H := HC3.out; clear HC3
    by_cases c4 : x4_1 < (l0_0.length : Int)
    ·rw [if_pos c4] at H
     have c4b0 : decide (x4_1 < (l0_0.length : Int)) = true := decide_eq_true c4
     clear c4
     (first | rw [c4b0] | (simp only [i64_w, i32_w]; rw [c4b0]) | skip)
     obtain ⟨t267, A5, H⟩ := be H; have H' := Aside0.mk H; clear H
     have hcz6_0 := bc0 BK266.out
     have hfz6_0 := blk_frozen BK266.out 0
     go_wp2_with (first | (go_at_call 69; (with_reducible refine (spec_IsCandidate.calls k1 _ _ l0_0 t267 _ ?side1 ?side2 A5.out).mono ?_); (case side1 => exact crT HR0_0.out HB.out); (case side2 => exact HC0_0.out); rintro e w7 ⟨rfl, hb⟩; replace BK266 := bS BK266 hb; replace HB := hS HB hb; (try clear hb hb2 hk hi)))
     go_meet
     case rel => exact ⟨_, (t267), rdT, H', ⟨by have := HK1.out; first | omega | exact Nat.le_refl _⟩, ⟨by (with_reducible repeat (first | refine blk_drewN ?_ _ | refine blk_drew ?_ | refine blk_alloc ?_ _)); exact BK266.out⟩, ⟨hbT HB.out⟩⟩
    ·rw [if_neg c4] at H
     have c4b0 : decide (x4_1 < (l0_0.length : Int)) = false := decide_eq_false c4
     clear c4
     (first | rw [c4b0] | (simp only [i64_w, i32_w]; rw [c4b0]) | skip)
     have H' := Aside0.mk H; clear H
     have hcz8_0 := bc0 BK266.out
     have hfz8_0 := blk_frozen BK266.out 0
     go_wp2
     go_meet
     case rel => exact ⟨_, (false), rdT, H', ⟨by have := HK1.out; first | omega | exact Nat.le_refl _⟩, ⟨by (with_reducible repeat (first | refine blk_drewN ?_ _ | refine blk_drew ?_ | refine blk_alloc ?_ _)); exact BK266.out⟩, ⟨hbT HB.out⟩⟩
   case rest =>
    clear HC3; (try clear c1 p2 c4 c4b0 hcz6_0 hcz8_0 hfz6_0 hfz8_0 p2); obtain ⟨kq, x13_2, rfl, HA, HJ2, BK266, HB⟩ := hcut
    cases kq with
    | zero => exact absurd HA.out (by simp [spec_CountInserted.j1])
    | succ kj2 =>
     have H := HA.out; clear HA
     simp only [spec_CountInserted.j1] at H
     by_cases c9 : x13_2 = true
     ·subst c9
      rw [if_pos rfl] at H; have H1 := H; clear H; have H := H1; clear H1
      by_cases c10 : 0 ≤ x4_1
      ·rw [if_pos c10] at H
       have c10b0 : decide (0 ≤ x4_1) = true := decide_eq_true c10
       clear c10
       by_cases c11 : x4_1 < (l0_0.length : Int)
       ·rw [if_pos c11] at H
        have c11b0 : decide (x4_1 < (l0_0.length : Int)) = true := decide_eq_true c11
        clear c11
        by_cases c12 : ((rd_T103 l0_0 x4_1).f0) = 0
        ·rw [if_pos c12] at H
         have c12b0 : (((rd_T103 l0_0 x4_1).f0) == 0) = true := beq_iff_eq.mpr c12
         have c12b1 : (((rd_T103 l0_0 x4_1).f0) != 0) = false := bne_eq_false_iff_eq.mpr c12
         clear c12; have H' := Aside0.mk H; clear H
         have hcz13_0 := bc0 BK266.out
         have hfz13_0 := blk_frozen BK266.out 0
         have p268 : 0 ≤ (x4_1 : Int) := of_decide_eq_true asmT
         have q268 : x4_1 < (l0_0.length : Int) := of_decide_eq_true asmT
         obtain ⟨ad268, e268, hx268_0, hx268_1⟩ := at_T103 HR0_0.out x4_1 p268 q268
         cases e268
         replace hx268_0 := hbc HB.out hx268_0; replace hx268_1 := hbc HB.out hx268_1; replace p268 := eq_true p268; replace q268 := eq_true q268
         go_wp2
         go_roundg kj2
         case measure => have := HK1.out; have := HJ2.out; omega
         case rel => exact ⟨(wrap64 (x3_1 + 1)), (wrap64 (x4_1 + 1)), rdT, rdT, H', ⟨by have := HK1.out; have := HJ2.out; omega⟩, ⟨by (with_reducible repeat (first | refine blk_drewN ?_ _ | refine blk_drew ?_ | refine blk_alloc ?_ _)); exact BK266.out⟩, ⟨hbT HB.out⟩⟩
        ·rw [if_neg c12] at H
         have c12b0 : (((rd_T103 l0_0 x4_1).f0) == 0) = false := beq_eq_false_iff_ne.mpr c12
         have c12b1 : (((rd_T103 l0_0 x4_1).f0) != 0) = true := bne_iff_ne.mpr c12
         have H' := Aside0.mk H; clear H
         have hcz14_0 := bc0 BK266.out
         have hfz14_0 := blk_frozen BK266.out 0
         have p268 : 0 ≤ (x4_1 : Int) := of_decide_eq_true asmT
         have q268 : x4_1 < (l0_0.length : Int) := of_decide_eq_true asmT
         obtain ⟨ad268, e268, hx268_0, hx268_1⟩ := at_T103 HR0_0.out x4_1 p268 q268
         cases e268
         replace hx268_0 := hbc HB.out hx268_0; replace hx268_1 := hbc HB.out hx268_1; replace p268 := eq_true p268; replace q268 := eq_true q268
         go_wp2
         go_roundg kj2
         case measure => have := HK1.out; have := HJ2.out; omega
         case rel => exact ⟨(x3_1), (wrap64 (x4_1 + 1)), rdT, rdT, H', ⟨by have := HK1.out; have := HJ2.out; omega⟩, ⟨by (with_reducible repeat (first | refine blk_drewN ?_ _ | refine blk_drew ?_ | refine blk_alloc ?_ _)); exact BK266.out⟩, ⟨hbT HB.out⟩⟩
       ·rw [if_neg c11] at H
        exact absurd H (by simp)
      ·rw [if_neg c10] at H
       exact absurd H (by simp)
     ·replace c9 := Bool.eq_false_iff.mpr c9
      subst c9; rw [if_neg nF] at H; have H1 := H; clear H; have H := H1; clear H1
      obtain rfl := Option.some.inj H
      go_wp2
      go_ret
      exact ⟨rlT, hbT HB.out⟩
mutual
def spec_CountVoiceChanged.l0 : Nat → Int → Int → List (S103) → Option (Int)
 | 0, _, _, _ => none
 | k + 1, x3, x4, x270000 => if x4 < (x270000.length : Int) then ((spec_IsCandidate.f k x270000).bind fun t270 => (spec_CountVoiceChanged.j1 k x3 x4 t270 x270000)) else (spec_CountVoiceChanged.j1 k x3 x4 false x270000)
def spec_CountVoiceChanged.j1 : Nat → Int → Int → Bool → List (S103) → Option (Int)
 | 0, _, _, _, _ => none
 | k + 1, x3, x4, x14, x270000 => if x14 = true then (if 0 ≤ x4 then (if x4 < (x270000.length : Int) then (if ((rd_T103 x270000 x4).f0) = 0 then (spec_CountVoiceChanged.l0 k x3 (wrap64 (x4 + 1)) x270000) else (if ((rd_T103 x270000 x4).f1) = 0 then (spec_CountVoiceChanged.l0 k x3 (wrap64 (x4 + 1)) x270000) else (if ((rd_T103 x270000 x4).f0) = ((rd_T103 x270000 x4).f1) then (spec_CountVoiceChanged.l0 k x3 (wrap64 (x4 + 1)) x270000) else (spec_CountVoiceChanged.l0 k (wrap64 (x3 + 1)) (wrap64 (x4 + 1)) x270000)))) else (none)) else (none)) else (some x3)
end
def spec_CountVoiceChanged.f (k : Nat) (l0_0 : List (S103)) : Option (Int) := spec_CountVoiceChanged.l0 k 0 0 l0_0
theorem spec_CountVoiceChanged.mono_l : ∀ k, (∀ y0 y1 y2, LeO (spec_CountVoiceChanged.l0 k y0 y1 y2) (spec_CountVoiceChanged.l0 (k + 1) y0 y1 y2)) ∧ (∀ y0 y1 y2 y3, LeO (spec_CountVoiceChanged.j1 k y0 y1 y2 y3) (spec_CountVoiceChanged.j1 (k + 1) y0 y1 y2 y3))
 | 0 => ⟨fun _ _ _ r h => by simp [spec_CountVoiceChanged.l0] at h, fun _ _ _ _ r h => by simp [spec_CountVoiceChanged.j1] at h⟩
 | k + 1 => by
  obtain ⟨ih0, ih1⟩ := spec_CountVoiceChanged.mono_l k; refine ⟨?_, ?_⟩
  ·intro y0 y1 y2
   unfold spec_CountVoiceChanged.l0
   with_reducible repeat' first | exact ih0 _ _ _ | exact ih1 _ _ _ _ | exact spec_IsCandidate.mono _ _ | exact LeO.refl _ | exact LeO.none _ | refine LeO.ite ?_ ?_ | refine LeO.bind ?_ (fun _ => ?_)
  ·intro y0 y1 y2 y3
   unfold spec_CountVoiceChanged.j1
   with_reducible repeat' first | exact ih0 _ _ _ | exact ih1 _ _ _ _ | exact spec_IsCandidate.mono _ _ | exact LeO.refl _ | exact LeO.none _ | refine LeO.ite ?_ ?_ | refine LeO.bind ?_ (fun _ => ?_)
theorem spec_CountVoiceChanged.mono : ∀ a0 k, LeO (spec_CountVoiceChanged.f k a0) (spec_CountVoiceChanged.f (k + 1) a0) := by
 intro a0 k
 obtain ⟨ih0, ih1⟩ := spec_CountVoiceChanged.mono_l k
 unfold spec_CountVoiceChanged.f
 with_reducible repeat' first | exact ih0 _ _ _ | exact ih1 _ _ _ _ | exact spec_IsCandidate.mono _ _ | exact LeO.refl _ | exact LeO.none _ | refine LeO.ite ?_ ?_ | refine LeO.bind ?_ (fun _ => ?_)
set_option maxHeartbeats 8000000 in
set_option maxRecDepth 100000 in
theorem spec_CountVoiceChanged.calls (k : Nat) (A0_0 : Option Addr) (c0_0 : Nat) (l0_0 : List (S103)) (r : Int) (w : World) (hr0_0 : Kd.C k103 w A0_0 l0_0.length l0_0) (hc0_0 : l0_0.length ≤ c0_0) (h : spec_CountVoiceChanged.f k l0_0 = some r) :
  Calls Tryz.prog 123 #[.agg #[.slice A0_0 l0_0.length c0_0]] w fun e w' => e = .returned (.int .i64 r) ∧ Below w.heap.size w w' := by
 have hu77 := Tryz.underlying77; have hu103 := Tryz.underlying103; have HR0_0 := Aside0.mk hr0_0; have HC0_0 := Aside0.mk hc0_0; clear hr0_0 hc0_0; have HB := asT (Below.refl w.heap.size w); have H := h; unfold spec_CountVoiceChanged.f at H; clear h; have H' := Aside0.mk H; clear H
 go_enter Tryz.func123, Tryz.ntmps123
 go_wp2_with (first | ((with_reducible refine gate_dst (N := 1) rfl ?_); refine boxT (N := 1) (cs := #[.slice A0_0 l0_0.length c0_0]) (t := 77) ?_; intro gb269 hg w2 hbox hb; have BK269 := asT hbox; have GW269 := asT (geT hg HB.out); have GE269 := GW269; replace HB := hS HB hb; clear hb hbox hg))
 go_loopg [3, 4] k (fun kq v3 v4 w' => ∃ (x3_1 : Int) (x4_1 : Int), v3 = .int .i64 x3_1 ∧ v4 = .int .i64 x4_1 ∧ Aside0 (spec_CountVoiceChanged.l0 kq x3_1 x4_1 l0_0 = some r) ∧ Aside0 (kq ≤ k) ∧ Aside0 (w'.heap[gb269]? = some (.cells #[(.slice A0_0 l0_0.length c0_0)] 77 (0, 0))) ∧ Aside0 (Below w.heap.size w w'))
 case atStart => exact ⟨(0), (0), rdT, rdT, H', ⟨Nat.le_refl _⟩, ⟨by (with_reducible repeat (first | refine blk_drewN ?_ _ | refine blk_drew ?_ | refine blk_alloc ?_ _)); exact BK269.out⟩, ⟨hbT HB.out⟩⟩
 case round =>
  clear H'; (try clear c1 p2); obtain ⟨x3_1, x4_1, rfl, rfl, HA, HK1, BK269, HB⟩ := hrel
  cases gk with
  | zero => exact absurd HA.out (by simp [spec_CountVoiceChanged.l0])
  | succ k1 =>
   have H := HA.out; clear HA
   simp only [spec_CountVoiceChanged.l0] at H
   have HC3 := Aside0.mk H; clear H
   go_upto_region 3 with (fail)
   go_cut [14] (fun v14 wc => ∃ (kq : Nat) (x14_2 : Bool), v14 = .bool x14_2 ∧ Aside0 (spec_CountVoiceChanged.j1 kq x3_1 x4_1 x14_2 l0_0 = some r) ∧ Aside0 (kq ≤ k1) ∧ Aside0 (wc.heap[gb269]? = some (.cells #[(.slice A0_0 l0_0.length c0_0)] 77 (0, 0))) ∧ Aside0 (Below w.heap.size w wc))
   case first =>
    have H := HC3.out; clear HC3
    by_cases c4 : x4_1 < (l0_0.length : Int)
    ·rw [if_pos c4] at H
     have c4b0 : decide (x4_1 < (l0_0.length : Int)) = true := decide_eq_true c4
     clear c4
     (first | rw [c4b0] | (simp only [i64_w, i32_w]; rw [c4b0]) | skip)
     obtain ⟨t270, A5, H⟩ := be H; have H' := Aside0.mk H; clear H
     have hcz6_0 := bc0 BK269.out
     have hfz6_0 := blk_frozen BK269.out 0
     go_wp2_with (first | (go_at_call 69; (with_reducible refine (spec_IsCandidate.calls k1 _ _ l0_0 t270 _ ?side1 ?side2 A5.out).mono ?_); (case side1 => exact crT HR0_0.out HB.out); (case side2 => exact HC0_0.out); rintro e w7 ⟨rfl, hb⟩; replace BK269 := bS BK269 hb; replace HB := hS HB hb; (try clear hb hb2 hk hi)))
     go_meet
     case rel => exact ⟨_, (t270), rdT, H', ⟨by have := HK1.out; first | omega | exact Nat.le_refl _⟩, ⟨by (with_reducible repeat (first | refine blk_drewN ?_ _ | refine blk_drew ?_ | refine blk_alloc ?_ _)); exact BK269.out⟩, ⟨hbT HB.out⟩⟩
    ·rw [if_neg c4] at H
     have c4b0 : decide (x4_1 < (l0_0.length : Int)) = false := decide_eq_false c4
     clear c4
     (first | rw [c4b0] | (simp only [i64_w, i32_w]; rw [c4b0]) | skip)
     have H' := Aside0.mk H; clear H
     have hcz8_0 := bc0 BK269.out
     have hfz8_0 := blk_frozen BK269.out 0
     go_wp2
     go_meet
     case rel => exact ⟨_, (false), rdT, H', ⟨by have := HK1.out; first | omega | exact Nat.le_refl _⟩, ⟨by (with_reducible repeat (first | refine blk_drewN ?_ _ | refine blk_drew ?_ | refine blk_alloc ?_ _)); exact BK269.out⟩, ⟨hbT HB.out⟩⟩
   case rest =>
    clear HC3; (try clear c1 p2 c4 c4b0 hcz6_0 hcz8_0 hfz6_0 hfz8_0 p2); obtain ⟨kq, x14_2, rfl, HA, HJ2, BK269, HB⟩ := hcut
    cases kq with
    | zero => exact absurd HA.out (by simp [spec_CountVoiceChanged.j1])
    | succ kj2 =>
     have H := HA.out; clear HA
     simp only [spec_CountVoiceChanged.j1] at H
     by_cases c9 : x14_2 = true
     ·subst c9
      rw [if_pos rfl] at H; have H1 := H; clear H; have H := H1; clear H1
      by_cases c10 : 0 ≤ x4_1
      ·rw [if_pos c10] at H
       have c10b0 : decide (0 ≤ x4_1) = true := decide_eq_true c10
       clear c10
       by_cases c11 : x4_1 < (l0_0.length : Int)
       ·rw [if_pos c11] at H
        have c11b0 : decide (x4_1 < (l0_0.length : Int)) = true := decide_eq_true c11
        clear c11
        by_cases c12 : ((rd_T103 l0_0 x4_1).f0) = 0
        ·rw [if_pos c12] at H
         have c12b0 : (((rd_T103 l0_0 x4_1).f0) == 0) = true := beq_iff_eq.mpr c12
         have c12b1 : (((rd_T103 l0_0 x4_1).f0) != 0) = false := bne_eq_false_iff_eq.mpr c12
         clear c12; have H' := Aside0.mk H; clear H
         have hcz13_0 := bc0 BK269.out
         have hfz13_0 := blk_frozen BK269.out 0
         have p271 : 0 ≤ (x4_1 : Int) := of_decide_eq_true asmT
         have q271 : x4_1 < (l0_0.length : Int) := of_decide_eq_true asmT
         obtain ⟨ad271, e271, hx271_0, hx271_1⟩ := at_T103 HR0_0.out x4_1 p271 q271
         cases e271
         replace hx271_0 := hbc HB.out hx271_0; replace hx271_1 := hbc HB.out hx271_1; replace p271 := eq_true p271; replace q271 := eq_true q271
         go_wp2_with (first | ((with_reducible refine gate_dst (N := 5) rfl ?_); refine boxT (N := 5) (cs := #[.int .u8 0, .int .u8 0]) (t := 103) ?_; intro gb272 hg w14 hbox hb; have BK272 := asT (hbox); have GW272 := asT (geT hg HB.out); have GE272 := asT (geT hg HB.out); replace HB := hS HB hb; have NB269_272 := asT ((by rw [hg]; exact Nat.ne_of_lt (blk_lt (g := gb269) (o := .cells #[.slice (some ad271) l0_0.length c0_0] 77 (0, 0)) (bkT BK269.out)) : gb269 ≠ gb272)); have NB272_269 := asT ((by rw [hg]; exact Nat.ne_of_gt (blk_lt (g := gb269) (o := .cells #[.slice (some ad271) l0_0.length c0_0] 77 (0, 0)) (bkT BK269.out)) : gb272 ≠ gb269)); replace BK269 := bS BK269 hb; clear hb hbox hg; have hnb15 := NB272_269.out; have hnc15 := NB269_272.out; obtain ⟨hcz16_0, hcz16_1, hfz16_0, hfz16_1⟩ := bx2 BK272.out))
         go_roundg kj2
         case measure => have := HK1.out; have := HJ2.out; omega
         case rel => exact ⟨(x3_1), (wrap64 (x4_1 + 1)), rdT, rdT, H', ⟨by have := HK1.out; have := HJ2.out; omega⟩, ⟨by (with_reducible repeat (first | refine blk_drewN ?_ _ | refine blk_drew ?_ | refine blk_alloc ?_ _)); refine blk_far ?_ NB269_272.out _; (with_reducible repeat (first | refine blk_drewN ?_ _ | refine blk_drew ?_ | refine blk_alloc ?_ _)); refine blk_far ?_ NB269_272.out _; (with_reducible repeat (first | refine blk_drewN ?_ _ | refine blk_drew ?_ | refine blk_alloc ?_ _)); exact BK269.out⟩, ⟨hbT HB.out⟩⟩
        ·rw [if_neg c12] at H
         have c12b0 : (((rd_T103 l0_0 x4_1).f0) == 0) = false := beq_eq_false_iff_ne.mpr c12
         have c12b1 : (((rd_T103 l0_0 x4_1).f0) != 0) = true := bne_iff_ne.mpr c12
         by_cases c17 : ((rd_T103 l0_0 x4_1).f1) = 0
         ·rw [if_pos c17] at H
          have c17b0 : (((rd_T103 l0_0 x4_1).f1) == 0) = true := beq_iff_eq.mpr c17
          have c17b1 : (((rd_T103 l0_0 x4_1).f1) != 0) = false := bne_eq_false_iff_eq.mpr c17
          clear c17; have H' := Aside0.mk H; clear H
          have hcz18_0 := bc0 BK269.out
          have hfz18_0 := blk_frozen BK269.out 0
          have p271 : 0 ≤ (x4_1 : Int) := of_decide_eq_true asmT
          have q271 : x4_1 < (l0_0.length : Int) := of_decide_eq_true asmT
          obtain ⟨ad271, e271, hx271_0, hx271_1⟩ := at_T103 HR0_0.out x4_1 p271 q271
          cases e271
          replace hx271_0 := hbc HB.out hx271_0; replace hx271_1 := hbc HB.out hx271_1; replace p271 := eq_true p271; replace q271 := eq_true q271
          go_wp2_with (first | ((with_reducible refine gate_dst (N := 5) rfl ?_); refine boxT (N := 5) (cs := #[.int .u8 0, .int .u8 0]) (t := 103) ?_; intro gb272 hg w19 hbox hb; have BK272 := asT (hbox); have GW272 := asT (geT hg HB.out); have GE272 := asT (geT hg HB.out); replace HB := hS HB hb; have NB269_272 := asT ((by rw [hg]; exact Nat.ne_of_lt (blk_lt (g := gb269) (o := .cells #[.slice (some ad271) l0_0.length c0_0] 77 (0, 0)) (bkT BK269.out)) : gb269 ≠ gb272)); have NB272_269 := asT ((by rw [hg]; exact Nat.ne_of_gt (blk_lt (g := gb269) (o := .cells #[.slice (some ad271) l0_0.length c0_0] 77 (0, 0)) (bkT BK269.out)) : gb272 ≠ gb269)); replace BK269 := bS BK269 hb; clear hb hbox hg; have hnb20 := NB272_269.out; have hnc20 := NB269_272.out; obtain ⟨hcz21_0, hcz21_1, hfz21_0, hfz21_1⟩ := bx2 BK272.out))
          go_roundg kj2
          case measure => have := HK1.out; have := HJ2.out; omega
          case rel => exact ⟨(x3_1), (wrap64 (x4_1 + 1)), rdT, rdT, H', ⟨by have := HK1.out; have := HJ2.out; omega⟩, ⟨by (with_reducible repeat (first | refine blk_drewN ?_ _ | refine blk_drew ?_ | refine blk_alloc ?_ _)); refine blk_far ?_ NB269_272.out _; (with_reducible repeat (first | refine blk_drewN ?_ _ | refine blk_drew ?_ | refine blk_alloc ?_ _)); refine blk_far ?_ NB269_272.out _; (with_reducible repeat (first | refine blk_drewN ?_ _ | refine blk_drew ?_ | refine blk_alloc ?_ _)); exact BK269.out⟩, ⟨hbT HB.out⟩⟩
         ·rw [if_neg c17] at H
          have c17b0 : (((rd_T103 l0_0 x4_1).f1) == 0) = false := beq_eq_false_iff_ne.mpr c17
          have c17b1 : (((rd_T103 l0_0 x4_1).f1) != 0) = true := bne_iff_ne.mpr c17
          by_cases c22 : ((rd_T103 l0_0 x4_1).f0) = ((rd_T103 l0_0 x4_1).f1)
          ·rw [if_pos c22] at H
           have c22b0 : (((rd_T103 l0_0 x4_1).f0) == ((rd_T103 l0_0 x4_1).f1)) = true := beq_iff_eq.mpr c22
           have c22b1 : (((rd_T103 l0_0 x4_1).f0) != ((rd_T103 l0_0 x4_1).f1)) = false := bne_eq_false_iff_eq.mpr c22
           clear c22; have H' := Aside0.mk H; clear H
           have hcz23_0 := bc0 BK269.out
           have hfz23_0 := blk_frozen BK269.out 0
           have p271 : 0 ≤ (x4_1 : Int) := of_decide_eq_true asmT
           have q271 : x4_1 < (l0_0.length : Int) := of_decide_eq_true asmT
           obtain ⟨ad271, e271, hx271_0, hx271_1⟩ := at_T103 HR0_0.out x4_1 p271 q271
           cases e271
           replace hx271_0 := hbc HB.out hx271_0; replace hx271_1 := hbc HB.out hx271_1; replace p271 := eq_true p271; replace q271 := eq_true q271
           go_wp2_with (first | ((with_reducible refine gate_dst (N := 5) rfl ?_); refine boxT (N := 5) (cs := #[.int .u8 0, .int .u8 0]) (t := 103) ?_; intro gb272 hg w24 hbox hb; have BK272 := asT (hbox); have GW272 := asT (geT hg HB.out); have GE272 := asT (geT hg HB.out); replace HB := hS HB hb; have NB269_272 := asT ((by rw [hg]; exact Nat.ne_of_lt (blk_lt (g := gb269) (o := .cells #[.slice (some ad271) l0_0.length c0_0] 77 (0, 0)) (bkT BK269.out)) : gb269 ≠ gb272)); have NB272_269 := asT ((by rw [hg]; exact Nat.ne_of_gt (blk_lt (g := gb269) (o := .cells #[.slice (some ad271) l0_0.length c0_0] 77 (0, 0)) (bkT BK269.out)) : gb272 ≠ gb269)); replace BK269 := bS BK269 hb; clear hb hbox hg; have hnb25 := NB272_269.out; have hnc25 := NB269_272.out; obtain ⟨hcz26_0, hcz26_1, hfz26_0, hfz26_1⟩ := bx2 BK272.out))
           go_roundg kj2
           case measure => have := HK1.out; have := HJ2.out; omega
           case rel => exact ⟨(x3_1), (wrap64 (x4_1 + 1)), rdT, rdT, H', ⟨by have := HK1.out; have := HJ2.out; omega⟩, ⟨by (with_reducible repeat (first | refine blk_drewN ?_ _ | refine blk_drew ?_ | refine blk_alloc ?_ _)); refine blk_far ?_ NB269_272.out _; (with_reducible repeat (first | refine blk_drewN ?_ _ | refine blk_drew ?_ | refine blk_alloc ?_ _)); refine blk_far ?_ NB269_272.out _; (with_reducible repeat (first | refine blk_drewN ?_ _ | refine blk_drew ?_ | refine blk_alloc ?_ _)); exact BK269.out⟩, ⟨hbT HB.out⟩⟩
          ·rw [if_neg c22] at H
           have c22b0 : (((rd_T103 l0_0 x4_1).f0) == ((rd_T103 l0_0 x4_1).f1)) = false := beq_eq_false_iff_ne.mpr c22
           have c22b1 : (((rd_T103 l0_0 x4_1).f0) != ((rd_T103 l0_0 x4_1).f1)) = true := bne_iff_ne.mpr c22
           have H' := Aside0.mk H; clear H
           have hcz27_0 := bc0 BK269.out
           have hfz27_0 := blk_frozen BK269.out 0
           have p271 : 0 ≤ (x4_1 : Int) := of_decide_eq_true asmT
           have q271 : x4_1 < (l0_0.length : Int) := of_decide_eq_true asmT
           obtain ⟨ad271, e271, hx271_0, hx271_1⟩ := at_T103 HR0_0.out x4_1 p271 q271
           cases e271
           replace hx271_0 := hbc HB.out hx271_0; replace hx271_1 := hbc HB.out hx271_1; replace p271 := eq_true p271; replace q271 := eq_true q271
           go_wp2_with (first | ((with_reducible refine gate_dst (N := 5) rfl ?_); refine boxT (N := 5) (cs := #[.int .u8 0, .int .u8 0]) (t := 103) ?_; intro gb272 hg w28 hbox hb; have BK272 := asT (hbox); have GW272 := asT (geT hg HB.out); have GE272 := asT (geT hg HB.out); replace HB := hS HB hb; have NB269_272 := asT ((by rw [hg]; exact Nat.ne_of_lt (blk_lt (g := gb269) (o := .cells #[.slice (some ad271) l0_0.length c0_0] 77 (0, 0)) (bkT BK269.out)) : gb269 ≠ gb272)); have NB272_269 := asT ((by rw [hg]; exact Nat.ne_of_gt (blk_lt (g := gb269) (o := .cells #[.slice (some ad271) l0_0.length c0_0] 77 (0, 0)) (bkT BK269.out)) : gb272 ≠ gb269)); replace BK269 := bS BK269 hb; clear hb hbox hg; have hnb29 := NB272_269.out; have hnc29 := NB269_272.out; obtain ⟨hcz30_0, hcz30_1, hfz30_0, hfz30_1⟩ := bx2 BK272.out))
           go_roundg kj2
           case measure => have := HK1.out; have := HJ2.out; omega
           case rel => exact ⟨(wrap64 (x3_1 + 1)), (wrap64 (x4_1 + 1)), rdT, rdT, H', ⟨by have := HK1.out; have := HJ2.out; omega⟩, ⟨by (with_reducible repeat (first | refine blk_drewN ?_ _ | refine blk_drew ?_ | refine blk_alloc ?_ _)); refine blk_far ?_ NB269_272.out _; (with_reducible repeat (first | refine blk_drewN ?_ _ | refine blk_drew ?_ | refine blk_alloc ?_ _)); refine blk_far ?_ NB269_272.out _; (with_reducible repeat (first | refine blk_drewN ?_ _ | refine blk_drew ?_ | refine blk_alloc ?_ _)); exact BK269.out⟩, ⟨hbT HB.out⟩⟩
       ·rw [if_neg c11] at H
        exact absurd H (by simp)
      ·rw [if_neg c10] at H
       exact absurd H (by simp)
     ·replace c9 := Bool.eq_false_iff.mpr c9
      subst c9; rw [if_neg nF] at H; have H1 := H; clear H; have H := H1; clear H1
      obtain rfl := Option.some.inj H
      go_wp2
      go_ret
      exact ⟨rlT, hbT HB.out⟩
def spec_l9Kept.f (a0_0 : Int) (a0_1 : Int) : Option (Bool) := if a0_0 = 0 then (some false) else (some (a0_1 != 0))
set_option maxHeartbeats 8000000 in
set_option maxRecDepth 100000 in
theorem spec_l9Kept.calls (a0_0 : Int) (a0_1 : Int) (r : Bool) (w : World) (h : spec_l9Kept.f a0_0 a0_1 = some r) :
  Calls Tryz.prog 150 #[.agg #[.int .u8 a0_0, .int .u8 a0_1]] w fun e w' => e = .returned (.bool r) ∧ Below w.heap.size w w' := by
 have hu103 := Tryz.underlying103; have HB := asT (Below.refl w.heap.size w); have H := h; unfold spec_l9Kept.f at H; clear h
 by_cases c2 : a0_0 = 0
 ·rw [if_pos c2] at H
  have c2b0 : (a0_0 == 0) = true := beq_iff_eq.mpr c2
  have c2b1 : (a0_0 != 0) = false := bne_eq_false_iff_eq.mpr c2
  clear c2
  obtain rfl := Option.some.inj H
  go_enter Tryz.func150, Tryz.ntmps150
  go_wp2_with (first | ((with_reducible refine gate_dst (N := 1) rfl ?_); refine boxT (N := 1) (cs := #[.int .u8 a0_0, .int .u8 a0_1]) (t := 103) ?_; intro gb273 hg w3 hbox hb; have BK273 := asT hbox; have GW273 := asT (geT hg HB.out); have GE273 := GW273; replace HB := hS HB hb; clear hb hbox hg; obtain ⟨hcz4_0, hcz4_1, hfz4_0, hfz4_1⟩ := bx2 BK273.out))
  go_ret
  exact ⟨rlT, hbT HB.out⟩
 ·rw [if_neg c2] at H
  have c2b0 : (a0_0 == 0) = false := beq_eq_false_iff_ne.mpr c2
  have c2b1 : (a0_0 != 0) = true := bne_iff_ne.mpr c2
  obtain rfl := Option.some.inj H
  go_enter Tryz.func150, Tryz.ntmps150
  go_wp2_with (first | ((with_reducible refine gate_dst (N := 1) rfl ?_); refine boxT (N := 1) (cs := #[.int .u8 a0_0, .int .u8 a0_1]) (t := 103) ?_; intro gb273 hg w5 hbox hb; have BK273 := asT hbox; have GW273 := asT (geT hg HB.out); have GE273 := GW273; replace HB := hS HB hb; clear hb hbox hg; obtain ⟨hcz6_0, hcz6_1, hfz6_0, hfz6_1⟩ := bx2 BK273.out))
  go_ret
  exact ⟨rlT, hbT HB.out⟩
end Go.Proofs.YtmfhaplhgaehhabGreat.PFnExactFatalMark
