-- Made by gen.py (a program of this session) out of the translation; Lean checks it.
import Derived.Test.YtdamagcfmhimfadGreatPFnExactIsTableaux0
import Derived.Test.YtdamagcfmhimfadGreatPFnExactIsTableaux2
import Derived.Test.YtdamagcfmhimfadGreatPFnExactIsTableaux3
import Derived.Test.YtdamagcfmhimfadGreatPFnExactIsTableaux4
namespace Go.Proofs.YtdamagcfmhimfadGreat.PFnExactIsTableau
open Go.RowKit Go.Proofs.YtdamagcfmhimfadGreatB Go.Proofs.YtdamagcfmhimfadGreatW.PrintWords Go.Proofs.YtdamagcfmhimfadGreatW.PrintLast Go.Proofs.YtdamagcfmhimfadGreatW.PrintMore
attribute [local go_sem] max2_int min2_int max_two min_two max_three min_three max_four min_four   -- for this text's walks alone
set_option linter.unusedVariables false
set_option linter.unusedSimpArgs false

/-! ### spec_CountFinalVoiced: function 108 -/
def spec_CountFinalVoiced.f (k : Nat) (a0 : ByteArray) : Option (Int) := (spec_IsForm.f k a0).bind fun t180 => (if t180 = true then (if a0.toList = ([] : List UInt8) then (some 0) else (if 0 ≤ (wrap64 ((a0.size : Int) - 1)) then (if (wrap64 ((a0.size : Int) - 1)) < (a0.size : Int) then ((spec_l8Voiced.f (bt a0 (wrap64 ((a0.size : Int) - 1)))).bind fun t181 => (if t181 = true then (some 1) else (some 0))) else (none)) else (none))) else (some 0))
theorem spec_CountFinalVoiced.mono : ∀ a0 k, LeO (spec_CountFinalVoiced.f k a0) (spec_CountFinalVoiced.f (k + 1) a0) := by
 intro a0 k
 unfold spec_CountFinalVoiced.f
 repeat' first
   | (with_reducible exact spec_IsForm.mono _ _)
   | (with_reducible exact LeO.refl _)
   | (with_reducible exact LeO.none _)
   | (with_reducible refine LeO.ite ?_ ?_)
   | (with_reducible refine LeO.bind ?_ (fun _ => ?_))
   | exact spec_IsForm.mono _ _
   | exact LeO.none _
   | refine LeO.ite ?_ ?_
   | refine LeO.bind ?_ (fun _ => ?_)
set_option maxHeartbeats 8000000 in
set_option maxRecDepth 100000 in
theorem spec_CountFinalVoiced.calls (k : Nat) (a0 : ByteArray) (r : Int) (w : World) (h : spec_CountFinalVoiced.f k a0 = some r) :
  Calls Tryz.prog 108 #[.string a0] w fun e w' => e = .returned (.int .i64 r) ∧ Drawn0 w w' := by
 have H := h; unfold spec_CountFinalVoiced.f at H; clear h; replace H := Option.bind_eq_some_iff.mp H; obtain ⟨t180, A20, H⟩ := H; have A2 := Aside0.mk A20; clear A20
 by_cases c3 : t180 = true
 ·subst c3
  rw [if_pos rfl] at H; have H1 := H; clear H; have H := H1; clear H1
  by_cases c4 : a0.toList = ([] : List UInt8)
  ·rw [if_pos c4] at H
   have c4b0 : (a0.toList == ([] : List UInt8)) = true := beq_iff_eq.mpr c4
   have c4b1 : (a0.toList != ([] : List UInt8)) = false := bne_eq_false_iff_eq.mpr c4
   clear c4
   obtain rfl := Option.some.inj H
   go_enter Tryz.func108, Tryz.ntmps108
   go_wp2_with (first | ((with_reducible refine gate_callee (f := 36) rfl ?_); refine goesL_ (some 4) rfl rfl Tryz.func36 (by kernel_rfl) rfl #[.string a0] rfl eqT ?_; (with_reducible refine (spec_IsForm.calls k a0 true _ A2.out).mono ?_); rintro e w' ⟨rfl, ⟨nd, rfl⟩⟩; refine ⟨_, rfl, ?_⟩))
   go_ret
   exact ⟨rdT, drT⟩
  ·rw [if_neg c4] at H
   have c4b0 : (a0.toList == ([] : List UInt8)) = false := beq_eq_false_iff_ne.mpr c4
   have c4b1 : (a0.toList != ([] : List UInt8)) = true := bne_iff_ne.mpr c4
   obtain ⟨ji5, hji5⟩ : ∃ j_ : Int, (wrap64 ((a0.size : Int) - 1)) = j_ := ⟨_, rfl⟩
   replace H : (if 0 ≤ (ji5) then (if (ji5) < (a0.size : Int) then ((spec_l8Voiced.f (bt a0 (ji5))).bind fun t181 => (if t181 = true then (some 1) else (some 0))) else (none)) else (none)) = some r := by first | (rw [hji5] at H; exact H) | (simp only [hji5] at H ⊢; exact H)
   (try rw [hji5] at A2)
   have hji5w : (IntKind.i64.wrap ((a0.size : Int) - 1)) = ji5 := (i64_w _).trans hji5
   by_cases c6 : 0 ≤ (ji5)
   ·rw [if_pos c6] at H
    have c6b0 : decide (0 ≤ (ji5)) = true := decide_eq_true c6
    clear c6
    by_cases c7 : (ji5) < (a0.size : Int)
    ·rw [if_pos c7] at H
     have c7b0 : decide ((ji5) < (a0.size : Int)) = true := decide_eq_true c7
     clear c7; replace H := Option.bind_eq_some_iff.mp H; obtain ⟨t181, A90, H⟩ := H; have A9 := Aside0.mk A90; clear A90
     by_cases c10 : t181 = true
     ·subst c10
      rw [if_pos rfl] at H; have H1 := H; clear H; have H := H1; clear H1
      obtain rfl := Option.some.inj H
      go_enter Tryz.func108, Tryz.ntmps108
      go_wp2_with (first | ((with_reducible refine gate_callee (f := 36) rfl ?_); refine goesL_ (some 4) rfl rfl Tryz.func36 (by kernel_rfl) rfl #[.string a0] rfl eqT ?_; (with_reducible refine (spec_IsForm.calls k a0 true _ A2.out).mono ?_); rintro e w' ⟨rfl, ⟨nd, rfl⟩⟩; refine ⟨_, rfl, ?_⟩; have p8 : 0 ≤ ((ji5) : Int) := of_decide_eq_true asmT; have q8 : (ji5) < (a0.size : Int) := of_decide_eq_true asmT; have hx8 := bt_at a0 (ji5); replace p8 := eq_true p8; replace q8 := eq_true q8) | (go_at_call 139; (with_reducible refine (spec_l8Voiced.calls (bt a0 (ji5)) true _ A9.out).mono ?_); rintro e w' ⟨rfl, ⟨nd, rfl⟩⟩))
      go_ret
      exact ⟨by first | rfl | (simp; done) | (simp only [← hji5] <;> (first | rfl | simp)) | (simp [*]; done), drT⟩
     ·replace c10 := Bool.eq_false_iff.mpr c10
      subst c10; rw [if_neg (show ¬ (false = true) by decide)] at H; have H1 := H; clear H; have H := H1; clear H1
      obtain rfl := Option.some.inj H
      go_enter Tryz.func108, Tryz.ntmps108
      go_wp2_with (first | ((with_reducible refine gate_callee (f := 36) rfl ?_); refine goesL_ (some 4) rfl rfl Tryz.func36 (by kernel_rfl) rfl #[.string a0] rfl eqT ?_; (with_reducible refine (spec_IsForm.calls k a0 true _ A2.out).mono ?_); rintro e w' ⟨rfl, ⟨nd, rfl⟩⟩; refine ⟨_, rfl, ?_⟩; have p8 : 0 ≤ ((ji5) : Int) := of_decide_eq_true asmT; have q8 : (ji5) < (a0.size : Int) := of_decide_eq_true asmT; have hx8 := bt_at a0 (ji5); replace p8 := eq_true p8; replace q8 := eq_true q8) | (go_at_call 139; (with_reducible refine (spec_l8Voiced.calls (bt a0 (ji5)) false _ A9.out).mono ?_); rintro e w' ⟨rfl, ⟨nd, rfl⟩⟩))
      go_ret
      exact ⟨by first | rfl | (simp; done) | (simp only [← hji5] <;> (first | rfl | simp)) | (simp [*]; done), drT⟩
    ·rw [if_neg c7] at H
     exact absurd H (by simp)
   ·rw [if_neg c6] at H
    exact absurd H (by simp)
 ·replace c3 := Bool.eq_false_iff.mpr c3
  subst c3; rw [if_neg (show ¬ (false = true) by decide)] at H; have H1 := H; clear H; have H := H1; clear H1
  obtain rfl := Option.some.inj H
  go_enter Tryz.func108, Tryz.ntmps108
  go_wp2_with (first | ((with_reducible refine gate_callee (f := 36) rfl ?_); refine goesL_ (some 4) rfl rfl Tryz.func36 (by kernel_rfl) rfl #[.string a0] rfl eqT ?_; (with_reducible refine (spec_IsForm.calls k a0 false _ A2.out).mono ?_); rintro e w' ⟨rfl, ⟨nd, rfl⟩⟩; refine ⟨_, rfl, ?_⟩))
  go_ret
  exact ⟨rdT, drT⟩

/-! ### spec_CountNasalVoiceless: function 109 -/
mutual
def spec_CountNasalVoiceless.l0 : Nat → ByteArray → Int → Int → Option (Int)
 | 0, _, _, _ => none
 | k + 1, x0, x3, x4 => if x4 < (x0.size : Int) then ((spec_IsForm.f k x0).bind fun t182 => (spec_CountNasalVoiceless.j1 k x0 x3 x4 t182)) else (spec_CountNasalVoiceless.j1 k x0 x3 x4 false)
def spec_CountNasalVoiceless.j1 : Nat → ByteArray → Int → Int → Bool → Option (Int)
 | 0, _, _, _, _ => none
 | k + 1, x0, x3, x4, x12 => if x12 = true then (if 0 ≤ (wrap64 (x4 - 1)) then (if (wrap64 (x4 - 1)) < (x0.size : Int) then ((spec_HasFeature.f (bt x0 (wrap64 (x4 - 1))) 2).bind fun t183 => (if t183 = true then (if 0 ≤ x4 then (if x4 < (x0.size : Int) then ((spec_IsObstruent.f (bt x0 x4)).bind fun t184 => (if t184 = true then ((spec_HasFeature.f (bt x0 x4) 1).bind fun t185 => (if t185 = true then (spec_CountNasalVoiceless.l0 k x0 x3 (wrap64 (x4 + 1))) else (spec_CountNasalVoiceless.l0 k x0 (wrap64 (x3 + 1)) (wrap64 (x4 + 1))))) else (spec_CountNasalVoiceless.l0 k x0 x3 (wrap64 (x4 + 1))))) else (none)) else (none)) else (spec_CountNasalVoiceless.l0 k x0 x3 (wrap64 (x4 + 1))))) else (none)) else (none)) else (some x3)
end
def spec_CountNasalVoiceless.f (k : Nat) (a0 : ByteArray) : Option (Int) := spec_CountNasalVoiceless.l0 k a0 0 1
theorem spec_CountNasalVoiceless.mono_l : ∀ k, (∀ y0 y1 y2, LeO (spec_CountNasalVoiceless.l0 k y0 y1 y2) (spec_CountNasalVoiceless.l0 (k + 1) y0 y1 y2)) ∧ (∀ y0 y1 y2 y3, LeO (spec_CountNasalVoiceless.j1 k y0 y1 y2 y3) (spec_CountNasalVoiceless.j1 (k + 1) y0 y1 y2 y3))
 | 0 => ⟨fun _ _ _ r h => by simp [spec_CountNasalVoiceless.l0] at h, fun _ _ _ _ r h => by simp [spec_CountNasalVoiceless.j1] at h⟩
 | k + 1 => by
  obtain ⟨ih0, ih1⟩ := spec_CountNasalVoiceless.mono_l k; refine ⟨?_, ?_⟩
  ·intro y0 y1 y2
   unfold spec_CountNasalVoiceless.l0
   repeat' first
   | (with_reducible exact ih0 _ _ _)
   | (with_reducible exact ih1 _ _ _ _)
   | (with_reducible exact spec_IsForm.mono _ _)
   | (with_reducible exact LeO.refl _)
   | (with_reducible exact LeO.none _)
   | (with_reducible refine LeO.ite ?_ ?_)
   | (with_reducible refine LeO.bind ?_ (fun _ => ?_))
   | exact ih0 _ _ _
   | exact ih1 _ _ _ _
   | exact spec_IsForm.mono _ _
   | exact LeO.none _
   | refine LeO.ite ?_ ?_
   | refine LeO.bind ?_ (fun _ => ?_)
  ·intro y0 y1 y2 y3
   unfold spec_CountNasalVoiceless.j1
   repeat' first
   | (with_reducible exact ih0 _ _ _)
   | (with_reducible exact ih1 _ _ _ _)
   | (with_reducible exact spec_IsForm.mono _ _)
   | (with_reducible exact LeO.refl _)
   | (with_reducible exact LeO.none _)
   | (with_reducible refine LeO.ite ?_ ?_)
   | (with_reducible refine LeO.bind ?_ (fun _ => ?_))
   | exact ih0 _ _ _
   | exact ih1 _ _ _ _
   | exact spec_IsForm.mono _ _
   | exact LeO.none _
   | refine LeO.ite ?_ ?_
   | refine LeO.bind ?_ (fun _ => ?_)
theorem spec_CountNasalVoiceless.mono : ∀ a0 k, LeO (spec_CountNasalVoiceless.f k a0) (spec_CountNasalVoiceless.f (k + 1) a0) := by
 intro a0 k
 obtain ⟨ih0, ih1⟩ := spec_CountNasalVoiceless.mono_l k
 unfold spec_CountNasalVoiceless.f
 repeat' first
   | (with_reducible exact ih0 _ _ _)
   | (with_reducible exact ih1 _ _ _ _)
   | (with_reducible exact spec_IsForm.mono _ _)
   | (with_reducible exact LeO.refl _)
   | (with_reducible exact LeO.none _)
   | (with_reducible refine LeO.ite ?_ ?_)
   | (with_reducible refine LeO.bind ?_ (fun _ => ?_))
   | exact ih0 _ _ _
   | exact ih1 _ _ _ _
   | exact spec_IsForm.mono _ _
   | exact LeO.none _
   | refine LeO.ite ?_ ?_
   | refine LeO.bind ?_ (fun _ => ?_)
set_option maxHeartbeats 8000000 in
set_option maxRecDepth 100000 in
theorem spec_CountNasalVoiceless.calls (k : Nat) (a0 : ByteArray) (r : Int) (w : World) (h : spec_CountNasalVoiceless.f k a0 = some r) :
  Calls Tryz.prog 109 #[.string a0] w fun e w' => e = .returned (.int .i64 r) ∧ Drawn0 w w' := by
 have H := h; unfold spec_CountNasalVoiceless.f at H; clear h; have H' := Aside0.mk H; clear H
 go_enter Tryz.func109, Tryz.ntmps109
 go_wp2
 go_loopg [3, 4] k (fun kq v3 v4 w' => ∃ (x3_1 : Int) (x4_1 : Int), v3 = .int .i64 x3_1 ∧ v4 = .int .i64 x4_1 ∧ Aside0 (spec_CountNasalVoiceless.l0 kq a0 x3_1 x4_1 = some r) ∧ Aside0 (kq ≤ k) ∧ Drawn0 w w')
 case atStart => exact ⟨(0), (1), rdT, rdT, H', ⟨Nat.le_refl _⟩, drT⟩
 case round =>
  clear H'; (try clear c1); obtain ⟨x3_1, x4_1, rfl, rfl, HA, HK1, ⟨m1, rfl⟩⟩ := hrel
  cases gk with
  | zero => exact absurd HA.out (by simp [spec_CountNasalVoiceless.l0])
  | succ k1 =>
   have H := HA.out; clear HA
   simp only [spec_CountNasalVoiceless.l0] at H
   have HC2 := Aside0.mk H; clear H
   go_upto_region 3 with (fail)
   go_cut [12] (fun v12 wc => ∃ (kq : Nat) (x12_1 : Bool), v12 = .bool x12_1 ∧ Aside0 (spec_CountNasalVoiceless.j1 kq a0 x3_1 x4_1 x12_1 = some r) ∧ Aside0 (kq ≤ k1) ∧ Drawn0 w wc)
   case first =>
    have H := HC2.out; clear HC2
    by_cases c3 : x4_1 < (a0.size : Int)
    ·rw [if_pos c3] at H
     have c3b0 : decide (x4_1 < (a0.size : Int)) = true := decide_eq_true c3
     clear c3
     (first | rw [c3b0] | (simp only [i64_w, i32_w]; rw [c3b0]) | skip)
     replace H := Option.bind_eq_some_iff.mp H; obtain ⟨t182, A40, H⟩ := H; have A4 := Aside0.mk A40; clear A40; have H' := Aside0.mk H; clear H
     go_wp2_with (first | (go_at_call 36; (with_reducible refine (spec_IsForm.calls k1 a0 t182 _ A4.out).mono ?_); rintro e w' ⟨rfl, ⟨nd, rfl⟩⟩))
     go_meet
     case rel => exact ⟨_, (t182), rdT, H', ⟨by have := HK1.out; first | omega | exact Nat.le_refl _⟩, drT⟩
    ·rw [if_neg c3] at H
     have c3b0 : decide (x4_1 < (a0.size : Int)) = false := decide_eq_false c3
     clear c3
     (first | rw [c3b0] | (simp only [i64_w, i32_w]; rw [c3b0]) | skip)
     have H' := Aside0.mk H; clear H
     go_wp2
     go_meet
     case rel => exact ⟨_, (false), rdT, H', ⟨by have := HK1.out; first | omega | exact Nat.le_refl _⟩, drT⟩
   case rest =>
    clear HC2; (try clear c1); (try clear p2); (try clear c3); (try clear c3b0); obtain ⟨kq, x12_1, rfl, HA, HJ1, ⟨mc1, rfl⟩⟩ := hcut
    cases kq with
    | zero => exact absurd HA.out (by simp [spec_CountNasalVoiceless.j1])
    | succ kj1 =>
     have H := HA.out; clear HA
     simp only [spec_CountNasalVoiceless.j1] at H
     by_cases c5 : x12_1 = true
     ·subst c5
      rw [if_pos rfl] at H; have H1 := H; clear H; have H := H1; clear H1; obtain ⟨ji6, hji6⟩ : ∃ j_ : Int, (wrap64 (x4_1 - 1)) = j_ := ⟨_, rfl⟩
      replace H : (if 0 ≤ (ji6) then (if (ji6) < (a0.size : Int) then ((spec_HasFeature.f (bt a0 (ji6)) 2).bind fun t183 => (if t183 = true then (if 0 ≤ x4_1 then (if x4_1 < (a0.size : Int) then ((spec_IsObstruent.f (bt a0 x4_1)).bind fun t184 => (if t184 = true then ((spec_HasFeature.f (bt a0 x4_1) 1).bind fun t185 => (if t185 = true then (spec_CountNasalVoiceless.l0 kj1 a0 x3_1 (wrap64 (x4_1 + 1))) else (spec_CountNasalVoiceless.l0 kj1 a0 (wrap64 (x3_1 + 1)) (wrap64 (x4_1 + 1))))) else (spec_CountNasalVoiceless.l0 kj1 a0 x3_1 (wrap64 (x4_1 + 1))))) else (none)) else (none)) else (spec_CountNasalVoiceless.l0 kj1 a0 x3_1 (wrap64 (x4_1 + 1))))) else (none)) else (none)) = some r := by first | (rw [hji6] at H; exact H) | (simp only [hji6] at H ⊢; exact H)
      have hji6w : (IntKind.i64.wrap (x4_1 - 1)) = ji6 := (i64_w _).trans hji6
      by_cases c7 : 0 ≤ (ji6)
      ·rw [if_pos c7] at H
       have c7b0 : decide (0 ≤ (ji6)) = true := decide_eq_true c7
       clear c7
       by_cases c8 : (ji6) < (a0.size : Int)
       ·rw [if_pos c8] at H
        have c8b0 : decide ((ji6) < (a0.size : Int)) = true := decide_eq_true c8
        clear c8; replace H := Option.bind_eq_some_iff.mp H; obtain ⟨t183, A100, H⟩ := H; have A10 := Aside0.mk A100; clear A100
        by_cases c11 : t183 = true
        ·subst c11
         rw [if_pos rfl] at H; have H1 := H; clear H; have H := H1; clear H1
         by_cases c12 : 0 ≤ x4_1
         ·rw [if_pos c12] at H
          have c12b0 : decide (0 ≤ x4_1) = true := decide_eq_true c12
          clear c12
          by_cases c13 : x4_1 < (a0.size : Int)
          ·rw [if_pos c13] at H
           have c13b0 : decide (x4_1 < (a0.size : Int)) = true := decide_eq_true c13
           clear c13; replace H := Option.bind_eq_some_iff.mp H; obtain ⟨t184, A150, H⟩ := H; have A15 := Aside0.mk A150; clear A150
           by_cases c16 : t184 = true
           ·subst c16
            rw [if_pos rfl] at H; have H1 := H; clear H; have H := H1; clear H1; replace H := Option.bind_eq_some_iff.mp H; obtain ⟨t185, A180, H⟩ := H; have A18 := Aside0.mk A180; clear A180
            by_cases c19 : t185 = true
            ·subst c19
             rw [if_pos rfl] at H; have H1 := H; clear H; have H := H1; clear H1; have H' := Aside0.mk H; clear H
             have p9 : 0 ≤ ((ji6) : Int) := of_decide_eq_true asmT
             have q9 : (ji6) < (a0.size : Int) := of_decide_eq_true asmT
             have hx9 := bt_at a0 (ji6); replace p9 := eq_true p9; replace q9 := eq_true q9
             go_wp2_with (first | ((with_reducible refine gate_callee (f := 140) rfl ?_); refine goesL_ (some 19) rfl rfl Tryz.func140 (by kernel_rfl) rfl #[.int .u8 (bt a0 (ji6)), .int .i64 2] rfl (by (try simp only [List.map_toArray, List.map_cons, List.map_nil]); first | done | (simp only [hji6]; rfl) | rfl | (simp only [List.length_drop, List.length_take]; rfl)) ?_; (with_reducible refine (spec_HasFeature.calls (bt a0 (ji6)) 2 true _ A10.out).mono ?_); rintro e w' ⟨rfl, ⟨nd, rfl⟩⟩; refine ⟨_, rfl, ?_⟩; have p14 : 0 ≤ (x4_1 : Int) := of_decide_eq_true asmT; have q14 : x4_1 < (a0.size : Int) := of_decide_eq_true asmT; have hx14 := bt_at a0 x4_1; replace p14 := eq_true p14; replace q14 := eq_true q14) | (go_at_call 141; (with_reducible refine (spec_IsObstruent.calls (bt a0 x4_1) true _ A15.out).mono ?_); rintro e w' ⟨rfl, ⟨nd, rfl⟩⟩; have p17 : 0 ≤ (x4_1 : Int) := of_decide_eq_true asmT; have q17 : x4_1 < (a0.size : Int) := of_decide_eq_true asmT; have hx17 := bt_at a0 x4_1; replace p17 := eq_true p17; replace q17 := eq_true q17) | (go_at_call 140; (with_reducible refine (spec_HasFeature.calls (bt a0 x4_1) 1 true _ A18.out).mono ?_); rintro e w' ⟨rfl, ⟨nd, rfl⟩⟩))
             go_roundg kj1
             case measure => have := HK1.out; have := HJ1.out; omega
             case rel => exact ⟨(x3_1), (wrap64 (x4_1 + 1)), rdT, rdT, H', ⟨by have := HK1.out; have := HJ1.out; omega⟩, drT⟩
            ·replace c19 := Bool.eq_false_iff.mpr c19
             subst c19; rw [if_neg (show ¬ (false = true) by decide)] at H; have H1 := H; clear H; have H := H1; clear H1; have H' := Aside0.mk H; clear H
             have p9 : 0 ≤ ((ji6) : Int) := of_decide_eq_true asmT
             have q9 : (ji6) < (a0.size : Int) := of_decide_eq_true asmT
             have hx9 := bt_at a0 (ji6); replace p9 := eq_true p9; replace q9 := eq_true q9
             go_wp2_with (first | ((with_reducible refine gate_callee (f := 140) rfl ?_); refine goesL_ (some 19) rfl rfl Tryz.func140 (by kernel_rfl) rfl #[.int .u8 (bt a0 (ji6)), .int .i64 2] rfl (by (try simp only [List.map_toArray, List.map_cons, List.map_nil]); first | done | (simp only [hji6]; rfl) | rfl | (simp only [List.length_drop, List.length_take]; rfl)) ?_; (with_reducible refine (spec_HasFeature.calls (bt a0 (ji6)) 2 true _ A10.out).mono ?_); rintro e w' ⟨rfl, ⟨nd, rfl⟩⟩; refine ⟨_, rfl, ?_⟩; have p14 : 0 ≤ (x4_1 : Int) := of_decide_eq_true asmT; have q14 : x4_1 < (a0.size : Int) := of_decide_eq_true asmT; have hx14 := bt_at a0 x4_1; replace p14 := eq_true p14; replace q14 := eq_true q14) | (go_at_call 141; (with_reducible refine (spec_IsObstruent.calls (bt a0 x4_1) true _ A15.out).mono ?_); rintro e w' ⟨rfl, ⟨nd, rfl⟩⟩; have p17 : 0 ≤ (x4_1 : Int) := of_decide_eq_true asmT; have q17 : x4_1 < (a0.size : Int) := of_decide_eq_true asmT; have hx17 := bt_at a0 x4_1; replace p17 := eq_true p17; replace q17 := eq_true q17) | (go_at_call 140; (with_reducible refine (spec_HasFeature.calls (bt a0 x4_1) 1 false _ A18.out).mono ?_); rintro e w' ⟨rfl, ⟨nd, rfl⟩⟩))
             go_roundg kj1
             case measure => have := HK1.out; have := HJ1.out; omega
             case rel => exact ⟨(wrap64 (x3_1 + 1)), (wrap64 (x4_1 + 1)), rdT, rdT, H', ⟨by have := HK1.out; have := HJ1.out; omega⟩, drT⟩
           ·replace c16 := Bool.eq_false_iff.mpr c16
            subst c16; rw [if_neg (show ¬ (false = true) by decide)] at H; have H1 := H; clear H; have H := H1; clear H1; have H' := Aside0.mk H; clear H
            have p9 : 0 ≤ ((ji6) : Int) := of_decide_eq_true asmT
            have q9 : (ji6) < (a0.size : Int) := of_decide_eq_true asmT
            have hx9 := bt_at a0 (ji6); replace p9 := eq_true p9; replace q9 := eq_true q9
            go_wp2_with (first | ((with_reducible refine gate_callee (f := 140) rfl ?_); refine goesL_ (some 19) rfl rfl Tryz.func140 (by kernel_rfl) rfl #[.int .u8 (bt a0 (ji6)), .int .i64 2] rfl (by (try simp only [List.map_toArray, List.map_cons, List.map_nil]); first | done | (simp only [hji6]; rfl) | rfl | (simp only [List.length_drop, List.length_take]; rfl)) ?_; (with_reducible refine (spec_HasFeature.calls (bt a0 (ji6)) 2 true _ A10.out).mono ?_); rintro e w' ⟨rfl, ⟨nd, rfl⟩⟩; refine ⟨_, rfl, ?_⟩; have p14 : 0 ≤ (x4_1 : Int) := of_decide_eq_true asmT; have q14 : x4_1 < (a0.size : Int) := of_decide_eq_true asmT; have hx14 := bt_at a0 x4_1; replace p14 := eq_true p14; replace q14 := eq_true q14) | (go_at_call 141; (with_reducible refine (spec_IsObstruent.calls (bt a0 x4_1) false _ A15.out).mono ?_); rintro e w' ⟨rfl, ⟨nd, rfl⟩⟩))
            go_roundg kj1
            case measure => have := HK1.out; have := HJ1.out; omega
            case rel => exact ⟨(x3_1), (wrap64 (x4_1 + 1)), rdT, rdT, H', ⟨by have := HK1.out; have := HJ1.out; omega⟩, drT⟩
          ·rw [if_neg c13] at H
           exact absurd H (by simp)
         ·rw [if_neg c12] at H
          exact absurd H (by simp)
        ·replace c11 := Bool.eq_false_iff.mpr c11
         subst c11; rw [if_neg (show ¬ (false = true) by decide)] at H; have H1 := H; clear H; have H := H1; clear H1; have H' := Aside0.mk H; clear H
         have p9 : 0 ≤ ((ji6) : Int) := of_decide_eq_true asmT
         have q9 : (ji6) < (a0.size : Int) := of_decide_eq_true asmT
         have hx9 := bt_at a0 (ji6); replace p9 := eq_true p9; replace q9 := eq_true q9
         go_wp2_with (first | ((with_reducible refine gate_callee (f := 140) rfl ?_); refine goesL_ (some 19) rfl rfl Tryz.func140 (by kernel_rfl) rfl #[.int .u8 (bt a0 (ji6)), .int .i64 2] rfl (by (try simp only [List.map_toArray, List.map_cons, List.map_nil]); first | done | (simp only [hji6]; rfl) | rfl | (simp only [List.length_drop, List.length_take]; rfl)) ?_; (with_reducible refine (spec_HasFeature.calls (bt a0 (ji6)) 2 false _ A10.out).mono ?_); rintro e w' ⟨rfl, ⟨nd, rfl⟩⟩; refine ⟨_, rfl, ?_⟩))
         go_roundg kj1
         case measure => have := HK1.out; have := HJ1.out; omega
         case rel => exact ⟨(x3_1), (wrap64 (x4_1 + 1)), rdT, rdT, H', ⟨by have := HK1.out; have := HJ1.out; omega⟩, drT⟩
       ·rw [if_neg c8] at H
        exact absurd H (by simp)
      ·rw [if_neg c7] at H
       exact absurd H (by simp)
     ·replace c5 := Bool.eq_false_iff.mpr c5
      subst c5; rw [if_neg (show ¬ (false = true) by decide)] at H; have H1 := H; clear H; have H := H1; clear H1
      obtain rfl := Option.some.inj H
      go_wp2
      go_ret
      exact ⟨rdT, drT⟩

/-! ### spec_CountDeleted: function 110 -/
mutual
def spec_CountDeleted.l0 : Nat → Int → Int → List (S89) → Option (Int)
 | 0, _, _, _ => none
 | k + 1, x3, x4, x187000 => if x4 < (x187000.length : Int) then ((spec_IsCandidate.f k x187000).bind fun t187 => (spec_CountDeleted.j1 k x3 x4 t187 x187000)) else (spec_CountDeleted.j1 k x3 x4 false x187000)
def spec_CountDeleted.j1 : Nat → Int → Int → Bool → List (S89) → Option (Int)
 | 0, _, _, _, _ => none
 | k + 1, x3, x4, x13, x187000 => if x13 = true then (if 0 ≤ x4 then (if x4 < (x187000.length : Int) then (if ((rd_T89 x187000 x4).f1) = 0 then (spec_CountDeleted.l0 k (wrap64 (x3 + 1)) (wrap64 (x4 + 1)) x187000) else (spec_CountDeleted.l0 k x3 (wrap64 (x4 + 1)) x187000)) else (none)) else (none)) else (some x3)
end
def spec_CountDeleted.f (k : Nat) (l0_0 : List (S89)) : Option (Int) := spec_CountDeleted.l0 k 0 0 l0_0
theorem spec_CountDeleted.mono_l : ∀ k, (∀ y0 y1 y2, LeO (spec_CountDeleted.l0 k y0 y1 y2) (spec_CountDeleted.l0 (k + 1) y0 y1 y2)) ∧ (∀ y0 y1 y2 y3, LeO (spec_CountDeleted.j1 k y0 y1 y2 y3) (spec_CountDeleted.j1 (k + 1) y0 y1 y2 y3))
 | 0 => ⟨fun _ _ _ r h => by simp [spec_CountDeleted.l0] at h, fun _ _ _ _ r h => by simp [spec_CountDeleted.j1] at h⟩
 | k + 1 => by
  obtain ⟨ih0, ih1⟩ := spec_CountDeleted.mono_l k; refine ⟨?_, ?_⟩
  ·intro y0 y1 y2
   unfold spec_CountDeleted.l0
   repeat' first
   | (with_reducible exact ih0 _ _ _)
   | (with_reducible exact ih1 _ _ _ _)
   | (with_reducible exact spec_IsCandidate.mono _ _)
   | (with_reducible exact LeO.refl _)
   | (with_reducible exact LeO.none _)
   | (with_reducible refine LeO.ite ?_ ?_)
   | (with_reducible refine LeO.bind ?_ (fun _ => ?_))
   | exact ih0 _ _ _
   | exact ih1 _ _ _ _
   | exact spec_IsCandidate.mono _ _
   | exact LeO.none _
   | refine LeO.ite ?_ ?_
   | refine LeO.bind ?_ (fun _ => ?_)
  ·intro y0 y1 y2 y3
   unfold spec_CountDeleted.j1
   repeat' first
   | (with_reducible exact ih0 _ _ _)
   | (with_reducible exact ih1 _ _ _ _)
   | (with_reducible exact spec_IsCandidate.mono _ _)
   | (with_reducible exact LeO.refl _)
   | (with_reducible exact LeO.none _)
   | (with_reducible refine LeO.ite ?_ ?_)
   | (with_reducible refine LeO.bind ?_ (fun _ => ?_))
   | exact ih0 _ _ _
   | exact ih1 _ _ _ _
   | exact spec_IsCandidate.mono _ _
   | exact LeO.none _
   | refine LeO.ite ?_ ?_
   | refine LeO.bind ?_ (fun _ => ?_)
theorem spec_CountDeleted.mono : ∀ a0 k, LeO (spec_CountDeleted.f k a0) (spec_CountDeleted.f (k + 1) a0) := by
 intro a0 k
 obtain ⟨ih0, ih1⟩ := spec_CountDeleted.mono_l k
 unfold spec_CountDeleted.f
 repeat' first
   | (with_reducible exact ih0 _ _ _)
   | (with_reducible exact ih1 _ _ _ _)
   | (with_reducible exact spec_IsCandidate.mono _ _)
   | (with_reducible exact LeO.refl _)
   | (with_reducible exact LeO.none _)
   | (with_reducible refine LeO.ite ?_ ?_)
   | (with_reducible refine LeO.bind ?_ (fun _ => ?_))
   | exact ih0 _ _ _
   | exact ih1 _ _ _ _
   | exact spec_IsCandidate.mono _ _
   | exact LeO.none _
   | refine LeO.ite ?_ ?_
   | refine LeO.bind ?_ (fun _ => ?_)
set_option maxHeartbeats 8000000 in
set_option maxRecDepth 100000 in
theorem spec_CountDeleted.calls (k : Nat) (A0_0 : Option Addr) (c0_0 : Nat) (l0_0 : List (S89)) (r : Int) (w : World) (hr0_0 : Kd.C k89 w A0_0 l0_0.length l0_0) (hc0_0 : l0_0.length ≤ c0_0) (h : spec_CountDeleted.f k l0_0 = some r) :
  Calls Tryz.prog 110 #[.agg #[.slice A0_0 l0_0.length c0_0]] w fun e w' => e = .returned (.int .i64 r) ∧ Below w.heap.size w w' := by
 have hu61 := Tryz.underlying61; have HR0_0 := Aside0.mk hr0_0; have HC0_0 := Aside0.mk hc0_0; clear hr0_0 hc0_0; have HB := asT (Below.refl w.heap.size w); have H := h; unfold spec_CountDeleted.f at H; clear h; have H' := Aside0.mk H; clear H
 go_enter Tryz.func110, Tryz.ntmps110
 go_wp2_with (first | ((with_reducible refine gate_dst (N := 1) rfl ?_); refine boxT (N := 1) (cs := #[.slice A0_0 l0_0.length c0_0]) (t := 61) ?_; intro gb186 hg w2 hbox hb; have BK186 := asT hbox; have GW186 := asT (geT hg HB.out); have GE186 := GW186; replace HB := asT (below_step (hbT HB.out) hb); clear hb hbox hg))
 go_loopg [3, 4] k (fun kq v3 v4 w' => ∃ (x3_1 : Int) (x4_1 : Int), v3 = .int .i64 x3_1 ∧ v4 = .int .i64 x4_1 ∧ Aside0 (spec_CountDeleted.l0 kq x3_1 x4_1 l0_0 = some r) ∧ Aside0 (kq ≤ k) ∧ Aside0 (w'.heap[gb186]? = some (.cells #[(.slice A0_0 l0_0.length c0_0)] 61 (0, 0))) ∧ Aside0 (Below w.heap.size w w'))
 case atStart => exact ⟨(0), (0), rdT, rdT, H', ⟨Nat.le_refl _⟩, ⟨by (with_reducible repeat (first | refine blk_drewN ?_ _ | refine blk_drew ?_ | refine blk_alloc ?_ _)); exact BK186.out⟩, ⟨hbT HB.out⟩⟩
 case round =>
  clear H'; (try clear c1); (try clear p2); obtain ⟨x3_1, x4_1, rfl, rfl, HA, HK1, BK186, HB⟩ := hrel
  cases gk with
  | zero => exact absurd HA.out (by simp [spec_CountDeleted.l0])
  | succ k1 =>
   have H := HA.out; clear HA
   simp only [spec_CountDeleted.l0] at H
   have HC3 := Aside0.mk H; clear H
   go_upto_region 3 with (fail)
   go_cut [13] (fun v13 wc => ∃ (kq : Nat) (x13_2 : Bool), v13 = .bool x13_2 ∧ Aside0 (spec_CountDeleted.j1 kq x3_1 x4_1 x13_2 l0_0 = some r) ∧ Aside0 (kq ≤ k1) ∧ Aside0 (wc.heap[gb186]? = some (.cells #[(.slice A0_0 l0_0.length c0_0)] 61 (0, 0))) ∧ Aside0 (Below w.heap.size w wc))
   case first =>
    have H := HC3.out; clear HC3
    by_cases c4 : x4_1 < (l0_0.length : Int)
    ·rw [if_pos c4] at H
     have c4b0 : decide (x4_1 < (l0_0.length : Int)) = true := decide_eq_true c4
     clear c4
     (first | rw [c4b0] | (simp only [i64_w, i32_w]; rw [c4b0]) | skip)
     replace H := Option.bind_eq_some_iff.mp H; obtain ⟨t187, A50, H⟩ := H; have A5 := Aside0.mk A50; clear A50; have H' := Aside0.mk H; clear H
     have hcz6_0 : wr.cell? ⟨gb186, 0, none⟩ = some (.slice A0_0 l0_0.length c0_0) := (blk_cell BK186.out 0).trans rfl
     have hfz6_0 := blk_frozen BK186.out 0
     go_wp2_with (first | (go_at_call 39; (with_reducible refine (spec_IsCandidate.calls k1 _ _ l0_0 t187 _ ?side1 ?side2 A5.out).mono ?_); (case side1 => exact crT HR0_0.out HB.out); (case side2 => exact HC0_0.out); rintro e w7 ⟨rfl, hb⟩; replace BK186 := asT (blk_below (bkT BK186.out) hb); replace HB := asT (below_step (hbT HB.out) hb); (try clear hb); (try clear hb2); (try clear hk); (try clear hi)))
     go_meet
     case rel => exact ⟨_, (t187), rdT, H', ⟨by have := HK1.out; first | omega | exact Nat.le_refl _⟩, ⟨by (with_reducible repeat (first | refine blk_drewN ?_ _ | refine blk_drew ?_ | refine blk_alloc ?_ _)); exact BK186.out⟩, ⟨hbT HB.out⟩⟩
    ·rw [if_neg c4] at H
     have c4b0 : decide (x4_1 < (l0_0.length : Int)) = false := decide_eq_false c4
     clear c4
     (first | rw [c4b0] | (simp only [i64_w, i32_w]; rw [c4b0]) | skip)
     have H' := Aside0.mk H; clear H
     have hcz8_0 : wr.cell? ⟨gb186, 0, none⟩ = some (.slice A0_0 l0_0.length c0_0) := (blk_cell BK186.out 0).trans rfl
     have hfz8_0 := blk_frozen BK186.out 0
     go_wp2
     go_meet
     case rel => exact ⟨_, (false), rdT, H', ⟨by have := HK1.out; first | omega | exact Nat.le_refl _⟩, ⟨by (with_reducible repeat (first | refine blk_drewN ?_ _ | refine blk_drew ?_ | refine blk_alloc ?_ _)); exact BK186.out⟩, ⟨hbT HB.out⟩⟩
   case rest =>
    clear HC3; (try clear c1); (try clear p2); (try clear c4); (try clear c4b0); (try clear hcz6_0); (try clear hcz8_0); (try clear hfz6_0); (try clear hfz8_0); (try clear p2); obtain ⟨kq, x13_2, rfl, HA, HJ2, BK186, HB⟩ := hcut
    cases kq with
    | zero => exact absurd HA.out (by simp [spec_CountDeleted.j1])
    | succ kj2 =>
     have H := HA.out; clear HA
     simp only [spec_CountDeleted.j1] at H
     by_cases c9 : x13_2 = true
     ·subst c9
      rw [if_pos rfl] at H; have H1 := H; clear H; have H := H1; clear H1
      by_cases c10 : 0 ≤ x4_1
      ·rw [if_pos c10] at H
       have c10b0 : decide (0 ≤ x4_1) = true := decide_eq_true c10
       clear c10
       by_cases c11 : x4_1 < (l0_0.length : Int)
       ·rw [if_pos c11] at H
        have c11b0 : decide (x4_1 < (l0_0.length : Int)) = true := decide_eq_true c11
        clear c11
        by_cases c12 : ((rd_T89 l0_0 x4_1).f1) = 0
        ·rw [if_pos c12] at H
         have c12b0 : (((rd_T89 l0_0 x4_1).f1) == 0) = true := beq_iff_eq.mpr c12
         have c12b1 : (((rd_T89 l0_0 x4_1).f1) != 0) = false := bne_eq_false_iff_eq.mpr c12
         clear c12; have H' := Aside0.mk H; clear H
         have hcz13_0 : wc.cell? ⟨gb186, 0, none⟩ = some (.slice A0_0 l0_0.length c0_0) := (blk_cell BK186.out 0).trans rfl
         have hfz13_0 := blk_frozen BK186.out 0
         have p188 : 0 ≤ (x4_1 : Int) := of_decide_eq_true asmT
         have q188 : x4_1 < (l0_0.length : Int) := of_decide_eq_true asmT
         obtain ⟨ad188, e188, hx188_0, hx188_1⟩ := at_T89 HR0_0.out x4_1 p188 q188
         cases e188
         replace hx188_0 := (HB.out.cell (World.block_lt_of_cell? w _ hx188_0)).trans hx188_0; replace hx188_1 := (HB.out.cell (World.block_lt_of_cell? w _ hx188_1)).trans hx188_1; replace p188 := eq_true p188; replace q188 := eq_true q188
         go_wp2
         go_roundg kj2
         case measure => have := HK1.out; have := HJ2.out; omega
         case rel => exact ⟨(wrap64 (x3_1 + 1)), (wrap64 (x4_1 + 1)), rdT, rdT, H', ⟨by have := HK1.out; have := HJ2.out; omega⟩, ⟨by (with_reducible repeat (first | refine blk_drewN ?_ _ | refine blk_drew ?_ | refine blk_alloc ?_ _)); exact BK186.out⟩, ⟨hbT HB.out⟩⟩
        ·rw [if_neg c12] at H
         have c12b0 : (((rd_T89 l0_0 x4_1).f1) == 0) = false := beq_eq_false_iff_ne.mpr c12
         have c12b1 : (((rd_T89 l0_0 x4_1).f1) != 0) = true := bne_iff_ne.mpr c12
         have H' := Aside0.mk H; clear H
         have hcz14_0 : wc.cell? ⟨gb186, 0, none⟩ = some (.slice A0_0 l0_0.length c0_0) := (blk_cell BK186.out 0).trans rfl
         have hfz14_0 := blk_frozen BK186.out 0
         have p188 : 0 ≤ (x4_1 : Int) := of_decide_eq_true asmT
         have q188 : x4_1 < (l0_0.length : Int) := of_decide_eq_true asmT
         obtain ⟨ad188, e188, hx188_0, hx188_1⟩ := at_T89 HR0_0.out x4_1 p188 q188
         cases e188
         replace hx188_0 := (HB.out.cell (World.block_lt_of_cell? w _ hx188_0)).trans hx188_0; replace hx188_1 := (HB.out.cell (World.block_lt_of_cell? w _ hx188_1)).trans hx188_1; replace p188 := eq_true p188; replace q188 := eq_true q188
         go_wp2
         go_roundg kj2
         case measure => have := HK1.out; have := HJ2.out; omega
         case rel => exact ⟨(x3_1), (wrap64 (x4_1 + 1)), rdT, rdT, H', ⟨by have := HK1.out; have := HJ2.out; omega⟩, ⟨by (with_reducible repeat (first | refine blk_drewN ?_ _ | refine blk_drew ?_ | refine blk_alloc ?_ _)); exact BK186.out⟩, ⟨hbT HB.out⟩⟩
       ·rw [if_neg c11] at H
        exact absurd H (by simp)
      ·rw [if_neg c10] at H
       exact absurd H (by simp)
     ·replace c9 := Bool.eq_false_iff.mpr c9
      subst c9; rw [if_neg (show ¬ (false = true) by decide)] at H; have H1 := H; clear H; have H := H1; clear H1
      obtain rfl := Option.some.inj H
      go_wp2
      go_ret
      exact ⟨rlT, hbT HB.out⟩

/-! ### spec_CountInserted: function 111 -/
mutual
def spec_CountInserted.l0 : Nat → Int → Int → List (S89) → Option (Int)
 | 0, _, _, _ => none
 | k + 1, x3, x4, x190000 => if x4 < (x190000.length : Int) then ((spec_IsCandidate.f k x190000).bind fun t190 => (spec_CountInserted.j1 k x3 x4 t190 x190000)) else (spec_CountInserted.j1 k x3 x4 false x190000)
def spec_CountInserted.j1 : Nat → Int → Int → Bool → List (S89) → Option (Int)
 | 0, _, _, _, _ => none
 | k + 1, x3, x4, x13, x190000 => if x13 = true then (if 0 ≤ x4 then (if x4 < (x190000.length : Int) then (if ((rd_T89 x190000 x4).f0) = 0 then (spec_CountInserted.l0 k (wrap64 (x3 + 1)) (wrap64 (x4 + 1)) x190000) else (spec_CountInserted.l0 k x3 (wrap64 (x4 + 1)) x190000)) else (none)) else (none)) else (some x3)
end
def spec_CountInserted.f (k : Nat) (l0_0 : List (S89)) : Option (Int) := spec_CountInserted.l0 k 0 0 l0_0
theorem spec_CountInserted.mono_l : ∀ k, (∀ y0 y1 y2, LeO (spec_CountInserted.l0 k y0 y1 y2) (spec_CountInserted.l0 (k + 1) y0 y1 y2)) ∧ (∀ y0 y1 y2 y3, LeO (spec_CountInserted.j1 k y0 y1 y2 y3) (spec_CountInserted.j1 (k + 1) y0 y1 y2 y3))
 | 0 => ⟨fun _ _ _ r h => by simp [spec_CountInserted.l0] at h, fun _ _ _ _ r h => by simp [spec_CountInserted.j1] at h⟩
 | k + 1 => by
  obtain ⟨ih0, ih1⟩ := spec_CountInserted.mono_l k; refine ⟨?_, ?_⟩
  ·intro y0 y1 y2
   unfold spec_CountInserted.l0
   repeat' first
   | (with_reducible exact ih0 _ _ _)
   | (with_reducible exact ih1 _ _ _ _)
   | (with_reducible exact spec_IsCandidate.mono _ _)
   | (with_reducible exact LeO.refl _)
   | (with_reducible exact LeO.none _)
   | (with_reducible refine LeO.ite ?_ ?_)
   | (with_reducible refine LeO.bind ?_ (fun _ => ?_))
   | exact ih0 _ _ _
   | exact ih1 _ _ _ _
   | exact spec_IsCandidate.mono _ _
   | exact LeO.none _
   | refine LeO.ite ?_ ?_
   | refine LeO.bind ?_ (fun _ => ?_)
  ·intro y0 y1 y2 y3
   unfold spec_CountInserted.j1
   repeat' first
   | (with_reducible exact ih0 _ _ _)
   | (with_reducible exact ih1 _ _ _ _)
   | (with_reducible exact spec_IsCandidate.mono _ _)
   | (with_reducible exact LeO.refl _)
   | (with_reducible exact LeO.none _)
   | (with_reducible refine LeO.ite ?_ ?_)
   | (with_reducible refine LeO.bind ?_ (fun _ => ?_))
   | exact ih0 _ _ _
   | exact ih1 _ _ _ _
   | exact spec_IsCandidate.mono _ _
   | exact LeO.none _
   | refine LeO.ite ?_ ?_
   | refine LeO.bind ?_ (fun _ => ?_)
theorem spec_CountInserted.mono : ∀ a0 k, LeO (spec_CountInserted.f k a0) (spec_CountInserted.f (k + 1) a0) := by
 intro a0 k
 obtain ⟨ih0, ih1⟩ := spec_CountInserted.mono_l k
 unfold spec_CountInserted.f
 repeat' first
   | (with_reducible exact ih0 _ _ _)
   | (with_reducible exact ih1 _ _ _ _)
   | (with_reducible exact spec_IsCandidate.mono _ _)
   | (with_reducible exact LeO.refl _)
   | (with_reducible exact LeO.none _)
   | (with_reducible refine LeO.ite ?_ ?_)
   | (with_reducible refine LeO.bind ?_ (fun _ => ?_))
   | exact ih0 _ _ _
   | exact ih1 _ _ _ _
   | exact spec_IsCandidate.mono _ _
   | exact LeO.none _
   | refine LeO.ite ?_ ?_
   | refine LeO.bind ?_ (fun _ => ?_)
set_option maxHeartbeats 8000000 in
set_option maxRecDepth 100000 in
theorem spec_CountInserted.calls (k : Nat) (A0_0 : Option Addr) (c0_0 : Nat) (l0_0 : List (S89)) (r : Int) (w : World) (hr0_0 : Kd.C k89 w A0_0 l0_0.length l0_0) (hc0_0 : l0_0.length ≤ c0_0) (h : spec_CountInserted.f k l0_0 = some r) :
  Calls Tryz.prog 111 #[.agg #[.slice A0_0 l0_0.length c0_0]] w fun e w' => e = .returned (.int .i64 r) ∧ Below w.heap.size w w' := by
 have hu61 := Tryz.underlying61; have HR0_0 := Aside0.mk hr0_0; have HC0_0 := Aside0.mk hc0_0; clear hr0_0 hc0_0; have HB := asT (Below.refl w.heap.size w); have H := h; unfold spec_CountInserted.f at H; clear h; have H' := Aside0.mk H; clear H
 go_enter Tryz.func111, Tryz.ntmps111
 go_wp2_with (first | ((with_reducible refine gate_dst (N := 1) rfl ?_); refine boxT (N := 1) (cs := #[.slice A0_0 l0_0.length c0_0]) (t := 61) ?_; intro gb189 hg w2 hbox hb; have BK189 := asT hbox; have GW189 := asT (geT hg HB.out); have GE189 := GW189; replace HB := asT (below_step (hbT HB.out) hb); clear hb hbox hg))
 go_loopg [3, 4] k (fun kq v3 v4 w' => ∃ (x3_1 : Int) (x4_1 : Int), v3 = .int .i64 x3_1 ∧ v4 = .int .i64 x4_1 ∧ Aside0 (spec_CountInserted.l0 kq x3_1 x4_1 l0_0 = some r) ∧ Aside0 (kq ≤ k) ∧ Aside0 (w'.heap[gb189]? = some (.cells #[(.slice A0_0 l0_0.length c0_0)] 61 (0, 0))) ∧ Aside0 (Below w.heap.size w w'))
 case atStart => exact ⟨(0), (0), rdT, rdT, H', ⟨Nat.le_refl _⟩, ⟨by (with_reducible repeat (first | refine blk_drewN ?_ _ | refine blk_drew ?_ | refine blk_alloc ?_ _)); exact BK189.out⟩, ⟨hbT HB.out⟩⟩
 case round =>
  clear H'; (try clear c1); (try clear p2); obtain ⟨x3_1, x4_1, rfl, rfl, HA, HK1, BK189, HB⟩ := hrel
  cases gk with
  | zero => exact absurd HA.out (by simp [spec_CountInserted.l0])
  | succ k1 =>
   have H := HA.out; clear HA
   simp only [spec_CountInserted.l0] at H
   have HC3 := Aside0.mk H; clear H
   go_upto_region 3 with (fail)
   go_cut [13] (fun v13 wc => ∃ (kq : Nat) (x13_2 : Bool), v13 = .bool x13_2 ∧ Aside0 (spec_CountInserted.j1 kq x3_1 x4_1 x13_2 l0_0 = some r) ∧ Aside0 (kq ≤ k1) ∧ Aside0 (wc.heap[gb189]? = some (.cells #[(.slice A0_0 l0_0.length c0_0)] 61 (0, 0))) ∧ Aside0 (Below w.heap.size w wc))
   case first =>
    have H := HC3.out; clear HC3
    by_cases c4 : x4_1 < (l0_0.length : Int)
    ·rw [if_pos c4] at H
     have c4b0 : decide (x4_1 < (l0_0.length : Int)) = true := decide_eq_true c4
     clear c4
     (first | rw [c4b0] | (simp only [i64_w, i32_w]; rw [c4b0]) | skip)
     replace H := Option.bind_eq_some_iff.mp H; obtain ⟨t190, A50, H⟩ := H; have A5 := Aside0.mk A50; clear A50; have H' := Aside0.mk H; clear H
     have hcz6_0 : wr.cell? ⟨gb189, 0, none⟩ = some (.slice A0_0 l0_0.length c0_0) := (blk_cell BK189.out 0).trans rfl
     have hfz6_0 := blk_frozen BK189.out 0
     go_wp2_with (first | (go_at_call 39; (with_reducible refine (spec_IsCandidate.calls k1 _ _ l0_0 t190 _ ?side1 ?side2 A5.out).mono ?_); (case side1 => exact crT HR0_0.out HB.out); (case side2 => exact HC0_0.out); rintro e w7 ⟨rfl, hb⟩; replace BK189 := asT (blk_below (bkT BK189.out) hb); replace HB := asT (below_step (hbT HB.out) hb); (try clear hb); (try clear hb2); (try clear hk); (try clear hi)))
     go_meet
     case rel => exact ⟨_, (t190), rdT, H', ⟨by have := HK1.out; first | omega | exact Nat.le_refl _⟩, ⟨by (with_reducible repeat (first | refine blk_drewN ?_ _ | refine blk_drew ?_ | refine blk_alloc ?_ _)); exact BK189.out⟩, ⟨hbT HB.out⟩⟩
    ·rw [if_neg c4] at H
     have c4b0 : decide (x4_1 < (l0_0.length : Int)) = false := decide_eq_false c4
     clear c4
     (first | rw [c4b0] | (simp only [i64_w, i32_w]; rw [c4b0]) | skip)
     have H' := Aside0.mk H; clear H
     have hcz8_0 : wr.cell? ⟨gb189, 0, none⟩ = some (.slice A0_0 l0_0.length c0_0) := (blk_cell BK189.out 0).trans rfl
     have hfz8_0 := blk_frozen BK189.out 0
     go_wp2
     go_meet
     case rel => exact ⟨_, (false), rdT, H', ⟨by have := HK1.out; first | omega | exact Nat.le_refl _⟩, ⟨by (with_reducible repeat (first | refine blk_drewN ?_ _ | refine blk_drew ?_ | refine blk_alloc ?_ _)); exact BK189.out⟩, ⟨hbT HB.out⟩⟩
   case rest =>
    clear HC3; (try clear c1); (try clear p2); (try clear c4); (try clear c4b0); (try clear hcz6_0); (try clear hcz8_0); (try clear hfz6_0); (try clear hfz8_0); (try clear p2); obtain ⟨kq, x13_2, rfl, HA, HJ2, BK189, HB⟩ := hcut
    cases kq with
    | zero => exact absurd HA.out (by simp [spec_CountInserted.j1])
    | succ kj2 =>
     have H := HA.out; clear HA
     simp only [spec_CountInserted.j1] at H
     by_cases c9 : x13_2 = true
     ·subst c9
      rw [if_pos rfl] at H; have H1 := H; clear H; have H := H1; clear H1
      by_cases c10 : 0 ≤ x4_1
      ·rw [if_pos c10] at H
       have c10b0 : decide (0 ≤ x4_1) = true := decide_eq_true c10
       clear c10
       by_cases c11 : x4_1 < (l0_0.length : Int)
       ·rw [if_pos c11] at H
        have c11b0 : decide (x4_1 < (l0_0.length : Int)) = true := decide_eq_true c11
        clear c11
        by_cases c12 : ((rd_T89 l0_0 x4_1).f0) = 0
        ·rw [if_pos c12] at H
         have c12b0 : (((rd_T89 l0_0 x4_1).f0) == 0) = true := beq_iff_eq.mpr c12
         have c12b1 : (((rd_T89 l0_0 x4_1).f0) != 0) = false := bne_eq_false_iff_eq.mpr c12
         clear c12; have H' := Aside0.mk H; clear H
         have hcz13_0 : wc.cell? ⟨gb189, 0, none⟩ = some (.slice A0_0 l0_0.length c0_0) := (blk_cell BK189.out 0).trans rfl
         have hfz13_0 := blk_frozen BK189.out 0
         have p191 : 0 ≤ (x4_1 : Int) := of_decide_eq_true asmT
         have q191 : x4_1 < (l0_0.length : Int) := of_decide_eq_true asmT
         obtain ⟨ad191, e191, hx191_0, hx191_1⟩ := at_T89 HR0_0.out x4_1 p191 q191
         cases e191
         replace hx191_0 := (HB.out.cell (World.block_lt_of_cell? w _ hx191_0)).trans hx191_0; replace hx191_1 := (HB.out.cell (World.block_lt_of_cell? w _ hx191_1)).trans hx191_1; replace p191 := eq_true p191; replace q191 := eq_true q191
         go_wp2
         go_roundg kj2
         case measure => have := HK1.out; have := HJ2.out; omega
         case rel => exact ⟨(wrap64 (x3_1 + 1)), (wrap64 (x4_1 + 1)), rdT, rdT, H', ⟨by have := HK1.out; have := HJ2.out; omega⟩, ⟨by (with_reducible repeat (first | refine blk_drewN ?_ _ | refine blk_drew ?_ | refine blk_alloc ?_ _)); exact BK189.out⟩, ⟨hbT HB.out⟩⟩
        ·rw [if_neg c12] at H
         have c12b0 : (((rd_T89 l0_0 x4_1).f0) == 0) = false := beq_eq_false_iff_ne.mpr c12
         have c12b1 : (((rd_T89 l0_0 x4_1).f0) != 0) = true := bne_iff_ne.mpr c12
         have H' := Aside0.mk H; clear H
         have hcz14_0 : wc.cell? ⟨gb189, 0, none⟩ = some (.slice A0_0 l0_0.length c0_0) := (blk_cell BK189.out 0).trans rfl
         have hfz14_0 := blk_frozen BK189.out 0
         have p191 : 0 ≤ (x4_1 : Int) := of_decide_eq_true asmT
         have q191 : x4_1 < (l0_0.length : Int) := of_decide_eq_true asmT
         obtain ⟨ad191, e191, hx191_0, hx191_1⟩ := at_T89 HR0_0.out x4_1 p191 q191
         cases e191
         replace hx191_0 := (HB.out.cell (World.block_lt_of_cell? w _ hx191_0)).trans hx191_0; replace hx191_1 := (HB.out.cell (World.block_lt_of_cell? w _ hx191_1)).trans hx191_1; replace p191 := eq_true p191; replace q191 := eq_true q191
         go_wp2
         go_roundg kj2
         case measure => have := HK1.out; have := HJ2.out; omega
         case rel => exact ⟨(x3_1), (wrap64 (x4_1 + 1)), rdT, rdT, H', ⟨by have := HK1.out; have := HJ2.out; omega⟩, ⟨by (with_reducible repeat (first | refine blk_drewN ?_ _ | refine blk_drew ?_ | refine blk_alloc ?_ _)); exact BK189.out⟩, ⟨hbT HB.out⟩⟩
       ·rw [if_neg c11] at H
        exact absurd H (by simp)
      ·rw [if_neg c10] at H
       exact absurd H (by simp)
     ·replace c9 := Bool.eq_false_iff.mpr c9
      subst c9; rw [if_neg (show ¬ (false = true) by decide)] at H; have H1 := H; clear H; have H := H1; clear H1
      obtain rfl := Option.some.inj H
      go_wp2
      go_ret
      exact ⟨rlT, hbT HB.out⟩

/-! ### spec_CountVoiceChanged: function 112 -/
mutual
def spec_CountVoiceChanged.l0 : Nat → Int → Int → List (S89) → Option (Int)
 | 0, _, _, _ => none
 | k + 1, x3, x4, x193000 => if x4 < (x193000.length : Int) then ((spec_IsCandidate.f k x193000).bind fun t193 => (spec_CountVoiceChanged.j1 k x3 x4 t193 x193000)) else (spec_CountVoiceChanged.j1 k x3 x4 false x193000)
def spec_CountVoiceChanged.j1 : Nat → Int → Int → Bool → List (S89) → Option (Int)
 | 0, _, _, _, _ => none
 | k + 1, x3, x4, x14, x193000 => if x14 = true then (if 0 ≤ x4 then (if x4 < (x193000.length : Int) then (if ((rd_T89 x193000 x4).f0) = 0 then (spec_CountVoiceChanged.l0 k x3 (wrap64 (x4 + 1)) x193000) else (if ((rd_T89 x193000 x4).f1) = 0 then (spec_CountVoiceChanged.l0 k x3 (wrap64 (x4 + 1)) x193000) else (if ((rd_T89 x193000 x4).f0) = ((rd_T89 x193000 x4).f1) then (spec_CountVoiceChanged.l0 k x3 (wrap64 (x4 + 1)) x193000) else (spec_CountVoiceChanged.l0 k (wrap64 (x3 + 1)) (wrap64 (x4 + 1)) x193000)))) else (none)) else (none)) else (some x3)
end
def spec_CountVoiceChanged.f (k : Nat) (l0_0 : List (S89)) : Option (Int) := spec_CountVoiceChanged.l0 k 0 0 l0_0
theorem spec_CountVoiceChanged.mono_l : ∀ k, (∀ y0 y1 y2, LeO (spec_CountVoiceChanged.l0 k y0 y1 y2) (spec_CountVoiceChanged.l0 (k + 1) y0 y1 y2)) ∧ (∀ y0 y1 y2 y3, LeO (spec_CountVoiceChanged.j1 k y0 y1 y2 y3) (spec_CountVoiceChanged.j1 (k + 1) y0 y1 y2 y3))
 | 0 => ⟨fun _ _ _ r h => by simp [spec_CountVoiceChanged.l0] at h, fun _ _ _ _ r h => by simp [spec_CountVoiceChanged.j1] at h⟩
 | k + 1 => by
  obtain ⟨ih0, ih1⟩ := spec_CountVoiceChanged.mono_l k; refine ⟨?_, ?_⟩
  ·intro y0 y1 y2
   unfold spec_CountVoiceChanged.l0
   repeat' first
   | (with_reducible exact ih0 _ _ _)
   | (with_reducible exact ih1 _ _ _ _)
   | (with_reducible exact spec_IsCandidate.mono _ _)
   | (with_reducible exact LeO.refl _)
   | (with_reducible exact LeO.none _)
   | (with_reducible refine LeO.ite ?_ ?_)
   | (with_reducible refine LeO.bind ?_ (fun _ => ?_))
   | exact ih0 _ _ _
   | exact ih1 _ _ _ _
   | exact spec_IsCandidate.mono _ _
   | exact LeO.none _
   | refine LeO.ite ?_ ?_
   | refine LeO.bind ?_ (fun _ => ?_)
  ·intro y0 y1 y2 y3
   unfold spec_CountVoiceChanged.j1
   repeat' first
   | (with_reducible exact ih0 _ _ _)
   | (with_reducible exact ih1 _ _ _ _)
   | (with_reducible exact spec_IsCandidate.mono _ _)
   | (with_reducible exact LeO.refl _)
   | (with_reducible exact LeO.none _)
   | (with_reducible refine LeO.ite ?_ ?_)
   | (with_reducible refine LeO.bind ?_ (fun _ => ?_))
   | exact ih0 _ _ _
   | exact ih1 _ _ _ _
   | exact spec_IsCandidate.mono _ _
   | exact LeO.none _
   | refine LeO.ite ?_ ?_
   | refine LeO.bind ?_ (fun _ => ?_)
theorem spec_CountVoiceChanged.mono : ∀ a0 k, LeO (spec_CountVoiceChanged.f k a0) (spec_CountVoiceChanged.f (k + 1) a0) := by
 intro a0 k
 obtain ⟨ih0, ih1⟩ := spec_CountVoiceChanged.mono_l k
 unfold spec_CountVoiceChanged.f
 repeat' first
   | (with_reducible exact ih0 _ _ _)
   | (with_reducible exact ih1 _ _ _ _)
   | (with_reducible exact spec_IsCandidate.mono _ _)
   | (with_reducible exact LeO.refl _)
   | (with_reducible exact LeO.none _)
   | (with_reducible refine LeO.ite ?_ ?_)
   | (with_reducible refine LeO.bind ?_ (fun _ => ?_))
   | exact ih0 _ _ _
   | exact ih1 _ _ _ _
   | exact spec_IsCandidate.mono _ _
   | exact LeO.none _
   | refine LeO.ite ?_ ?_
   | refine LeO.bind ?_ (fun _ => ?_)
set_option maxHeartbeats 8000000 in
set_option maxRecDepth 100000 in
theorem spec_CountVoiceChanged.calls (k : Nat) (A0_0 : Option Addr) (c0_0 : Nat) (l0_0 : List (S89)) (r : Int) (w : World) (hr0_0 : Kd.C k89 w A0_0 l0_0.length l0_0) (hc0_0 : l0_0.length ≤ c0_0) (h : spec_CountVoiceChanged.f k l0_0 = some r) :
  Calls Tryz.prog 112 #[.agg #[.slice A0_0 l0_0.length c0_0]] w fun e w' => e = .returned (.int .i64 r) ∧ Below w.heap.size w w' := by
 have hu61 := Tryz.underlying61; have hu89 := Tryz.underlying89; have HR0_0 := Aside0.mk hr0_0; have HC0_0 := Aside0.mk hc0_0; clear hr0_0 hc0_0; have HB := asT (Below.refl w.heap.size w); have H := h; unfold spec_CountVoiceChanged.f at H; clear h; have H' := Aside0.mk H; clear H
 go_enter Tryz.func112, Tryz.ntmps112
 go_wp2_with (first | ((with_reducible refine gate_dst (N := 1) rfl ?_); refine boxT (N := 1) (cs := #[.slice A0_0 l0_0.length c0_0]) (t := 61) ?_; intro gb192 hg w2 hbox hb; have BK192 := asT hbox; have GW192 := asT (geT hg HB.out); have GE192 := GW192; replace HB := asT (below_step (hbT HB.out) hb); clear hb hbox hg))
 go_loopg [3, 4] k (fun kq v3 v4 w' => ∃ (x3_1 : Int) (x4_1 : Int), v3 = .int .i64 x3_1 ∧ v4 = .int .i64 x4_1 ∧ Aside0 (spec_CountVoiceChanged.l0 kq x3_1 x4_1 l0_0 = some r) ∧ Aside0 (kq ≤ k) ∧ Aside0 (w'.heap[gb192]? = some (.cells #[(.slice A0_0 l0_0.length c0_0)] 61 (0, 0))) ∧ Aside0 (Below w.heap.size w w'))
 case atStart => exact ⟨(0), (0), rdT, rdT, H', ⟨Nat.le_refl _⟩, ⟨by (with_reducible repeat (first | refine blk_drewN ?_ _ | refine blk_drew ?_ | refine blk_alloc ?_ _)); exact BK192.out⟩, ⟨hbT HB.out⟩⟩
 case round =>
  clear H'; (try clear c1); (try clear p2); obtain ⟨x3_1, x4_1, rfl, rfl, HA, HK1, BK192, HB⟩ := hrel
  cases gk with
  | zero => exact absurd HA.out (by simp [spec_CountVoiceChanged.l0])
  | succ k1 =>
   have H := HA.out; clear HA
   simp only [spec_CountVoiceChanged.l0] at H
   have HC3 := Aside0.mk H; clear H
   go_upto_region 3 with (fail)
   go_cut [14] (fun v14 wc => ∃ (kq : Nat) (x14_2 : Bool), v14 = .bool x14_2 ∧ Aside0 (spec_CountVoiceChanged.j1 kq x3_1 x4_1 x14_2 l0_0 = some r) ∧ Aside0 (kq ≤ k1) ∧ Aside0 (wc.heap[gb192]? = some (.cells #[(.slice A0_0 l0_0.length c0_0)] 61 (0, 0))) ∧ Aside0 (Below w.heap.size w wc))
   case first =>
    have H := HC3.out; clear HC3
    by_cases c4 : x4_1 < (l0_0.length : Int)
    ·rw [if_pos c4] at H
     have c4b0 : decide (x4_1 < (l0_0.length : Int)) = true := decide_eq_true c4
     clear c4
     (first | rw [c4b0] | (simp only [i64_w, i32_w]; rw [c4b0]) | skip)
     replace H := Option.bind_eq_some_iff.mp H; obtain ⟨t193, A50, H⟩ := H; have A5 := Aside0.mk A50; clear A50; have H' := Aside0.mk H; clear H
     have hcz6_0 : wr.cell? ⟨gb192, 0, none⟩ = some (.slice A0_0 l0_0.length c0_0) := (blk_cell BK192.out 0).trans rfl
     have hfz6_0 := blk_frozen BK192.out 0
     go_wp2_with (first | (go_at_call 39; (with_reducible refine (spec_IsCandidate.calls k1 _ _ l0_0 t193 _ ?side1 ?side2 A5.out).mono ?_); (case side1 => exact crT HR0_0.out HB.out); (case side2 => exact HC0_0.out); rintro e w7 ⟨rfl, hb⟩; replace BK192 := asT (blk_below (bkT BK192.out) hb); replace HB := asT (below_step (hbT HB.out) hb); (try clear hb); (try clear hb2); (try clear hk); (try clear hi)))
     go_meet
     case rel => exact ⟨_, (t193), rdT, H', ⟨by have := HK1.out; first | omega | exact Nat.le_refl _⟩, ⟨by (with_reducible repeat (first | refine blk_drewN ?_ _ | refine blk_drew ?_ | refine blk_alloc ?_ _)); exact BK192.out⟩, ⟨hbT HB.out⟩⟩
    ·rw [if_neg c4] at H
     have c4b0 : decide (x4_1 < (l0_0.length : Int)) = false := decide_eq_false c4
     clear c4
     (first | rw [c4b0] | (simp only [i64_w, i32_w]; rw [c4b0]) | skip)
     have H' := Aside0.mk H; clear H
     have hcz8_0 : wr.cell? ⟨gb192, 0, none⟩ = some (.slice A0_0 l0_0.length c0_0) := (blk_cell BK192.out 0).trans rfl
     have hfz8_0 := blk_frozen BK192.out 0
     go_wp2
     go_meet
     case rel => exact ⟨_, (false), rdT, H', ⟨by have := HK1.out; first | omega | exact Nat.le_refl _⟩, ⟨by (with_reducible repeat (first | refine blk_drewN ?_ _ | refine blk_drew ?_ | refine blk_alloc ?_ _)); exact BK192.out⟩, ⟨hbT HB.out⟩⟩
   case rest =>
    clear HC3; (try clear c1); (try clear p2); (try clear c4); (try clear c4b0); (try clear hcz6_0); (try clear hcz8_0); (try clear hfz6_0); (try clear hfz8_0); (try clear p2); obtain ⟨kq, x14_2, rfl, HA, HJ2, BK192, HB⟩ := hcut
    cases kq with
    | zero => exact absurd HA.out (by simp [spec_CountVoiceChanged.j1])
    | succ kj2 =>
     have H := HA.out; clear HA
     simp only [spec_CountVoiceChanged.j1] at H
     by_cases c9 : x14_2 = true
     ·subst c9
      rw [if_pos rfl] at H; have H1 := H; clear H; have H := H1; clear H1
      by_cases c10 : 0 ≤ x4_1
      ·rw [if_pos c10] at H
       have c10b0 : decide (0 ≤ x4_1) = true := decide_eq_true c10
       clear c10
       by_cases c11 : x4_1 < (l0_0.length : Int)
       ·rw [if_pos c11] at H
        have c11b0 : decide (x4_1 < (l0_0.length : Int)) = true := decide_eq_true c11
        clear c11
        by_cases c12 : ((rd_T89 l0_0 x4_1).f0) = 0
        ·rw [if_pos c12] at H
         have c12b0 : (((rd_T89 l0_0 x4_1).f0) == 0) = true := beq_iff_eq.mpr c12
         have c12b1 : (((rd_T89 l0_0 x4_1).f0) != 0) = false := bne_eq_false_iff_eq.mpr c12
         clear c12; have H' := Aside0.mk H; clear H
         have hcz13_0 : wc.cell? ⟨gb192, 0, none⟩ = some (.slice A0_0 l0_0.length c0_0) := (blk_cell BK192.out 0).trans rfl
         have hfz13_0 := blk_frozen BK192.out 0
         have p194 : 0 ≤ (x4_1 : Int) := of_decide_eq_true asmT
         have q194 : x4_1 < (l0_0.length : Int) := of_decide_eq_true asmT
         obtain ⟨ad194, e194, hx194_0, hx194_1⟩ := at_T89 HR0_0.out x4_1 p194 q194
         cases e194
         replace hx194_0 := (HB.out.cell (World.block_lt_of_cell? w _ hx194_0)).trans hx194_0; replace hx194_1 := (HB.out.cell (World.block_lt_of_cell? w _ hx194_1)).trans hx194_1; replace p194 := eq_true p194; replace q194 := eq_true q194
         go_wp2_with (first | ((with_reducible refine gate_dst (N := 5) rfl ?_); refine boxT (N := 5) (cs := #[.int .u8 0, .int .u8 0]) (t := 89) ?_; intro gb195 hg w14 hbox hb; have BK195 := asT (hbox); have GW195 := asT (geT hg HB.out); have GE195 := asT (geT hg HB.out); replace HB := asT (below_step (hbT HB.out) hb); have NB192_195 := asT ((by rw [hg]; exact Nat.ne_of_lt (blk_lt (g := gb192) (o := .cells #[.slice (some ad194) l0_0.length c0_0] 61 (0, 0)) (bkT BK192.out)) : gb192 ≠ gb195)); have NB195_192 := asT ((by rw [hg]; exact Nat.ne_of_gt (blk_lt (g := gb192) (o := .cells #[.slice (some ad194) l0_0.length c0_0] 61 (0, 0)) (bkT BK192.out)) : gb195 ≠ gb192)); replace BK192 := asT (blk_below (g := gb192) (o := .cells #[.slice (some ad194) l0_0.length c0_0] 61 (0, 0)) (bkT BK192.out) hb); clear hb hbox hg; have hnb15 := NB195_192.out; have hnc15 := NB192_195.out; have hcz16_0 : w14.cell? ⟨gb195, 0, none⟩ = some (.int .u8 0) := (blk_cell BK195.out 0).trans rfl; have hcz16_1 : w14.cell? ⟨gb195, 1, none⟩ = some (.int .u8 0) := (blk_cell BK195.out 1).trans rfl; have hfz16_0 := blk_frozen BK195.out 0; have hfz16_1 := blk_frozen BK195.out 1))
         go_roundg kj2
         case measure => have := HK1.out; have := HJ2.out; omega
         case rel => exact ⟨(x3_1), (wrap64 (x4_1 + 1)), rdT, rdT, H', ⟨by have := HK1.out; have := HJ2.out; omega⟩, ⟨by (with_reducible repeat (first | refine blk_drewN ?_ _ | refine blk_drew ?_ | refine blk_alloc ?_ _)); refine blk_far ?_ NB192_195.out _; (with_reducible repeat (first | refine blk_drewN ?_ _ | refine blk_drew ?_ | refine blk_alloc ?_ _)); refine blk_far ?_ NB192_195.out _; (with_reducible repeat (first | refine blk_drewN ?_ _ | refine blk_drew ?_ | refine blk_alloc ?_ _)); exact BK192.out⟩, ⟨hbT HB.out⟩⟩
        ·rw [if_neg c12] at H
         have c12b0 : (((rd_T89 l0_0 x4_1).f0) == 0) = false := beq_eq_false_iff_ne.mpr c12
         have c12b1 : (((rd_T89 l0_0 x4_1).f0) != 0) = true := bne_iff_ne.mpr c12
         by_cases c17 : ((rd_T89 l0_0 x4_1).f1) = 0
         ·rw [if_pos c17] at H
          have c17b0 : (((rd_T89 l0_0 x4_1).f1) == 0) = true := beq_iff_eq.mpr c17
          have c17b1 : (((rd_T89 l0_0 x4_1).f1) != 0) = false := bne_eq_false_iff_eq.mpr c17
          clear c17; have H' := Aside0.mk H; clear H
          have hcz18_0 : wc.cell? ⟨gb192, 0, none⟩ = some (.slice A0_0 l0_0.length c0_0) := (blk_cell BK192.out 0).trans rfl
          have hfz18_0 := blk_frozen BK192.out 0
          have p194 : 0 ≤ (x4_1 : Int) := of_decide_eq_true asmT
          have q194 : x4_1 < (l0_0.length : Int) := of_decide_eq_true asmT
          obtain ⟨ad194, e194, hx194_0, hx194_1⟩ := at_T89 HR0_0.out x4_1 p194 q194
          cases e194
          replace hx194_0 := (HB.out.cell (World.block_lt_of_cell? w _ hx194_0)).trans hx194_0; replace hx194_1 := (HB.out.cell (World.block_lt_of_cell? w _ hx194_1)).trans hx194_1; replace p194 := eq_true p194; replace q194 := eq_true q194
          go_wp2_with (first | ((with_reducible refine gate_dst (N := 5) rfl ?_); refine boxT (N := 5) (cs := #[.int .u8 0, .int .u8 0]) (t := 89) ?_; intro gb195 hg w19 hbox hb; have BK195 := asT (hbox); have GW195 := asT (geT hg HB.out); have GE195 := asT (geT hg HB.out); replace HB := asT (below_step (hbT HB.out) hb); have NB192_195 := asT ((by rw [hg]; exact Nat.ne_of_lt (blk_lt (g := gb192) (o := .cells #[.slice (some ad194) l0_0.length c0_0] 61 (0, 0)) (bkT BK192.out)) : gb192 ≠ gb195)); have NB195_192 := asT ((by rw [hg]; exact Nat.ne_of_gt (blk_lt (g := gb192) (o := .cells #[.slice (some ad194) l0_0.length c0_0] 61 (0, 0)) (bkT BK192.out)) : gb195 ≠ gb192)); replace BK192 := asT (blk_below (g := gb192) (o := .cells #[.slice (some ad194) l0_0.length c0_0] 61 (0, 0)) (bkT BK192.out) hb); clear hb hbox hg; have hnb20 := NB195_192.out; have hnc20 := NB192_195.out; have hcz21_0 : w19.cell? ⟨gb195, 0, none⟩ = some (.int .u8 0) := (blk_cell BK195.out 0).trans rfl; have hcz21_1 : w19.cell? ⟨gb195, 1, none⟩ = some (.int .u8 0) := (blk_cell BK195.out 1).trans rfl; have hfz21_0 := blk_frozen BK195.out 0; have hfz21_1 := blk_frozen BK195.out 1))
          go_roundg kj2
          case measure => have := HK1.out; have := HJ2.out; omega
          case rel => exact ⟨(x3_1), (wrap64 (x4_1 + 1)), rdT, rdT, H', ⟨by have := HK1.out; have := HJ2.out; omega⟩, ⟨by (with_reducible repeat (first | refine blk_drewN ?_ _ | refine blk_drew ?_ | refine blk_alloc ?_ _)); refine blk_far ?_ NB192_195.out _; (with_reducible repeat (first | refine blk_drewN ?_ _ | refine blk_drew ?_ | refine blk_alloc ?_ _)); refine blk_far ?_ NB192_195.out _; (with_reducible repeat (first | refine blk_drewN ?_ _ | refine blk_drew ?_ | refine blk_alloc ?_ _)); exact BK192.out⟩, ⟨hbT HB.out⟩⟩
         ·rw [if_neg c17] at H
          have c17b0 : (((rd_T89 l0_0 x4_1).f1) == 0) = false := beq_eq_false_iff_ne.mpr c17
          have c17b1 : (((rd_T89 l0_0 x4_1).f1) != 0) = true := bne_iff_ne.mpr c17
          by_cases c22 : ((rd_T89 l0_0 x4_1).f0) = ((rd_T89 l0_0 x4_1).f1)
          ·rw [if_pos c22] at H
           have c22b0 : (((rd_T89 l0_0 x4_1).f0) == ((rd_T89 l0_0 x4_1).f1)) = true := beq_iff_eq.mpr c22
           have c22b1 : (((rd_T89 l0_0 x4_1).f0) != ((rd_T89 l0_0 x4_1).f1)) = false := bne_eq_false_iff_eq.mpr c22
           clear c22; have H' := Aside0.mk H; clear H
           have hcz23_0 : wc.cell? ⟨gb192, 0, none⟩ = some (.slice A0_0 l0_0.length c0_0) := (blk_cell BK192.out 0).trans rfl
           have hfz23_0 := blk_frozen BK192.out 0
           have p194 : 0 ≤ (x4_1 : Int) := of_decide_eq_true asmT
           have q194 : x4_1 < (l0_0.length : Int) := of_decide_eq_true asmT
           obtain ⟨ad194, e194, hx194_0, hx194_1⟩ := at_T89 HR0_0.out x4_1 p194 q194
           cases e194
           replace hx194_0 := (HB.out.cell (World.block_lt_of_cell? w _ hx194_0)).trans hx194_0; replace hx194_1 := (HB.out.cell (World.block_lt_of_cell? w _ hx194_1)).trans hx194_1; replace p194 := eq_true p194; replace q194 := eq_true q194
           go_wp2_with (first | ((with_reducible refine gate_dst (N := 5) rfl ?_); refine boxT (N := 5) (cs := #[.int .u8 0, .int .u8 0]) (t := 89) ?_; intro gb195 hg w24 hbox hb; have BK195 := asT (hbox); have GW195 := asT (geT hg HB.out); have GE195 := asT (geT hg HB.out); replace HB := asT (below_step (hbT HB.out) hb); have NB192_195 := asT ((by rw [hg]; exact Nat.ne_of_lt (blk_lt (g := gb192) (o := .cells #[.slice (some ad194) l0_0.length c0_0] 61 (0, 0)) (bkT BK192.out)) : gb192 ≠ gb195)); have NB195_192 := asT ((by rw [hg]; exact Nat.ne_of_gt (blk_lt (g := gb192) (o := .cells #[.slice (some ad194) l0_0.length c0_0] 61 (0, 0)) (bkT BK192.out)) : gb195 ≠ gb192)); replace BK192 := asT (blk_below (g := gb192) (o := .cells #[.slice (some ad194) l0_0.length c0_0] 61 (0, 0)) (bkT BK192.out) hb); clear hb hbox hg; have hnb25 := NB195_192.out; have hnc25 := NB192_195.out; have hcz26_0 : w24.cell? ⟨gb195, 0, none⟩ = some (.int .u8 0) := (blk_cell BK195.out 0).trans rfl; have hcz26_1 : w24.cell? ⟨gb195, 1, none⟩ = some (.int .u8 0) := (blk_cell BK195.out 1).trans rfl; have hfz26_0 := blk_frozen BK195.out 0; have hfz26_1 := blk_frozen BK195.out 1))
           go_roundg kj2
           case measure => have := HK1.out; have := HJ2.out; omega
           case rel => exact ⟨(x3_1), (wrap64 (x4_1 + 1)), rdT, rdT, H', ⟨by have := HK1.out; have := HJ2.out; omega⟩, ⟨by (with_reducible repeat (first | refine blk_drewN ?_ _ | refine blk_drew ?_ | refine blk_alloc ?_ _)); refine blk_far ?_ NB192_195.out _; (with_reducible repeat (first | refine blk_drewN ?_ _ | refine blk_drew ?_ | refine blk_alloc ?_ _)); refine blk_far ?_ NB192_195.out _; (with_reducible repeat (first | refine blk_drewN ?_ _ | refine blk_drew ?_ | refine blk_alloc ?_ _)); exact BK192.out⟩, ⟨hbT HB.out⟩⟩
          ·rw [if_neg c22] at H
           have c22b0 : (((rd_T89 l0_0 x4_1).f0) == ((rd_T89 l0_0 x4_1).f1)) = false := beq_eq_false_iff_ne.mpr c22
           have c22b1 : (((rd_T89 l0_0 x4_1).f0) != ((rd_T89 l0_0 x4_1).f1)) = true := bne_iff_ne.mpr c22
           have H' := Aside0.mk H; clear H
           have hcz27_0 : wc.cell? ⟨gb192, 0, none⟩ = some (.slice A0_0 l0_0.length c0_0) := (blk_cell BK192.out 0).trans rfl
           have hfz27_0 := blk_frozen BK192.out 0
           have p194 : 0 ≤ (x4_1 : Int) := of_decide_eq_true asmT
           have q194 : x4_1 < (l0_0.length : Int) := of_decide_eq_true asmT
           obtain ⟨ad194, e194, hx194_0, hx194_1⟩ := at_T89 HR0_0.out x4_1 p194 q194
           cases e194
           replace hx194_0 := (HB.out.cell (World.block_lt_of_cell? w _ hx194_0)).trans hx194_0; replace hx194_1 := (HB.out.cell (World.block_lt_of_cell? w _ hx194_1)).trans hx194_1; replace p194 := eq_true p194; replace q194 := eq_true q194
           go_wp2_with (first | ((with_reducible refine gate_dst (N := 5) rfl ?_); refine boxT (N := 5) (cs := #[.int .u8 0, .int .u8 0]) (t := 89) ?_; intro gb195 hg w28 hbox hb; have BK195 := asT (hbox); have GW195 := asT (geT hg HB.out); have GE195 := asT (geT hg HB.out); replace HB := asT (below_step (hbT HB.out) hb); have NB192_195 := asT ((by rw [hg]; exact Nat.ne_of_lt (blk_lt (g := gb192) (o := .cells #[.slice (some ad194) l0_0.length c0_0] 61 (0, 0)) (bkT BK192.out)) : gb192 ≠ gb195)); have NB195_192 := asT ((by rw [hg]; exact Nat.ne_of_gt (blk_lt (g := gb192) (o := .cells #[.slice (some ad194) l0_0.length c0_0] 61 (0, 0)) (bkT BK192.out)) : gb195 ≠ gb192)); replace BK192 := asT (blk_below (g := gb192) (o := .cells #[.slice (some ad194) l0_0.length c0_0] 61 (0, 0)) (bkT BK192.out) hb); clear hb hbox hg; have hnb29 := NB195_192.out; have hnc29 := NB192_195.out; have hcz30_0 : w28.cell? ⟨gb195, 0, none⟩ = some (.int .u8 0) := (blk_cell BK195.out 0).trans rfl; have hcz30_1 : w28.cell? ⟨gb195, 1, none⟩ = some (.int .u8 0) := (blk_cell BK195.out 1).trans rfl; have hfz30_0 := blk_frozen BK195.out 0; have hfz30_1 := blk_frozen BK195.out 1))
           go_roundg kj2
           case measure => have := HK1.out; have := HJ2.out; omega
           case rel => exact ⟨(wrap64 (x3_1 + 1)), (wrap64 (x4_1 + 1)), rdT, rdT, H', ⟨by have := HK1.out; have := HJ2.out; omega⟩, ⟨by (with_reducible repeat (first | refine blk_drewN ?_ _ | refine blk_drew ?_ | refine blk_alloc ?_ _)); refine blk_far ?_ NB192_195.out _; (with_reducible repeat (first | refine blk_drewN ?_ _ | refine blk_drew ?_ | refine blk_alloc ?_ _)); refine blk_far ?_ NB192_195.out _; (with_reducible repeat (first | refine blk_drewN ?_ _ | refine blk_drew ?_ | refine blk_alloc ?_ _)); exact BK192.out⟩, ⟨hbT HB.out⟩⟩
       ·rw [if_neg c11] at H
        exact absurd H (by simp)
      ·rw [if_neg c10] at H
       exact absurd H (by simp)
     ·replace c9 := Bool.eq_false_iff.mpr c9
      subst c9; rw [if_neg (show ¬ (false = true) by decide)] at H; have H1 := H; clear H; have H := H1; clear H1
      obtain rfl := Option.some.inj H
      go_wp2
      go_ret
      exact ⟨rlT, hbT HB.out⟩

/-! ### spec_l9Kept: function 142 -/
def spec_l9Kept.f (a0_0 : Int) (a0_1 : Int) : Option (Bool) := if a0_0 = 0 then (some false) else (some (a0_1 != 0))
set_option maxHeartbeats 8000000 in
set_option maxRecDepth 100000 in
theorem spec_l9Kept.calls (a0_0 : Int) (a0_1 : Int) (r : Bool) (w : World) (h : spec_l9Kept.f a0_0 a0_1 = some r) :
  Calls Tryz.prog 142 #[.agg #[.int .u8 a0_0, .int .u8 a0_1]] w fun e w' => e = .returned (.bool r) ∧ Below w.heap.size w w' := by
 have hu89 := Tryz.underlying89; have HB := asT (Below.refl w.heap.size w); have H := h; unfold spec_l9Kept.f at H; clear h
 by_cases c2 : a0_0 = 0
 ·rw [if_pos c2] at H
  have c2b0 : (a0_0 == 0) = true := beq_iff_eq.mpr c2
  have c2b1 : (a0_0 != 0) = false := bne_eq_false_iff_eq.mpr c2
  clear c2
  obtain rfl := Option.some.inj H
  go_enter Tryz.func142, Tryz.ntmps142
  go_wp2_with (first | ((with_reducible refine gate_dst (N := 1) rfl ?_); refine boxT (N := 1) (cs := #[.int .u8 a0_0, .int .u8 a0_1]) (t := 89) ?_; intro gb196 hg w3 hbox hb; have BK196 := asT hbox; have GW196 := asT (geT hg HB.out); have GE196 := GW196; replace HB := asT (below_step (hbT HB.out) hb); clear hb hbox hg; have hcz4_0 : w3.cell? ⟨gb196, 0, none⟩ = some (.int .u8 a0_0) := (blk_cell BK196.out 0).trans rfl; have hcz4_1 : w3.cell? ⟨gb196, 1, none⟩ = some (.int .u8 a0_1) := (blk_cell BK196.out 1).trans rfl; have hfz4_0 := blk_frozen BK196.out 0; have hfz4_1 := blk_frozen BK196.out 1))
  go_ret
  exact ⟨rlT, hbT HB.out⟩
 ·rw [if_neg c2] at H
  have c2b0 : (a0_0 == 0) = false := beq_eq_false_iff_ne.mpr c2
  have c2b1 : (a0_0 != 0) = true := bne_iff_ne.mpr c2
  obtain rfl := Option.some.inj H
  go_enter Tryz.func142, Tryz.ntmps142
  go_wp2_with (first | ((with_reducible refine gate_dst (N := 1) rfl ?_); refine boxT (N := 1) (cs := #[.int .u8 a0_0, .int .u8 a0_1]) (t := 89) ?_; intro gb196 hg w5 hbox hb; have BK196 := asT hbox; have GW196 := asT (geT hg HB.out); have GE196 := GW196; replace HB := asT (below_step (hbT HB.out) hb); clear hb hbox hg; have hcz6_0 : w5.cell? ⟨gb196, 0, none⟩ = some (.int .u8 a0_0) := (blk_cell BK196.out 0).trans rfl; have hcz6_1 : w5.cell? ⟨gb196, 1, none⟩ = some (.int .u8 a0_1) := (blk_cell BK196.out 1).trans rfl; have hfz6_0 := blk_frozen BK196.out 0; have hfz6_1 := blk_frozen BK196.out 1))
  go_ret
  exact ⟨rlT, hbT HB.out⟩

end Go.Proofs.YtdamagcfmhimfadGreat.PFnExactIsTableau
