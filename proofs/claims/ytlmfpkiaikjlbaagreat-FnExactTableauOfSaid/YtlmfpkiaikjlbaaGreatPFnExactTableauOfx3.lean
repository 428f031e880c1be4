-- Made by gen.py (a program of this session) out of the translation; Lean checks it.
import Derived.Test.YtlmfpkiaikjlbaaGreatPFnExactTableauOfx0
import Derived.Test.YtlmfpkiaikjlbaaGreatPFnExactTableauOfx1
namespace Go.Proofs.YtlmfpkiaikjlbaaGreat.PFnExactTableauOf
open Go.RowKit Go.Proofs.YtlmfpkiaikjlbaaGreatB Go.Proofs.YtlmfpkiaikjlbaaGreatW.PrintWords Go.Proofs.YtlmfpkiaikjlbaaGreatW.PrintLast Go.Proofs.YtlmfpkiaikjlbaaGreatW.PrintMore
attribute [local go_sem] max2_int min2_int max_two min_two max_three min_three max_four min_four   -- for this text's walks alone
set_option linter.unusedVariables false
set_option maxHeartbeats 8000000
set_option maxRecDepth 100000
set_option linter.unusedSimpArgs false
def spec_HasFeature.f (a0 : Int) (a1 : Int) : Option (Bool) := if a1 = 0 then (if a0 = 97 then (some true) else (some (a0 == 105))) else (if a1 = 1 then (if a0 = 98 then (some true) else (if a0 = 100 then (some true) else (if a0 = 110 then (some true) else (if a0 = 97 then (some true) else (some (a0 == 105)))))) else (if a1 = 2 then (some (a0 == 110)) else (if a1 = 3 then (if a0 = 112 then (some true) else (some (a0 == 98))) else (if a1 = 4 then (some (a0 == 105)) else (some false)))))
theorem spec_HasFeature.calls (a0 : Int) (a1 : Int) (r : Bool) (w : World) (h : spec_HasFeature.f a0 a1 = some r) :
  Calls Tryz.prog 153 #[.int .u8 a0, .int .i64 a1] w fun e w' => e = .returned (.bool r) ∧ Drawn0 w w' := by
 have H := h; unfold spec_HasFeature.f at H; clear h; by_cases c3 : a1 = 0
 ·rw [if_pos c3] at H; have c3b0 : (a1 == 0) = true := eC c3; have c3b1 : (a1 != 0) = false := eA c3; clear c3; by_cases c4 : a0 = 97
  ·rw [if_pos c4] at H; have c4b0 : (a0 == 97) = true := eC c4; have c4b1 : (a0 != 97) = false := eA c4; clear c4; obtain rfl := oI H; go_enter Tryz.func153, Tryz.ntmps153
   go_wp2
   go_ret; exact ⟨rdT, drT⟩
  ·rw [if_neg c4] at H; have c4b0 : (a0 == 97) = false := eB c4; have c4b1 : (a0 != 97) = true := eD c4; obtain rfl := oI H; go_enter Tryz.func153, Tryz.ntmps153
   go_wp2
   go_ret; exact ⟨rdT, drT⟩
 ·rw [if_neg c3] at H; have c3b0 : (a1 == 0) = false := eB c3; have c3b1 : (a1 != 0) = true := eD c3; by_cases c5 : a1 = 1
  ·rw [if_pos c5] at H; have c5b0 : (a1 == 1) = true := eC c5; have c5b1 : (a1 != 1) = false := eA c5; clear c5; by_cases c6 : a0 = 98
   ·rw [if_pos c6] at H; have c6b0 : (a0 == 98) = true := eC c6; have c6b1 : (a0 != 98) = false := eA c6; clear c6; obtain rfl := oI H; go_enter Tryz.func153, Tryz.ntmps153
    go_wp2
    go_ret; exact ⟨rdT, drT⟩
   ·rw [if_neg c6] at H; have c6b0 : (a0 == 98) = false := eB c6; have c6b1 : (a0 != 98) = true := eD c6; by_cases c7 : a0 = 100
    ·rw [if_pos c7] at H; have c7b0 : (a0 == 100) = true := eC c7; have c7b1 : (a0 != 100) = false := eA c7; clear c7; obtain rfl := oI H; go_enter Tryz.func153, Tryz.ntmps153
     go_wp2
     go_ret; exact ⟨rdT, drT⟩
    ·rw [if_neg c7] at H; have c7b0 : (a0 == 100) = false := eB c7; have c7b1 : (a0 != 100) = true := eD c7; by_cases c8 : a0 = 110
     ·rw [if_pos c8] at H; have c8b0 : (a0 == 110) = true := eC c8; have c8b1 : (a0 != 110) = false := eA c8; clear c8; obtain rfl := oI H; go_enter Tryz.func153, Tryz.ntmps153
      go_wp2
      go_ret; exact ⟨rdT, drT⟩
     ·rw [if_neg c8] at H; have c8b0 : (a0 == 110) = false := eB c8; have c8b1 : (a0 != 110) = true := eD c8; by_cases c9 : a0 = 97
      ·rw [if_pos c9] at H; have c9b0 : (a0 == 97) = true := eC c9; have c9b1 : (a0 != 97) = false := eA c9; clear c9; obtain rfl := oI H; go_enter Tryz.func153, Tryz.ntmps153
       go_wp2
       go_ret; exact ⟨rdT, drT⟩
      ·rw [if_neg c9] at H; have c9b0 : (a0 == 97) = false := eB c9; have c9b1 : (a0 != 97) = true := eD c9; obtain rfl := oI H; go_enter Tryz.func153, Tryz.ntmps153
       go_wp2
       go_ret; exact ⟨rdT, drT⟩
  ·rw [if_neg c5] at H; have c5b0 : (a1 == 1) = false := eB c5; have c5b1 : (a1 != 1) = true := eD c5; by_cases c10 : a1 = 2
   ·rw [if_pos c10] at H; have c10b0 : (a1 == 2) = true := eC c10; have c10b1 : (a1 != 2) = false := eA c10; clear c10; obtain rfl := oI H; go_enter Tryz.func153, Tryz.ntmps153
    go_wp2
    go_ret; exact ⟨rdT, drT⟩
   ·rw [if_neg c10] at H; have c10b0 : (a1 == 2) = false := eB c10; have c10b1 : (a1 != 2) = true := eD c10; by_cases c11 : a1 = 3
    ·rw [if_pos c11] at H; have c11b0 : (a1 == 3) = true := eC c11; have c11b1 : (a1 != 3) = false := eA c11; clear c11; by_cases c12 : a0 = 112
     ·rw [if_pos c12] at H; have c12b0 : (a0 == 112) = true := eC c12; have c12b1 : (a0 != 112) = false := eA c12; clear c12; obtain rfl := oI H; go_enter Tryz.func153, Tryz.ntmps153
      go_wp2
      go_ret; exact ⟨rdT, drT⟩
     ·rw [if_neg c12] at H; have c12b0 : (a0 == 112) = false := eB c12; have c12b1 : (a0 != 112) = true := eD c12; obtain rfl := oI H; go_enter Tryz.func153, Tryz.ntmps153
      go_wp2
      go_ret; exact ⟨rdT, drT⟩
    ·rw [if_neg c11] at H; have c11b0 : (a1 == 3) = false := eB c11; have c11b1 : (a1 != 3) = true := eD c11; by_cases c13 : a1 = 4
     ·rw [if_pos c13] at H; have c13b0 : (a1 == 4) = true := eC c13; have c13b1 : (a1 != 4) = false := eA c13; clear c13; obtain rfl := oI H; go_enter Tryz.func153, Tryz.ntmps153
      go_wp2
      go_ret; exact ⟨rdT, drT⟩
     ·rw [if_neg c13] at H; have c13b0 : (a1 == 4) = false := eB c13; have c13b1 : (a1 != 4) = true := eD c13; obtain rfl := oI H; go_enter Tryz.func153, Tryz.ntmps153
      go_wp2
      go_ret; exact ⟨rdT, drT⟩
def spec_IsVowelAt.f (a0 : ByteArray) (a1 : Int) : Option (Bool) := if a1 ≥ 0 then (if a1 < (a0.size : Int) then (if 0 ≤ a1 then ((spec_HasFeature.f (bt a0 a1) 0).bind fun t215 => (some t215)) else (none)) else (some false)) else (some false)
theorem spec_IsVowelAt.calls (a0 : ByteArray) (a1 : Int) (r : Bool) (w : World) (h : spec_IsVowelAt.f a0 a1 = some r) :
  Calls Tryz.prog 151 #[.string a0, .int .i64 a1] w fun e w' => e = .returned (.bool r) ∧ Drawn0 w w' := by
 have H := h; unfold spec_IsVowelAt.f at H; clear h; by_cases c3 : a1 ≥ 0
 ·rw [if_pos c3] at H; have c3b0 : decide (0 ≤ a1) = true := dt c3; clear c3; by_cases c4 : a1 < (a0.size : Int)
  ·rw [if_pos c4] at H; have c4b0 := dt c4; clear c4; by_cases c5 : 0 ≤ a1
   ·rw [if_pos c5] at H; have c5b0 := dt c5; clear c5; obtain ⟨t215, A7, H⟩ := be H; obtain rfl := oI H; have p6 : 0 ≤ (a1 : Int) := dT asmT; have q6 : a1 < (a0.size : Int) := dT asmT; have hx6 := bt_at a0 a1; replace p6 := eq_true p6; replace q6 := eq_true q6; go_enter Tryz.func151, Tryz.ntmps151
    go_wp2_with (first | (go_at_call 153; (with_reducible refine (spec_HasFeature.calls (bt a0 a1) 0 t215 _ A7.out).mono ?_); rintro e w' ⟨rfl, ⟨nd, rfl⟩⟩))
    go_ret; exact ⟨rdT, drT⟩
   ·rw [if_neg c5] at H; exact absurd H (by simp)
  ·rw [if_neg c4] at H; have c4b0 := df c4; clear c4; obtain rfl := oI H; go_enter Tryz.func151, Tryz.ntmps151
   go_wp2
   go_ret; exact ⟨rdT, drT⟩
 ·rw [if_neg c3] at H; have c3b0 : decide (0 ≤ a1) = false := df c3; clear c3; obtain rfl := oI H; go_enter Tryz.func151, Tryz.ntmps151
  go_wp2
  go_ret; exact ⟨rdT, drT⟩
mutual
def spec_CountOnsetless.l0 : Nat → ByteArray → Int → Int → Option (Int)
 | 0, _, _, _ => none
 | k + 1, x0, x3, x4 => if x4 < (x0.size : Int) then ((spec_IsForm.f k x0).bind fun t216 => (spec_CountOnsetless.j1 k x0 x3 x4 t216)) else (spec_CountOnsetless.j1 k x0 x3 x4 false)
def spec_CountOnsetless.j1 : Nat → ByteArray → Int → Int → Bool → Option (Int)
 | 0, _, _, _, _ => none
 | k + 1, x0, x3, x4, x12 => if x12 = true then ((spec_IsVowelAt.f x0 x4).bind fun t217 => (if t217 = true then (if x4 = 0 then (spec_CountOnsetless.l0 k x0 (wrap64 (x3 + 1)) (wrap64 (x4 + 1))) else ((spec_IsVowelAt.f x0 (wrap64 (x4 - 1))).bind fun t218 => (if t218 = true then (spec_CountOnsetless.l0 k x0 (wrap64 (x3 + 1)) (wrap64 (x4 + 1))) else (spec_CountOnsetless.l0 k x0 x3 (wrap64 (x4 + 1)))))) else (spec_CountOnsetless.l0 k x0 x3 (wrap64 (x4 + 1))))) else (some x3)
end
def spec_CountOnsetless.f (k : Nat) (a0 : ByteArray) : Option (Int) := spec_CountOnsetless.l0 k a0 0 0
theorem spec_CountOnsetless.mono_l : ∀ k, (∀ y0 y1 y2, LeO (spec_CountOnsetless.l0 k y0 y1 y2) (spec_CountOnsetless.l0 (k + 1) y0 y1 y2)) ∧ (∀ y0 y1 y2 y3, LeO (spec_CountOnsetless.j1 k y0 y1 y2 y3) (spec_CountOnsetless.j1 (k + 1) y0 y1 y2 y3))
 | 0 => ⟨fun _ _ _ r h => by simp [spec_CountOnsetless.l0] at h, fun _ _ _ _ r h => by simp [spec_CountOnsetless.j1] at h⟩
 | k + 1 => by
  obtain ⟨ih0, ih1⟩ := spec_CountOnsetless.mono_l k; refine ⟨?_, ?_⟩
  ·intro y0 y1 y2; unfold spec_CountOnsetless.l0
   with_reducible repeat' first | exact ih0 _ _ _ | exact ih1 _ _ _ _ | exact spec_IsForm.mono _ _ | exact LeO.refl _ | exact LeO.none _ | refine LeO.ite ?_ ?_ | refine LeO.bind ?_ (fun _ => ?_)
  ·intro y0 y1 y2 y3; unfold spec_CountOnsetless.j1
   with_reducible repeat' first | exact ih0 _ _ _ | exact ih1 _ _ _ _ | exact spec_IsForm.mono _ _ | exact LeO.refl _ | exact LeO.none _ | refine LeO.ite ?_ ?_ | refine LeO.bind ?_ (fun _ => ?_)
theorem spec_CountOnsetless.mono : ∀ a0 k, LeO (spec_CountOnsetless.f k a0) (spec_CountOnsetless.f (k + 1) a0) := by
 intro a0 k; obtain ⟨ih0, ih1⟩ := spec_CountOnsetless.mono_l k; unfold spec_CountOnsetless.f
 with_reducible repeat' first | exact ih0 _ _ _ | exact ih1 _ _ _ _ | exact spec_IsForm.mono _ _ | exact LeO.refl _ | exact LeO.none _ | refine LeO.ite ?_ ?_ | refine LeO.bind ?_ (fun _ => ?_)
theorem spec_CountOnsetless.calls (k : Nat) (a0 : ByteArray) (r : Int) (w : World) (h : spec_CountOnsetless.f k a0 = some r) :
  Calls Tryz.prog 112 #[.string a0] w fun e w' => e = .returned (.int .i64 r) ∧ Drawn0 w w' := by
 have H := h; unfold spec_CountOnsetless.f at H; clear h; have H' := asT H; clear H; go_enter Tryz.func112, Tryz.ntmps112
 go_wp2
 go_loopg [3, 4] k (fun kq v3 v4 w' => ∃ (x3_1 : Int) (x4_1 : Int), v3 = .int .i64 x3_1 ∧ v4 = .int .i64 x4_1 ∧ Aside0 (spec_CountOnsetless.l0 kq a0 x3_1 x4_1 = some r) ∧ Aside0 (kq ≤ k) ∧ Drawn0 w w')
 case atStart => exact ⟨(0), (0), rdT, rdT, H', ⟨Nat.le_refl _⟩, drT⟩
 case round =>
  clear H'; (try clear c1); obtain ⟨x3_1, x4_1, rfl, rfl, HA, HK1, ⟨m1, rfl⟩⟩ := hrel
  cases gk with
  | zero => exact absurd HA.out (by simp [spec_CountOnsetless.l0])
  | succ k1 =>
   have H := HA.out; clear HA
   simp only [spec_CountOnsetless.l0] at H
   have HC2 := asT H; clear H
   go_upto_region 3 with (fail)
   go_cut [12] (fun v12 wc => ∃ (kq : Nat) (x12_1 : Bool), v12 = .bool x12_1 ∧ Aside0 (spec_CountOnsetless.j1 kq a0 x3_1 x4_1 x12_1 = some r) ∧ Aside0 (kq ≤ k1) ∧ Drawn0 w wc)
   case first =>
    have H := HC2.out; clear HC2; by_cases c3 : x4_1 < (a0.size : Int)
    ·rw [if_pos c3] at H; have c3b0 := dt c3; clear c3
     (first | rw [c3b0] | (simp only [i64_w, i32_w]; rw [c3b0]) | skip)
     obtain ⟨t216, A4, H⟩ := be H; have H' := asT H; clear H
     go_wp2_with (first | (go_at_call 36; (with_reducible refine (spec_IsForm.calls k1 a0 t216 _ A4.out).mono ?_); rintro e w' ⟨rfl, ⟨nd, rfl⟩⟩))
     go_meet
     case rel => exact ⟨_, (t216), rdT, H', ⟨by have := HK1.out; first | omega | exact Nat.le_refl _⟩, drT⟩
    ·rw [if_neg c3] at H; have c3b0 := df c3; clear c3
     (first | rw [c3b0] | (simp only [i64_w, i32_w]; rw [c3b0]) | skip)
     have H' := asT H; clear H
     go_wp2
     go_meet
     case rel => exact ⟨_, (false), rdT, H', ⟨by have := HK1.out; first | omega | exact Nat.le_refl _⟩, drT⟩
   case rest =>
    clear HC2; (try clear c1 p2 c3 c3b0); obtain ⟨kq, x12_1, rfl, HA, HJ1, ⟨mc1, rfl⟩⟩ := hcut
    cases kq with
    | zero => exact absurd HA.out (by simp [spec_CountOnsetless.j1])
    | succ kj1 =>
     have H := HA.out; clear HA
     simp only [spec_CountOnsetless.j1] at H
     by_cases c5 : x12_1 = true
     ·subst c5; rw [if_pos rfl] at H; obtain ⟨t217, A6, H⟩ := be H; by_cases c7 : t217 = true
      ·subst c7; rw [if_pos rfl] at H; have H1 := H; clear H; have H := H1; clear H1; by_cases c8 : x4_1 = 0
       ·rw [if_pos c8] at H; have c8b0 : (x4_1 == 0) = true := eC c8; have c8b1 : (x4_1 != 0) = false := eA c8; clear c8; have H' := asT H; clear H
        go_wp2_with (first | ((with_reducible refine gate_callee (f := 151) rfl ?_); refine goesL_ (some 17) rfl rfl Tryz.func151 (by kernel_rfl) rfl #[.string a0, .int .i64 x4_1] rfl eqT ?_; (with_reducible refine (spec_IsVowelAt.calls a0 x4_1 true _ A6.out).mono ?_); rintro e w' ⟨rfl, ⟨nd, rfl⟩⟩; refine ⟨_, rfl, ?_⟩))
        go_roundg kj1
        case measure => have := HK1.out; have := HJ1.out; omega
        case rel => exact ⟨(wrap64 (x3_1 + 1)), (wrap64 (x4_1 + 1)), rdT, rdT, H', ⟨by have := HK1.out; have := HJ1.out; omega⟩, drT⟩
       ·rw [if_neg c8] at H; have c8b0 : (x4_1 == 0) = false := eB c8; have c8b1 : (x4_1 != 0) = true := eD c8; obtain ⟨t218, A9, H⟩ := be H; by_cases c10 : t218 = true
        ·subst c10; rw [if_pos rfl] at H; have H' := asT H; clear H
         go_wp2_with (first | ((with_reducible refine gate_callee (f := 151) rfl ?_); refine goesL_ (some 17) rfl rfl Tryz.func151 (by kernel_rfl) rfl #[.string a0, .int .i64 x4_1] rfl eqT ?_; (with_reducible refine (spec_IsVowelAt.calls a0 x4_1 true _ A6.out).mono ?_); rintro e w' ⟨rfl, ⟨nd, rfl⟩⟩; refine ⟨_, rfl, ?_⟩) | (go_at_call 151; (with_reducible refine (spec_IsVowelAt.calls a0 (wrap64 (x4_1 - 1)) true _ A9.out).mono ?_); rintro e w' ⟨rfl, ⟨nd, rfl⟩⟩))
         go_roundg kj1
         case measure => have := HK1.out; have := HJ1.out; omega
         case rel => exact ⟨(wrap64 (x3_1 + 1)), (wrap64 (x4_1 + 1)), rdT, rdT, H', ⟨by have := HK1.out; have := HJ1.out; omega⟩, drT⟩
        ·replace c10 := eE c10; subst c10; rw [if_neg nF] at H; have H' := asT H; clear H
         go_wp2_with (first | ((with_reducible refine gate_callee (f := 151) rfl ?_); refine goesL_ (some 17) rfl rfl Tryz.func151 (by kernel_rfl) rfl #[.string a0, .int .i64 x4_1] rfl eqT ?_; (with_reducible refine (spec_IsVowelAt.calls a0 x4_1 true _ A6.out).mono ?_); rintro e w' ⟨rfl, ⟨nd, rfl⟩⟩; refine ⟨_, rfl, ?_⟩) | (go_at_call 151; (with_reducible refine (spec_IsVowelAt.calls a0 (wrap64 (x4_1 - 1)) false _ A9.out).mono ?_); rintro e w' ⟨rfl, ⟨nd, rfl⟩⟩))
         go_roundg kj1
         case measure => have := HK1.out; have := HJ1.out; omega
         case rel => exact ⟨(x3_1), (wrap64 (x4_1 + 1)), rdT, rdT, H', ⟨by have := HK1.out; have := HJ1.out; omega⟩, drT⟩
      ·replace c7 := eE c7; subst c7; rw [if_neg nF] at H; have H' := asT H; clear H
       go_wp2_with (first | ((with_reducible refine gate_callee (f := 151) rfl ?_); refine goesL_ (some 17) rfl rfl Tryz.func151 (by kernel_rfl) rfl #[.string a0, .int .i64 x4_1] rfl eqT ?_; (with_reducible refine (spec_IsVowelAt.calls a0 x4_1 false _ A6.out).mono ?_); rintro e w' ⟨rfl, ⟨nd, rfl⟩⟩; refine ⟨_, rfl, ?_⟩))
       go_roundg kj1
       case measure => have := HK1.out; have := HJ1.out; omega
       case rel => exact ⟨(x3_1), (wrap64 (x4_1 + 1)), rdT, rdT, H', ⟨by have := HK1.out; have := HJ1.out; omega⟩, drT⟩
     ·replace c5 := eE c5; subst c5; rw [if_neg nF] at H; have H1 := H; clear H; have H := H1; clear H1; obtain rfl := oI H
      go_wp2
      go_ret; exact ⟨rdT, drT⟩
mutual
def spec_CountCodas.l0 : Nat → ByteArray → Int → Int → Option (Int)
 | 0, _, _, _ => none
 | k + 1, x0, x3, x4 => if x4 < (x0.size : Int) then ((spec_IsForm.f k x0).bind fun t219 => (spec_CountCodas.j1 k x0 x3 x4 t219)) else (spec_CountCodas.j1 k x0 x3 x4 false)
def spec_CountCodas.j1 : Nat → ByteArray → Int → Int → Bool → Option (Int)
 | 0, _, _, _, _ => none
 | k + 1, x0, x3, x4, x12 => if x12 = true then ((spec_IsVowelAt.f x0 x4).bind fun t220 => (if t220 = true then (spec_CountCodas.l0 k x0 x3 (wrap64 (x4 + 1))) else ((spec_IsVowelAt.f x0 (wrap64 (x4 + 1))).bind fun t221 => (if t221 = true then (spec_CountCodas.l0 k x0 x3 (wrap64 (x4 + 1))) else (spec_CountCodas.l0 k x0 (wrap64 (x3 + 1)) (wrap64 (x4 + 1))))))) else (some x3)
end
def spec_CountCodas.f (k : Nat) (a0 : ByteArray) : Option (Int) := spec_CountCodas.l0 k a0 0 0
theorem spec_CountCodas.mono_l : ∀ k, (∀ y0 y1 y2, LeO (spec_CountCodas.l0 k y0 y1 y2) (spec_CountCodas.l0 (k + 1) y0 y1 y2)) ∧ (∀ y0 y1 y2 y3, LeO (spec_CountCodas.j1 k y0 y1 y2 y3) (spec_CountCodas.j1 (k + 1) y0 y1 y2 y3))
 | 0 => ⟨fun _ _ _ r h => by simp [spec_CountCodas.l0] at h, fun _ _ _ _ r h => by simp [spec_CountCodas.j1] at h⟩
 | k + 1 => by
  obtain ⟨ih0, ih1⟩ := spec_CountCodas.mono_l k; refine ⟨?_, ?_⟩
  ·intro y0 y1 y2; unfold spec_CountCodas.l0
   with_reducible repeat' first | exact ih0 _ _ _ | exact ih1 _ _ _ _ | exact spec_IsForm.mono _ _ | exact LeO.refl _ | exact LeO.none _ | refine LeO.ite ?_ ?_ | refine LeO.bind ?_ (fun _ => ?_)
  ·intro y0 y1 y2 y3; unfold spec_CountCodas.j1
   with_reducible repeat' first | exact ih0 _ _ _ | exact ih1 _ _ _ _ | exact spec_IsForm.mono _ _ | exact LeO.refl _ | exact LeO.none _ | refine LeO.ite ?_ ?_ | refine LeO.bind ?_ (fun _ => ?_)
theorem spec_CountCodas.mono : ∀ a0 k, LeO (spec_CountCodas.f k a0) (spec_CountCodas.f (k + 1) a0) := by
 intro a0 k; obtain ⟨ih0, ih1⟩ := spec_CountCodas.mono_l k; unfold spec_CountCodas.f
 with_reducible repeat' first | exact ih0 _ _ _ | exact ih1 _ _ _ _ | exact spec_IsForm.mono _ _ | exact LeO.refl _ | exact LeO.none _ | refine LeO.ite ?_ ?_ | refine LeO.bind ?_ (fun _ => ?_)
theorem spec_CountCodas.calls (k : Nat) (a0 : ByteArray) (r : Int) (w : World) (h : spec_CountCodas.f k a0 = some r) :
  Calls Tryz.prog 113 #[.string a0] w fun e w' => e = .returned (.int .i64 r) ∧ Drawn0 w w' := by
 have H := h; unfold spec_CountCodas.f at H; clear h; have H' := asT H; clear H; go_enter Tryz.func113, Tryz.ntmps113
 go_wp2
 go_loopg [3, 4] k (fun kq v3 v4 w' => ∃ (x3_1 : Int) (x4_1 : Int), v3 = .int .i64 x3_1 ∧ v4 = .int .i64 x4_1 ∧ Aside0 (spec_CountCodas.l0 kq a0 x3_1 x4_1 = some r) ∧ Aside0 (kq ≤ k) ∧ Drawn0 w w')
 case atStart => exact ⟨(0), (0), rdT, rdT, H', ⟨Nat.le_refl _⟩, drT⟩
 case round =>
  clear H'; (try clear c1); obtain ⟨x3_1, x4_1, rfl, rfl, HA, HK1, ⟨m1, rfl⟩⟩ := hrel
  cases gk with
  | zero => exact absurd HA.out (by simp [spec_CountCodas.l0])
  | succ k1 =>
   have H := HA.out; clear HA
   simp only [spec_CountCodas.l0] at H
   have HC2 := asT H; clear H
   go_upto_region 3 with (fail)
   go_cut [12] (fun v12 wc => ∃ (kq : Nat) (x12_1 : Bool), v12 = .bool x12_1 ∧ Aside0 (spec_CountCodas.j1 kq a0 x3_1 x4_1 x12_1 = some r) ∧ Aside0 (kq ≤ k1) ∧ Drawn0 w wc)
   case first =>
    have H := HC2.out; clear HC2; by_cases c3 : x4_1 < (a0.size : Int)
    ·rw [if_pos c3] at H; have c3b0 := dt c3; clear c3
     (first | rw [c3b0] | (simp only [i64_w, i32_w]; rw [c3b0]) | skip)
     obtain ⟨t219, A4, H⟩ := be H; have H' := asT H; clear H
     go_wp2_with (first | (go_at_call 36; (with_reducible refine (spec_IsForm.calls k1 a0 t219 _ A4.out).mono ?_); rintro e w' ⟨rfl, ⟨nd, rfl⟩⟩))
     go_meet
     case rel => exact ⟨_, (t219), rdT, H', ⟨by have := HK1.out; first | omega | exact Nat.le_refl _⟩, drT⟩
    ·rw [if_neg c3] at H; have c3b0 := df c3; clear c3
     (first | rw [c3b0] | (simp only [i64_w, i32_w]; rw [c3b0]) | skip)
     have H' := asT H; clear H
     go_wp2
     go_meet
     case rel => exact ⟨_, (false), rdT, H', ⟨by have := HK1.out; first | omega | exact Nat.le_refl _⟩, drT⟩
   case rest =>
    clear HC2; (try clear c1 p2 c3 c3b0); obtain ⟨kq, x12_1, rfl, HA, HJ1, ⟨mc1, rfl⟩⟩ := hcut
    cases kq with
    | zero => exact absurd HA.out (by simp [spec_CountCodas.j1])
    | succ kj1 =>
     have H := HA.out; clear HA
     simp only [spec_CountCodas.j1] at H
     by_cases c5 : x12_1 = true
     ·subst c5; rw [if_pos rfl] at H; obtain ⟨t220, A6, H⟩ := be H; by_cases c7 : t220 = true
      ·subst c7; rw [if_pos rfl] at H; have H' := asT H; clear H
       go_wp2_with (first | ((with_reducible refine gate_callee (f := 151) rfl ?_); refine goesL_ (some 17) rfl rfl Tryz.func151 (by kernel_rfl) rfl #[.string a0, .int .i64 x4_1] rfl eqT ?_; (with_reducible refine (spec_IsVowelAt.calls a0 x4_1 true _ A6.out).mono ?_); rintro e w' ⟨rfl, ⟨nd, rfl⟩⟩; refine ⟨_, rfl, ?_⟩))
       go_roundg kj1
       case measure => have := HK1.out; have := HJ1.out; omega
       case rel => exact ⟨(x3_1), (wrap64 (x4_1 + 1)), rdT, rdT, H', ⟨by have := HK1.out; have := HJ1.out; omega⟩, drT⟩
      ·replace c7 := eE c7; subst c7; rw [if_neg nF] at H; obtain ⟨t221, A8, H⟩ := be H; by_cases c9 : t221 = true
       ·subst c9; rw [if_pos rfl] at H; have H' := asT H; clear H
        go_wp2_with (first | ((with_reducible refine gate_callee (f := 151) rfl ?_); refine goesL_ (some 17) rfl rfl Tryz.func151 (by kernel_rfl) rfl #[.string a0, .int .i64 x4_1] rfl eqT ?_; (with_reducible refine (spec_IsVowelAt.calls a0 x4_1 false _ A6.out).mono ?_); rintro e w' ⟨rfl, ⟨nd, rfl⟩⟩; refine ⟨_, rfl, ?_⟩) | (go_at_call 151; (with_reducible refine (spec_IsVowelAt.calls a0 (wrap64 (x4_1 + 1)) true _ A8.out).mono ?_); rintro e w' ⟨rfl, ⟨nd, rfl⟩⟩))
        go_roundg kj1
        case measure => have := HK1.out; have := HJ1.out; omega
        case rel => exact ⟨(x3_1), (wrap64 (x4_1 + 1)), rdT, rdT, H', ⟨by have := HK1.out; have := HJ1.out; omega⟩, drT⟩
       ·replace c9 := eE c9; subst c9; rw [if_neg nF] at H; have H' := asT H; clear H
        go_wp2_with (first | ((with_reducible refine gate_callee (f := 151) rfl ?_); refine goesL_ (some 17) rfl rfl Tryz.func151 (by kernel_rfl) rfl #[.string a0, .int .i64 x4_1] rfl eqT ?_; (with_reducible refine (spec_IsVowelAt.calls a0 x4_1 false _ A6.out).mono ?_); rintro e w' ⟨rfl, ⟨nd, rfl⟩⟩; refine ⟨_, rfl, ?_⟩) | (go_at_call 151; (with_reducible refine (spec_IsVowelAt.calls a0 (wrap64 (x4_1 + 1)) false _ A8.out).mono ?_); rintro e w' ⟨rfl, ⟨nd, rfl⟩⟩))
        go_roundg kj1
        case measure => have := HK1.out; have := HJ1.out; omega
        case rel => exact ⟨(wrap64 (x3_1 + 1)), (wrap64 (x4_1 + 1)), rdT, rdT, H', ⟨by have := HK1.out; have := HJ1.out; omega⟩, drT⟩
     ·replace c5 := eE c5; subst c5; rw [if_neg nF] at H; have H1 := H; clear H; have H := H1; clear H1; obtain rfl := oI H
      go_wp2
      go_ret; exact ⟨rdT, drT⟩
mutual
def spec_CountClusters.l0 : Nat → ByteArray → Int → Int → Option (Int)
 | 0, _, _, _ => none
 | k + 1, x0, x3, x4 => if x4 < (x0.size : Int) then ((spec_IsForm.f k x0).bind fun t222 => (spec_CountClusters.j1 k x0 x3 x4 t222)) else (spec_CountClusters.j1 k x0 x3 x4 false)
def spec_CountClusters.j1 : Nat → ByteArray → Int → Int → Bool → Option (Int)
 | 0, _, _, _, _ => none
 | k + 1, x0, x3, x4, x12 => if x12 = true then ((spec_IsVowelAt.f x0 (wrap64 (x4 - 1))).bind fun t223 => (if t223 = true then (spec_CountClusters.l0 k x0 x3 (wrap64 (x4 + 1))) else ((spec_IsVowelAt.f x0 x4).bind fun t224 => (if t224 = true then (spec_CountClusters.l0 k x0 x3 (wrap64 (x4 + 1))) else (spec_CountClusters.l0 k x0 (wrap64 (x3 + 1)) (wrap64 (x4 + 1))))))) else (some x3)
end
def spec_CountClusters.f (k : Nat) (a0 : ByteArray) : Option (Int) := spec_CountClusters.l0 k a0 0 1
theorem spec_CountClusters.mono_l : ∀ k, (∀ y0 y1 y2, LeO (spec_CountClusters.l0 k y0 y1 y2) (spec_CountClusters.l0 (k + 1) y0 y1 y2)) ∧ (∀ y0 y1 y2 y3, LeO (spec_CountClusters.j1 k y0 y1 y2 y3) (spec_CountClusters.j1 (k + 1) y0 y1 y2 y3))
 | 0 => ⟨fun _ _ _ r h => by simp [spec_CountClusters.l0] at h, fun _ _ _ _ r h => by simp [spec_CountClusters.j1] at h⟩
 | k + 1 => by
  obtain ⟨ih0, ih1⟩ := spec_CountClusters.mono_l k; refine ⟨?_, ?_⟩
  ·intro y0 y1 y2; unfold spec_CountClusters.l0
   with_reducible repeat' first | exact ih0 _ _ _ | exact ih1 _ _ _ _ | exact spec_IsForm.mono _ _ | exact LeO.refl _ | exact LeO.none _ | refine LeO.ite ?_ ?_ | refine LeO.bind ?_ (fun _ => ?_)
  ·intro y0 y1 y2 y3; unfold spec_CountClusters.j1
   with_reducible repeat' first | exact ih0 _ _ _ | exact ih1 _ _ _ _ | exact spec_IsForm.mono _ _ | exact LeO.refl _ | exact LeO.none _ | refine LeO.ite ?_ ?_ | refine LeO.bind ?_ (fun _ => ?_)
theorem spec_CountClusters.mono : ∀ a0 k, LeO (spec_CountClusters.f k a0) (spec_CountClusters.f (k + 1) a0) := by
 intro a0 k; obtain ⟨ih0, ih1⟩ := spec_CountClusters.mono_l k; unfold spec_CountClusters.f
 with_reducible repeat' first | exact ih0 _ _ _ | exact ih1 _ _ _ _ | exact spec_IsForm.mono _ _ | exact LeO.refl _ | exact LeO.none _ | refine LeO.ite ?_ ?_ | refine LeO.bind ?_ (fun _ => ?_)
theorem spec_CountClusters.calls (k : Nat) (a0 : ByteArray) (r : Int) (w : World) (h : spec_CountClusters.f k a0 = some r) :
  Calls Tryz.prog 114 #[.string a0] w fun e w' => e = .returned (.int .i64 r) ∧ Drawn0 w w' := by
 have H := h; unfold spec_CountClusters.f at H; clear h; have H' := asT H; clear H; go_enter Tryz.func114, Tryz.ntmps114
 go_wp2
 go_loopg [3, 4] k (fun kq v3 v4 w' => ∃ (x3_1 : Int) (x4_1 : Int), v3 = .int .i64 x3_1 ∧ v4 = .int .i64 x4_1 ∧ Aside0 (spec_CountClusters.l0 kq a0 x3_1 x4_1 = some r) ∧ Aside0 (kq ≤ k) ∧ Drawn0 w w')
 case atStart => exact ⟨(0), (1), rdT, rdT, H', ⟨Nat.le_refl _⟩, drT⟩
 case round =>
  clear H'; (try clear c1); obtain ⟨x3_1, x4_1, rfl, rfl, HA, HK1, ⟨m1, rfl⟩⟩ := hrel
  cases gk with
  | zero => exact absurd HA.out (by simp [spec_CountClusters.l0])
  | succ k1 =>
   have H := HA.out; clear HA
   simp only [spec_CountClusters.l0] at H
   have HC2 := asT H; clear H
   go_upto_region 3 with (fail)
   go_cut [12] (fun v12 wc => ∃ (kq : Nat) (x12_1 : Bool), v12 = .bool x12_1 ∧ Aside0 (spec_CountClusters.j1 kq a0 x3_1 x4_1 x12_1 = some r) ∧ Aside0 (kq ≤ k1) ∧ Drawn0 w wc)
   case first =>
    have H := HC2.out; clear HC2; by_cases c3 : x4_1 < (a0.size : Int)
    ·rw [if_pos c3] at H; have c3b0 := dt c3; clear c3
     (first | rw [c3b0] | (simp only [i64_w, i32_w]; rw [c3b0]) | skip)
     obtain ⟨t222, A4, H⟩ := be H; have H' := asT H; clear H
     go_wp2_with (first | (go_at_call 36; (with_reducible refine (spec_IsForm.calls k1 a0 t222 _ A4.out).mono ?_); rintro e w' ⟨rfl, ⟨nd, rfl⟩⟩))
     go_meet
     case rel => exact ⟨_, (t222), rdT, H', ⟨by have := HK1.out; first | omega | exact Nat.le_refl _⟩, drT⟩
    ·rw [if_neg c3] at H; have c3b0 := df c3; clear c3
     (first | rw [c3b0] | (simp only [i64_w, i32_w]; rw [c3b0]) | skip)
     have H' := asT H; clear H
     go_wp2
     go_meet
     case rel => exact ⟨_, (false), rdT, H', ⟨by have := HK1.out; first | omega | exact Nat.le_refl _⟩, drT⟩
   case rest =>
    clear HC2; (try clear c1 p2 c3 c3b0); obtain ⟨kq, x12_1, rfl, HA, HJ1, ⟨mc1, rfl⟩⟩ := hcut
    cases kq with
    | zero => exact absurd HA.out (by simp [spec_CountClusters.j1])
    | succ kj1 =>
     have H := HA.out; clear HA
     simp only [spec_CountClusters.j1] at H
     by_cases c5 : x12_1 = true
     ·subst c5; rw [if_pos rfl] at H; obtain ⟨t223, A6, H⟩ := be H; by_cases c7 : t223 = true
      ·subst c7; rw [if_pos rfl] at H; have H' := asT H; clear H
       go_wp2_with (first | ((with_reducible refine gate_callee (f := 151) rfl ?_); refine goesL_ (some 18) rfl rfl Tryz.func151 (by kernel_rfl) rfl #[.string a0, .int .i64 (wrap64 (x4_1 - 1))] rfl eqT ?_; (with_reducible refine (spec_IsVowelAt.calls a0 (wrap64 (x4_1 - 1)) true _ A6.out).mono ?_); rintro e w' ⟨rfl, ⟨nd, rfl⟩⟩; refine ⟨_, rfl, ?_⟩))
       go_roundg kj1
       case measure => have := HK1.out; have := HJ1.out; omega
       case rel => exact ⟨(x3_1), (wrap64 (x4_1 + 1)), rdT, rdT, H', ⟨by have := HK1.out; have := HJ1.out; omega⟩, drT⟩
      ·replace c7 := eE c7; subst c7; rw [if_neg nF] at H; obtain ⟨t224, A8, H⟩ := be H; by_cases c9 : t224 = true
       ·subst c9; rw [if_pos rfl] at H; have H' := asT H; clear H
        go_wp2_with (first | ((with_reducible refine gate_callee (f := 151) rfl ?_); refine goesL_ (some 18) rfl rfl Tryz.func151 (by kernel_rfl) rfl #[.string a0, .int .i64 (wrap64 (x4_1 - 1))] rfl eqT ?_; (with_reducible refine (spec_IsVowelAt.calls a0 (wrap64 (x4_1 - 1)) false _ A6.out).mono ?_); rintro e w' ⟨rfl, ⟨nd, rfl⟩⟩; refine ⟨_, rfl, ?_⟩) | (go_at_call 151; (with_reducible refine (spec_IsVowelAt.calls a0 x4_1 true _ A8.out).mono ?_); rintro e w' ⟨rfl, ⟨nd, rfl⟩⟩))
        go_roundg kj1
        case measure => have := HK1.out; have := HJ1.out; omega
        case rel => exact ⟨(x3_1), (wrap64 (x4_1 + 1)), rdT, rdT, H', ⟨by have := HK1.out; have := HJ1.out; omega⟩, drT⟩
       ·replace c9 := eE c9; subst c9; rw [if_neg nF] at H; have H' := asT H; clear H
        go_wp2_with (first | ((with_reducible refine gate_callee (f := 151) rfl ?_); refine goesL_ (some 18) rfl rfl Tryz.func151 (by kernel_rfl) rfl #[.string a0, .int .i64 (wrap64 (x4_1 - 1))] rfl eqT ?_; (with_reducible refine (spec_IsVowelAt.calls a0 (wrap64 (x4_1 - 1)) false _ A6.out).mono ?_); rintro e w' ⟨rfl, ⟨nd, rfl⟩⟩; refine ⟨_, rfl, ?_⟩) | (go_at_call 151; (with_reducible refine (spec_IsVowelAt.calls a0 x4_1 false _ A8.out).mono ?_); rintro e w' ⟨rfl, ⟨nd, rfl⟩⟩))
        go_roundg kj1
        case measure => have := HK1.out; have := HJ1.out; omega
        case rel => exact ⟨(wrap64 (x3_1 + 1)), (wrap64 (x4_1 + 1)), rdT, rdT, H', ⟨by have := HK1.out; have := HJ1.out; omega⟩, drT⟩
     ·replace c5 := eE c5; subst c5; rw [if_neg nF] at H; have H1 := H; clear H; have H := H1; clear H1; obtain rfl := oI H
      go_wp2
      go_ret; exact ⟨rdT, drT⟩
def spec_IsObstruent.f (a0 : Int) : Option (Bool) := if a0 = 112 then (some true) else (if a0 = 116 then (some true) else (if a0 = 98 then (some true) else (some (a0 == 100))))
theorem spec_IsObstruent.calls (a0 : Int) (r : Bool) (w : World) (h : spec_IsObstruent.f a0 = some r) :
  Calls Tryz.prog 154 #[.int .u8 a0] w fun e w' => e = .returned (.bool r) ∧ Drawn0 w w' := by
 have H := h; unfold spec_IsObstruent.f at H; clear h; by_cases c2 : a0 = 112
 ·rw [if_pos c2] at H; have c2b0 : (a0 == 112) = true := eC c2; have c2b1 : (a0 != 112) = false := eA c2; clear c2; obtain rfl := oI H; go_enter Tryz.func154, Tryz.ntmps154
  go_wp2
  go_ret; exact ⟨rdT, drT⟩
 ·rw [if_neg c2] at H; have c2b0 : (a0 == 112) = false := eB c2; have c2b1 : (a0 != 112) = true := eD c2; by_cases c3 : a0 = 116
  ·rw [if_pos c3] at H; have c3b0 : (a0 == 116) = true := eC c3; have c3b1 : (a0 != 116) = false := eA c3; clear c3; obtain rfl := oI H; go_enter Tryz.func154, Tryz.ntmps154
   go_wp2
   go_ret; exact ⟨rdT, drT⟩
  ·rw [if_neg c3] at H; have c3b0 : (a0 == 116) = false := eB c3; have c3b1 : (a0 != 116) = true := eD c3; by_cases c4 : a0 = 98
   ·rw [if_pos c4] at H; have c4b0 : (a0 == 98) = true := eC c4; have c4b1 : (a0 != 98) = false := eA c4; clear c4; obtain rfl := oI H; go_enter Tryz.func154, Tryz.ntmps154
    go_wp2
    go_ret; exact ⟨rdT, drT⟩
   ·rw [if_neg c4] at H; have c4b0 : (a0 == 98) = false := eB c4; have c4b1 : (a0 != 98) = true := eD c4; obtain rfl := oI H; go_enter Tryz.func154, Tryz.ntmps154
    go_wp2
    go_ret; exact ⟨rdT, drT⟩
def spec_l8Voiced.f (a0 : Int) : Option (Bool) := (spec_IsObstruent.f a0).bind fun t225 => (if t225 = true then ((spec_HasFeature.f a0 1).bind fun t226 => (some t226)) else (some false))
theorem spec_l8Voiced.calls (a0 : Int) (r : Bool) (w : World) (h : spec_l8Voiced.f a0 = some r) :
  Calls Tryz.prog 152 #[.int .u8 a0] w fun e w' => e = .returned (.bool r) ∧ Drawn0 w w' := by
 have H := h; unfold spec_l8Voiced.f at H; clear h; obtain ⟨t225, A2, H⟩ := be H; by_cases c3 : t225 = true
 ·subst c3; rw [if_pos rfl] at H; obtain ⟨t226, A4, H⟩ := be H; obtain rfl := oI H; go_enter Tryz.func152, Tryz.ntmps152
  go_wp2_with (first | ((with_reducible refine gate_callee (f := 154) rfl ?_); refine goesL_ (some 4) rfl rfl Tryz.func154 (by kernel_rfl) rfl #[.int .u8 a0] rfl eqT ?_; (with_reducible refine (spec_IsObstruent.calls a0 true _ A2.out).mono ?_); rintro e w' ⟨rfl, ⟨nd, rfl⟩⟩; refine ⟨_, rfl, ?_⟩) | (go_at_call 153; (with_reducible refine (spec_HasFeature.calls a0 1 t226 _ A4.out).mono ?_); rintro e w' ⟨rfl, ⟨nd, rfl⟩⟩))
  go_ret; exact ⟨rdT, drT⟩
 ·replace c3 := eE c3; subst c3; rw [if_neg nF] at H; have H1 := H; clear H; have H := H1; clear H1; obtain rfl := oI H; go_enter Tryz.func152, Tryz.ntmps152
  go_wp2_with (first | ((with_reducible refine gate_callee (f := 154) rfl ?_); refine goesL_ (some 4) rfl rfl Tryz.func154 (by kernel_rfl) rfl #[.int .u8 a0] rfl eqT ?_; (with_reducible refine (spec_IsObstruent.calls a0 false _ A2.out).mono ?_); rintro e w' ⟨rfl, ⟨nd, rfl⟩⟩; refine ⟨_, rfl, ?_⟩))
  go_ret; exact ⟨rdT, drT⟩
mutual
def spec_CountVoiced.l0 : Nat → ByteArray → Int → Int → Option (Int)
 | 0, _, _, _ => none
 | k + 1, x0, x3, x4 => if x4 < (x0.size : Int) then ((spec_IsForm.f k x0).bind fun t227 => (spec_CountVoiced.j1 k x0 x3 x4 t227)) else (spec_CountVoiced.j1 k x0 x3 x4 false)
def spec_CountVoiced.j1 : Nat → ByteArray → Int → Int → Bool → Option (Int)
 | 0, _, _, _, _ => none
 | k + 1, x0, x3, x4, x12 => if x12 = true then (if 0 ≤ x4 then (if x4 < (x0.size : Int) then ((spec_l8Voiced.f (bt x0 x4)).bind fun t228 => (if t228 = true then (spec_CountVoiced.l0 k x0 (wrap64 (x3 + 1)) (wrap64 (x4 + 1))) else (spec_CountVoiced.l0 k x0 x3 (wrap64 (x4 + 1))))) else (none)) else (none)) else (some x3)
end
def spec_CountVoiced.f (k : Nat) (a0 : ByteArray) : Option (Int) := spec_CountVoiced.l0 k a0 0 0
theorem spec_CountVoiced.mono_l : ∀ k, (∀ y0 y1 y2, LeO (spec_CountVoiced.l0 k y0 y1 y2) (spec_CountVoiced.l0 (k + 1) y0 y1 y2)) ∧ (∀ y0 y1 y2 y3, LeO (spec_CountVoiced.j1 k y0 y1 y2 y3) (spec_CountVoiced.j1 (k + 1) y0 y1 y2 y3))
 | 0 => ⟨fun _ _ _ r h => by simp [spec_CountVoiced.l0] at h, fun _ _ _ _ r h => by simp [spec_CountVoiced.j1] at h⟩
 | k + 1 => by
  obtain ⟨ih0, ih1⟩ := spec_CountVoiced.mono_l k; refine ⟨?_, ?_⟩
  ·intro y0 y1 y2; unfold spec_CountVoiced.l0
   with_reducible repeat' first | exact ih0 _ _ _ | exact ih1 _ _ _ _ | exact spec_IsForm.mono _ _ | exact LeO.refl _ | exact LeO.none _ | refine LeO.ite ?_ ?_ | refine LeO.bind ?_ (fun _ => ?_)
  ·intro y0 y1 y2 y3; unfold spec_CountVoiced.j1
   with_reducible repeat' first | exact ih0 _ _ _ | exact ih1 _ _ _ _ | exact spec_IsForm.mono _ _ | exact LeO.refl _ | exact LeO.none _ | refine LeO.ite ?_ ?_ | refine LeO.bind ?_ (fun _ => ?_)
theorem spec_CountVoiced.mono : ∀ a0 k, LeO (spec_CountVoiced.f k a0) (spec_CountVoiced.f (k + 1) a0) := by
 intro a0 k; obtain ⟨ih0, ih1⟩ := spec_CountVoiced.mono_l k; unfold spec_CountVoiced.f
 with_reducible repeat' first | exact ih0 _ _ _ | exact ih1 _ _ _ _ | exact spec_IsForm.mono _ _ | exact LeO.refl _ | exact LeO.none _ | refine LeO.ite ?_ ?_ | refine LeO.bind ?_ (fun _ => ?_)
theorem spec_CountVoiced.calls (k : Nat) (a0 : ByteArray) (r : Int) (w : World) (h : spec_CountVoiced.f k a0 = some r) :
  Calls Tryz.prog 115 #[.string a0] w fun e w' => e = .returned (.int .i64 r) ∧ Drawn0 w w' := by
 have H := h; unfold spec_CountVoiced.f at H; clear h; have H' := asT H; clear H; go_enter Tryz.func115, Tryz.ntmps115
 go_wp2
 go_loopg [3, 4] k (fun kq v3 v4 w' => ∃ (x3_1 : Int) (x4_1 : Int), v3 = .int .i64 x3_1 ∧ v4 = .int .i64 x4_1 ∧ Aside0 (spec_CountVoiced.l0 kq a0 x3_1 x4_1 = some r) ∧ Aside0 (kq ≤ k) ∧ Drawn0 w w')
 case atStart => exact ⟨(0), (0), rdT, rdT, H', ⟨Nat.le_refl _⟩, drT⟩
 case round =>
  clear H'; (try clear c1); obtain ⟨x3_1, x4_1, rfl, rfl, HA, HK1, ⟨m1, rfl⟩⟩ := hrel
  cases gk with
  | zero => exact absurd HA.out (by simp [spec_CountVoiced.l0])
  | succ k1 =>
   have H := HA.out; clear HA
   simp only [spec_CountVoiced.l0] at H
   have HC2 := asT H; clear H
   go_upto_region 3 with (fail)
   go_cut [12] (fun v12 wc => ∃ (kq : Nat) (x12_1 : Bool), v12 = .bool x12_1 ∧ Aside0 (spec_CountVoiced.j1 kq a0 x3_1 x4_1 x12_1 = some r) ∧ Aside0 (kq ≤ k1) ∧ Drawn0 w wc)
   case first =>
    have H := HC2.out; clear HC2; by_cases c3 : x4_1 < (a0.size : Int)
    ·rw [if_pos c3] at H; have c3b0 := dt c3; clear c3
     (first | rw [c3b0] | (simp only [i64_w, i32_w]; rw [c3b0]) | skip)
     obtain ⟨t227, A4, H⟩ := be H; have H' := asT H; clear H
     go_wp2_with (first | (go_at_call 36; (with_reducible refine (spec_IsForm.calls k1 a0 t227 _ A4.out).mono ?_); rintro e w' ⟨rfl, ⟨nd, rfl⟩⟩))
     go_meet
     case rel => exact ⟨_, (t227), rdT, H', ⟨by have := HK1.out; first | omega | exact Nat.le_refl _⟩, drT⟩
    ·rw [if_neg c3] at H; have c3b0 := df c3; clear c3
     (first | rw [c3b0] | (simp only [i64_w, i32_w]; rw [c3b0]) | skip)
     have H' := asT H; clear H
     go_wp2
     go_meet
     case rel => exact ⟨_, (false), rdT, H', ⟨by have := HK1.out; first | omega | exact Nat.le_refl _⟩, drT⟩
   case rest =>
    clear HC2; (try clear c1 p2 c3 c3b0); obtain ⟨kq, x12_1, rfl, HA, HJ1, ⟨mc1, rfl⟩⟩ := hcut
    cases kq with
    | zero => exact absurd HA.out (by simp [spec_CountVoiced.j1])
    | succ kj1 =>
     have H := HA.out; clear HA
     simp only [spec_CountVoiced.j1] at H
     by_cases c5 : x12_1 = true
     ·subst c5; rw [if_pos rfl] at H; have H1 := H; clear H; have H := H1; clear H1; by_cases c6 : 0 ≤ x4_1
      ·rw [if_pos c6] at H; have c6b0 := dt c6; clear c6; by_cases c7 : x4_1 < (a0.size : Int)
       ·rw [if_pos c7] at H; have c7b0 := dt c7; clear c7; obtain ⟨t228, A9, H⟩ := be H; by_cases c10 : t228 = true
        ·subst c10; rw [if_pos rfl] at H; have H' := asT H; clear H; have p8 : 0 ≤ (x4_1 : Int) := dT asmT; have q8 : x4_1 < (a0.size : Int) := dT asmT; have hx8 := bt_at a0 x4_1; replace p8 := eq_true p8; replace q8 := eq_true q8
         go_wp2_with (first | ((with_reducible refine gate_callee (f := 152) rfl ?_); refine goesL_ (some 18) rfl rfl Tryz.func152 (by kernel_rfl) rfl #[.int .u8 (bt a0 x4_1)] rfl eqT ?_; (with_reducible refine (spec_l8Voiced.calls (bt a0 x4_1) true _ A9.out).mono ?_); rintro e w' ⟨rfl, ⟨nd, rfl⟩⟩; refine ⟨_, rfl, ?_⟩))
         go_roundg kj1
         case measure => have := HK1.out; have := HJ1.out; omega
         case rel => exact ⟨(wrap64 (x3_1 + 1)), (wrap64 (x4_1 + 1)), rdT, rdT, H', ⟨by have := HK1.out; have := HJ1.out; omega⟩, drT⟩
        ·replace c10 := eE c10; subst c10; rw [if_neg nF] at H; have H' := asT H; clear H; have p8 : 0 ≤ (x4_1 : Int) := dT asmT; have q8 : x4_1 < (a0.size : Int) := dT asmT; have hx8 := bt_at a0 x4_1; replace p8 := eq_true p8; replace q8 := eq_true q8
         go_wp2_with (first | ((with_reducible refine gate_callee (f := 152) rfl ?_); refine goesL_ (some 18) rfl rfl Tryz.func152 (by kernel_rfl) rfl #[.int .u8 (bt a0 x4_1)] rfl eqT ?_; (with_reducible refine (spec_l8Voiced.calls (bt a0 x4_1) false _ A9.out).mono ?_); rintro e w' ⟨rfl, ⟨nd, rfl⟩⟩; refine ⟨_, rfl, ?_⟩))
         go_roundg kj1
         case measure => have := HK1.out; have := HJ1.out; omega
         case rel => exact ⟨(x3_1), (wrap64 (x4_1 + 1)), rdT, rdT, H', ⟨by have := HK1.out; have := HJ1.out; omega⟩, drT⟩
       ·rw [if_neg c7] at H; exact absurd H (by simp)
      ·rw [if_neg c6] at H; exact absurd H (by simp)
     ·replace c5 := eE c5; subst c5; rw [if_neg nF] at H; have H1 := H; clear H; have H := H1; clear H1; obtain rfl := oI H
      go_wp2
      go_ret; exact ⟨rdT, drT⟩
def spec_CountFinalVoiced.f (k : Nat) (a0 : ByteArray) : Option (Int) := (spec_IsForm.f k a0).bind fun t229 => (if t229 = true then (if a0.toList = ([] : List UInt8) then (some 0) else (if 0 ≤ (wrap64 ((a0.size : Int) - 1)) then (if (wrap64 ((a0.size : Int) - 1)) < (a0.size : Int) then ((spec_l8Voiced.f (bt a0 (wrap64 ((a0.size : Int) - 1)))).bind fun t230 => (if t230 = true then (some 1) else (some 0))) else (none)) else (none))) else (some 0))
theorem spec_CountFinalVoiced.mono : ∀ a0 k, LeO (spec_CountFinalVoiced.f k a0) (spec_CountFinalVoiced.f (k + 1) a0) := by
 intro a0 k; unfold spec_CountFinalVoiced.f
 with_reducible repeat' first | exact spec_IsForm.mono _ _ | exact LeO.refl _ | exact LeO.none _ | refine LeO.ite ?_ ?_ | refine LeO.bind ?_ (fun _ => ?_)
theorem spec_CountFinalVoiced.calls (k : Nat) (a0 : ByteArray) (r : Int) (w : World) (h : spec_CountFinalVoiced.f k a0 = some r) :
  Calls Tryz.prog 116 #[.string a0] w fun e w' => e = .returned (.int .i64 r) ∧ Drawn0 w w' := by
 have H := h; unfold spec_CountFinalVoiced.f at H; clear h; obtain ⟨t229, A2, H⟩ := be H; by_cases c3 : t229 = true
 ·subst c3; rw [if_pos rfl] at H; have H1 := H; clear H; have H := H1; clear H1; by_cases c4 : a0.toList = ([] : List UInt8)
  ·rw [if_pos c4] at H; have c4b0 : (a0.toList == ([] : List UInt8)) = true := eC c4; have c4b1 : (a0.toList != ([] : List UInt8)) = false := eA c4; clear c4; obtain rfl := oI H; go_enter Tryz.func116, Tryz.ntmps116
   go_wp2_with (first | ((with_reducible refine gate_callee (f := 36) rfl ?_); refine goesL_ (some 4) rfl rfl Tryz.func36 (by kernel_rfl) rfl #[.string a0] rfl eqT ?_; (with_reducible refine (spec_IsForm.calls k a0 true _ A2.out).mono ?_); rintro e w' ⟨rfl, ⟨nd, rfl⟩⟩; refine ⟨_, rfl, ?_⟩))
   go_ret; exact ⟨rdT, drT⟩
  ·rw [if_neg c4] at H; have c4b0 : (a0.toList == ([] : List UInt8)) = false := eB c4; have c4b1 : (a0.toList != ([] : List UInt8)) = true := eD c4; obtain ⟨ji5, hji5⟩ : ∃ j_ : Int, (wrap64 ((a0.size : Int) - 1)) = j_ := ⟨_, rfl⟩
   replace H : (if 0 ≤ (ji5) then (if (ji5) < (a0.size : Int) then ((spec_l8Voiced.f (bt a0 (ji5))).bind fun t230 => (if t230 = true then (some 1) else (some 0))) else (none)) else (none)) = some r := by first | (rw [hji5] at H; exact H) | (simp only [hji5] at H ⊢; exact H)
   (try rw [hji5] at A2)
   have hji5w : (IntKind.i64.wrap ((a0.size : Int) - 1)) = ji5 := (i64_w _).trans hji5; by_cases c6 : 0 ≤ (ji5)
   ·rw [if_pos c6] at H; have c6b0 := dt c6; clear c6; by_cases c7 : (ji5) < (a0.size : Int)
    ·rw [if_pos c7] at H; have c7b0 := dt c7; clear c7; obtain ⟨t230, A9, H⟩ := be H; by_cases c10 : t230 = true
     ·subst c10; rw [if_pos rfl] at H; have H1 := H; clear H; have H := H1; clear H1; obtain rfl := oI H; go_enter Tryz.func116, Tryz.ntmps116
      go_wp2_with (first | ((with_reducible refine gate_callee (f := 36) rfl ?_); refine goesL_ (some 4) rfl rfl Tryz.func36 (by kernel_rfl) rfl #[.string a0] rfl eqT ?_; (with_reducible refine (spec_IsForm.calls k a0 true _ A2.out).mono ?_); rintro e w' ⟨rfl, ⟨nd, rfl⟩⟩; refine ⟨_, rfl, ?_⟩; have p8 : 0 ≤ ((ji5) : Int) := dT asmT; have q8 : (ji5) < (a0.size : Int) := dT asmT; have hx8 := bt_at a0 (ji5); replace p8 := eq_true p8; replace q8 := eq_true q8) | (go_at_call 152; (with_reducible refine (spec_l8Voiced.calls (bt a0 (ji5)) true _ A9.out).mono ?_); rintro e w' ⟨rfl, ⟨nd, rfl⟩⟩))
      go_ret; exact ⟨by first | rfl | (simp; done) | (simp only [← hji5] <;> (first | rfl | simp)) | (simp [*]; done), drT⟩
     ·replace c10 := eE c10; subst c10; rw [if_neg nF] at H; have H1 := H; clear H; have H := H1; clear H1; obtain rfl := oI H; go_enter Tryz.func116, Tryz.ntmps116
      go_wp2_with (first | ((with_reducible refine gate_callee (f := 36) rfl ?_); refine goesL_ (some 4) rfl rfl Tryz.func36 (by kernel_rfl) rfl #[.string a0] rfl eqT ?_; (with_reducible refine (spec_IsForm.calls k a0 true _ A2.out).mono ?_); rintro e w' ⟨rfl, ⟨nd, rfl⟩⟩; refine ⟨_, rfl, ?_⟩; have p8 : 0 ≤ ((ji5) : Int) := dT asmT; have q8 : (ji5) < (a0.size : Int) := dT asmT; have hx8 := bt_at a0 (ji5); replace p8 := eq_true p8; replace q8 := eq_true q8) | (go_at_call 152; (with_reducible refine (spec_l8Voiced.calls (bt a0 (ji5)) false _ A9.out).mono ?_); rintro e w' ⟨rfl, ⟨nd, rfl⟩⟩))
      go_ret; exact ⟨by first | rfl | (simp; done) | (simp only [← hji5] <;> (first | rfl | simp)) | (simp [*]; done), drT⟩
    ·rw [if_neg c7] at H; exact absurd H (by simp)
   ·rw [if_neg c6] at H; exact absurd H (by simp)
 ·replace c3 := eE c3; subst c3; rw [if_neg nF] at H; have H1 := H; clear H; have H := H1; clear H1; obtain rfl := oI H; go_enter Tryz.func116, Tryz.ntmps116
  go_wp2_with (first | ((with_reducible refine gate_callee (f := 36) rfl ?_); refine goesL_ (some 4) rfl rfl Tryz.func36 (by kernel_rfl) rfl #[.string a0] rfl eqT ?_; (with_reducible refine (spec_IsForm.calls k a0 false _ A2.out).mono ?_); rintro e w' ⟨rfl, ⟨nd, rfl⟩⟩; refine ⟨_, rfl, ?_⟩))
  go_ret; exact ⟨rdT, drT⟩
end Go.Proofs.YtlmfpkiaikjlbaaGreat.PFnExactTableauOf
