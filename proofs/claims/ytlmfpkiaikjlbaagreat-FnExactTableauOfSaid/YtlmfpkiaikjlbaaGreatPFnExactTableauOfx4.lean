-- Made by gen.py (a program of this session) out of the translation; Lean checks it.
import Derived.Test.YtlmfpkiaikjlbaaGreatPFnExactTableauOfx0
import Derived.Test.YtlmfpkiaikjlbaaGreatPFnExactTableauOfx1
import Derived.Test.YtlmfpkiaikjlbaaGreatPFnExactTableauOfx2
import Derived.Test.YtlmfpkiaikjlbaaGreatPFnExactTableauOfx3
namespace Go.Proofs.YtlmfpkiaikjlbaaGreat.PFnExactTableauOf
open Go.RowKit Go.Proofs.YtlmfpkiaikjlbaaGreatB Go.Proofs.YtlmfpkiaikjlbaaGreatW.PrintWords Go.Proofs.YtlmfpkiaikjlbaaGreatW.PrintLast Go.Proofs.YtlmfpkiaikjlbaaGreatW.PrintMore
attribute [local go_sem] max2_int min2_int max_two min_two max_three min_three max_four min_four   -- for this text's walks alone
set_option linter.unusedVariables false
set_option maxHeartbeats 8000000
set_option maxRecDepth 100000
set_option linter.unusedSimpArgs false
mutual
def spec_CountNasalVoiceless.l0 : Nat → ByteArray → Int → Int → Option (Int)
 | 0, _, _, _ => none
 | k + 1, x0, x3, x4 => if x4 < (x0.size : Int) then ((spec_IsForm.f k x0).bind fun t231 => (spec_CountNasalVoiceless.j1 k x0 x3 x4 t231)) else (spec_CountNasalVoiceless.j1 k x0 x3 x4 false)
def spec_CountNasalVoiceless.j1 : Nat → ByteArray → Int → Int → Bool → Option (Int)
 | 0, _, _, _, _ => none
 | k + 1, x0, x3, x4, x12 => if x12 = true then (if 0 ≤ (wrap64 (x4 - 1)) then (if (wrap64 (x4 - 1)) < (x0.size : Int) then ((spec_HasFeature.f (bt x0 (wrap64 (x4 - 1))) 2).bind fun t232 => (if t232 = true then (if 0 ≤ x4 then (if x4 < (x0.size : Int) then ((spec_IsObstruent.f (bt x0 x4)).bind fun t233 => (if t233 = true then ((spec_HasFeature.f (bt x0 x4) 1).bind fun t234 => (if t234 = true then (spec_CountNasalVoiceless.l0 k x0 x3 (wrap64 (x4 + 1))) else (spec_CountNasalVoiceless.l0 k x0 (wrap64 (x3 + 1)) (wrap64 (x4 + 1))))) else (spec_CountNasalVoiceless.l0 k x0 x3 (wrap64 (x4 + 1))))) else (none)) else (none)) else (spec_CountNasalVoiceless.l0 k x0 x3 (wrap64 (x4 + 1))))) else (none)) else (none)) else (some x3)
end
def spec_CountNasalVoiceless.f (k : Nat) (a0 : ByteArray) : Option (Int) := spec_CountNasalVoiceless.l0 k a0 0 1
theorem spec_CountNasalVoiceless.mono_l : ∀ k, (∀ y0 y1 y2, LeO (spec_CountNasalVoiceless.l0 k y0 y1 y2) (spec_CountNasalVoiceless.l0 (k + 1) y0 y1 y2)) ∧ (∀ y0 y1 y2 y3, LeO (spec_CountNasalVoiceless.j1 k y0 y1 y2 y3) (spec_CountNasalVoiceless.j1 (k + 1) y0 y1 y2 y3))
 | 0 => ⟨fun _ _ _ r h => by simp [spec_CountNasalVoiceless.l0] at h, fun _ _ _ _ r h => by simp [spec_CountNasalVoiceless.j1] at h⟩
 | k + 1 => by
  obtain ⟨ih0, ih1⟩ := spec_CountNasalVoiceless.mono_l k; refine ⟨?_, ?_⟩
  ·intro y0 y1 y2; unfold spec_CountNasalVoiceless.l0
   with_reducible repeat' first | exact ih0 _ _ _ | exact ih1 _ _ _ _ | exact spec_IsForm.mono _ _ | exact LeO.refl _ | exact LeO.none _ | refine LeO.ite ?_ ?_ | refine LeO.bind ?_ (fun _ => ?_)
  ·intro y0 y1 y2 y3; unfold spec_CountNasalVoiceless.j1
   with_reducible repeat' first | exact ih0 _ _ _ | exact ih1 _ _ _ _ | exact spec_IsForm.mono _ _ | exact LeO.refl _ | exact LeO.none _ | refine LeO.ite ?_ ?_ | refine LeO.bind ?_ (fun _ => ?_)
theorem spec_CountNasalVoiceless.mono : ∀ a0 k, LeO (spec_CountNasalVoiceless.f k a0) (spec_CountNasalVoiceless.f (k + 1) a0) := by
 intro a0 k; obtain ⟨ih0, ih1⟩ := spec_CountNasalVoiceless.mono_l k; unfold spec_CountNasalVoiceless.f
 with_reducible repeat' first | exact ih0 _ _ _ | exact ih1 _ _ _ _ | exact spec_IsForm.mono _ _ | exact LeO.refl _ | exact LeO.none _ | refine LeO.ite ?_ ?_ | refine LeO.bind ?_ (fun _ => ?_)
theorem spec_CountNasalVoiceless.calls (k : Nat) (a0 : ByteArray) (r : Int) (w : World) (h : spec_CountNasalVoiceless.f k a0 = some r) :
  Calls Tryz.prog 117 #[.string a0] w fun e w' => e = .returned (.int .i64 r) ∧ Drawn0 w w' := by
 have H := h; unfold spec_CountNasalVoiceless.f at H; clear h; have H' := asT H; clear H; go_enter Tryz.func117, Tryz.ntmps117
 go_wp2
 go_loopg [3, 4] k (fun kq v3 v4 w' => ∃ (x3_1 : Int) (x4_1 : Int), v3 = .int .i64 x3_1 ∧ v4 = .int .i64 x4_1 ∧ Aside0 (spec_CountNasalVoiceless.l0 kq a0 x3_1 x4_1 = some r) ∧ Aside0 (kq ≤ k) ∧ Drawn0 w w')
 case atStart => exact ⟨(0), (1), rdT, rdT, H', ⟨Nat.le_refl _⟩, drT⟩
 case round =>
  clear H'; (try clear c1); obtain ⟨x3_1, x4_1, rfl, rfl, HA, HK1, ⟨m1, rfl⟩⟩ := hrel
  cases gk with
  | zero => exact absurd HA.out (by simp [spec_CountNasalVoiceless.l0])
  | succ k1 =>
   have H := HA.out; clear HA
   simp only [spec_CountNasalVoiceless.l0] at H
   have HC2 := asT H; clear H
   go_upto_region 3 with (fail)
   go_cut [12] (fun v12 wc => ∃ (kq : Nat) (x12_1 : Bool), v12 = .bool x12_1 ∧ Aside0 (spec_CountNasalVoiceless.j1 kq a0 x3_1 x4_1 x12_1 = some r) ∧ Aside0 (kq ≤ k1) ∧ Drawn0 w wc)
   case first =>
    have H := HC2.out; clear HC2; by_cases c3 : x4_1 < (a0.size : Int)
    ·rw [if_pos c3] at H; have c3b0 := dt c3; clear c3
     (first | rw [c3b0] | (simp only [i64_w, i32_w]; rw [c3b0]) | skip)
     obtain ⟨t231, A4, H⟩ := be H; have H' := asT H; clear H
     go_wp2_with (first | (go_at_call 36; (with_reducible refine (spec_IsForm.calls k1 a0 t231 _ A4.out).mono ?_); rintro e w' ⟨rfl, ⟨nd, rfl⟩⟩))
     go_meet
     case rel => exact ⟨_, (t231), rdT, H', ⟨by have := HK1.out; first | omega | exact Nat.le_refl _⟩, drT⟩
    ·rw [if_neg c3] at H; have c3b0 := df c3; clear c3
     (first | rw [c3b0] | (simp only [i64_w, i32_w]; rw [c3b0]) | skip)
     have H' := asT H; clear H
     go_wp2
     go_meet
     case rel => exact ⟨_, (false), rdT, H', ⟨by have := HK1.out; first | omega | exact Nat.le_refl _⟩, drT⟩
   case rest =>
    clear HC2; (try clear c1 p2 c3 c3b0); obtain ⟨kq, x12_1, rfl, HA, HJ1, ⟨mc1, rfl⟩⟩ := hcut
    cases kq with
    | zero => exact absurd HA.out (by simp [spec_CountNasalVoiceless.j1])
    | succ kj1 =>
     have H := HA.out; clear HA
     simp only [spec_CountNasalVoiceless.j1] at H
     by_cases c5 : x12_1 = true
     ·subst c5; rw [if_pos rfl] at H; obtain ⟨ji6, hji6⟩ : ∃ j_ : Int, (wrap64 (x4_1 - 1)) = j_ := ⟨_, rfl⟩
      replace H : (if 0 ≤ (ji6) then (if (ji6) < (a0.size : Int) then ((spec_HasFeature.f (bt a0 (ji6)) 2).bind fun t232 => (if t232 = true then (if 0 ≤ x4_1 then (if x4_1 < (a0.size : Int) then ((spec_IsObstruent.f (bt a0 x4_1)).bind fun t233 => (if t233 = true then ((spec_HasFeature.f (bt a0 x4_1) 1).bind fun t234 => (if t234 = true then (spec_CountNasalVoiceless.l0 kj1 a0 x3_1 (wrap64 (x4_1 + 1))) else (spec_CountNasalVoiceless.l0 kj1 a0 (wrap64 (x3_1 + 1)) (wrap64 (x4_1 + 1))))) else (spec_CountNasalVoiceless.l0 kj1 a0 x3_1 (wrap64 (x4_1 + 1))))) else (none)) else (none)) else (spec_CountNasalVoiceless.l0 kj1 a0 x3_1 (wrap64 (x4_1 + 1))))) else (none)) else (none)) = some r := by first | (rw [hji6] at H; exact H) | (simp only [hji6] at H ⊢; exact H)
      have hji6w : (IntKind.i64.wrap (x4_1 - 1)) = ji6 := (i64_w _).trans hji6; by_cases c7 : 0 ≤ (ji6)
      ·rw [if_pos c7] at H; have c7b0 := dt c7; clear c7; by_cases c8 : (ji6) < (a0.size : Int)
       ·rw [if_pos c8] at H; have c8b0 := dt c8; clear c8; obtain ⟨t232, A10, H⟩ := be H; by_cases c11 : t232 = true
        ·subst c11; rw [if_pos rfl] at H; have H1 := H; clear H; have H := H1; clear H1; by_cases c12 : 0 ≤ x4_1
         ·rw [if_pos c12] at H; have c12b0 := dt c12; clear c12; by_cases c13 : x4_1 < (a0.size : Int)
          ·rw [if_pos c13] at H; have c13b0 := dt c13; clear c13; obtain ⟨t233, A15, H⟩ := be H; by_cases c16 : t233 = true
           ·subst c16; rw [if_pos rfl] at H; obtain ⟨t234, A18, H⟩ := be H; by_cases c19 : t234 = true
            ·subst c19; rw [if_pos rfl] at H; have H' := asT H; clear H; have p9 : 0 ≤ ((ji6) : Int) := dT asmT; have q9 : (ji6) < (a0.size : Int) := dT asmT; have hx9 := bt_at a0 (ji6); replace p9 := eq_true p9; replace q9 := eq_true q9
             go_wp2_with (first | ((with_reducible refine gate_callee (f := 153) rfl ?_); refine goesL_ (some 19) rfl rfl Tryz.func153 (by kernel_rfl) rfl #[.int .u8 (bt a0 (ji6)), .int .i64 2] rfl (by (try simp only [List.map_toArray, List.map_cons, List.map_nil]); first | done | (simp only [hji6]; rfl) | rfl | (simp only [List.length_drop, List.length_take]; rfl)) ?_; (with_reducible refine (spec_HasFeature.calls (bt a0 (ji6)) 2 true _ A10.out).mono ?_); rintro e w' ⟨rfl, ⟨nd, rfl⟩⟩; refine ⟨_, rfl, ?_⟩; have p14 : 0 ≤ (x4_1 : Int) := dT asmT; have q14 : x4_1 < (a0.size : Int) := dT asmT; have hx14 := bt_at a0 x4_1; replace p14 := eq_true p14; replace q14 := eq_true q14) | (go_at_call 154; (with_reducible refine (spec_IsObstruent.calls (bt a0 x4_1) true _ A15.out).mono ?_); rintro e w' ⟨rfl, ⟨nd, rfl⟩⟩; have p17 : 0 ≤ (x4_1 : Int) := dT asmT; have q17 : x4_1 < (a0.size : Int) := dT asmT; have hx17 := bt_at a0 x4_1; replace p17 := eq_true p17; replace q17 := eq_true q17) | (go_at_call 153; (with_reducible refine (spec_HasFeature.calls (bt a0 x4_1) 1 true _ A18.out).mono ?_); rintro e w' ⟨rfl, ⟨nd, rfl⟩⟩))
             go_roundg kj1
             case measure => have := HK1.out; have := HJ1.out; omega
             case rel => exact ⟨(x3_1), (wrap64 (x4_1 + 1)), rdT, rdT, H', ⟨by have := HK1.out; have := HJ1.out; omega⟩, drT⟩
            ·replace c19 := eE c19; subst c19; rw [if_neg nF] at H; have H' := asT H; clear H; have p9 : 0 ≤ ((ji6) : Int) := dT asmT; have q9 : (ji6) < (a0.size : Int) := dT asmT; have hx9 := bt_at a0 (ji6); replace p9 := eq_true p9; replace q9 := eq_true q9
             go_wp2_with (first | ((with_reducible refine gate_callee (f := 153) rfl ?_); refine goesL_ (some 19) rfl rfl Tryz.func153 (by kernel_rfl) rfl #[.int .u8 (bt a0 (ji6)), .int .i64 2] rfl (by (try simp only [List.map_toArray, List.map_cons, List.map_nil]); first | done | (simp only [hji6]; rfl) | rfl | (simp only [List.length_drop, List.length_take]; rfl)) ?_; (with_reducible refine (spec_HasFeature.calls (bt a0 (ji6)) 2 true _ A10.out).mono ?_); rintro e w' ⟨rfl, ⟨nd, rfl⟩⟩; refine ⟨_, rfl, ?_⟩; have p14 : 0 ≤ (x4_1 : Int) := dT asmT; have q14 : x4_1 < (a0.size : Int) := dT asmT; have hx14 := bt_at a0 x4_1; replace p14 := eq_true p14; replace q14 := eq_true q14) | (go_at_call 154; (with_reducible refine (spec_IsObstruent.calls (bt a0 x4_1) true _ A15.out).mono ?_); rintro e w' ⟨rfl, ⟨nd, rfl⟩⟩; have p17 : 0 ≤ (x4_1 : Int) := dT asmT; have q17 : x4_1 < (a0.size : Int) := dT asmT; have hx17 := bt_at a0 x4_1; replace p17 := eq_true p17; replace q17 := eq_true q17) | (go_at_call 153; (with_reducible refine (spec_HasFeature.calls (bt a0 x4_1) 1 false _ A18.out).mono ?_); rintro e w' ⟨rfl, ⟨nd, rfl⟩⟩))
             go_roundg kj1
             case measure => have := HK1.out; have := HJ1.out; omega
             case rel => exact ⟨(wrap64 (x3_1 + 1)), (wrap64 (x4_1 + 1)), rdT, rdT, H', ⟨by have := HK1.out; have := HJ1.out; omega⟩, drT⟩
           ·replace c16 := eE c16; subst c16; rw [if_neg nF] at H; have H' := asT H; clear H; have p9 : 0 ≤ ((ji6) : Int) := dT asmT; have q9 : (ji6) < (a0.size : Int) := dT asmT; have hx9 := bt_at a0 (ji6); replace p9 := eq_true p9; replace q9 := eq_true q9
            go_wp2_with (first | ((with_reducible refine gate_callee (f := 153) rfl ?_); refine goesL_ (some 19) rfl rfl Tryz.func153 (by kernel_rfl) rfl #[.int .u8 (bt a0 (ji6)), .int .i64 2] rfl (by (try simp only [List.map_toArray, List.map_cons, List.map_nil]); first | done | (simp only [hji6]; rfl) | rfl | (simp only [List.length_drop, List.length_take]; rfl)) ?_; (with_reducible refine (spec_HasFeature.calls (bt a0 (ji6)) 2 true _ A10.out).mono ?_); rintro e w' ⟨rfl, ⟨nd, rfl⟩⟩; refine ⟨_, rfl, ?_⟩; have p14 : 0 ≤ (x4_1 : Int) := dT asmT; have q14 : x4_1 < (a0.size : Int) := dT asmT; have hx14 := bt_at a0 x4_1; replace p14 := eq_true p14; replace q14 := eq_true q14) | (go_at_call 154; (with_reducible refine (spec_IsObstruent.calls (bt a0 x4_1) false _ A15.out).mono ?_); rintro e w' ⟨rfl, ⟨nd, rfl⟩⟩))
            go_roundg kj1
            case measure => have := HK1.out; have := HJ1.out; omega
            case rel => exact ⟨(x3_1), (wrap64 (x4_1 + 1)), rdT, rdT, H', ⟨by have := HK1.out; have := HJ1.out; omega⟩, drT⟩
          ·rw [if_neg c13] at H; exact absurd H (by simp)
         ·rw [if_neg c12] at H; exact absurd H (by simp)
        ·replace c11 := eE c11; subst c11; rw [if_neg nF] at H; have H' := asT H; clear H; have p9 : 0 ≤ ((ji6) : Int) := dT asmT; have q9 : (ji6) < (a0.size : Int) := dT asmT; have hx9 := bt_at a0 (ji6); replace p9 := eq_true p9; replace q9 := eq_true q9
         go_wp2_with (first | ((with_reducible refine gate_callee (f := 153) rfl ?_); refine goesL_ (some 19) rfl rfl Tryz.func153 (by kernel_rfl) rfl #[.int .u8 (bt a0 (ji6)), .int .i64 2] rfl (by (try simp only [List.map_toArray, List.map_cons, List.map_nil]); first | done | (simp only [hji6]; rfl) | rfl | (simp only [List.length_drop, List.length_take]; rfl)) ?_; (with_reducible refine (spec_HasFeature.calls (bt a0 (ji6)) 2 false _ A10.out).mono ?_); rintro e w' ⟨rfl, ⟨nd, rfl⟩⟩; refine ⟨_, rfl, ?_⟩))
         go_roundg kj1
         case measure => have := HK1.out; have := HJ1.out; omega
         case rel => exact ⟨(x3_1), (wrap64 (x4_1 + 1)), rdT, rdT, H', ⟨by have := HK1.out; have := HJ1.out; omega⟩, drT⟩
       ·rw [if_neg c8] at H; exact absurd H (by simp)
      ·rw [if_neg c7] at H; exact absurd H (by simp)
     ·replace c5 := eE c5; subst c5; rw [if_neg nF] at H; have H1 := H; clear H; have H := H1; clear H1; obtain rfl := oI H
      go_wp2
      go_ret; exact ⟨rdT, drT⟩
mutual
def spec_CountDeleted.l0 : Nat → Int → Int → List (S109) → Option (Int)
 | 0, _, _, _ => none
 | k + 1, x3, x4, x236000 => if x4 < (x236000.length : Int) then ((spec_IsCandidate.f k x236000).bind fun t236 => (spec_CountDeleted.j1 k x3 x4 t236 x236000)) else (spec_CountDeleted.j1 k x3 x4 false x236000)
def spec_CountDeleted.j1 : Nat → Int → Int → Bool → List (S109) → Option (Int)
 | 0, _, _, _, _ => none
 | k + 1, x3, x4, x13, x236000 => if x13 = true then (if 0 ≤ x4 then (if x4 < (x236000.length : Int) then (if ((rd_T109 x236000 x4).f1) = 0 then (spec_CountDeleted.l0 k (wrap64 (x3 + 1)) (wrap64 (x4 + 1)) x236000) else (spec_CountDeleted.l0 k x3 (wrap64 (x4 + 1)) x236000)) else (none)) else (none)) else (some x3)
end
def spec_CountDeleted.f (k : Nat) (l0_0 : List (S109)) : Option (Int) := spec_CountDeleted.l0 k 0 0 l0_0
theorem spec_CountDeleted.mono_l : ∀ k, (∀ y0 y1 y2, LeO (spec_CountDeleted.l0 k y0 y1 y2) (spec_CountDeleted.l0 (k + 1) y0 y1 y2)) ∧ (∀ y0 y1 y2 y3, LeO (spec_CountDeleted.j1 k y0 y1 y2 y3) (spec_CountDeleted.j1 (k + 1) y0 y1 y2 y3))
 | 0 => ⟨fun _ _ _ r h => by simp [spec_CountDeleted.l0] at h, fun _ _ _ _ r h => by simp [spec_CountDeleted.j1] at h⟩
 | k + 1 => by
  obtain ⟨ih0, ih1⟩ := spec_CountDeleted.mono_l k; refine ⟨?_, ?_⟩
  ·intro y0 y1 y2; unfold spec_CountDeleted.l0
   with_reducible repeat' first | exact ih0 _ _ _ | exact ih1 _ _ _ _ | exact spec_IsCandidate.mono _ _ | exact LeO.refl _ | exact LeO.none _ | refine LeO.ite ?_ ?_ | refine LeO.bind ?_ (fun _ => ?_)
  ·intro y0 y1 y2 y3; unfold spec_CountDeleted.j1
   with_reducible repeat' first | exact ih0 _ _ _ | exact ih1 _ _ _ _ | exact spec_IsCandidate.mono _ _ | exact LeO.refl _ | exact LeO.none _ | refine LeO.ite ?_ ?_ | refine LeO.bind ?_ (fun _ => ?_)
theorem spec_CountDeleted.mono : ∀ a0 k, LeO (spec_CountDeleted.f k a0) (spec_CountDeleted.f (k + 1) a0) := by
 intro a0 k; obtain ⟨ih0, ih1⟩ := spec_CountDeleted.mono_l k; unfold spec_CountDeleted.f
 with_reducible repeat' first | exact ih0 _ _ _ | exact ih1 _ _ _ _ | exact spec_IsCandidate.mono _ _ | exact LeO.refl _ | exact LeO.none _ | refine LeO.ite ?_ ?_ | refine LeO.bind ?_ (fun _ => ?_)
theorem spec_CountDeleted.calls (k : Nat) (A0_0 : Option Addr) (c0_0 : Nat) (l0_0 : List (S109)) (r : Int) (w : World) (hr0_0 : Kd.C k109 w A0_0 l0_0.length l0_0) (hc0_0 : l0_0.length ≤ c0_0) (h : spec_CountDeleted.f k l0_0 = some r) :
  Calls Tryz.prog 118 #[.agg #[.slice A0_0 l0_0.length c0_0]] w fun e w' => e = .returned (.int .i64 r) ∧ Below w.heap.size w w' := by
 have hu60 := Tryz.underlying60; have HR0_0 := asT hr0_0; have HC0_0 := asT hc0_0; clear hr0_0 hc0_0; have HB := asT (Below.refl w.heap.size w); have H := h; unfold spec_CountDeleted.f at H; clear h; have H' := asT H; clear H; go_enter Tryz.func118, Tryz.ntmps118
 go_wp2_with (first | ((with_reducible refine gate_dst (N := 1) rfl ?_); refine boxT (N := 1) (cs := #[.slice A0_0 l0_0.length c0_0]) (t := 60) ?_; intro gb235 hg w2 hbox hb; have BK235 := asT hbox; have GW235 := asT (geT hg HB.out); have GE235 := GW235; replace HB := hS HB hb; clear hb hbox hg))
 go_loopg [3, 4] k (fun kq v3 v4 w' => ∃ (x3_1 : Int) (x4_1 : Int), v3 = .int .i64 x3_1 ∧ v4 = .int .i64 x4_1 ∧ Aside0 (spec_CountDeleted.l0 kq x3_1 x4_1 l0_0 = some r) ∧ Aside0 (kq ≤ k) ∧ Aside0 (w'.heap[gb235]? = some (.cells #[(.slice A0_0 l0_0.length c0_0)] 60 (0, 0))) ∧ Aside0 (Below w.heap.size w w'))
 case atStart => exact ⟨(0), (0), rdT, rdT, H', ⟨Nat.le_refl _⟩, kpT BK235.out, ⟨hbT HB.out⟩⟩
 case round =>
  clear H'; (try clear c1 p2); obtain ⟨x3_1, x4_1, rfl, rfl, HA, HK1, BK235, HB⟩ := hrel
  cases gk with
  | zero => exact absurd HA.out (by simp [spec_CountDeleted.l0])
  | succ k1 =>
   have H := HA.out; clear HA
   simp only [spec_CountDeleted.l0] at H
   have HC3 := asT H; clear H
   go_upto_region 3 with (fail)
   go_cut [13] (fun v13 wc => ∃ (kq : Nat) (x13_2 : Bool), v13 = .bool x13_2 ∧ Aside0 (spec_CountDeleted.j1 kq x3_1 x4_1 x13_2 l0_0 = some r) ∧ Aside0 (kq ≤ k1) ∧ Aside0 (wc.heap[gb235]? = some (.cells #[(.slice A0_0 l0_0.length c0_0)] 60 (0, 0))) ∧ Aside0 (Below w.heap.size w wc))
   case first =>
    have H := HC3.out; clear HC3; by_cases c4 : x4_1 < (l0_0.length : Int)
    ·rw [if_pos c4] at H; have c4b0 := dt c4; clear c4
     (first | rw [c4b0] | (simp only [i64_w, i32_w]; rw [c4b0]) | skip)
     obtain ⟨t236, A5, H⟩ := be H; have H' := asT H; clear H; obtain ⟨hcz6_0, hfz6_0⟩ := bx1 BK235.out
     go_wp2_with (first | (go_at_call 78; (with_reducible refine (spec_IsCandidate.calls k1 _ _ l0_0 t236 _ ?side1 ?side2 A5.out).mono ?_); (case side1 => exact crT HR0_0.out HB.out); (case side2 => exact HC0_0.out); rintro e w7 ⟨rfl, hb⟩; replace BK235 := bS BK235 hb; replace HB := hS HB hb; (try clear hb hb2 hk hi)))
     go_meet
     case rel => exact ⟨_, (t236), rdT, H', ⟨by have := HK1.out; first | omega | exact Nat.le_refl _⟩, kpT BK235.out, ⟨hbT HB.out⟩⟩
    ·rw [if_neg c4] at H; have c4b0 := df c4; clear c4
     (first | rw [c4b0] | (simp only [i64_w, i32_w]; rw [c4b0]) | skip)
     have H' := asT H; clear H; obtain ⟨hcz8_0, hfz8_0⟩ := bx1 BK235.out
     go_wp2
     go_meet
     case rel => exact ⟨_, (false), rdT, H', ⟨by have := HK1.out; first | omega | exact Nat.le_refl _⟩, kpT BK235.out, ⟨hbT HB.out⟩⟩
   case rest =>
    clear HC3; (try clear c1 p2 c4 c4b0 hcz6_0 hcz8_0 hfz6_0 hfz8_0 p2); obtain ⟨kq, x13_2, rfl, HA, HJ2, BK235, HB⟩ := hcut
    cases kq with
    | zero => exact absurd HA.out (by simp [spec_CountDeleted.j1])
    | succ kj2 =>
     have H := HA.out; clear HA
     simp only [spec_CountDeleted.j1] at H
     by_cases c9 : x13_2 = true
     ·subst c9; rw [if_pos rfl] at H; have H1 := H; clear H; have H := H1; clear H1; by_cases c10 : 0 ≤ x4_1
      ·rw [if_pos c10] at H; have c10b0 := dt c10; clear c10; by_cases c11 : x4_1 < (l0_0.length : Int)
       ·rw [if_pos c11] at H; have c11b0 := dt c11; clear c11; by_cases c12 : ((rd_T109 l0_0 x4_1).f1) = 0
        ·rw [if_pos c12] at H; have c12b0 : (((rd_T109 l0_0 x4_1).f1) == 0) = true := eC c12; have c12b1 : (((rd_T109 l0_0 x4_1).f1) != 0) = false := eA c12; clear c12; have H' := asT H; clear H; obtain ⟨hcz13_0, hfz13_0⟩ := bx1 BK235.out; have p237 : 0 ≤ (x4_1 : Int) := dT asmT; have q237 : x4_1 < (l0_0.length : Int) := dT asmT; obtain ⟨ad237, e237, hx237_0, hx237_1⟩ := at_T109 HR0_0.out x4_1 p237 q237
         cases e237
         replace hx237_0 := hbc HB.out hx237_0; replace hx237_1 := hbc HB.out hx237_1; replace p237 := eq_true p237; replace q237 := eq_true q237
         go_wp2
         go_roundg kj2
         case measure => have := HK1.out; have := HJ2.out; omega
         case rel => exact ⟨(wrap64 (x3_1 + 1)), (wrap64 (x4_1 + 1)), rdT, rdT, H', ⟨by have := HK1.out; have := HJ2.out; omega⟩, kpT BK235.out, ⟨hbT HB.out⟩⟩
        ·rw [if_neg c12] at H; have c12b0 : (((rd_T109 l0_0 x4_1).f1) == 0) = false := eB c12; have c12b1 : (((rd_T109 l0_0 x4_1).f1) != 0) = true := eD c12; have H' := asT H; clear H; obtain ⟨hcz14_0, hfz14_0⟩ := bx1 BK235.out; have p237 : 0 ≤ (x4_1 : Int) := dT asmT; have q237 : x4_1 < (l0_0.length : Int) := dT asmT; obtain ⟨ad237, e237, hx237_0, hx237_1⟩ := at_T109 HR0_0.out x4_1 p237 q237
         cases e237
         replace hx237_0 := hbc HB.out hx237_0; replace hx237_1 := hbc HB.out hx237_1; replace p237 := eq_true p237; replace q237 := eq_true q237
         go_wp2
         go_roundg kj2
         case measure => have := HK1.out; have := HJ2.out; omega
         case rel => exact ⟨(x3_1), (wrap64 (x4_1 + 1)), rdT, rdT, H', ⟨by have := HK1.out; have := HJ2.out; omega⟩, kpT BK235.out, ⟨hbT HB.out⟩⟩
       ·rw [if_neg c11] at H; exact absurd H (by simp)
      ·rw [if_neg c10] at H; exact absurd H (by simp)
     ·replace c9 := eE c9; subst c9; rw [if_neg nF] at H; have H1 := H; clear H; have H := H1; clear H1; obtain rfl := oI H
      go_wp2
      go_ret; exact ⟨rlT, hbT HB.out⟩
mutual
def spec_CountInserted.l0 : Nat → Int → Int → List (S109) → Option (Int)
 | 0, _, _, _ => none
 | k + 1, x3, x4, x239000 => if x4 < (x239000.length : Int) then ((spec_IsCandidate.f k x239000).bind fun t239 => (spec_CountInserted.j1 k x3 x4 t239 x239000)) else (spec_CountInserted.j1 k x3 x4 false x239000)
def spec_CountInserted.j1 : Nat → Int → Int → Bool → List (S109) → Option (Int)
 | 0, _, _, _, _ => none
 | k + 1, x3, x4, x13, x239000 => if x13 = true then (if 0 ≤ x4 then (if x4 < (x239000.length : Int) then (if ((rd_T109 x239000 x4).f0) = 0 then (spec_CountInserted.l0 k (wrap64 (x3 + 1)) (wrap64 (x4 + 1)) x239000) else (spec_CountInserted.l0 k x3 (wrap64 (x4 + 1)) x239000)) else (none)) else (none)) else (some x3)
end
def spec_CountInserted.f (k : Nat) (l0_0 : List (S109)) : Option (Int) := spec_CountInserted.l0 k 0 0 l0_0
theorem spec_CountInserted.mono_l : ∀ k, (∀ y0 y1 y2, LeO (spec_CountInserted.l0 k y0 y1 y2) (spec_CountInserted.l0 (k + 1) y0 y1 y2)) ∧ (∀ y0 y1 y2 y3, LeO (spec_CountInserted.j1 k y0 y1 y2 y3) (spec_CountInserted.j1 (k + 1) y0 y1 y2 y3))
 | 0 => ⟨fun _ _ _ r h => by simp [spec_CountInserted.l0] at h, fun _ _ _ _ r h => by simp [spec_CountInserted.j1] at h⟩
 | k + 1 => by
  obtain ⟨ih0, ih1⟩ := spec_CountInserted.mono_l k; refine ⟨?_, ?_⟩
  ·intro y0 y1 y2; unfold spec_CountInserted.l0
   with_reducible repeat' first | exact ih0 _ _ _ | exact ih1 _ _ _ _ | exact spec_IsCandidate.mono _ _ | exact LeO.refl _ | exact LeO.none _ | refine LeO.ite ?_ ?_ | refine LeO.bind ?_ (fun _ => ?_)
  ·intro y0 y1 y2 y3; unfold spec_CountInserted.j1
   with_reducible repeat' first | exact ih0 _ _ _ | exact ih1 _ _ _ _ | exact spec_IsCandidate.mono _ _ | exact LeO.refl _ | exact LeO.none _ | refine LeO.ite ?_ ?_ | refine LeO.bind ?_ (fun _ => ?_)
theorem spec_CountInserted.mono : ∀ a0 k, LeO (spec_CountInserted.f k a0) (spec_CountInserted.f (k + 1) a0) := by
 intro a0 k; obtain ⟨ih0, ih1⟩ := spec_CountInserted.mono_l k; unfold spec_CountInserted.f
 with_reducible repeat' first | exact ih0 _ _ _ | exact ih1 _ _ _ _ | exact spec_IsCandidate.mono _ _ | exact LeO.refl _ | exact LeO.none _ | refine LeO.ite ?_ ?_ | refine LeO.bind ?_ (fun _ => ?_)
theorem spec_CountInserted.calls (k : Nat) (A0_0 : Option Addr) (c0_0 : Nat) (l0_0 : List (S109)) (r : Int) (w : World) (hr0_0 : Kd.C k109 w A0_0 l0_0.length l0_0) (hc0_0 : l0_0.length ≤ c0_0) (h : spec_CountInserted.f k l0_0 = some r) :
  Calls Tryz.prog 119 #[.agg #[.slice A0_0 l0_0.length c0_0]] w fun e w' => e = .returned (.int .i64 r) ∧ Below w.heap.size w w' := by
 have hu60 := Tryz.underlying60; have HR0_0 := asT hr0_0; have HC0_0 := asT hc0_0; clear hr0_0 hc0_0; have HB := asT (Below.refl w.heap.size w); have H := h; unfold spec_CountInserted.f at H; clear h; have H' := asT H; clear H; go_enter Tryz.func119, Tryz.ntmps119
 go_wp2_with (first | ((with_reducible refine gate_dst (N := 1) rfl ?_); refine boxT (N := 1) (cs := #[.slice A0_0 l0_0.length c0_0]) (t := 60) ?_; intro gb238 hg w2 hbox hb; have BK238 := asT hbox; have GW238 := asT (geT hg HB.out); have GE238 := GW238; replace HB := hS HB hb; clear hb hbox hg))
 go_loopg [3, 4] k (fun kq v3 v4 w' => ∃ (x3_1 : Int) (x4_1 : Int), v3 = .int .i64 x3_1 ∧ v4 = .int .i64 x4_1 ∧ Aside0 (spec_CountInserted.l0 kq x3_1 x4_1 l0_0 = some r) ∧ Aside0 (kq ≤ k) ∧ Aside0 (w'.heap[gb238]? = some (.cells #[(.slice A0_0 l0_0.length c0_0)] 60 (0, 0))) ∧ Aside0 (Below w.heap.size w w'))
 case atStart => exact ⟨(0), (0), rdT, rdT, H', ⟨Nat.le_refl _⟩, kpT BK238.out, ⟨hbT HB.out⟩⟩
 case round =>
  clear H'; (try clear c1 p2); obtain ⟨x3_1, x4_1, rfl, rfl, HA, HK1, BK238, HB⟩ := hrel
  cases gk with
  | zero => exact absurd HA.out (by simp [spec_CountInserted.l0])
  | succ k1 =>
   have H := HA.out; clear HA
   simp only [spec_CountInserted.l0] at H
   have HC3 := asT H; clear H
   go_upto_region 3 with (fail)
   go_cut [13] (fun v13 wc => ∃ (kq : Nat) (x13_2 : Bool), v13 = .bool x13_2 ∧ Aside0 (spec_CountInserted.j1 kq x3_1 x4_1 x13_2 l0_0 = some r) ∧ Aside0 (kq ≤ k1) ∧ Aside0 (wc.heap[gb238]? = some (.cells #[(.slice A0_0 l0_0.length c0_0)] 60 (0, 0))) ∧ Aside0 (Below w.heap.size w wc))
   case first =>
    have H := HC3.out; clear HC3; by_cases c4 : x4_1 < (l0_0.length : Int)
    ·rw [if_pos c4] at H; have c4b0 := dt c4; clear c4
     (first | rw [c4b0] | (simp only [i64_w, i32_w]; rw [c4b0]) | skip)
     obtain ⟨t239, A5, H⟩ := be H; have H' := asT H; clear H; obtain ⟨hcz6_0, hfz6_0⟩ := bx1 BK238.out
     go_wp2_with (first | (go_at_call 78; (with_reducible refine (spec_IsCandidate.calls k1 _ _ l0_0 t239 _ ?side1 ?side2 A5.out).mono ?_); (case side1 => exact crT HR0_0.out HB.out); (case side2 => exact HC0_0.out); rintro e w7 ⟨rfl, hb⟩; replace BK238 := bS BK238 hb; replace HB := hS HB hb; (try clear hb hb2 hk hi)))
     go_meet
     case rel => exact ⟨_, (t239), rdT, H', ⟨by have := HK1.out; first | omega | exact Nat.le_refl _⟩, kpT BK238.out, ⟨hbT HB.out⟩⟩
    ·rw [if_neg c4] at H; have c4b0 := df c4; clear c4
     (first | rw [c4b0] | (simp only [i64_w, i32_w]; rw [c4b0]) | skip)
     have H' := asT H; clear H; obtain ⟨hcz8_0, hfz8_0⟩ := bx1 BK238.out
     go_wp2
     go_meet
     case rel => exact ⟨_, (false), rdT, H', ⟨by have := HK1.out; first | omega | exact Nat.le_refl _⟩, kpT BK238.out, ⟨hbT HB.out⟩⟩
   case rest =>
    clear HC3; (try clear c1 p2 c4 c4b0 hcz6_0 hcz8_0 hfz6_0 hfz8_0 p2); obtain ⟨kq, x13_2, rfl, HA, HJ2, BK238, HB⟩ := hcut
    cases kq with
    | zero => exact absurd HA.out (by simp [spec_CountInserted.j1])
    | succ kj2 =>
     have H := HA.out; clear HA
     simp only [spec_CountInserted.j1] at H
     by_cases c9 : x13_2 = true
     ·subst c9; rw [if_pos rfl] at H; have H1 := H; clear H; have H := H1; clear H1; by_cases c10 : 0 ≤ x4_1
      ·rw [if_pos c10] at H; have c10b0 := dt c10; clear c10; by_cases c11 : x4_1 < (l0_0.length : Int)
       ·rw [if_pos c11] at H; have c11b0 := dt c11; clear c11; by_cases c12 : ((rd_T109 l0_0 x4_1).f0) = 0
        ·rw [if_pos c12] at H; have c12b0 : (((rd_T109 l0_0 x4_1).f0) == 0) = true := eC c12; have c12b1 : (((rd_T109 l0_0 x4_1).f0) != 0) = false := eA c12; clear c12; have H' := asT H; clear H; obtain ⟨hcz13_0, hfz13_0⟩ := bx1 BK238.out; have p240 : 0 ≤ (x4_1 : Int) := dT asmT; have q240 : x4_1 < (l0_0.length : Int) := dT asmT; obtain ⟨ad240, e240, hx240_0, hx240_1⟩ := at_T109 HR0_0.out x4_1 p240 q240
         cases e240
         replace hx240_0 := hbc HB.out hx240_0; replace hx240_1 := hbc HB.out hx240_1; replace p240 := eq_true p240; replace q240 := eq_true q240
         go_wp2
         go_roundg kj2
         case measure => have := HK1.out; have := HJ2.out; omega
         case rel => exact ⟨(wrap64 (x3_1 + 1)), (wrap64 (x4_1 + 1)), rdT, rdT, H', ⟨by have := HK1.out; have := HJ2.out; omega⟩, kpT BK238.out, ⟨hbT HB.out⟩⟩
        ·rw [if_neg c12] at H; have c12b0 : (((rd_T109 l0_0 x4_1).f0) == 0) = false := eB c12; have c12b1 : (((rd_T109 l0_0 x4_1).f0) != 0) = true := eD c12; have H' := asT H; clear H; obtain ⟨hcz14_0, hfz14_0⟩ := bx1 BK238.out; have p240 : 0 ≤ (x4_1 : Int) := dT asmT; have q240 : x4_1 < (l0_0.length : Int) := dT asmT; obtain ⟨ad240, e240, hx240_0, hx240_1⟩ := at_T109 HR0_0.out x4_1 p240 q240
         cases e240
         replace hx240_0 := hbc HB.out hx240_0; replace hx240_1 := hbc HB.out hx240_1; replace p240 := eq_true p240; replace q240 := eq_true q240
         go_wp2
         go_roundg kj2
         case measure => have := HK1.out; have := HJ2.out; omega
         case rel => exact ⟨(x3_1), (wrap64 (x4_1 + 1)), rdT, rdT, H', ⟨by have := HK1.out; have := HJ2.out; omega⟩, kpT BK238.out, ⟨hbT HB.out⟩⟩
       ·rw [if_neg c11] at H; exact absurd H (by simp)
      ·rw [if_neg c10] at H; exact absurd H (by simp)
     ·replace c9 := eE c9; subst c9; rw [if_neg nF] at H; have H1 := H; clear H; have H := H1; clear H1; obtain rfl := oI H
      go_wp2
      go_ret; exact ⟨rlT, hbT HB.out⟩
mutual
def spec_CountVoiceChanged.l0 : Nat → Int → Int → List (S109) → Option (Int)
 | 0, _, _, _ => none
 | k + 1, x3, x4, x242000 => if x4 < (x242000.length : Int) then ((spec_IsCandidate.f k x242000).bind fun t242 => (spec_CountVoiceChanged.j1 k x3 x4 t242 x242000)) else (spec_CountVoiceChanged.j1 k x3 x4 false x242000)
def spec_CountVoiceChanged.j1 : Nat → Int → Int → Bool → List (S109) → Option (Int)
 | 0, _, _, _, _ => none
 | k + 1, x3, x4, x14, x242000 => if x14 = true then (if 0 ≤ x4 then (if x4 < (x242000.length : Int) then (if ((rd_T109 x242000 x4).f0) = 0 then (spec_CountVoiceChanged.l0 k x3 (wrap64 (x4 + 1)) x242000) else (if ((rd_T109 x242000 x4).f1) = 0 then (spec_CountVoiceChanged.l0 k x3 (wrap64 (x4 + 1)) x242000) else (if ((rd_T109 x242000 x4).f0) = ((rd_T109 x242000 x4).f1) then (spec_CountVoiceChanged.l0 k x3 (wrap64 (x4 + 1)) x242000) else (spec_CountVoiceChanged.l0 k (wrap64 (x3 + 1)) (wrap64 (x4 + 1)) x242000)))) else (none)) else (none)) else (some x3)
end
def spec_CountVoiceChanged.f (k : Nat) (l0_0 : List (S109)) : Option (Int) := spec_CountVoiceChanged.l0 k 0 0 l0_0
theorem spec_CountVoiceChanged.mono_l : ∀ k, (∀ y0 y1 y2, LeO (spec_CountVoiceChanged.l0 k y0 y1 y2) (spec_CountVoiceChanged.l0 (k + 1) y0 y1 y2)) ∧ (∀ y0 y1 y2 y3, LeO (spec_CountVoiceChanged.j1 k y0 y1 y2 y3) (spec_CountVoiceChanged.j1 (k + 1) y0 y1 y2 y3))
 | 0 => ⟨fun _ _ _ r h => by simp [spec_CountVoiceChanged.l0] at h, fun _ _ _ _ r h => by simp [spec_CountVoiceChanged.j1] at h⟩
 | k + 1 => by
  obtain ⟨ih0, ih1⟩ := spec_CountVoiceChanged.mono_l k; refine ⟨?_, ?_⟩
  ·intro y0 y1 y2; unfold spec_CountVoiceChanged.l0
   with_reducible repeat' first | exact ih0 _ _ _ | exact ih1 _ _ _ _ | exact spec_IsCandidate.mono _ _ | exact LeO.refl _ | exact LeO.none _ | refine LeO.ite ?_ ?_ | refine LeO.bind ?_ (fun _ => ?_)
  ·intro y0 y1 y2 y3; unfold spec_CountVoiceChanged.j1
   with_reducible repeat' first | exact ih0 _ _ _ | exact ih1 _ _ _ _ | exact spec_IsCandidate.mono _ _ | exact LeO.refl _ | exact LeO.none _ | refine LeO.ite ?_ ?_ | refine LeO.bind ?_ (fun _ => ?_)
theorem spec_CountVoiceChanged.mono : ∀ a0 k, LeO (spec_CountVoiceChanged.f k a0) (spec_CountVoiceChanged.f (k + 1) a0) := by
 intro a0 k; obtain ⟨ih0, ih1⟩ := spec_CountVoiceChanged.mono_l k; unfold spec_CountVoiceChanged.f
 with_reducible repeat' first | exact ih0 _ _ _ | exact ih1 _ _ _ _ | exact spec_IsCandidate.mono _ _ | exact LeO.refl _ | exact LeO.none _ | refine LeO.ite ?_ ?_ | refine LeO.bind ?_ (fun _ => ?_)
theorem spec_CountVoiceChanged.calls (k : Nat) (A0_0 : Option Addr) (c0_0 : Nat) (l0_0 : List (S109)) (r : Int) (w : World) (hr0_0 : Kd.C k109 w A0_0 l0_0.length l0_0) (hc0_0 : l0_0.length ≤ c0_0) (h : spec_CountVoiceChanged.f k l0_0 = some r) :
  Calls Tryz.prog 120 #[.agg #[.slice A0_0 l0_0.length c0_0]] w fun e w' => e = .returned (.int .i64 r) ∧ Below w.heap.size w w' := by
 have hu60 := Tryz.underlying60; have hu109 := Tryz.underlying109; have HR0_0 := asT hr0_0; have HC0_0 := asT hc0_0; clear hr0_0 hc0_0; have HB := asT (Below.refl w.heap.size w); have H := h; unfold spec_CountVoiceChanged.f at H; clear h; have H' := asT H; clear H; go_enter Tryz.func120, Tryz.ntmps120
 go_wp2_with (first | ((with_reducible refine gate_dst (N := 1) rfl ?_); refine boxT (N := 1) (cs := #[.slice A0_0 l0_0.length c0_0]) (t := 60) ?_; intro gb241 hg w2 hbox hb; have BK241 := asT hbox; have GW241 := asT (geT hg HB.out); have GE241 := GW241; replace HB := hS HB hb; clear hb hbox hg))
 go_loopg [3, 4] k (fun kq v3 v4 w' => ∃ (x3_1 : Int) (x4_1 : Int), v3 = .int .i64 x3_1 ∧ v4 = .int .i64 x4_1 ∧ Aside0 (spec_CountVoiceChanged.l0 kq x3_1 x4_1 l0_0 = some r) ∧ Aside0 (kq ≤ k) ∧ Aside0 (w'.heap[gb241]? = some (.cells #[(.slice A0_0 l0_0.length c0_0)] 60 (0, 0))) ∧ Aside0 (Below w.heap.size w w'))
 case atStart => exact ⟨(0), (0), rdT, rdT, H', ⟨Nat.le_refl _⟩, kpT BK241.out, ⟨hbT HB.out⟩⟩
 case round =>
  clear H'; (try clear c1 p2); obtain ⟨x3_1, x4_1, rfl, rfl, HA, HK1, BK241, HB⟩ := hrel
  cases gk with
  | zero => exact absurd HA.out (by simp [spec_CountVoiceChanged.l0])
  | succ k1 =>
   have H := HA.out; clear HA
   simp only [spec_CountVoiceChanged.l0] at H
   have HC3 := asT H; clear H
   go_upto_region 3 with (fail)
   go_cut [14] (fun v14 wc => ∃ (kq : Nat) (x14_2 : Bool), v14 = .bool x14_2 ∧ Aside0 (spec_CountVoiceChanged.j1 kq x3_1 x4_1 x14_2 l0_0 = some r) ∧ Aside0 (kq ≤ k1) ∧ Aside0 (wc.heap[gb241]? = some (.cells #[(.slice A0_0 l0_0.length c0_0)] 60 (0, 0))) ∧ Aside0 (Below w.heap.size w wc))
   case first =>
    have H := HC3.out; clear HC3; by_cases c4 : x4_1 < (l0_0.length : Int)
    ·rw [if_pos c4] at H; have c4b0 := dt c4; clear c4
     (first | rw [c4b0] | (simp only [i64_w, i32_w]; rw [c4b0]) | skip)
     obtain ⟨t242, A5, H⟩ := be H; have H' := asT H; clear H; obtain ⟨hcz6_0, hfz6_0⟩ := bx1 BK241.out
     go_wp2_with (first | (go_at_call 78; (with_reducible refine (spec_IsCandidate.calls k1 _ _ l0_0 t242 _ ?side1 ?side2 A5.out).mono ?_); (case side1 => exact crT HR0_0.out HB.out); (case side2 => exact HC0_0.out); rintro e w7 ⟨rfl, hb⟩; replace BK241 := bS BK241 hb; replace HB := hS HB hb; (try clear hb hb2 hk hi)))
     go_meet
     case rel => exact ⟨_, (t242), rdT, H', ⟨by have := HK1.out; first | omega | exact Nat.le_refl _⟩, kpT BK241.out, ⟨hbT HB.out⟩⟩
    ·rw [if_neg c4] at H; have c4b0 := df c4; clear c4
     (first | rw [c4b0] | (simp only [i64_w, i32_w]; rw [c4b0]) | skip)
     have H' := asT H; clear H; obtain ⟨hcz8_0, hfz8_0⟩ := bx1 BK241.out
     go_wp2
     go_meet
     case rel => exact ⟨_, (false), rdT, H', ⟨by have := HK1.out; first | omega | exact Nat.le_refl _⟩, kpT BK241.out, ⟨hbT HB.out⟩⟩
   case rest =>
    clear HC3; (try clear c1 p2 c4 c4b0 hcz6_0 hcz8_0 hfz6_0 hfz8_0 p2); obtain ⟨kq, x14_2, rfl, HA, HJ2, BK241, HB⟩ := hcut
    cases kq with
    | zero => exact absurd HA.out (by simp [spec_CountVoiceChanged.j1])
    | succ kj2 =>
     have H := HA.out; clear HA
     simp only [spec_CountVoiceChanged.j1] at H
     by_cases c9 : x14_2 = true
     ·subst c9; rw [if_pos rfl] at H; have H1 := H; clear H; have H := H1; clear H1; by_cases c10 : 0 ≤ x4_1
      ·rw [if_pos c10] at H; have c10b0 := dt c10; clear c10; by_cases c11 : x4_1 < (l0_0.length : Int)
       ·rw [if_pos c11] at H; have c11b0 := dt c11; clear c11; by_cases c12 : ((rd_T109 l0_0 x4_1).f0) = 0
        ·rw [if_pos c12] at H; have c12b0 : (((rd_T109 l0_0 x4_1).f0) == 0) = true := eC c12; have c12b1 : (((rd_T109 l0_0 x4_1).f0) != 0) = false := eA c12; clear c12; have H' := asT H; clear H; obtain ⟨hcz13_0, hfz13_0⟩ := bx1 BK241.out; have p243 : 0 ≤ (x4_1 : Int) := dT asmT; have q243 : x4_1 < (l0_0.length : Int) := dT asmT; obtain ⟨ad243, e243, hx243_0, hx243_1⟩ := at_T109 HR0_0.out x4_1 p243 q243
         cases e243
         replace hx243_0 := hbc HB.out hx243_0; replace hx243_1 := hbc HB.out hx243_1; replace p243 := eq_true p243; replace q243 := eq_true q243
         go_wp2_with (first | ((with_reducible refine gate_dst (N := 5) rfl ?_); refine boxT (N := 5) (cs := #[.int .u8 0, .int .u8 0]) (t := 109) ?_; intro gb244 hg w14 hbox hb; have BK244 := asT (hbox); have GW244 := asT (geT hg HB.out); have GE244 := asT (geT hg HB.out); replace HB := hS HB hb; have NB241_244 := asT ((by rw [hg]; exact Nat.ne_of_lt (blk_lt (g := gb241) (o := .cells #[.slice (some ad243) l0_0.length c0_0] 60 (0, 0)) (bkT BK241.out)) : gb241 ≠ gb244)); have NB244_241 := asT ((by rw [hg]; exact Nat.ne_of_gt (blk_lt (g := gb241) (o := .cells #[.slice (some ad243) l0_0.length c0_0] 60 (0, 0)) (bkT BK241.out)) : gb244 ≠ gb241)); replace BK241 := bS BK241 hb; clear hb hbox hg; have hnb15 := NB244_241.out; have hnc15 := NB241_244.out; obtain ⟨hcz16_0, hcz16_1, hfz16_0, hfz16_1⟩ := bx2 BK244.out))
         go_roundg kj2
         case measure => have := HK1.out; have := HJ2.out; omega
         case rel => exact ⟨(x3_1), (wrap64 (x4_1 + 1)), rdT, rdT, H', ⟨by have := HK1.out; have := HJ2.out; omega⟩, ⟨by (with_reducible repeat (first | refine blk_drewN ?_ _ | refine blk_drew ?_ | refine blk_alloc ?_ _)); refine blk_far ?_ NB241_244.out _; (with_reducible repeat (first | refine blk_drewN ?_ _ | refine blk_drew ?_ | refine blk_alloc ?_ _)); refine blk_far ?_ NB241_244.out _; (with_reducible repeat (first | refine blk_drewN ?_ _ | refine blk_drew ?_ | refine blk_alloc ?_ _)); exact BK241.out⟩, ⟨hbT HB.out⟩⟩
        ·rw [if_neg c12] at H; have c12b0 : (((rd_T109 l0_0 x4_1).f0) == 0) = false := eB c12; have c12b1 : (((rd_T109 l0_0 x4_1).f0) != 0) = true := eD c12; by_cases c17 : ((rd_T109 l0_0 x4_1).f1) = 0
         ·rw [if_pos c17] at H; have c17b0 : (((rd_T109 l0_0 x4_1).f1) == 0) = true := eC c17; have c17b1 : (((rd_T109 l0_0 x4_1).f1) != 0) = false := eA c17; clear c17; have H' := asT H; clear H; obtain ⟨hcz18_0, hfz18_0⟩ := bx1 BK241.out; have p243 : 0 ≤ (x4_1 : Int) := dT asmT; have q243 : x4_1 < (l0_0.length : Int) := dT asmT; obtain ⟨ad243, e243, hx243_0, hx243_1⟩ := at_T109 HR0_0.out x4_1 p243 q243
          cases e243
          replace hx243_0 := hbc HB.out hx243_0; replace hx243_1 := hbc HB.out hx243_1; replace p243 := eq_true p243; replace q243 := eq_true q243
          go_wp2_with (first | ((with_reducible refine gate_dst (N := 5) rfl ?_); refine boxT (N := 5) (cs := #[.int .u8 0, .int .u8 0]) (t := 109) ?_; intro gb244 hg w19 hbox hb; have BK244 := asT (hbox); have GW244 := asT (geT hg HB.out); have GE244 := asT (geT hg HB.out); replace HB := hS HB hb; have NB241_244 := asT ((by rw [hg]; exact Nat.ne_of_lt (blk_lt (g := gb241) (o := .cells #[.slice (some ad243) l0_0.length c0_0] 60 (0, 0)) (bkT BK241.out)) : gb241 ≠ gb244)); have NB244_241 := asT ((by rw [hg]; exact Nat.ne_of_gt (blk_lt (g := gb241) (o := .cells #[.slice (some ad243) l0_0.length c0_0] 60 (0, 0)) (bkT BK241.out)) : gb244 ≠ gb241)); replace BK241 := bS BK241 hb; clear hb hbox hg; have hnb20 := NB244_241.out; have hnc20 := NB241_244.out; obtain ⟨hcz21_0, hcz21_1, hfz21_0, hfz21_1⟩ := bx2 BK244.out))
          go_roundg kj2
          case measure => have := HK1.out; have := HJ2.out; omega
          case rel => exact ⟨(x3_1), (wrap64 (x4_1 + 1)), rdT, rdT, H', ⟨by have := HK1.out; have := HJ2.out; omega⟩, ⟨by (with_reducible repeat (first | refine blk_drewN ?_ _ | refine blk_drew ?_ | refine blk_alloc ?_ _)); refine blk_far ?_ NB241_244.out _; (with_reducible repeat (first | refine blk_drewN ?_ _ | refine blk_drew ?_ | refine blk_alloc ?_ _)); refine blk_far ?_ NB241_244.out _; (with_reducible repeat (first | refine blk_drewN ?_ _ | refine blk_drew ?_ | refine blk_alloc ?_ _)); exact BK241.out⟩, ⟨hbT HB.out⟩⟩
         ·rw [if_neg c17] at H; have c17b0 : (((rd_T109 l0_0 x4_1).f1) == 0) = false := eB c17; have c17b1 : (((rd_T109 l0_0 x4_1).f1) != 0) = true := eD c17; by_cases c22 : ((rd_T109 l0_0 x4_1).f0) = ((rd_T109 l0_0 x4_1).f1)
          ·rw [if_pos c22] at H; have c22b0 : (((rd_T109 l0_0 x4_1).f0) == ((rd_T109 l0_0 x4_1).f1)) = true := eC c22; have c22b1 : (((rd_T109 l0_0 x4_1).f0) != ((rd_T109 l0_0 x4_1).f1)) = false := eA c22; clear c22; have H' := asT H; clear H; obtain ⟨hcz23_0, hfz23_0⟩ := bx1 BK241.out; have p243 : 0 ≤ (x4_1 : Int) := dT asmT; have q243 : x4_1 < (l0_0.length : Int) := dT asmT; obtain ⟨ad243, e243, hx243_0, hx243_1⟩ := at_T109 HR0_0.out x4_1 p243 q243
           cases e243
           replace hx243_0 := hbc HB.out hx243_0; replace hx243_1 := hbc HB.out hx243_1; replace p243 := eq_true p243; replace q243 := eq_true q243
           go_wp2_with (first | ((with_reducible refine gate_dst (N := 5) rfl ?_); refine boxT (N := 5) (cs := #[.int .u8 0, .int .u8 0]) (t := 109) ?_; intro gb244 hg w24 hbox hb; have BK244 := asT (hbox); have GW244 := asT (geT hg HB.out); have GE244 := asT (geT hg HB.out); replace HB := hS HB hb; have NB241_244 := asT ((by rw [hg]; exact Nat.ne_of_lt (blk_lt (g := gb241) (o := .cells #[.slice (some ad243) l0_0.length c0_0] 60 (0, 0)) (bkT BK241.out)) : gb241 ≠ gb244)); have NB244_241 := asT ((by rw [hg]; exact Nat.ne_of_gt (blk_lt (g := gb241) (o := .cells #[.slice (some ad243) l0_0.length c0_0] 60 (0, 0)) (bkT BK241.out)) : gb244 ≠ gb241)); replace BK241 := bS BK241 hb; clear hb hbox hg; have hnb25 := NB244_241.out; have hnc25 := NB241_244.out; obtain ⟨hcz26_0, hcz26_1, hfz26_0, hfz26_1⟩ := bx2 BK244.out))
           go_roundg kj2
           case measure => have := HK1.out; have := HJ2.out; omega
           case rel => exact ⟨(x3_1), (wrap64 (x4_1 + 1)), rdT, rdT, H', ⟨by have := HK1.out; have := HJ2.out; omega⟩, ⟨by (with_reducible repeat (first | refine blk_drewN ?_ _ | refine blk_drew ?_ | refine blk_alloc ?_ _)); refine blk_far ?_ NB241_244.out _; (with_reducible repeat (first | refine blk_drewN ?_ _ | refine blk_drew ?_ | refine blk_alloc ?_ _)); refine blk_far ?_ NB241_244.out _; (with_reducible repeat (first | refine blk_drewN ?_ _ | refine blk_drew ?_ | refine blk_alloc ?_ _)); exact BK241.out⟩, ⟨hbT HB.out⟩⟩
          ·rw [if_neg c22] at H; have c22b0 : (((rd_T109 l0_0 x4_1).f0) == ((rd_T109 l0_0 x4_1).f1)) = false := eB c22; have c22b1 : (((rd_T109 l0_0 x4_1).f0) != ((rd_T109 l0_0 x4_1).f1)) = true := eD c22; have H' := asT H; clear H; obtain ⟨hcz27_0, hfz27_0⟩ := bx1 BK241.out; have p243 : 0 ≤ (x4_1 : Int) := dT asmT; have q243 : x4_1 < (l0_0.length : Int) := dT asmT; obtain ⟨ad243, e243, hx243_0, hx243_1⟩ := at_T109 HR0_0.out x4_1 p243 q243
           cases e243
           replace hx243_0 := hbc HB.out hx243_0; replace hx243_1 := hbc HB.out hx243_1; replace p243 := eq_true p243; replace q243 := eq_true q243
           go_wp2_with (first | ((with_reducible refine gate_dst (N := 5) rfl ?_); refine boxT (N := 5) (cs := #[.int .u8 0, .int .u8 0]) (t := 109) ?_; intro gb244 hg w28 hbox hb; have BK244 := asT (hbox); have GW244 := asT (geT hg HB.out); have GE244 := asT (geT hg HB.out); replace HB := hS HB hb; have NB241_244 := asT ((by rw [hg]; exact Nat.ne_of_lt (blk_lt (g := gb241) (o := .cells #[.slice (some ad243) l0_0.length c0_0] 60 (0, 0)) (bkT BK241.out)) : gb241 ≠ gb244)); have NB244_241 := asT ((by rw [hg]; exact Nat.ne_of_gt (blk_lt (g := gb241) (o := .cells #[.slice (some ad243) l0_0.length c0_0] 60 (0, 0)) (bkT BK241.out)) : gb244 ≠ gb241)); replace BK241 := bS BK241 hb; clear hb hbox hg; have hnb29 := NB244_241.out; have hnc29 := NB241_244.out; obtain ⟨hcz30_0, hcz30_1, hfz30_0, hfz30_1⟩ := bx2 BK244.out))
           go_roundg kj2
           case measure => have := HK1.out; have := HJ2.out; omega
           case rel => exact ⟨(wrap64 (x3_1 + 1)), (wrap64 (x4_1 + 1)), rdT, rdT, H', ⟨by have := HK1.out; have := HJ2.out; omega⟩, ⟨by (with_reducible repeat (first | refine blk_drewN ?_ _ | refine blk_drew ?_ | refine blk_alloc ?_ _)); refine blk_far ?_ NB241_244.out _; (with_reducible repeat (first | refine blk_drewN ?_ _ | refine blk_drew ?_ | refine blk_alloc ?_ _)); refine blk_far ?_ NB241_244.out _; (with_reducible repeat (first | refine blk_drewN ?_ _ | refine blk_drew ?_ | refine blk_alloc ?_ _)); exact BK241.out⟩, ⟨hbT HB.out⟩⟩
       ·rw [if_neg c11] at H; exact absurd H (by simp)
      ·rw [if_neg c10] at H; exact absurd H (by simp)
     ·replace c9 := eE c9; subst c9; rw [if_neg nF] at H; have H1 := H; clear H; have H := H1; clear H1; obtain rfl := oI H
      go_wp2
      go_ret; exact ⟨rlT, hbT HB.out⟩
def spec_l9Kept.f (a0_0 : Int) (a0_1 : Int) : Option (Bool) := if a0_0 = 0 then (some false) else (some (a0_1 != 0))
theorem spec_l9Kept.calls (a0_0 : Int) (a0_1 : Int) (r : Bool) (w : World) (h : spec_l9Kept.f a0_0 a0_1 = some r) :
  Calls Tryz.prog 155 #[.agg #[.int .u8 a0_0, .int .u8 a0_1]] w fun e w' => e = .returned (.bool r) ∧ Below w.heap.size w w' := by
 have hu109 := Tryz.underlying109; have HB := asT (Below.refl w.heap.size w); have H := h; unfold spec_l9Kept.f at H; clear h; by_cases c2 : a0_0 = 0
 ·rw [if_pos c2] at H; have c2b0 : (a0_0 == 0) = true := eC c2; have c2b1 : (a0_0 != 0) = false := eA c2; clear c2; obtain rfl := oI H; go_enter Tryz.func155, Tryz.ntmps155
  go_wp2_with (first | ((with_reducible refine gate_dst (N := 1) rfl ?_); refine boxT (N := 1) (cs := #[.int .u8 a0_0, .int .u8 a0_1]) (t := 109) ?_; intro gb245 hg w3 hbox hb; have BK245 := asT hbox; have GW245 := asT (geT hg HB.out); have GE245 := GW245; replace HB := hS HB hb; clear hb hbox hg; obtain ⟨hcz4_0, hcz4_1, hfz4_0, hfz4_1⟩ := bx2 BK245.out))
  go_ret; exact ⟨rlT, hbT HB.out⟩
 ·rw [if_neg c2] at H; have c2b0 : (a0_0 == 0) = false := eB c2; have c2b1 : (a0_0 != 0) = true := eD c2; obtain rfl := oI H; go_enter Tryz.func155, Tryz.ntmps155
  go_wp2_with (first | ((with_reducible refine gate_dst (N := 1) rfl ?_); refine boxT (N := 1) (cs := #[.int .u8 a0_0, .int .u8 a0_1]) (t := 109) ?_; intro gb245 hg w5 hbox hb; have BK245 := asT hbox; have GW245 := asT (geT hg HB.out); have GE245 := GW245; replace HB := hS HB hb; clear hb hbox hg; obtain ⟨hcz6_0, hcz6_1, hfz6_0, hfz6_1⟩ := bx2 BK245.out))
  go_ret; exact ⟨rlT, hbT HB.out⟩
mutual
def spec_CountBreaks.l0 : Nat → Int → Int → Int → List (S109) → Option (Int)
 | 0, _, _, _, _ => none
 | k + 1, x3, x4, x5, x247000 => if x5 < (x247000.length : Int) then ((spec_IsCandidate.f k x247000).bind fun t247 => (spec_CountBreaks.j1 k x3 x4 x5 t247 x247000)) else (spec_CountBreaks.j1 k x3 x4 x5 false x247000)
def spec_CountBreaks.j1 : Nat → Int → Int → Int → Bool → List (S109) → Option (Int)
 | 0, _, _, _, _, _ => none
 | k + 1, x3, x4, x5, x16, x247000 => if x16 = true then (if 0 ≤ x5 then (if x5 < (x247000.length : Int) then ((spec_l9Kept.f ((rd_T109 x247000 x5).f0) ((rd_T109 x247000 x5).f1)).bind fun t249 => (if t249 = true then (if x3 < 0 then (spec_CountBreaks.l0 k x5 x5 (wrap64 (x5 + 1)) x247000) else (spec_CountBreaks.l0 k x3 x5 (wrap64 (x5 + 1)) x247000)) else (spec_CountBreaks.l0 k x3 x4 (wrap64 (x5 + 1)) x247000))) else (none)) else (none)) else (spec_CountBreaks.l1 k x4 0 (mx 0 x3) x247000)
def spec_CountBreaks.l1 : Nat → Int → Int → Int → List (S109) → Option (Int)
 | 0, _, _, _, _ => none
 | k + 1, x4, x6, x7, x247000 => if x7 < x4 then (if 0 ≤ x7 then (if x7 < (x247000.length : Int) then ((spec_l9Kept.f ((rd_T109 x247000 x7).f0) ((rd_T109 x247000 x7).f1)).bind fun t251 => (if t251 = true then (spec_CountBreaks.l1 k x4 x6 (wrap64 (x7 + 1)) x247000) else (spec_CountBreaks.l1 k x4 (wrap64 (x6 + 1)) (wrap64 (x7 + 1)) x247000))) else (none)) else (none)) else (some x6)
end
def spec_CountBreaks.f (k : Nat) (l0_0 : List (S109)) : Option (Int) := spec_CountBreaks.l0 k (-1) (-1) 0 l0_0
theorem spec_CountBreaks.mono_l : ∀ k, (∀ y0 y1 y2 y3, LeO (spec_CountBreaks.l0 k y0 y1 y2 y3) (spec_CountBreaks.l0 (k + 1) y0 y1 y2 y3)) ∧ (∀ y0 y1 y2 y3 y4, LeO (spec_CountBreaks.j1 k y0 y1 y2 y3 y4) (spec_CountBreaks.j1 (k + 1) y0 y1 y2 y3 y4)) ∧ (∀ y0 y1 y2 y3, LeO (spec_CountBreaks.l1 k y0 y1 y2 y3) (spec_CountBreaks.l1 (k + 1) y0 y1 y2 y3))
 | 0 => ⟨fun _ _ _ _ r h => by simp [spec_CountBreaks.l0] at h, fun _ _ _ _ _ r h => by simp [spec_CountBreaks.j1] at h, fun _ _ _ _ r h => by simp [spec_CountBreaks.l1] at h⟩
 | k + 1 => by
  obtain ⟨ih0, ih1, ih2⟩ := spec_CountBreaks.mono_l k; refine ⟨?_, ?_, ?_⟩
  ·intro y0 y1 y2 y3; unfold spec_CountBreaks.l0
   with_reducible repeat' first | exact ih0 _ _ _ _ | exact ih1 _ _ _ _ _ | exact ih2 _ _ _ _ | exact spec_IsCandidate.mono _ _ | exact LeO.refl _ | exact LeO.none _ | refine LeO.ite ?_ ?_ | refine LeO.bind ?_ (fun _ => ?_)
  ·intro y0 y1 y2 y3 y4; unfold spec_CountBreaks.j1
   with_reducible repeat' first | exact ih0 _ _ _ _ | exact ih1 _ _ _ _ _ | exact ih2 _ _ _ _ | exact spec_IsCandidate.mono _ _ | exact LeO.refl _ | exact LeO.none _ | refine LeO.ite ?_ ?_ | refine LeO.bind ?_ (fun _ => ?_)
  ·intro y0 y1 y2 y3; unfold spec_CountBreaks.l1
   with_reducible repeat' first | exact ih0 _ _ _ _ | exact ih1 _ _ _ _ _ | exact ih2 _ _ _ _ | exact spec_IsCandidate.mono _ _ | exact LeO.refl _ | exact LeO.none _ | refine LeO.ite ?_ ?_ | refine LeO.bind ?_ (fun _ => ?_)
theorem spec_CountBreaks.mono : ∀ a0 k, LeO (spec_CountBreaks.f k a0) (spec_CountBreaks.f (k + 1) a0) := by
 intro a0 k; obtain ⟨ih0, ih1, ih2⟩ := spec_CountBreaks.mono_l k; unfold spec_CountBreaks.f
 with_reducible repeat' first | exact ih0 _ _ _ _ | exact ih1 _ _ _ _ _ | exact ih2 _ _ _ _ | exact spec_IsCandidate.mono _ _ | exact LeO.refl _ | exact LeO.none _ | refine LeO.ite ?_ ?_ | refine LeO.bind ?_ (fun _ => ?_)
theorem spec_CountBreaks.calls (k : Nat) (A0_0 : Option Addr) (c0_0 : Nat) (l0_0 : List (S109)) (r : Int) (w : World) (hr0_0 : Kd.C k109 w A0_0 l0_0.length l0_0) (hc0_0 : l0_0.length ≤ c0_0) (h : spec_CountBreaks.f k l0_0 = some r) :
  Calls Tryz.prog 121 #[.agg #[.slice A0_0 l0_0.length c0_0]] w fun e w' => e = .returned (.int .i64 r) ∧ Below w.heap.size w w' := by
 have hu60 := Tryz.underlying60; have hu109 := Tryz.underlying109; have HR0_0 := asT hr0_0; have HC0_0 := asT hc0_0; clear hr0_0 hc0_0; have HB := asT (Below.refl w.heap.size w); have H := h; unfold spec_CountBreaks.f at H; clear h; have H' := asT H; clear H; go_enter Tryz.func121, Tryz.ntmps121
 go_wp2_with (first | ((with_reducible refine gate_dst (N := 1) rfl ?_); refine boxT (N := 1) (cs := #[.slice A0_0 l0_0.length c0_0]) (t := 60) ?_; intro gb246 hg w2 hbox hb; have BK246 := asT hbox; have GW246 := asT (geT hg HB.out); have GE246 := GW246; replace HB := hS HB hb; clear hb hbox hg))
 go_loopg [3, 4, 5] k (fun kq v3 v4 v5 w' => ∃ (x3_1 : Int) (x4_1 : Int) (x5_1 : Int), v3 = .int .i64 x3_1 ∧ v4 = .int .i64 x4_1 ∧ v5 = .int .i64 x5_1 ∧ Aside0 (spec_CountBreaks.l0 kq x3_1 x4_1 x5_1 l0_0 = some r) ∧ Aside0 (kq ≤ k) ∧ Aside0 (w'.heap[gb246]? = some (.cells #[(.slice A0_0 l0_0.length c0_0)] 60 (0, 0))) ∧ Aside0 (Below w.heap.size w w'))
 case atStart => exact ⟨((-1)), ((-1)), (0), rdT, rdT, rdT, H', ⟨Nat.le_refl _⟩, kpT BK246.out, ⟨hbT HB.out⟩⟩
 case round =>
  clear H'; (try clear c1 p2); obtain ⟨x3_1, x4_1, x5_1, rfl, rfl, rfl, HA, HK1, BK246, HB⟩ := hrel
  cases gk with
  | zero => exact absurd HA.out (by simp [spec_CountBreaks.l0])
  | succ k1 =>
   have H := HA.out; clear HA
   simp only [spec_CountBreaks.l0] at H
   have HC3 := asT H; clear H
   go_upto_region 4 with (fail)
   go_cut [16] (fun v16 wc => ∃ (kq : Nat) (x16_2 : Bool), v16 = .bool x16_2 ∧ Aside0 (spec_CountBreaks.j1 kq x3_1 x4_1 x5_1 x16_2 l0_0 = some r) ∧ Aside0 (kq ≤ k1) ∧ Aside0 (wc.heap[gb246]? = some (.cells #[(.slice A0_0 l0_0.length c0_0)] 60 (0, 0))) ∧ Aside0 (Below w.heap.size w wc))
   case first =>
    have H := HC3.out; clear HC3; by_cases c4 : x5_1 < (l0_0.length : Int)
    ·rw [if_pos c4] at H; have c4b0 := dt c4; clear c4
     (first | rw [c4b0] | (simp only [i64_w, i32_w]; rw [c4b0]) | skip)
     obtain ⟨t247, A5, H⟩ := be H; have H' := asT H; clear H; obtain ⟨hcz6_0, hfz6_0⟩ := bx1 BK246.out
     go_wp2_with (first | (go_at_call 78; (with_reducible refine (spec_IsCandidate.calls k1 _ _ l0_0 t247 _ ?side1 ?side2 A5.out).mono ?_); (case side1 => exact crT HR0_0.out HB.out); (case side2 => exact HC0_0.out); rintro e w7 ⟨rfl, hb⟩; replace BK246 := bS BK246 hb; replace HB := hS HB hb; (try clear hb hb2 hk hi)))
     go_meet
     case rel => exact ⟨_, (t247), rdT, H', ⟨by have := HK1.out; first | omega | exact Nat.le_refl _⟩, kpT BK246.out, ⟨hbT HB.out⟩⟩
    ·rw [if_neg c4] at H; have c4b0 := df c4; clear c4
     (first | rw [c4b0] | (simp only [i64_w, i32_w]; rw [c4b0]) | skip)
     have H' := asT H; clear H; obtain ⟨hcz8_0, hfz8_0⟩ := bx1 BK246.out
     go_wp2
     go_meet
     case rel => exact ⟨_, (false), rdT, H', ⟨by have := HK1.out; first | omega | exact Nat.le_refl _⟩, kpT BK246.out, ⟨hbT HB.out⟩⟩
   case rest =>
    clear HC3; (try clear c1 p2 c4 c4b0 hcz6_0 hcz8_0 hfz6_0 hfz8_0 p2); obtain ⟨kq, x16_2, rfl, HA, HJ2, BK246, HB⟩ := hcut
    cases kq with
    | zero => exact absurd HA.out (by simp [spec_CountBreaks.j1])
    | succ kj2 =>
     have H := HA.out; clear HA
     simp only [spec_CountBreaks.j1] at H
     by_cases c9 : x16_2 = true
     ·subst c9; rw [if_pos rfl] at H; have H1 := H; clear H; have H := H1; clear H1; by_cases c10 : 0 ≤ x5_1
      ·rw [if_pos c10] at H; have c10b0 := dt c10; clear c10; by_cases c11 : x5_1 < (l0_0.length : Int)
       ·rw [if_pos c11] at H; have c11b0 := dt c11; clear c11; obtain ⟨t249, A12, H⟩ := be H; by_cases c13 : t249 = true
        ·subst c13; rw [if_pos rfl] at H; have H1 := H; clear H; have H := H1; clear H1; by_cases c14 : x3_1 < 0
         ·rw [if_pos c14] at H; have c14b0 := dt c14; clear c14; have H' := asT H; clear H; obtain ⟨hcz15_0, hfz15_0⟩ := bx1 BK246.out; have p248 : 0 ≤ (x5_1 : Int) := dT asmT; have q248 : x5_1 < (l0_0.length : Int) := dT asmT; obtain ⟨ad248, e248, hx248_0, hx248_1⟩ := at_T109 HR0_0.out x5_1 p248 q248
          cases e248
          replace hx248_0 := hbc HB.out hx248_0; replace hx248_1 := hbc HB.out hx248_1; replace p248 := eq_true p248; replace q248 := eq_true q248
          go_wp2_with (first | ((with_reducible refine gate_callee (f := 155) rfl ?_); refine goesL_ (some 24) rfl rfl Tryz.func155 (by kernel_rfl) rfl #[.agg #[.int .u8 ((rd_T109 l0_0 x5_1).f0), .int .u8 ((rd_T109 l0_0 x5_1).f1)]] rfl eqT ?_; (with_reducible refine (spec_l9Kept.calls ((rd_T109 l0_0 x5_1).f0) ((rd_T109 l0_0 x5_1).f1) true _ A12.out).mono ?_); rintro e w16 ⟨rfl, hb⟩; refine ⟨_, rfl, ?_⟩; replace BK246 := bS BK246 hb; replace HB := hS HB hb; (try clear hb hb2 hk hi)))
          go_roundg kj2
          case measure => have := HK1.out; have := HJ2.out; omega
          case rel => exact ⟨(x5_1), (x5_1), (wrap64 (x5_1 + 1)), rdT, rdT, rdT, H', ⟨by have := HK1.out; have := HJ2.out; omega⟩, kpT BK246.out, ⟨hbT HB.out⟩⟩
         ·rw [if_neg c14] at H; have c14b0 := df c14; clear c14; have H' := asT H; clear H; obtain ⟨hcz17_0, hfz17_0⟩ := bx1 BK246.out; have p248 : 0 ≤ (x5_1 : Int) := dT asmT; have q248 : x5_1 < (l0_0.length : Int) := dT asmT; obtain ⟨ad248, e248, hx248_0, hx248_1⟩ := at_T109 HR0_0.out x5_1 p248 q248
          cases e248
          replace hx248_0 := hbc HB.out hx248_0; replace hx248_1 := hbc HB.out hx248_1; replace p248 := eq_true p248; replace q248 := eq_true q248
          go_wp2_with (first | ((with_reducible refine gate_callee (f := 155) rfl ?_); refine goesL_ (some 24) rfl rfl Tryz.func155 (by kernel_rfl) rfl #[.agg #[.int .u8 ((rd_T109 l0_0 x5_1).f0), .int .u8 ((rd_T109 l0_0 x5_1).f1)]] rfl eqT ?_; (with_reducible refine (spec_l9Kept.calls ((rd_T109 l0_0 x5_1).f0) ((rd_T109 l0_0 x5_1).f1) true _ A12.out).mono ?_); rintro e w18 ⟨rfl, hb⟩; refine ⟨_, rfl, ?_⟩; replace BK246 := bS BK246 hb; replace HB := hS HB hb; (try clear hb hb2 hk hi)))
          go_roundg kj2
          case measure => have := HK1.out; have := HJ2.out; omega
          case rel => exact ⟨(x3_1), (x5_1), (wrap64 (x5_1 + 1)), rdT, rdT, rdT, H', ⟨by have := HK1.out; have := HJ2.out; omega⟩, kpT BK246.out, ⟨hbT HB.out⟩⟩
        ·replace c13 := eE c13; subst c13; rw [if_neg nF] at H; have H' := asT H; clear H; obtain ⟨hcz19_0, hfz19_0⟩ := bx1 BK246.out; have p248 : 0 ≤ (x5_1 : Int) := dT asmT; have q248 : x5_1 < (l0_0.length : Int) := dT asmT; obtain ⟨ad248, e248, hx248_0, hx248_1⟩ := at_T109 HR0_0.out x5_1 p248 q248
         cases e248
         replace hx248_0 := hbc HB.out hx248_0; replace hx248_1 := hbc HB.out hx248_1; replace p248 := eq_true p248; replace q248 := eq_true q248
         go_wp2_with (first | ((with_reducible refine gate_callee (f := 155) rfl ?_); refine goesL_ (some 24) rfl rfl Tryz.func155 (by kernel_rfl) rfl #[.agg #[.int .u8 ((rd_T109 l0_0 x5_1).f0), .int .u8 ((rd_T109 l0_0 x5_1).f1)]] rfl eqT ?_; (with_reducible refine (spec_l9Kept.calls ((rd_T109 l0_0 x5_1).f0) ((rd_T109 l0_0 x5_1).f1) false _ A12.out).mono ?_); rintro e w20 ⟨rfl, hb⟩; refine ⟨_, rfl, ?_⟩; replace BK246 := bS BK246 hb; replace HB := hS HB hb; (try clear hb hb2 hk hi)))
         go_roundg kj2
         case measure => have := HK1.out; have := HJ2.out; omega
         case rel => exact ⟨(x3_1), (x4_1), (wrap64 (x5_1 + 1)), rdT, rdT, rdT, H', ⟨by have := HK1.out; have := HJ2.out; omega⟩, kpT BK246.out, ⟨hbT HB.out⟩⟩
       ·rw [if_neg c11] at H; exact absurd H (by simp)
      ·rw [if_neg c10] at H; exact absurd H (by simp)
     ·replace c9 := eE c9; subst c9; rw [if_neg nF] at H; obtain ⟨ji21, hji21⟩ : ∃ j_ : Int, (mx 0 x3_1) = j_ := ⟨_, rfl⟩
      replace H : (spec_CountBreaks.l1 kj2 x4_1 0 ji21 l0_0) = some r := by first | (rw [hji21] at H; exact H) | (simp only [hji21] at H ⊢; exact H)
      have hji21_ : (if 0 < x3_1 then x3_1 else 0) = ji21 := hji21; have H' := asT H; clear H
      go_wp2
      go_loopg [6, 7] kj2 (fun kq v6 v7 w' => ∃ (x6_3 : Int) (x7_3 : Int), v6 = .int .i64 x6_3 ∧ v7 = .int .i64 x7_3 ∧ Aside0 (spec_CountBreaks.l1 kq x4_1 x6_3 x7_3 l0_0 = some r) ∧ Aside0 (kq ≤ kj2) ∧ Aside0 (w'.heap[gb246]? = some (.cells #[(.slice A0_0 l0_0.length c0_0)] 60 (0, 0))) ∧ Aside0 (Below w.heap.size w w'))
      case atStart => exact ⟨(0), (ji21), rdT, (by first | rfl | (simp; done) | (simp only [← hji21] <;> (first | rfl | simp)) | (simp [*]; done)), H', ⟨Nat.le_refl _⟩, kpT BK246.out, ⟨hbT HB.out⟩⟩
      case round =>
       clear H'; (try clear c1 p2 q2 hx2 c4 c4b0 p6 c9 c10 c10b0 c11 c11b0 c12 c13 c14 c14b0 c15 hcz15_0 hcz17_0 hcz19_0 hcz6_0 hcz8_0 hfz15_0 hfz17_0 hfz19_0 hfz6_0 hfz8_0 hx248_0 hx248_1 p2 p248 q248); obtain ⟨x6_3, x7_3, rfl, rfl, HA, HK3, BK246, HB⟩ := hrel
       cases gk with
       | zero => exact absurd HA.out (by simp [spec_CountBreaks.l1])
       | succ k3 =>
        have H := HA.out; clear HA
        simp only [spec_CountBreaks.l1] at H
        by_cases c22 : x7_3 < x4_1
        ·rw [if_pos c22] at H; have c22b0 := dt c22; clear c22; by_cases c23 : 0 ≤ x7_3
         ·rw [if_pos c23] at H; have c23b0 := dt c23; clear c23; by_cases c24 : x7_3 < (l0_0.length : Int)
          ·rw [if_pos c24] at H; have c24b0 := dt c24; clear c24; obtain ⟨t251, A25, H⟩ := be H; by_cases c26 : t251 = true
           ·subst c26; rw [if_pos rfl] at H; have H' := asT H; clear H; obtain ⟨hcz27_0, hfz27_0⟩ := bx1 BK246.out; have p250 : 0 ≤ (x7_3 : Int) := dT asmT; have q250 : x7_3 < (l0_0.length : Int) := dT asmT; obtain ⟨ad250, e250, hx250_0, hx250_1⟩ := at_T109 HR0_0.out x7_3 p250 q250
            cases e250
            replace hx250_0 := hbc HB.out hx250_0; replace hx250_1 := hbc HB.out hx250_1; replace p250 := eq_true p250; replace q250 := eq_true q250
            go_wp2_with (first | ((with_reducible refine gate_callee (f := 155) rfl ?_); refine goesL_ (some 41) rfl rfl Tryz.func155 (by kernel_rfl) rfl #[.agg #[.int .u8 ((rd_T109 l0_0 x7_3).f0), .int .u8 ((rd_T109 l0_0 x7_3).f1)]] rfl eqT ?_; (with_reducible refine (spec_l9Kept.calls ((rd_T109 l0_0 x7_3).f0) ((rd_T109 l0_0 x7_3).f1) true _ A25.out).mono ?_); rintro e w28 ⟨rfl, hb⟩; refine ⟨_, rfl, ?_⟩; replace BK246 := bS BK246 hb; replace HB := hS HB hb; (try clear hb hb2 hk hi)))
            go_roundg k3
            case measure => have := HK1.out; have := HJ2.out; have := HK3.out; omega
            case rel => exact ⟨(x6_3), (wrap64 (x7_3 + 1)), rdT, rdT, H', ⟨by have := HK1.out; have := HJ2.out; have := HK3.out; omega⟩, kpT BK246.out, ⟨hbT HB.out⟩⟩
           ·replace c26 := eE c26; subst c26; rw [if_neg nF] at H; have H' := asT H; clear H; obtain ⟨hcz29_0, hfz29_0⟩ := bx1 BK246.out; have p250 : 0 ≤ (x7_3 : Int) := dT asmT; have q250 : x7_3 < (l0_0.length : Int) := dT asmT; obtain ⟨ad250, e250, hx250_0, hx250_1⟩ := at_T109 HR0_0.out x7_3 p250 q250
            cases e250
            replace hx250_0 := hbc HB.out hx250_0; replace hx250_1 := hbc HB.out hx250_1; replace p250 := eq_true p250; replace q250 := eq_true q250
            go_wp2_with (first | ((with_reducible refine gate_callee (f := 155) rfl ?_); refine goesL_ (some 41) rfl rfl Tryz.func155 (by kernel_rfl) rfl #[.agg #[.int .u8 ((rd_T109 l0_0 x7_3).f0), .int .u8 ((rd_T109 l0_0 x7_3).f1)]] rfl eqT ?_; (with_reducible refine (spec_l9Kept.calls ((rd_T109 l0_0 x7_3).f0) ((rd_T109 l0_0 x7_3).f1) false _ A25.out).mono ?_); rintro e w30 ⟨rfl, hb⟩; refine ⟨_, rfl, ?_⟩; replace BK246 := bS BK246 hb; replace HB := hS HB hb; (try clear hb hb2 hk hi)))
            go_roundg k3
            case measure => have := HK1.out; have := HJ2.out; have := HK3.out; omega
            case rel => exact ⟨(wrap64 (x6_3 + 1)), (wrap64 (x7_3 + 1)), rdT, rdT, H', ⟨by have := HK1.out; have := HJ2.out; have := HK3.out; omega⟩, kpT BK246.out, ⟨hbT HB.out⟩⟩
          ·rw [if_neg c24] at H; exact absurd H (by simp)
         ·rw [if_neg c23] at H; exact absurd H (by simp)
        ·rw [if_neg c22] at H; have c22b0 := df c22; clear c22; obtain rfl := oI H
         go_wp2
         go_ret; exact ⟨by first | rfl | (simp [errW_none, errW_some] <;> rfl) | (simp only [← hji21]; first | rfl | (simp [errW_none, errW_some] <;> rfl)) | (simp [*, errW_none, errW_some] <;> rfl), hbT HB.out⟩
end Go.Proofs.YtlmfpkiaikjlbaaGreat.PFnExactTableauOf
