-- Made by gen.py (a program of this session) out of the translation; Lean checks it.
import Derived.Test.YtlmfpkiaikjlbaaPFnExactComposeCandidatesx0
namespace Go.Proofs.Ytlmfpkiaikjlbaa.PFnExactComposeCandidates
open Go.RowKit Go.Proofs.YtlmfpkiaikjlbaaB Go.Proofs.YtlmfpkiaikjlbaaW.PrintWords Go.Proofs.YtlmfpkiaikjlbaaW.PrintLast Go.Proofs.YtlmfpkiaikjlbaaW.PrintMore
attribute [local go_sem] max2_int min2_int max_two min_two max_three min_three max_four min_four   -- for this text's walks alone
set_option linter.unusedVariables false
set_option maxHeartbeats 8000000
set_option maxRecDepth 100000
set_option linter.unusedSimpArgs false
def laws_szLinkS.f (l0 : List (S97)) (a1 : Int) : Option (Int) := if (wrap64 (a1 - (l0.length : Int))) < 0 then (some (-1)) else (some (wrap64 (a1 - (l0.length : Int))))
theorem laws_szLinkS.calls (A0 : Option Addr) (c0 : Nat) (l0 : List (S97)) (a1 : Int) (r : Int) (w : World) (hr0 : Kd.C k97 w A0 l0.length l0) (hc0 : l0.length ≤ c0) (h : laws_szLinkS.f l0 a1 = some r) :
  Calls Try.prog 77 #[.slice A0 l0.length c0, .int .i64 a1] w fun e w' => e = .returned (.int .i64 r) ∧ Drawn0 w w' := by
 have HR0 := asT hr0; have HC0 := asT hc0; clear hr0 hc0; have H := h; unfold laws_szLinkS.f at H; clear h; by_cases c3 : (wrap64 (a1 - (l0.length : Int))) < 0
 ·rw [if_pos c3] at H; have c3b0 := dt c3; clear c3; obtain rfl := oI H; go_enter Try.func77, Try.ntmps77
  go_wp2
  go_ret; exact ⟨rdT, drT⟩
 ·rw [if_neg c3] at H; have c3b0 := df c3; clear c3; obtain rfl := oI H; go_enter Try.func77, Try.ntmps77
  go_wp2
  go_ret; exact ⟨rdT, drT⟩
def laws_szCandidate.f (l0_0 : List (S97)) (a1 : Int) : Option (Int) := (laws_szLinkS.f l0_0 a1).bind fun t102 => (if t102 < 0 then (some (-1)) else (some t102))
theorem laws_szCandidate.calls (A0_0 : Option Addr) (c0_0 : Nat) (l0_0 : List (S97)) (a1 : Int) (r : Int) (w : World) (hr0_0 : Kd.C k97 w A0_0 l0_0.length l0_0) (hc0_0 : l0_0.length ≤ c0_0) (h : laws_szCandidate.f l0_0 a1 = some r) :
  Calls Try.prog 44 #[.agg #[.slice A0_0 l0_0.length c0_0], .int .i64 a1] w fun e w' => e = .returned (.int .i64 r) ∧ Below w.heap.size w w' := by
 have hu53 := Try.underlying53; have HR0_0 := asT hr0_0; have HC0_0 := asT hc0_0; clear hr0_0 hc0_0; have HB := asT (Below.refl w.heap.size w); have H := h; unfold laws_szCandidate.f at H; clear h; obtain ⟨t102, A3, H⟩ := be H; by_cases c4 : t102 < 0
 ·rw [if_pos c4] at H; have c4b0 := dt c4; clear c4; obtain rfl := oI H; go_enter Try.func44, Try.ntmps44
  go_wp2_with (first | ((with_reducible refine gate_dst (N := 2) rfl ?_); refine boxT (N := 2) (cs := #[.slice A0_0 l0_0.length c0_0]) (t := 53) ?_; intro gb101 hg w5 hbox hb; have BK101 := asT hbox; have GW101 := asT (geT hg HB.out); have GE101 := GW101; replace HB := hS HB hb; clear hb hbox hg; obtain ⟨hcz6_0, hfz6_0⟩ := bx1 BK101.out) | ((with_reducible refine gate_callee (f := 77) rfl ?_); refine goesL_ (some 8) rfl rfl Try.func77 (by kernel_rfl) rfl #[.slice A0_0 l0_0.length c0_0, .int .i64 a1] rfl eqT ?_; (with_reducible refine (laws_szLinkS.calls _ _ l0_0 a1 t102 _ ?side1 ?side2 A3.out).mono ?_); (case side1 => exact crT HR0_0.out HB.out); (case side2 => exact HC0_0.out); rintro e w' ⟨rfl, ⟨nd, rfl⟩⟩; refine ⟨_, rfl, ?_⟩))
  go_ret; exact ⟨rlT, hbT HB.out⟩
 ·rw [if_neg c4] at H; have c4b0 := df c4; clear c4; obtain rfl := oI H; go_enter Try.func44, Try.ntmps44
  go_wp2_with (first | ((with_reducible refine gate_dst (N := 2) rfl ?_); refine boxT (N := 2) (cs := #[.slice A0_0 l0_0.length c0_0]) (t := 53) ?_; intro gb101 hg w7 hbox hb; have BK101 := asT hbox; have GW101 := asT (geT hg HB.out); have GE101 := GW101; replace HB := hS HB hb; clear hb hbox hg; obtain ⟨hcz8_0, hfz8_0⟩ := bx1 BK101.out) | ((with_reducible refine gate_callee (f := 77) rfl ?_); refine goesL_ (some 8) rfl rfl Try.func77 (by kernel_rfl) rfl #[.slice A0_0 l0_0.length c0_0, .int .i64 a1] rfl eqT ?_; (with_reducible refine (laws_szLinkS.calls _ _ l0_0 a1 t102 _ ?side1 ?side2 A3.out).mono ?_); (case side1 => exact crT HR0_0.out HB.out); (case side2 => exact HC0_0.out); rintro e w' ⟨rfl, ⟨nd, rfl⟩⟩; refine ⟨_, rfl, ?_⟩))
  go_ret; exact ⟨rlT, hbT HB.out⟩
def spec_SwapVoice.f (a0 : Int) : Option (Int × Bool) := if a0 = 112 then (some (98, true)) else (if a0 = 98 then (some (112, true)) else (if a0 = 116 then (some (100, true)) else (if a0 = 100 then (some (116, true)) else (some (a0, false)))))
theorem spec_SwapVoice.calls (a0 : Int) (r1 : Int) (r2 : Bool) (w : World) (h : spec_SwapVoice.f a0 = some (r1, r2)) :
  Calls Try.prog 58 #[.int .u8 a0] w fun e w' => e = .returned (.tuple #[.int .u8 r1, .bool r2]) ∧ Drawn0 w w' := by
 have H := h; unfold spec_SwapVoice.f at H; clear h; by_cases c2 : a0 = 112
 ·rw [if_pos c2] at H; have c2b0 : (a0 == 112) = true := eC c2; have c2b1 : (a0 != 112) = false := eA c2; clear c2
  simp only [Option.some.injEq, Prod.mk.injEq] at H
  obtain ⟨rfl, rfl⟩ := H; go_enter Try.func58, Try.ntmps58
  go_wp2
  go_ret2
  exact ⟨rdT, drT⟩
 ·rw [if_neg c2] at H; have c2b0 : (a0 == 112) = false := eB c2; have c2b1 : (a0 != 112) = true := eD c2; by_cases c3 : a0 = 98
  ·rw [if_pos c3] at H; have c3b0 : (a0 == 98) = true := eC c3; have c3b1 : (a0 != 98) = false := eA c3; clear c3
   simp only [Option.some.injEq, Prod.mk.injEq] at H
   obtain ⟨rfl, rfl⟩ := H; go_enter Try.func58, Try.ntmps58
   go_wp2
   go_ret2
   exact ⟨rdT, drT⟩
  ·rw [if_neg c3] at H; have c3b0 : (a0 == 98) = false := eB c3; have c3b1 : (a0 != 98) = true := eD c3; by_cases c4 : a0 = 116
   ·rw [if_pos c4] at H; have c4b0 : (a0 == 116) = true := eC c4; have c4b1 : (a0 != 116) = false := eA c4; clear c4
    simp only [Option.some.injEq, Prod.mk.injEq] at H
    obtain ⟨rfl, rfl⟩ := H; go_enter Try.func58, Try.ntmps58
    go_wp2
    go_ret2
    exact ⟨rdT, drT⟩
   ·rw [if_neg c4] at H; have c4b0 : (a0 == 116) = false := eB c4; have c4b1 : (a0 != 116) = true := eD c4; by_cases c5 : a0 = 100
    ·rw [if_pos c5] at H; have c5b0 : (a0 == 100) = true := eC c5; have c5b1 : (a0 != 100) = false := eA c5; clear c5
     simp only [Option.some.injEq, Prod.mk.injEq] at H
     obtain ⟨rfl, rfl⟩ := H; go_enter Try.func58, Try.ntmps58
     go_wp2
     go_ret2
     exact ⟨rdT, drT⟩
    ·rw [if_neg c5] at H; have c5b0 : (a0 == 100) = false := eB c5; have c5b1 : (a0 != 100) = true := eD c5
     simp only [Option.some.injEq, Prod.mk.injEq] at H
     obtain ⟨rfl, rfl⟩ := H; go_enter Try.func58, Try.ntmps58
     go_wp2
     go_ret2
     exact ⟨rdT, drT⟩
def spec_IsSound.l0 : Nat → Int → Int → Option (Bool)
 | 0, _, _ => none
 | k + 1, x0, x3 => if x3 < 7 then (if 0 ≤ x3 then (if (bt (⟨#[112, 116, 98, 100, 110, 97, 105]⟩ : ByteArray) x3) = x0 then (some true) else (spec_IsSound.l0 k x0 (wrap64 (x3 + 1)))) else (none)) else (some false)
def spec_IsSound.f (k : Nat) (a0 : Int) : Option (Bool) := spec_IsSound.l0 k a0 0
theorem spec_IsSound.mono_l : ∀ k, (∀ y0 y1, LeO (spec_IsSound.l0 k y0 y1) (spec_IsSound.l0 (k + 1) y0 y1))
 | 0 => fun _ _ r h => by simp [spec_IsSound.l0] at h
 | k + 1 => by
  have ih0 := spec_IsSound.mono_l k
  ·intro y0 y1; unfold spec_IsSound.l0
   with_reducible repeat' first | exact ih0 _ _ | exact LeO.refl _ | exact LeO.none _ | refine LeO.ite ?_ ?_ | refine LeO.bind ?_ (fun _ => ?_)
theorem spec_IsSound.mono : ∀ a0 k, LeO (spec_IsSound.f k a0) (spec_IsSound.f (k + 1) a0) := by
 intro a0 k; have ih0 := spec_IsSound.mono_l k; unfold spec_IsSound.f
 with_reducible repeat' first | exact ih0 _ _ | exact LeO.refl _ | exact LeO.none _ | refine LeO.ite ?_ ?_ | refine LeO.bind ?_ (fun _ => ?_)
theorem spec_IsSound.calls (k : Nat) (a0 : Int) (r : Bool) (w : World) (h : spec_IsSound.f k a0 = some r) :
  Calls Try.prog 59 #[.int .u8 a0] w fun e w' => e = .returned (.bool r) ∧ Drawn0 w w' := by
 have H := h; unfold spec_IsSound.f at H; clear h; have H' := asT H; clear H; go_enter Try.func59, Try.ntmps59
 go_wp2
 go_loopg [3] k (fun kq v3 w' => ∃ (x3_1 : Int), v3 = .int .i64 x3_1 ∧ Aside0 (spec_IsSound.l0 kq a0 x3_1 = some r) ∧ Aside0 (kq ≤ k) ∧ Drawn0 w w')
 case atStart => exact ⟨(0), rdT, H', ⟨Nat.le_refl _⟩, drT⟩
 case round =>
  clear H'; obtain ⟨x3_1, rfl, HA, HK1, ⟨m1, rfl⟩⟩ := hrel
  cases gk with
  | zero => exact absurd HA.out (by simp [spec_IsSound.l0])
  | succ k1 =>
   have H := HA.out; clear HA
   simp only [spec_IsSound.l0] at H
   by_cases c2 : x3_1 < 7
   ·rw [if_pos c2] at H; have c2b0 := dt c2; clear c2; by_cases c3 : 0 ≤ x3_1
    ·rw [if_pos c3] at H; have c3b0 := dt c3; clear c3; by_cases c5 : (bt (⟨#[112, 116, 98, 100, 110, 97, 105]⟩ : ByteArray) x3_1) = a0
     ·rw [if_pos c5] at H; have c5b0 : ((bt (⟨#[112, 116, 98, 100, 110, 97, 105]⟩ : ByteArray) x3_1) == a0) = true := eC c5; have c5b1 : ((bt (⟨#[112, 116, 98, 100, 110, 97, 105]⟩ : ByteArray) x3_1) != a0) = false := eA c5; clear c5; obtain rfl := oI H; have p4 : 0 ≤ (x3_1 : Int) := dT asmT; have q4 : x3_1 < (7 : Int) := dT asmT; have hx4 := bt_at (⟨#[112, 116, 98, 100, 110, 97, 105]⟩ : ByteArray) x3_1; replace p4 := eq_true p4; replace q4 := eq_true q4
      go_wp2
      go_ret; exact ⟨rdT, drT⟩
     ·rw [if_neg c5] at H; have c5b0 : ((bt (⟨#[112, 116, 98, 100, 110, 97, 105]⟩ : ByteArray) x3_1) == a0) = false := eB c5; have c5b1 : ((bt (⟨#[112, 116, 98, 100, 110, 97, 105]⟩ : ByteArray) x3_1) != a0) = true := eD c5; have H' := asT H; clear H; have p4 : 0 ≤ (x3_1 : Int) := dT asmT; have q4 : x3_1 < (7 : Int) := dT asmT; have hx4 := bt_at (⟨#[112, 116, 98, 100, 110, 97, 105]⟩ : ByteArray) x3_1; replace p4 := eq_true p4; replace q4 := eq_true q4
      go_wp2
      go_roundg k1
      case measure => have := HK1.out; omega
      case rel => exact ⟨(wrap64 (x3_1 + 1)), rdT, H', ⟨by have := HK1.out; omega⟩, drT⟩
    ·rw [if_neg c3] at H; exact absurd H (by simp)
   ·rw [if_neg c2] at H; have c2b0 := df c2; clear c2; obtain rfl := oI H
    go_wp2
    go_ret; exact ⟨rdT, drT⟩
def spec_l2Sounds.l0 : Nat → ByteArray → Int → Option (Bool)
 | 0, _, _ => none
 | k + 1, x0, x3 => if x3 < (x0.size : Int) then (if 0 ≤ x3 then ((spec_IsSound.f k (bt x0 x3)).bind fun t103 => (if t103 = true then (spec_l2Sounds.l0 k x0 (wrap64 (x3 + 1))) else (some false))) else (none)) else (some (decide ((x0.size : Int) ≤ 20)))
def spec_l2Sounds.f (k : Nat) (a0 : ByteArray) : Option (Bool) := spec_l2Sounds.l0 k a0 0
theorem spec_l2Sounds.mono_l : ∀ k, (∀ y0 y1, LeO (spec_l2Sounds.l0 k y0 y1) (spec_l2Sounds.l0 (k + 1) y0 y1))
 | 0 => fun _ _ r h => by simp [spec_l2Sounds.l0] at h
 | k + 1 => by
  have ih0 := spec_l2Sounds.mono_l k
  ·intro y0 y1; unfold spec_l2Sounds.l0
   with_reducible repeat' first | exact ih0 _ _ | exact spec_IsSound.mono _ _ | exact LeO.refl _ | exact LeO.none _ | refine LeO.ite ?_ ?_ | refine LeO.bind ?_ (fun _ => ?_)
theorem spec_l2Sounds.mono : ∀ a0 k, LeO (spec_l2Sounds.f k a0) (spec_l2Sounds.f (k + 1) a0) := by
 intro a0 k; have ih0 := spec_l2Sounds.mono_l k; unfold spec_l2Sounds.f
 with_reducible repeat' first | exact ih0 _ _ | exact spec_IsSound.mono _ _ | exact LeO.refl _ | exact LeO.none _ | refine LeO.ite ?_ ?_ | refine LeO.bind ?_ (fun _ => ?_)
theorem spec_l2Sounds.calls (k : Nat) (a0 : ByteArray) (r : Bool) (w : World) (h : spec_l2Sounds.f k a0 = some r) :
  Calls Try.prog 88 #[.string a0] w fun e w' => e = .returned (.bool r) ∧ Drawn0 w w' := by
 have H := h; unfold spec_l2Sounds.f at H; clear h; have H' := asT H; clear H; go_enter Try.func88, Try.ntmps88
 go_wp2
 go_loopg [3] k (fun kq v3 w' => ∃ (x3_1 : Int), v3 = .int .i64 x3_1 ∧ Aside0 (spec_l2Sounds.l0 kq a0 x3_1 = some r) ∧ Aside0 (kq ≤ k) ∧ Drawn0 w w')
 case atStart => exact ⟨(0), rdT, H', ⟨Nat.le_refl _⟩, drT⟩
 case round =>
  clear H'; obtain ⟨x3_1, rfl, HA, HK1, ⟨m1, rfl⟩⟩ := hrel
  cases gk with
  | zero => exact absurd HA.out (by simp [spec_l2Sounds.l0])
  | succ k1 =>
   have H := HA.out; clear HA
   simp only [spec_l2Sounds.l0] at H
   by_cases c2 : x3_1 < (a0.size : Int)
   ·rw [if_pos c2] at H; have c2b0 := dt c2; clear c2; by_cases c3 : 0 ≤ x3_1
    ·rw [if_pos c3] at H; have c3b0 := dt c3; clear c3; obtain ⟨t103, A5, H⟩ := be H; by_cases c6 : t103 = true
     ·subst c6; rw [if_pos rfl] at H; have H' := asT H; clear H; have p4 : 0 ≤ (x3_1 : Int) := dT asmT; have q4 : x3_1 < (a0.size : Int) := dT asmT; have hx4 := bt_at a0 x3_1; replace p4 := eq_true p4; replace q4 := eq_true q4
      go_wp2_with (first | ((with_reducible refine gate_callee (f := 59) rfl ?_); refine goesL_ (some 13) rfl rfl Try.func59 (by kernel_rfl) rfl #[.int .u8 (bt a0 x3_1)] rfl eqT ?_; (with_reducible refine (spec_IsSound.calls k1 (bt a0 x3_1) true _ A5.out).mono ?_); rintro e w' ⟨rfl, ⟨nd, rfl⟩⟩; refine ⟨_, rfl, ?_⟩))
      go_roundg k1
      case measure => have := HK1.out; omega
      case rel => exact ⟨(wrap64 (x3_1 + 1)), rdT, H', ⟨by have := HK1.out; omega⟩, drT⟩
     ·replace c6 := eE c6; subst c6; rw [if_neg nF] at H; have H1 := H; clear H; have H := H1; clear H1; obtain rfl := oI H; have p4 : 0 ≤ (x3_1 : Int) := dT asmT; have q4 : x3_1 < (a0.size : Int) := dT asmT; have hx4 := bt_at a0 x3_1; replace p4 := eq_true p4; replace q4 := eq_true q4
      go_wp2_with (first | ((with_reducible refine gate_callee (f := 59) rfl ?_); refine goesL_ (some 13) rfl rfl Try.func59 (by kernel_rfl) rfl #[.int .u8 (bt a0 x3_1)] rfl eqT ?_; (with_reducible refine (spec_IsSound.calls k1 (bt a0 x3_1) false _ A5.out).mono ?_); rintro e w' ⟨rfl, ⟨nd, rfl⟩⟩; refine ⟨_, rfl, ?_⟩))
      go_ret; exact ⟨rdT, drT⟩
    ·rw [if_neg c3] at H; exact absurd H (by simp)
   ·rw [if_neg c2] at H; have c2b0 := df c2; clear c2; obtain rfl := oI H
    go_wp2
    go_ret; exact ⟨rdT, drT⟩
def spec_IsForm.f (k : Nat) (a0 : ByteArray) : Option (Bool) := (spec_l2Sounds.f k a0).bind fun t104 => (if t104 = true then (some (decide ((a0.size : Int) ≤ 8))) else (some false))
theorem spec_IsForm.mono : ∀ a0 k, LeO (spec_IsForm.f k a0) (spec_IsForm.f (k + 1) a0) := by
 intro a0 k; unfold spec_IsForm.f
 with_reducible repeat' first | exact spec_l2Sounds.mono _ _ | exact LeO.refl _ | exact LeO.none _ | refine LeO.ite ?_ ?_ | refine LeO.bind ?_ (fun _ => ?_)
theorem spec_IsForm.calls (k : Nat) (a0 : ByteArray) (r : Bool) (w : World) (h : spec_IsForm.f k a0 = some r) :
  Calls Try.prog 60 #[.string a0] w fun e w' => e = .returned (.bool r) ∧ Drawn0 w w' := by
 have H := h; unfold spec_IsForm.f at H; clear h; obtain ⟨t104, A2, H⟩ := be H; by_cases c3 : t104 = true
 ·subst c3; rw [if_pos rfl] at H; have H1 := H; clear H; have H := H1; clear H1; obtain rfl := oI H; go_enter Try.func60, Try.ntmps60
  go_wp2_with (first | ((with_reducible refine gate_callee (f := 88) rfl ?_); refine goesL_ (some 4) rfl rfl Try.func88 (by kernel_rfl) rfl #[.string a0] rfl eqT ?_; (with_reducible refine (spec_l2Sounds.calls k a0 true _ A2.out).mono ?_); rintro e w' ⟨rfl, ⟨nd, rfl⟩⟩; refine ⟨_, rfl, ?_⟩))
  go_ret; exact ⟨rdT, drT⟩
 ·replace c3 := eE c3; subst c3; rw [if_neg nF] at H; have H1 := H; clear H; have H := H1; clear H1; obtain rfl := oI H; go_enter Try.func60, Try.ntmps60
  go_wp2_with (first | ((with_reducible refine gate_callee (f := 88) rfl ?_); refine goesL_ (some 4) rfl rfl Try.func88 (by kernel_rfl) rfl #[.string a0] rfl eqT ?_; (with_reducible refine (spec_l2Sounds.calls k a0 false _ A2.out).mono ?_); rintro e w' ⟨rfl, ⟨nd, rfl⟩⟩; refine ⟨_, rfl, ?_⟩))
  go_ret; exact ⟨rdT, drT⟩
def spec_l6In.l0 : Nat → List Int → Int → List (S63) → Option (ByteArray)
 | 0, _, _, _ => none
 | k + 1, x3, x4, x106000 => if x4 < (x106000.length : Int) then (if 0 ≤ x4 then (if ((rd_T63 x106000 x4).f0) = 0 then (spec_l6In.l0 k x3 (wrap64 (x4 + 1)) x106000) else (if x3.length < 140737488355328 then (spec_l6In.l0 k (x3 ++ [(rd_T63 x106000 x4).f0]) (wrap64 (x4 + 1)) x106000) else (none))) else (none)) else (some (strOfNums x3))
def spec_l6In.f (k : Nat) (l0_0 : List (S63)) : Option (ByteArray) := spec_l6In.l0 k (([] : List Int)) 0 l0_0
theorem spec_l6In.mono_l : ∀ k, (∀ y0 y1 y2, LeO (spec_l6In.l0 k y0 y1 y2) (spec_l6In.l0 (k + 1) y0 y1 y2))
 | 0 => fun _ _ _ r h => by simp [spec_l6In.l0] at h
 | k + 1 => by
  have ih0 := spec_l6In.mono_l k
  ·intro y0 y1 y2; unfold spec_l6In.l0
   with_reducible repeat' first | exact ih0 _ _ _ | exact LeO.refl _ | exact LeO.none _ | refine LeO.ite ?_ ?_ | refine LeO.bind ?_ (fun _ => ?_)
theorem spec_l6In.mono : ∀ a0 k, LeO (spec_l6In.f k a0) (spec_l6In.f (k + 1) a0) := by
 intro a0 k; have ih0 := spec_l6In.mono_l k; unfold spec_l6In.f
 with_reducible repeat' first | exact ih0 _ _ _ | exact LeO.refl _ | exact LeO.none _ | refine LeO.ite ?_ ?_ | refine LeO.bind ?_ (fun _ => ?_)
theorem spec_l6In.calls (k : Nat) (A0_0 : Option Addr) (c0_0 : Nat) (l0_0 : List (S63)) (r : ByteArray) (w : World) (hr0_0 : Kd.C k63 w A0_0 l0_0.length l0_0) (hc0_0 : l0_0.length ≤ c0_0) (h : spec_l6In.f k l0_0 = some r) :
  Calls Try.prog 61 #[.agg #[.slice A0_0 l0_0.length c0_0]] w fun e w' => e = .returned (.string r) ∧ Below w.heap.size w w' := by
 have hu26 := Try.underlying26; have HR0_0 := asT hr0_0; have HC0_0 := asT hc0_0; clear hr0_0 hc0_0; have HB := asT (Below.refl w.heap.size w); have H := h; unfold spec_l6In.f at H; clear h; obtain ⟨y106, hy106⟩ : ∃ y_ : List Int, y_ = (([] : List Int)) := ⟨_, rfl⟩
 replace H : (spec_l6In.l0 k y106 0 l0_0) = some r := by first | (rw [hy106]; with_reducible exact H) | (have H2_ := (Option.bind_some _ _).symm.trans H; rw [hy106]; with_reducible exact H2_) | (have H2_ := (Option.bind_some _ _).symm.trans H; with_reducible exact H2_) | with_reducible exact H | (rw [hy106]; exact H) | exact H
 have Ny106 := asT hy106; clear hy106; have H' := asT H; clear H; go_enter Try.func61, Try.ntmps61
 go_wp2_with (first | ((with_reducible refine gate_dst (N := 1) rfl ?_); refine boxT (N := 1) (cs := #[.slice A0_0 l0_0.length c0_0]) (t := 26) ?_; intro gb105 hg w2 hbox hb; have BK105 := asT hbox; have GW105 := asT (geT hg HB.out); have GE105 := GW105; replace HB := hS HB hb; clear hb hbox hg) | ((with_reducible refine gate_dst (N := 5) rfl ?_); refine Kd.R_lit (Kd.int .u8) _ 5 ?hg (N := 5) ?hd (xs := ([] : List Int)) (inner := []) (ok := fun _ => True) (okp := fun _ => True) ?hr ?hp (fun _ hk => hk) trivial (Below.refl _ _) (Nat.le_refl _) (by simp) ?_; (case hd => rfl); (case hg => rfl); (case hr => first | (go_simp; done) | (go_simp; rfl)); (case hp => exact (Reps.none _ _)); intro v107 w3 ho4 hb hg_ hnew_; clear hg_ hnew_; (first | rw [← Ny106.out] at ho4 | (simp only [Int.reduceToNat] at ho4; rw [← Ny106.out] at ho4)); have HO108 := asT (Kd.R_lower ho4 (below_size (hbT HB.out))); replace BK105 := bS BK105 hb; replace HB := hS HB hb; clear hb ho4))
 go_loopg [3, 4] k (fun kq v3 v4 w' => ∃ (x3_1 : List Int) (x4_1 : Int), v4 = .int .i64 x4_1 ∧ Aside0 (spec_l6In.l0 kq x3_1 x4_1 l0_0 = some r) ∧ Aside0 (kq ≤ k) ∧ Aside0 (Kd.R (Kd.int .u8) 5 w' w.heap.size (fun _ => True) v3 x3_1) ∧ Aside0 (w'.heap[gb105]? = some (.cells #[(.slice A0_0 l0_0.length c0_0)] 26 (0, 0))) ∧ Aside0 (Below w.heap.size w w'))
 case atStart => exact ⟨(y106), (0), rdT, H', ⟨Nat.le_refl _⟩, ⟨roT HO108.out⟩, kpT BK105.out, ⟨hbT HB.out⟩⟩
 case round =>
  clear H'; (try clear p2); obtain ⟨x3_1, x4_1, rfl, HA, HK1, HO_3, BK105, HB⟩ := hrel
  cases gk with
  | zero => exact absurd HA.out (by simp [spec_l6In.l0])
  | succ k1 =>
   have H := HA.out; clear HA
   simp only [spec_l6In.l0] at H
   by_cases c5 : x4_1 < (l0_0.length : Int)
   ·rw [if_pos c5] at H; have c5b0 := dt c5; clear c5; by_cases c6 : 0 ≤ x4_1
    ·rw [if_pos c6] at H; have c6b0 := dt c6; clear c6; by_cases c7 : ((rd_T63 l0_0 x4_1).f0) = 0
     ·rw [if_pos c7] at H; have c7b0 : (((rd_T63 l0_0 x4_1).f0) == 0) = true := eC c7; have c7b1 : (((rd_T63 l0_0 x4_1).f0) != 0) = false := eA c7; clear c7; have H' := asT H; clear H; obtain ⟨hcz8_0, hfz8_0⟩ := bx1 BK105.out; have p109 : 0 ≤ (x4_1 : Int) := dT asmT; have q109 : x4_1 < (l0_0.length : Int) := dT asmT; obtain ⟨ad109, e109, hx109_0, hx109_1⟩ := at_T63 HR0_0.out x4_1 p109 q109
      cases e109
      replace hx109_0 := hbc HB.out hx109_0; replace hx109_1 := hbc HB.out hx109_1; replace p109 := eq_true p109; replace q109 := eq_true q109
      go_wp2
      go_roundg k1
      case measure => have := HK1.out; omega
      case rel => exact ⟨(x3_1), (wrap64 (x4_1 + 1)), rdT, H', ⟨by have := HK1.out; omega⟩, ⟨roT HO_3.out⟩, kpT BK105.out, ⟨hbT HB.out⟩⟩
     ·rw [if_neg c7] at H; have c7b0 : (((rd_T63 l0_0 x4_1).f0) == 0) = false := eB c7; have c7b1 : (((rd_T63 l0_0 x4_1).f0) != 0) = true := eD c7; by_cases c9 : x3_1.length < 140737488355328
      ·rw [if_pos c9] at H; have LMc9 := asT c9; clear c9; obtain ⟨y111, hy111⟩ : ∃ y_ : List Int, y_ = (x3_1 ++ [(rd_T63 l0_0 x4_1).f0]) := ⟨_, rfl⟩
       replace H : (spec_l6In.l0 k1 y111 (wrap64 (x4_1 + 1)) l0_0) = some r := by first | (rw [hy111]; with_reducible exact H) | (have H2_ := (Option.bind_some _ _).symm.trans H; rw [hy111]; with_reducible exact H2_) | (have H2_ := (Option.bind_some _ _).symm.trans H; with_reducible exact H2_) | with_reducible exact H | (rw [hy111]; exact H) | exact H
       have Ny111 := asT hy111; clear hy111; have H' := asT H; clear H; obtain ⟨hcz10_0, hfz10_0⟩ := bx1 BK105.out; have p109 : 0 ≤ (x4_1 : Int) := dT asmT; have q109 : x4_1 < (l0_0.length : Int) := dT asmT; obtain ⟨ad109, e109, hx109_0, hx109_1⟩ := at_T63 HR0_0.out x4_1 p109 q109
       cases e109
       replace hx109_0 := hbc HB.out hx109_0; replace hx109_1 := hbc HB.out hx109_1; replace p109 := eq_true p109; replace q109 := eq_true q109; have p110 : 0 ≤ (x4_1 : Int) := dT asmT; have q110 : x4_1 < (l0_0.length : Int) := dT asmT; obtain ⟨ad110, e110, hx110_0, hx110_1⟩ := at_T63 HR0_0.out x4_1 p110 q110; obtain rfl : ad109 = ad110 := (by injection e110); replace hx110_0 := hbc HB.out hx110_0; replace hx110_1 := hbc HB.out hx110_1; replace p110 := eq_true p110; replace q110 := eq_true q110
       go_wp2_with (first | ((with_reducible refine gate_builtin (b := .append) (xs := #[.tmp 20, .tmp 27]) rfl ?_); at_builtin; refine Kd.R_append (Kd.int .u8) (w0 := w) w.heap.size rfl (.tmp 20) (.tmp 27) 22 5 (.int .u8 0) 1 rfl Try.underlying22 info5 rfl (by decide) (by omega) u3 x3_1 ((rd_T63 l0_0 x4_1).f0) [.int .u8 ((rd_T63 l0_0 x4_1).f0)] (fun _ => True) (fun _ => False) rfl rfl ?aP (fun _ hk => hk.elim) ?aF ?aO ?aB ?aS ?aL ?_; (case aP => exact rfl); (case aB => exact (hbT HB.out)); (case aF => exact (fun _ _ => trivial)); (case aO => exact (roT HO_3.out)); (case aS => exact (below_size (hbT HB.out))); (case aL => have := LMc9.out; omega); intro v112 w11 ho hb hg hat; rw [← Ny111.out] at ho; replace BK105 := asT (blk_grown (g := gb105) (o := .cells #[.slice (some ad109) l0_0.length c0_0] 26 (0, 0)) (bkT BK105.out) hg (Kd.R_ne HO_3.out BK105.out (by decide))); replace HB := asT (hb); have HO113 := asT (ho); clear HO_3 ho hb hg hat))
       go_roundg k1
       case measure => have := HK1.out; omega
       case rel => exact ⟨(y111), (wrap64 (x4_1 + 1)), rdT, H', ⟨by have := HK1.out; omega⟩, ⟨roT HO113.out⟩, kpT BK105.out, ⟨hbT HB.out⟩⟩
      ·rw [if_neg c9] at H; exact absurd H (by simp)
    ·rw [if_neg c6] at H; exact absurd H (by simp)
   ·rw [if_neg c5] at H; have c5b0 := df c5; clear c5; obtain rfl := oI H; obtain ⟨hcz12_0, hfz12_0⟩ := bx1 BK105.out; have hcv13 := own_string (P := Try.prog) Try.underlying22 Try.underlying5 Try.underlying9 (Kd.own_of_R HO_3.out)
    go_wp2
    go_ret; exact ⟨rlT, hbT HB.out⟩
def spec_l6Out.l0 : Nat → List Int → Int → List (S63) → Option (ByteArray)
 | 0, _, _, _ => none
 | k + 1, x3, x4, x115000 => if x4 < (x115000.length : Int) then (if 0 ≤ x4 then (if ((rd_T63 x115000 x4).f1) = 0 then (spec_l6Out.l0 k x3 (wrap64 (x4 + 1)) x115000) else (if x3.length < 140737488355328 then (spec_l6Out.l0 k (x3 ++ [(rd_T63 x115000 x4).f1]) (wrap64 (x4 + 1)) x115000) else (none))) else (none)) else (some (strOfNums x3))
def spec_l6Out.f (k : Nat) (l0_0 : List (S63)) : Option (ByteArray) := spec_l6Out.l0 k (([] : List Int)) 0 l0_0
theorem spec_l6Out.mono_l : ∀ k, (∀ y0 y1 y2, LeO (spec_l6Out.l0 k y0 y1 y2) (spec_l6Out.l0 (k + 1) y0 y1 y2))
 | 0 => fun _ _ _ r h => by simp [spec_l6Out.l0] at h
 | k + 1 => by
  have ih0 := spec_l6Out.mono_l k
  ·intro y0 y1 y2; unfold spec_l6Out.l0
   with_reducible repeat' first | exact ih0 _ _ _ | exact LeO.refl _ | exact LeO.none _ | refine LeO.ite ?_ ?_ | refine LeO.bind ?_ (fun _ => ?_)
theorem spec_l6Out.mono : ∀ a0 k, LeO (spec_l6Out.f k a0) (spec_l6Out.f (k + 1) a0) := by
 intro a0 k; have ih0 := spec_l6Out.mono_l k; unfold spec_l6Out.f
 with_reducible repeat' first | exact ih0 _ _ _ | exact LeO.refl _ | exact LeO.none _ | refine LeO.ite ?_ ?_ | refine LeO.bind ?_ (fun _ => ?_)
theorem spec_l6Out.calls (k : Nat) (A0_0 : Option Addr) (c0_0 : Nat) (l0_0 : List (S63)) (r : ByteArray) (w : World) (hr0_0 : Kd.C k63 w A0_0 l0_0.length l0_0) (hc0_0 : l0_0.length ≤ c0_0) (h : spec_l6Out.f k l0_0 = some r) :
  Calls Try.prog 62 #[.agg #[.slice A0_0 l0_0.length c0_0]] w fun e w' => e = .returned (.string r) ∧ Below w.heap.size w w' := by
 have hu26 := Try.underlying26; have HR0_0 := asT hr0_0; have HC0_0 := asT hc0_0; clear hr0_0 hc0_0; have HB := asT (Below.refl w.heap.size w); have H := h; unfold spec_l6Out.f at H; clear h; obtain ⟨y115, hy115⟩ : ∃ y_ : List Int, y_ = (([] : List Int)) := ⟨_, rfl⟩
 replace H : (spec_l6Out.l0 k y115 0 l0_0) = some r := by first | (rw [hy115]; with_reducible exact H) | (have H2_ := (Option.bind_some _ _).symm.trans H; rw [hy115]; with_reducible exact H2_) | (have H2_ := (Option.bind_some _ _).symm.trans H; with_reducible exact H2_) | with_reducible exact H | (rw [hy115]; exact H) | exact H
 have Ny115 := asT hy115; clear hy115; have H' := asT H; clear H; go_enter Try.func62, Try.ntmps62
 go_wp2_with (first | ((with_reducible refine gate_dst (N := 1) rfl ?_); refine boxT (N := 1) (cs := #[.slice A0_0 l0_0.length c0_0]) (t := 26) ?_; intro gb114 hg w2 hbox hb; have BK114 := asT hbox; have GW114 := asT (geT hg HB.out); have GE114 := GW114; replace HB := hS HB hb; clear hb hbox hg) | ((with_reducible refine gate_dst (N := 5) rfl ?_); refine Kd.R_lit (Kd.int .u8) _ 5 ?hg (N := 5) ?hd (xs := ([] : List Int)) (inner := []) (ok := fun _ => True) (okp := fun _ => True) ?hr ?hp (fun _ hk => hk) trivial (Below.refl _ _) (Nat.le_refl _) (by simp) ?_; (case hd => rfl); (case hg => rfl); (case hr => first | (go_simp; done) | (go_simp; rfl)); (case hp => exact (Reps.none _ _)); intro v116 w3 ho4 hb hg_ hnew_; clear hg_ hnew_; (first | rw [← Ny115.out] at ho4 | (simp only [Int.reduceToNat] at ho4; rw [← Ny115.out] at ho4)); have HO117 := asT (Kd.R_lower ho4 (below_size (hbT HB.out))); replace BK114 := bS BK114 hb; replace HB := hS HB hb; clear hb ho4))
 go_loopg [3, 4] k (fun kq v3 v4 w' => ∃ (x3_1 : List Int) (x4_1 : Int), v4 = .int .i64 x4_1 ∧ Aside0 (spec_l6Out.l0 kq x3_1 x4_1 l0_0 = some r) ∧ Aside0 (kq ≤ k) ∧ Aside0 (Kd.R (Kd.int .u8) 5 w' w.heap.size (fun _ => True) v3 x3_1) ∧ Aside0 (w'.heap[gb114]? = some (.cells #[(.slice A0_0 l0_0.length c0_0)] 26 (0, 0))) ∧ Aside0 (Below w.heap.size w w'))
 case atStart => exact ⟨(y115), (0), rdT, H', ⟨Nat.le_refl _⟩, ⟨roT HO117.out⟩, kpT BK114.out, ⟨hbT HB.out⟩⟩
 case round =>
  clear H'; (try clear p2); obtain ⟨x3_1, x4_1, rfl, HA, HK1, HO_3, BK114, HB⟩ := hrel
  cases gk with
  | zero => exact absurd HA.out (by simp [spec_l6Out.l0])
  | succ k1 =>
   have H := HA.out; clear HA
   simp only [spec_l6Out.l0] at H
   by_cases c5 : x4_1 < (l0_0.length : Int)
   ·rw [if_pos c5] at H; have c5b0 := dt c5; clear c5; by_cases c6 : 0 ≤ x4_1
    ·rw [if_pos c6] at H; have c6b0 := dt c6; clear c6; by_cases c7 : ((rd_T63 l0_0 x4_1).f1) = 0
     ·rw [if_pos c7] at H; have c7b0 : (((rd_T63 l0_0 x4_1).f1) == 0) = true := eC c7; have c7b1 : (((rd_T63 l0_0 x4_1).f1) != 0) = false := eA c7; clear c7; have H' := asT H; clear H; obtain ⟨hcz8_0, hfz8_0⟩ := bx1 BK114.out; have p118 : 0 ≤ (x4_1 : Int) := dT asmT; have q118 : x4_1 < (l0_0.length : Int) := dT asmT; obtain ⟨ad118, e118, hx118_0, hx118_1⟩ := at_T63 HR0_0.out x4_1 p118 q118
      cases e118
      replace hx118_0 := hbc HB.out hx118_0; replace hx118_1 := hbc HB.out hx118_1; replace p118 := eq_true p118; replace q118 := eq_true q118
      go_wp2
      go_roundg k1
      case measure => have := HK1.out; omega
      case rel => exact ⟨(x3_1), (wrap64 (x4_1 + 1)), rdT, H', ⟨by have := HK1.out; omega⟩, ⟨roT HO_3.out⟩, kpT BK114.out, ⟨hbT HB.out⟩⟩
     ·rw [if_neg c7] at H; have c7b0 : (((rd_T63 l0_0 x4_1).f1) == 0) = false := eB c7; have c7b1 : (((rd_T63 l0_0 x4_1).f1) != 0) = true := eD c7; by_cases c9 : x3_1.length < 140737488355328
      ·rw [if_pos c9] at H; have LMc9 := asT c9; clear c9; obtain ⟨y120, hy120⟩ : ∃ y_ : List Int, y_ = (x3_1 ++ [(rd_T63 l0_0 x4_1).f1]) := ⟨_, rfl⟩
       replace H : (spec_l6Out.l0 k1 y120 (wrap64 (x4_1 + 1)) l0_0) = some r := by first | (rw [hy120]; with_reducible exact H) | (have H2_ := (Option.bind_some _ _).symm.trans H; rw [hy120]; with_reducible exact H2_) | (have H2_ := (Option.bind_some _ _).symm.trans H; with_reducible exact H2_) | with_reducible exact H | (rw [hy120]; exact H) | exact H
       have Ny120 := asT hy120; clear hy120; have H' := asT H; clear H; obtain ⟨hcz10_0, hfz10_0⟩ := bx1 BK114.out; have p118 : 0 ≤ (x4_1 : Int) := dT asmT; have q118 : x4_1 < (l0_0.length : Int) := dT asmT; obtain ⟨ad118, e118, hx118_0, hx118_1⟩ := at_T63 HR0_0.out x4_1 p118 q118
       cases e118
       replace hx118_0 := hbc HB.out hx118_0; replace hx118_1 := hbc HB.out hx118_1; replace p118 := eq_true p118; replace q118 := eq_true q118; have p119 : 0 ≤ (x4_1 : Int) := dT asmT; have q119 : x4_1 < (l0_0.length : Int) := dT asmT; obtain ⟨ad119, e119, hx119_0, hx119_1⟩ := at_T63 HR0_0.out x4_1 p119 q119; obtain rfl : ad118 = ad119 := (by injection e119); replace hx119_0 := hbc HB.out hx119_0; replace hx119_1 := hbc HB.out hx119_1; replace p119 := eq_true p119; replace q119 := eq_true q119
       go_wp2_with (first | ((with_reducible refine gate_builtin (b := .append) (xs := #[.tmp 20, .tmp 27]) rfl ?_); at_builtin; refine Kd.R_append (Kd.int .u8) (w0 := w) w.heap.size rfl (.tmp 20) (.tmp 27) 22 5 (.int .u8 0) 1 rfl Try.underlying22 info5 rfl (by decide) (by omega) u3 x3_1 ((rd_T63 l0_0 x4_1).f1) [.int .u8 ((rd_T63 l0_0 x4_1).f1)] (fun _ => True) (fun _ => False) rfl rfl ?aP (fun _ hk => hk.elim) ?aF ?aO ?aB ?aS ?aL ?_; (case aP => exact rfl); (case aB => exact (hbT HB.out)); (case aF => exact (fun _ _ => trivial)); (case aO => exact (roT HO_3.out)); (case aS => exact (below_size (hbT HB.out))); (case aL => have := LMc9.out; omega); intro v121 w11 ho hb hg hat; rw [← Ny120.out] at ho; replace BK114 := asT (blk_grown (g := gb114) (o := .cells #[.slice (some ad118) l0_0.length c0_0] 26 (0, 0)) (bkT BK114.out) hg (Kd.R_ne HO_3.out BK114.out (by decide))); replace HB := asT (hb); have HO122 := asT (ho); clear HO_3 ho hb hg hat))
       go_roundg k1
       case measure => have := HK1.out; omega
       case rel => exact ⟨(y120), (wrap64 (x4_1 + 1)), rdT, H', ⟨by have := HK1.out; omega⟩, ⟨roT HO122.out⟩, kpT BK114.out, ⟨hbT HB.out⟩⟩
      ·rw [if_neg c9] at H; exact absurd H (by simp)
    ·rw [if_neg c6] at H; exact absurd H (by simp)
   ·rw [if_neg c5] at H; have c5b0 := df c5; clear c5; obtain rfl := oI H; obtain ⟨hcz12_0, hfz12_0⟩ := bx1 BK114.out; have hcv13 := own_string (P := Try.prog) Try.underlying22 Try.underlying5 Try.underlying9 (Kd.own_of_R HO_3.out)
    go_wp2
    go_ret; exact ⟨rlT, hbT HB.out⟩
mutual
def spec_IsCandidate.l0 : Nat → Int → List (S63) → Option (Bool)
 | 0, _, _ => none
 | k + 1, x3, x124000 => if x3 < (x124000.length : Int) then (if 0 ≤ x3 then ((spec_SwapVoice.f ((rd_T63 x124000 x3).f0)).bind fun bt126 => (if ((rd_T63 x124000 x3).f0) = 0 then (if ((rd_T63 x124000 x3).f1) = 0 then (spec_IsCandidate.j1 k x3 bt126.1 bt126.2 (((rd_T63 x124000 x3).f1) == 0) x124000 ((rd_T63 x124000 x3).f0) ((rd_T63 x124000 x3).f1)) else ((spec_IsSound.f k ((rd_T63 x124000 x3).f1)).bind fun t128 => (if t128 = true then (spec_IsCandidate.j1 k x3 bt126.1 bt126.2 (((rd_T63 x124000 x3).f1) == 0) x124000 ((rd_T63 x124000 x3).f0) ((rd_T63 x124000 x3).f1)) else (spec_IsCandidate.j1 k x3 bt126.1 bt126.2 true x124000 ((rd_T63 x124000 x3).f0) ((rd_T63 x124000 x3).f1))))) else ((spec_IsSound.f k ((rd_T63 x124000 x3).f0)).bind fun t129 => (if t129 = true then (if ((rd_T63 x124000 x3).f1) = 0 then (spec_IsCandidate.j1 k x3 bt126.1 bt126.2 false x124000 ((rd_T63 x124000 x3).f0) ((rd_T63 x124000 x3).f1)) else ((spec_IsSound.f k ((rd_T63 x124000 x3).f1)).bind fun t130 => (if t130 = true then (spec_IsCandidate.j1 k x3 bt126.1 bt126.2 false x124000 ((rd_T63 x124000 x3).f0) ((rd_T63 x124000 x3).f1)) else (spec_IsCandidate.j1 k x3 bt126.1 bt126.2 true x124000 ((rd_T63 x124000 x3).f0) ((rd_T63 x124000 x3).f1))))) else (spec_IsCandidate.j1 k x3 bt126.1 bt126.2 true x124000 ((rd_T63 x124000 x3).f0) ((rd_T63 x124000 x3).f1)))))) else (none)) else (if (x124000.length : Int) ≤ 16 then ((spec_l6In.f k x124000).bind fun t131 => ((spec_IsForm.f k t131).bind fun t132 => (if t132 = true then ((spec_l6Out.f k x124000).bind fun t133 => ((spec_IsForm.f k t133).bind fun t134 => (some t134))) else (some false)))) else (some false))
def spec_IsCandidate.j1 : Nat → Int → Int → Bool → Bool → List (S63) → Int → Int → Option (Bool)
 | 0, _, _, _, _, _, _, _ => none
 | k + 1, x3, x5, x6, x54, x124000, x126000, x126001 => if x54 = true then (some false) else (if x126000 = 0 then (spec_IsCandidate.l0 k (wrap64 (x3 + 1)) x124000) else (if x126001 = 0 then (spec_IsCandidate.l0 k (wrap64 (x3 + 1)) x124000) else (if x126000 = x126001 then (spec_IsCandidate.l0 k (wrap64 (x3 + 1)) x124000) else (if x6 = true then (if x5 = x126001 then (spec_IsCandidate.l0 k (wrap64 (x3 + 1)) x124000) else (some false)) else (some false)))))
end
def spec_IsCandidate.f (k : Nat) (l0_0 : List (S63)) : Option (Bool) := spec_IsCandidate.l0 k 0 l0_0
theorem spec_IsCandidate.mono_l : ∀ k, (∀ y0 y1, LeO (spec_IsCandidate.l0 k y0 y1) (spec_IsCandidate.l0 (k + 1) y0 y1)) ∧ (∀ y0 y1 y2 y3 y4 y5 y6, LeO (spec_IsCandidate.j1 k y0 y1 y2 y3 y4 y5 y6) (spec_IsCandidate.j1 (k + 1) y0 y1 y2 y3 y4 y5 y6))
 | 0 => ⟨fun _ _ r h => by simp [spec_IsCandidate.l0] at h, fun _ _ _ _ _ _ _ r h => by simp [spec_IsCandidate.j1] at h⟩
 | k + 1 => by
  obtain ⟨ih0, ih1⟩ := spec_IsCandidate.mono_l k; refine ⟨?_, ?_⟩
  ·intro y0 y1; unfold spec_IsCandidate.l0
   with_reducible repeat' first | exact ih0 _ _ | exact ih1 _ _ _ _ _ _ _ | exact spec_IsForm.mono _ _ | exact spec_IsSound.mono _ _ | exact spec_l6In.mono _ _ | exact spec_l6Out.mono _ _ | exact LeO.refl _ | exact LeO.none _ | refine LeO.ite ?_ ?_ | refine LeO.bind ?_ (fun _ => ?_)
  ·intro y0 y1 y2 y3 y4 y5 y6; unfold spec_IsCandidate.j1
   with_reducible repeat' first | exact ih0 _ _ | exact ih1 _ _ _ _ _ _ _ | exact spec_IsForm.mono _ _ | exact spec_IsSound.mono _ _ | exact spec_l6In.mono _ _ | exact spec_l6Out.mono _ _ | exact LeO.refl _ | exact LeO.none _ | refine LeO.ite ?_ ?_ | refine LeO.bind ?_ (fun _ => ?_)
theorem spec_IsCandidate.mono : ∀ a0 k, LeO (spec_IsCandidate.f k a0) (spec_IsCandidate.f (k + 1) a0) := by
 intro a0 k; obtain ⟨ih0, ih1⟩ := spec_IsCandidate.mono_l k; unfold spec_IsCandidate.f
 with_reducible repeat' first | exact ih0 _ _ | exact ih1 _ _ _ _ _ _ _ | exact spec_IsForm.mono _ _ | exact spec_IsSound.mono _ _ | exact spec_l6In.mono _ _ | exact spec_l6Out.mono _ _ | exact LeO.refl _ | exact LeO.none _ | refine LeO.ite ?_ ?_ | refine LeO.bind ?_ (fun _ => ?_)
theorem spec_IsCandidate.calls (k : Nat) (A0_0 : Option Addr) (c0_0 : Nat) (l0_0 : List (S63)) (r : Bool) (w : World) (hr0_0 : Kd.C k63 w A0_0 l0_0.length l0_0) (hc0_0 : l0_0.length ≤ c0_0) (h : spec_IsCandidate.f k l0_0 = some r) :
  Calls Try.prog 12 #[.agg #[.slice A0_0 l0_0.length c0_0]] w fun e w' => e = .returned (.bool r) ∧ Below w.heap.size w w' := by
 have hu26 := Try.underlying26; have hu63 := Try.underlying63; have HR0_0 := asT hr0_0; have HC0_0 := asT hc0_0; clear hr0_0 hc0_0; have HB := asT (Below.refl w.heap.size w); have H := h; unfold spec_IsCandidate.f at H; clear h; have H' := asT H; clear H; go_enter Try.func12, Try.ntmps12
 go_wp2_with (first | ((with_reducible refine gate_dst (N := 1) rfl ?_); refine boxT (N := 1) (cs := #[.slice A0_0 l0_0.length c0_0]) (t := 26) ?_; intro gb123 hg w2 hbox hb; have BK123 := asT hbox; have GW123 := asT (geT hg HB.out); have GE123 := GW123; replace HB := hS HB hb; clear hb hbox hg))
 go_loopg [3] k (fun kq v3 w' => ∃ (x3_1 : Int), v3 = .int .i64 x3_1 ∧ Aside0 (spec_IsCandidate.l0 kq x3_1 l0_0 = some r) ∧ Aside0 (kq ≤ k) ∧ Aside0 (w'.heap[gb123]? = some (.cells #[(.slice A0_0 l0_0.length c0_0)] 26 (0, 0))) ∧ Aside0 (Below w.heap.size w w'))
 case atStart => exact ⟨(0), rdT, H', ⟨Nat.le_refl _⟩, kpT BK123.out, ⟨hbT HB.out⟩⟩
 case round =>
  clear H'; (try clear c1 p2); obtain ⟨x3_1, rfl, HA, HK1, BK123, HB⟩ := hrel
  cases gk with
  | zero => exact absurd HA.out (by simp [spec_IsCandidate.l0])
  | succ k1 =>
   have H := HA.out; clear HA
   simp only [spec_IsCandidate.l0] at H
   by_cases c3 : x3_1 < (l0_0.length : Int)
   ·rw [if_pos c3] at H; have c3b0 := dt c3; clear c3; by_cases c4 : 0 ≤ x3_1
    ·rw [if_pos c4] at H; have c4b0 := dt c4; clear c4; replace H := Option.bind_eq_some_iff.mp H; obtain ⟨⟨t126, t127⟩, A50, H⟩ := H; replace H : (if ((rd_T63 l0_0 x3_1).f0) = 0 then (if ((rd_T63 l0_0 x3_1).f1) = 0 then (spec_IsCandidate.j1 k1 x3_1 t126 t127 (((rd_T63 l0_0 x3_1).f1) == 0) l0_0 ((rd_T63 l0_0 x3_1).f0) ((rd_T63 l0_0 x3_1).f1)) else ((spec_IsSound.f k1 ((rd_T63 l0_0 x3_1).f1)).bind fun t128 => (if t128 = true then (spec_IsCandidate.j1 k1 x3_1 t126 t127 (((rd_T63 l0_0 x3_1).f1) == 0) l0_0 ((rd_T63 l0_0 x3_1).f0) ((rd_T63 l0_0 x3_1).f1)) else (spec_IsCandidate.j1 k1 x3_1 t126 t127 true l0_0 ((rd_T63 l0_0 x3_1).f0) ((rd_T63 l0_0 x3_1).f1))))) else ((spec_IsSound.f k1 ((rd_T63 l0_0 x3_1).f0)).bind fun t129 => (if t129 = true then (if ((rd_T63 l0_0 x3_1).f1) = 0 then (spec_IsCandidate.j1 k1 x3_1 t126 t127 false l0_0 ((rd_T63 l0_0 x3_1).f0) ((rd_T63 l0_0 x3_1).f1)) else ((spec_IsSound.f k1 ((rd_T63 l0_0 x3_1).f1)).bind fun t130 => (if t130 = true then (spec_IsCandidate.j1 k1 x3_1 t126 t127 false l0_0 ((rd_T63 l0_0 x3_1).f0) ((rd_T63 l0_0 x3_1).f1)) else (spec_IsCandidate.j1 k1 x3_1 t126 t127 true l0_0 ((rd_T63 l0_0 x3_1).f0) ((rd_T63 l0_0 x3_1).f1))))) else (spec_IsCandidate.j1 k1 x3_1 t126 t127 true l0_0 ((rd_T63 l0_0 x3_1).f0) ((rd_T63 l0_0 x3_1).f1))))) = some r := H; have A5 := asT A50; clear A50; have HC6 := asT H; clear H; obtain ⟨hcz7_0, hfz7_0⟩ := bx1 BK123.out; have p124 : 0 ≤ (x3_1 : Int) := dT asmT; have q124 : x3_1 < (l0_0.length : Int) := dT asmT; obtain ⟨ad124, e124, hx124_0, hx124_1⟩ := at_T63 HR0_0.out x3_1 p124 q124
     cases e124
     replace hx124_0 := hbc HB.out hx124_0; replace hx124_1 := hbc HB.out hx124_1; replace p124 := eq_true p124; replace q124 := eq_true q124
     go_upto_region 6 with (first | ((with_reducible refine gate_dst (N := 4) rfl ?_); refine boxT (N := 4) (cs := #[.int .u8 0, .int .u8 0]) (t := 63) ?_; intro gb125 hg w8 hbox hb; have BK125 := asT (hbox); have GW125 := asT (geT hg HB.out); have GE125 := asT (geT hg HB.out); replace HB := hS HB hb; have NB123_125 := asT ((by rw [hg]; exact Nat.ne_of_lt (blk_lt (g := gb123) (o := .cells #[.slice (some ad124) l0_0.length c0_0] 26 (0, 0)) (bkT BK123.out)) : gb123 ≠ gb125)); have NB125_123 := asT ((by rw [hg]; exact Nat.ne_of_gt (blk_lt (g := gb123) (o := .cells #[.slice (some ad124) l0_0.length c0_0] 26 (0, 0)) (bkT BK123.out)) : gb125 ≠ gb123)); replace BK123 := bS BK123 hb; clear hb hbox hg; have hnb9 := NB125_123.out; have hnc9 := NB123_125.out; obtain ⟨hcz10_0, hcz10_1, hfz10_0, hfz10_1⟩ := bx2 BK125.out) | ((with_reducible refine gate_callee (f := 58) rfl ?_); refine goesL_ (some 22) rfl rfl Try.func58 (by kernel_rfl) rfl #[.int .u8 ((rd_T63 l0_0 x3_1).f0)] rfl eqT ?_; (with_reducible refine (spec_SwapVoice.calls ((rd_T63 l0_0 x3_1).f0) t126 t127 _ A5.out).mono ?_); rintro e w' ⟨rfl, ⟨nd, rfl⟩⟩; refine ⟨_, rfl, ?_⟩))
     (try simp only [Act.put, sA, sZ, sS])
     go_cut [54] (fun v54 wc => ∃ (kq : Nat) (x54_5 : Bool), v54 = .bool x54_5 ∧ Aside0 (spec_IsCandidate.j1 kq x3_1 t126 t127 x54_5 l0_0 ((rd_T63 l0_0 x3_1).f0) ((rd_T63 l0_0 x3_1).f1) = some r) ∧ Aside0 (kq ≤ k1) ∧ Aside0 (wc.heap[gb123]? = some (.cells #[(.slice (some ad124) l0_0.length c0_0)] 26 (0, 0))) ∧ Aside0 (wc.heap[gb125]? = some (.cells #[.int .u8 ((rd_T63 l0_0 x3_1).f0), .int .u8 ((rd_T63 l0_0 x3_1).f1)] 63 (0, 0))) ∧ Aside0 (Below w.heap.size w wc))
     case first =>
      have H := HC6.out; clear HC6; by_cases c11 : ((rd_T63 l0_0 x3_1).f0) = 0
      ·rw [if_pos c11] at H; have c11b0 : (((rd_T63 l0_0 x3_1).f0) == 0) = true := eC c11; have c11b1 : (((rd_T63 l0_0 x3_1).f0) != 0) = false := eA c11; clear c11
       (first | rw [c11b0] | (simp only [i64_w, i32_w]; rw [c11b0]) | skip)
       by_cases c12 : ((rd_T63 l0_0 x3_1).f1) = 0
       ·rw [if_pos c12] at H; have c12b0 : (((rd_T63 l0_0 x3_1).f1) == 0) = true := eC c12; have c12b1 : (((rd_T63 l0_0 x3_1).f1) != 0) = false := eA c12; clear c12; have H' := asT H; clear H; have hnb13 := NB125_123.out; have hnc13 := NB123_125.out; obtain ⟨hcz14_0, hcz14_1, hfz14_0, hfz14_1⟩ := bx2 BK125.out
        go_wp2
        go_meet
        case rel => exact ⟨_, ((((rd_T63 l0_0 x3_1).f1) == 0)), rdT, H', ⟨by have := HK1.out; first | omega | exact Nat.le_refl _⟩, ⟨by (with_reducible repeat (first | refine blk_drewN ?_ _ | refine blk_drew ?_ | refine blk_alloc ?_ _)); refine blk_far ?_ NB123_125.out _; (with_reducible repeat (first | refine blk_drewN ?_ _ | refine blk_drew ?_ | refine blk_alloc ?_ _)); refine blk_far ?_ NB123_125.out _; (with_reducible repeat (first | refine blk_drewN ?_ _ | refine blk_drew ?_ | refine blk_alloc ?_ _)); exact BK123.out⟩, ⟨by (with_reducible repeat (first | refine blk_drewN ?_ _ | refine blk_drew ?_ | refine blk_alloc ?_ _)); refine blk_put (cs := #[.int .u8 ((rd_T63 l0_0 x3_1).f0), .int .u8 0]) ?_ 1 _ rfl; (with_reducible repeat (first | refine blk_drewN ?_ _ | refine blk_drew ?_ | refine blk_alloc ?_ _)); refine blk_put (cs := #[.int .u8 0, .int .u8 0]) ?_ 0 _ rfl; (with_reducible repeat (first | refine blk_drewN ?_ _ | refine blk_drew ?_ | refine blk_alloc ?_ _)); exact BK125.out⟩, ⟨hbT HB.out⟩⟩
       ·rw [if_neg c12] at H; have c12b0 : (((rd_T63 l0_0 x3_1).f1) == 0) = false := eB c12; have c12b1 : (((rd_T63 l0_0 x3_1).f1) != 0) = true := eD c12; obtain ⟨t128, A15, H⟩ := be H; by_cases c16 : t128 = true
        ·subst c16; rw [if_pos rfl] at H; have H' := asT H; clear H; have hnb17 := NB125_123.out; have hnc17 := NB123_125.out; obtain ⟨hcz18_0, hcz18_1, hfz18_0, hfz18_1⟩ := bx2 BK125.out
         go_wp2_with (first | (go_at_call 59; (with_reducible refine (spec_IsSound.calls k1 ((rd_T63 l0_0 x3_1).f1) true _ A15.out).mono ?_); rintro e w' ⟨rfl, ⟨nd, rfl⟩⟩))
         go_meet
         case rel => exact ⟨_, ((((rd_T63 l0_0 x3_1).f1) == 0)), rdT, H', ⟨by have := HK1.out; first | omega | exact Nat.le_refl _⟩, ⟨by (with_reducible repeat (first | refine blk_drewN ?_ _ | refine blk_drew ?_ | refine blk_alloc ?_ _)); refine blk_far ?_ NB123_125.out _; (with_reducible repeat (first | refine blk_drewN ?_ _ | refine blk_drew ?_ | refine blk_alloc ?_ _)); refine blk_far ?_ NB123_125.out _; (with_reducible repeat (first | refine blk_drewN ?_ _ | refine blk_drew ?_ | refine blk_alloc ?_ _)); exact BK123.out⟩, ⟨by (with_reducible repeat (first | refine blk_drewN ?_ _ | refine blk_drew ?_ | refine blk_alloc ?_ _)); refine blk_put (cs := #[.int .u8 ((rd_T63 l0_0 x3_1).f0), .int .u8 0]) ?_ 1 _ rfl; (with_reducible repeat (first | refine blk_drewN ?_ _ | refine blk_drew ?_ | refine blk_alloc ?_ _)); refine blk_put (cs := #[.int .u8 0, .int .u8 0]) ?_ 0 _ rfl; (with_reducible repeat (first | refine blk_drewN ?_ _ | refine blk_drew ?_ | refine blk_alloc ?_ _)); exact BK125.out⟩, ⟨hbT HB.out⟩⟩
        ·replace c16 := eE c16; subst c16; rw [if_neg nF] at H; have H' := asT H; clear H; have hnb19 := NB125_123.out; have hnc19 := NB123_125.out; obtain ⟨hcz20_0, hcz20_1, hfz20_0, hfz20_1⟩ := bx2 BK125.out
         go_wp2_with (first | (go_at_call 59; (with_reducible refine (spec_IsSound.calls k1 ((rd_T63 l0_0 x3_1).f1) false _ A15.out).mono ?_); rintro e w' ⟨rfl, ⟨nd, rfl⟩⟩))
         go_meet
         case rel => exact ⟨_, (true), rdT, H', ⟨by have := HK1.out; first | omega | exact Nat.le_refl _⟩, ⟨by (with_reducible repeat (first | refine blk_drewN ?_ _ | refine blk_drew ?_ | refine blk_alloc ?_ _)); refine blk_far ?_ NB123_125.out _; (with_reducible repeat (first | refine blk_drewN ?_ _ | refine blk_drew ?_ | refine blk_alloc ?_ _)); refine blk_far ?_ NB123_125.out _; (with_reducible repeat (first | refine blk_drewN ?_ _ | refine blk_drew ?_ | refine blk_alloc ?_ _)); exact BK123.out⟩, ⟨by (with_reducible repeat (first | refine blk_drewN ?_ _ | refine blk_drew ?_ | refine blk_alloc ?_ _)); refine blk_put (cs := #[.int .u8 ((rd_T63 l0_0 x3_1).f0), .int .u8 0]) ?_ 1 _ rfl; (with_reducible repeat (first | refine blk_drewN ?_ _ | refine blk_drew ?_ | refine blk_alloc ?_ _)); refine blk_put (cs := #[.int .u8 0, .int .u8 0]) ?_ 0 _ rfl; (with_reducible repeat (first | refine blk_drewN ?_ _ | refine blk_drew ?_ | refine blk_alloc ?_ _)); exact BK125.out⟩, ⟨hbT HB.out⟩⟩
      ·rw [if_neg c11] at H; have c11b0 : (((rd_T63 l0_0 x3_1).f0) == 0) = false := eB c11; have c11b1 : (((rd_T63 l0_0 x3_1).f0) != 0) = true := eD c11
       (first | rw [c11b0] | (simp only [i64_w, i32_w]; rw [c11b0]) | skip)
       obtain ⟨t129, A21, H⟩ := be H; by_cases c22 : t129 = true
       ·subst c22; rw [if_pos rfl] at H; have H1 := H; clear H; have H := H1; clear H1; by_cases c23 : ((rd_T63 l0_0 x3_1).f1) = 0
        ·rw [if_pos c23] at H; have c23b0 : (((rd_T63 l0_0 x3_1).f1) == 0) = true := eC c23; have c23b1 : (((rd_T63 l0_0 x3_1).f1) != 0) = false := eA c23; clear c23; have H' := asT H; clear H; have hnb24 := NB125_123.out; have hnc24 := NB123_125.out; obtain ⟨hcz25_0, hcz25_1, hfz25_0, hfz25_1⟩ := bx2 BK125.out
         go_wp2_with (first | (go_at_call 59; (with_reducible refine (spec_IsSound.calls k1 ((rd_T63 l0_0 x3_1).f0) true _ A21.out).mono ?_); rintro e w' ⟨rfl, ⟨nd, rfl⟩⟩))
         go_meet
         case rel => exact ⟨_, (false), rdT, H', ⟨by have := HK1.out; first | omega | exact Nat.le_refl _⟩, ⟨by (with_reducible repeat (first | refine blk_drewN ?_ _ | refine blk_drew ?_ | refine blk_alloc ?_ _)); refine blk_far ?_ NB123_125.out _; (with_reducible repeat (first | refine blk_drewN ?_ _ | refine blk_drew ?_ | refine blk_alloc ?_ _)); refine blk_far ?_ NB123_125.out _; (with_reducible repeat (first | refine blk_drewN ?_ _ | refine blk_drew ?_ | refine blk_alloc ?_ _)); exact BK123.out⟩, ⟨by (with_reducible repeat (first | refine blk_drewN ?_ _ | refine blk_drew ?_ | refine blk_alloc ?_ _)); refine blk_put (cs := #[.int .u8 ((rd_T63 l0_0 x3_1).f0), .int .u8 0]) ?_ 1 _ rfl; (with_reducible repeat (first | refine blk_drewN ?_ _ | refine blk_drew ?_ | refine blk_alloc ?_ _)); refine blk_put (cs := #[.int .u8 0, .int .u8 0]) ?_ 0 _ rfl; (with_reducible repeat (first | refine blk_drewN ?_ _ | refine blk_drew ?_ | refine blk_alloc ?_ _)); exact BK125.out⟩, ⟨hbT HB.out⟩⟩
        ·rw [if_neg c23] at H; have c23b0 : (((rd_T63 l0_0 x3_1).f1) == 0) = false := eB c23; have c23b1 : (((rd_T63 l0_0 x3_1).f1) != 0) = true := eD c23; obtain ⟨t130, A26, H⟩ := be H; by_cases c27 : t130 = true
         ·subst c27; rw [if_pos rfl] at H; have H' := asT H; clear H; have hnb28 := NB125_123.out; have hnc28 := NB123_125.out; obtain ⟨hcz29_0, hcz29_1, hfz29_0, hfz29_1⟩ := bx2 BK125.out
          go_wp2_with (first | (go_at_call 59; (with_reducible refine (spec_IsSound.calls k1 ((rd_T63 l0_0 x3_1).f0) true _ A21.out).mono ?_); rintro e w' ⟨rfl, ⟨nd, rfl⟩⟩) | (go_at_call 59; (with_reducible refine (spec_IsSound.calls k1 ((rd_T63 l0_0 x3_1).f1) true _ A26.out).mono ?_); rintro e w' ⟨rfl, ⟨nd, rfl⟩⟩))
          go_meet
          case rel => exact ⟨_, (false), rdT, H', ⟨by have := HK1.out; first | omega | exact Nat.le_refl _⟩, ⟨by (with_reducible repeat (first | refine blk_drewN ?_ _ | refine blk_drew ?_ | refine blk_alloc ?_ _)); refine blk_far ?_ NB123_125.out _; (with_reducible repeat (first | refine blk_drewN ?_ _ | refine blk_drew ?_ | refine blk_alloc ?_ _)); refine blk_far ?_ NB123_125.out _; (with_reducible repeat (first | refine blk_drewN ?_ _ | refine blk_drew ?_ | refine blk_alloc ?_ _)); exact BK123.out⟩, ⟨by (with_reducible repeat (first | refine blk_drewN ?_ _ | refine blk_drew ?_ | refine blk_alloc ?_ _)); refine blk_put (cs := #[.int .u8 ((rd_T63 l0_0 x3_1).f0), .int .u8 0]) ?_ 1 _ rfl; (with_reducible repeat (first | refine blk_drewN ?_ _ | refine blk_drew ?_ | refine blk_alloc ?_ _)); refine blk_put (cs := #[.int .u8 0, .int .u8 0]) ?_ 0 _ rfl; (with_reducible repeat (first | refine blk_drewN ?_ _ | refine blk_drew ?_ | refine blk_alloc ?_ _)); exact BK125.out⟩, ⟨hbT HB.out⟩⟩
         ·replace c27 := eE c27; subst c27; rw [if_neg nF] at H; have H' := asT H; clear H; have hnb30 := NB125_123.out; have hnc30 := NB123_125.out; obtain ⟨hcz31_0, hcz31_1, hfz31_0, hfz31_1⟩ := bx2 BK125.out
          go_wp2_with (first | (go_at_call 59; (with_reducible refine (spec_IsSound.calls k1 ((rd_T63 l0_0 x3_1).f0) true _ A21.out).mono ?_); rintro e w' ⟨rfl, ⟨nd, rfl⟩⟩) | (go_at_call 59; (with_reducible refine (spec_IsSound.calls k1 ((rd_T63 l0_0 x3_1).f1) false _ A26.out).mono ?_); rintro e w' ⟨rfl, ⟨nd, rfl⟩⟩))
          go_meet
          case rel => exact ⟨_, (true), rdT, H', ⟨by have := HK1.out; first | omega | exact Nat.le_refl _⟩, ⟨by (with_reducible repeat (first | refine blk_drewN ?_ _ | refine blk_drew ?_ | refine blk_alloc ?_ _)); refine blk_far ?_ NB123_125.out _; (with_reducible repeat (first | refine blk_drewN ?_ _ | refine blk_drew ?_ | refine blk_alloc ?_ _)); refine blk_far ?_ NB123_125.out _; (with_reducible repeat (first | refine blk_drewN ?_ _ | refine blk_drew ?_ | refine blk_alloc ?_ _)); exact BK123.out⟩, ⟨by (with_reducible repeat (first | refine blk_drewN ?_ _ | refine blk_drew ?_ | refine blk_alloc ?_ _)); refine blk_put (cs := #[.int .u8 ((rd_T63 l0_0 x3_1).f0), .int .u8 0]) ?_ 1 _ rfl; (with_reducible repeat (first | refine blk_drewN ?_ _ | refine blk_drew ?_ | refine blk_alloc ?_ _)); refine blk_put (cs := #[.int .u8 0, .int .u8 0]) ?_ 0 _ rfl; (with_reducible repeat (first | refine blk_drewN ?_ _ | refine blk_drew ?_ | refine blk_alloc ?_ _)); exact BK125.out⟩, ⟨hbT HB.out⟩⟩
       ·replace c22 := eE c22; subst c22; rw [if_neg nF] at H; have H' := asT H; clear H; have hnb32 := NB125_123.out; have hnc32 := NB123_125.out; obtain ⟨hcz33_0, hcz33_1, hfz33_0, hfz33_1⟩ := bx2 BK125.out
        go_wp2_with (first | (go_at_call 59; (with_reducible refine (spec_IsSound.calls k1 ((rd_T63 l0_0 x3_1).f0) false _ A21.out).mono ?_); rintro e w' ⟨rfl, ⟨nd, rfl⟩⟩))
        go_meet
        case rel => exact ⟨_, (true), rdT, H', ⟨by have := HK1.out; first | omega | exact Nat.le_refl _⟩, ⟨by (with_reducible repeat (first | refine blk_drewN ?_ _ | refine blk_drew ?_ | refine blk_alloc ?_ _)); refine blk_far ?_ NB123_125.out _; (with_reducible repeat (first | refine blk_drewN ?_ _ | refine blk_drew ?_ | refine blk_alloc ?_ _)); refine blk_far ?_ NB123_125.out _; (with_reducible repeat (first | refine blk_drewN ?_ _ | refine blk_drew ?_ | refine blk_alloc ?_ _)); exact BK123.out⟩, ⟨by (with_reducible repeat (first | refine blk_drewN ?_ _ | refine blk_drew ?_ | refine blk_alloc ?_ _)); refine blk_put (cs := #[.int .u8 ((rd_T63 l0_0 x3_1).f0), .int .u8 0]) ?_ 1 _ rfl; (with_reducible repeat (first | refine blk_drewN ?_ _ | refine blk_drew ?_ | refine blk_alloc ?_ _)); refine blk_put (cs := #[.int .u8 0, .int .u8 0]) ?_ 0 _ rfl; (with_reducible repeat (first | refine blk_drewN ?_ _ | refine blk_drew ?_ | refine blk_alloc ?_ _)); exact BK125.out⟩, ⟨hbT HB.out⟩⟩
     case rest =>
      clear HC6; (try clear c1 p1 q1 hx1 c2 p2 c3 c3b0 c4 c4b0 c5 c9 c11 c11b0 c11b1 c12 c12b0 c12b1 p12 q12 hx12 c13 c16 c17 c19 c22 c23 c23b0 c23b1 c24 c27 c28 c30 c32 hcz10_0 hcz10_1 hcz14_0 hcz14_1 hcz18_0 hcz18_1 hcz20_0 hcz20_1 hcz25_0 hcz25_1 hcz29_0 hcz29_1 hcz31_0 hcz31_1 hcz33_0 hcz33_1 hcz7_0 hfz10_0 hfz10_1 hfz14_0 hfz14_1 hfz18_0 hfz18_1 hfz20_0 hfz20_1 hfz25_0 hfz25_1 hfz29_0 hfz29_1 hfz31_0 hfz31_1 hfz33_0 hfz33_1 hfz7_0 hx124_0 hx124_1 p124 p2 q124); obtain ⟨kq, x54_5, rfl, HA, HJ5, BK123, BK125, HB⟩ := hcut
      cases kq with
      | zero => exact absurd HA.out (by simp [spec_IsCandidate.j1])
      | succ kj5 =>
       have H := HA.out; clear HA
       simp only [spec_IsCandidate.j1] at H
       by_cases c34 : x54_5 = true
       ·subst c34; rw [if_pos rfl] at H; have H1 := H; clear H; have H := H1; clear H1; obtain rfl := oI H
        go_wp2
        go_ret; exact ⟨rlT, hbT HB.out⟩
       ·replace c34 := eE c34; subst c34; rw [if_neg nF] at H; have H1 := H; clear H; have H := H1; clear H1; by_cases c35 : ((rd_T63 l0_0 x3_1).f0) = 0
        ·rw [if_pos c35] at H; have c35b0 : (((rd_T63 l0_0 x3_1).f0) == 0) = true := eC c35; have c35b1 : (((rd_T63 l0_0 x3_1).f0) != 0) = false := eA c35; clear c35; have H' := asT H; clear H; have hnb36 := NB125_123.out; have hnc36 := NB123_125.out; obtain ⟨hcz37_0, hcz37_1, hfz37_0, hfz37_1⟩ := bx2 BK125.out
         go_wp2
         go_roundg kj5
         case measure => have := HK1.out; have := HJ5.out; omega
         case rel => exact ⟨(wrap64 (x3_1 + 1)), rdT, H', ⟨by have := HK1.out; have := HJ5.out; omega⟩, kpT BK123.out, ⟨hbT HB.out⟩⟩
        ·rw [if_neg c35] at H; have c35b0 : (((rd_T63 l0_0 x3_1).f0) == 0) = false := eB c35; have c35b1 : (((rd_T63 l0_0 x3_1).f0) != 0) = true := eD c35; by_cases c38 : ((rd_T63 l0_0 x3_1).f1) = 0
         ·rw [if_pos c38] at H; have c38b0 : (((rd_T63 l0_0 x3_1).f1) == 0) = true := eC c38; have c38b1 : (((rd_T63 l0_0 x3_1).f1) != 0) = false := eA c38; clear c38; have H' := asT H; clear H; have hnb39 := NB125_123.out; have hnc39 := NB123_125.out; obtain ⟨hcz40_0, hcz40_1, hfz40_0, hfz40_1⟩ := bx2 BK125.out
          go_wp2
          go_roundg kj5
          case measure => have := HK1.out; have := HJ5.out; omega
          case rel => exact ⟨(wrap64 (x3_1 + 1)), rdT, H', ⟨by have := HK1.out; have := HJ5.out; omega⟩, kpT BK123.out, ⟨hbT HB.out⟩⟩
         ·rw [if_neg c38] at H; have c38b0 : (((rd_T63 l0_0 x3_1).f1) == 0) = false := eB c38; have c38b1 : (((rd_T63 l0_0 x3_1).f1) != 0) = true := eD c38; by_cases c41 : ((rd_T63 l0_0 x3_1).f0) = ((rd_T63 l0_0 x3_1).f1)
          ·rw [if_pos c41] at H; have c41b0 : (((rd_T63 l0_0 x3_1).f0) == ((rd_T63 l0_0 x3_1).f1)) = true := eC c41; have c41b1 : (((rd_T63 l0_0 x3_1).f0) != ((rd_T63 l0_0 x3_1).f1)) = false := eA c41; clear c41; have H' := asT H; clear H; have hnb42 := NB125_123.out; have hnc42 := NB123_125.out; obtain ⟨hcz43_0, hcz43_1, hfz43_0, hfz43_1⟩ := bx2 BK125.out
           go_wp2
           go_roundg kj5
           case measure => have := HK1.out; have := HJ5.out; omega
           case rel => exact ⟨(wrap64 (x3_1 + 1)), rdT, H', ⟨by have := HK1.out; have := HJ5.out; omega⟩, kpT BK123.out, ⟨hbT HB.out⟩⟩
          ·rw [if_neg c41] at H; have c41b0 : (((rd_T63 l0_0 x3_1).f0) == ((rd_T63 l0_0 x3_1).f1)) = false := eB c41; have c41b1 : (((rd_T63 l0_0 x3_1).f0) != ((rd_T63 l0_0 x3_1).f1)) = true := eD c41; by_cases c44 : t127 = true
           ·subst c44; rw [if_pos rfl] at H; have H1 := H; clear H; have H := H1; clear H1; by_cases c45 : t126 = ((rd_T63 l0_0 x3_1).f1)
            ·rw [if_pos c45] at H; have c45b0 : (t126 == ((rd_T63 l0_0 x3_1).f1)) = true := eC c45; have c45b1 : (t126 != ((rd_T63 l0_0 x3_1).f1)) = false := eA c45; clear c45; have H' := asT H; clear H; have hnb46 := NB125_123.out; have hnc46 := NB123_125.out; obtain ⟨hcz47_0, hcz47_1, hfz47_0, hfz47_1⟩ := bx2 BK125.out
             go_wp2
             go_roundg kj5
             case measure => have := HK1.out; have := HJ5.out; omega
             case rel => exact ⟨(wrap64 (x3_1 + 1)), rdT, H', ⟨by have := HK1.out; have := HJ5.out; omega⟩, kpT BK123.out, ⟨hbT HB.out⟩⟩
            ·rw [if_neg c45] at H; have c45b0 : (t126 == ((rd_T63 l0_0 x3_1).f1)) = false := eB c45; have c45b1 : (t126 != ((rd_T63 l0_0 x3_1).f1)) = true := eD c45; obtain rfl := oI H; have hnb48 := NB125_123.out; have hnc48 := NB123_125.out; obtain ⟨hcz49_0, hcz49_1, hfz49_0, hfz49_1⟩ := bx2 BK125.out
             go_wp2
             go_ret; exact ⟨rlT, hbT HB.out⟩
           ·replace c44 := eE c44; subst c44; rw [if_neg nF] at H; have H1 := H; clear H; have H := H1; clear H1; obtain rfl := oI H; have hnb50 := NB125_123.out; have hnc50 := NB123_125.out; obtain ⟨hcz51_0, hcz51_1, hfz51_0, hfz51_1⟩ := bx2 BK125.out
            go_wp2
            go_ret; exact ⟨rlT, hbT HB.out⟩
    ·rw [if_neg c4] at H; exact absurd H (by simp)
   ·rw [if_neg c3] at H; have c3b0 := df c3; clear c3; by_cases c52 : (l0_0.length : Int) ≤ 16
    ·rw [if_pos c52] at H; have c52b0 := dt c52; have c52b1 : decide (l0_0.length ≤ 16) = true := dt (by omega); clear c52; obtain ⟨t131, A53, H⟩ := be H; obtain ⟨t132, A54, H⟩ := be H; by_cases c55 : t132 = true
     ·subst c55; rw [if_pos rfl] at H; obtain ⟨t133, A56, H⟩ := be H; obtain ⟨t134, A57, H⟩ := be H; obtain rfl := oI H; obtain ⟨hcz58_0, hfz58_0⟩ := bx1 BK123.out
      go_wp2_with (first | (go_at_call 61; (with_reducible refine (spec_l6In.calls k1 _ _ l0_0 t131 _ ?side1 ?side2 A53.out).mono ?_); (case side1 => exact crT HR0_0.out HB.out); (case side2 => exact HC0_0.out); rintro e w59 ⟨rfl, hb⟩; replace BK123 := bS BK123 hb; replace HB := hS HB hb; (try clear hb hb2 hk hi)) | (go_at_call 60; (with_reducible refine (spec_IsForm.calls k1 t131 true _ A54.out).mono ?_); rintro e w' ⟨rfl, ⟨nd, rfl⟩⟩; obtain ⟨hcz60_0, hfz60_0⟩ := bx1 BK123.out) | (go_at_call 62; (with_reducible refine (spec_l6Out.calls k1 _ _ l0_0 t133 _ ?side1 ?side2 A56.out).mono ?_); (case side1 => exact crT HR0_0.out (hbT HB.out)); (case side2 => exact HC0_0.out); rintro e w61 ⟨rfl, hb⟩; replace BK123 := bS BK123 hb; replace HB := hS HB hb; (try clear hb hb2 hk hi)) | (go_at_call 60; (with_reducible refine (spec_IsForm.calls k1 t133 t134 _ A57.out).mono ?_); rintro e w' ⟨rfl, ⟨nd, rfl⟩⟩))
      go_ret; exact ⟨rlT, hbT HB.out⟩
     ·replace c55 := eE c55; subst c55; rw [if_neg nF] at H; have H1 := H; clear H; have H := H1; clear H1; obtain rfl := oI H; obtain ⟨hcz62_0, hfz62_0⟩ := bx1 BK123.out
      go_wp2_with (first | (go_at_call 61; (with_reducible refine (spec_l6In.calls k1 _ _ l0_0 t131 _ ?side1 ?side2 A53.out).mono ?_); (case side1 => exact crT HR0_0.out HB.out); (case side2 => exact HC0_0.out); rintro e w63 ⟨rfl, hb⟩; replace BK123 := bS BK123 hb; replace HB := hS HB hb; (try clear hb hb2 hk hi)) | (go_at_call 60; (with_reducible refine (spec_IsForm.calls k1 t131 false _ A54.out).mono ?_); rintro e w' ⟨rfl, ⟨nd, rfl⟩⟩))
      go_ret; exact ⟨rlT, hbT HB.out⟩
    ·rw [if_neg c52] at H; have c52b0 := df c52; have c52b1 : decide (l0_0.length ≤ 16) = false := df (by omega); clear c52; obtain rfl := oI H; obtain ⟨hcz64_0, hfz64_0⟩ := bx1 BK123.out
     go_wp2
     go_ret; exact ⟨rlT, hbT HB.out⟩
def spec_InputOf.f (k : Nat) (l0_0 : List (S63)) : Option (ByteArray) := (spec_IsCandidate.f k l0_0).bind fun t136 => (if t136 = true then ((spec_l6In.f k l0_0).bind fun t137 => (some t137)) else (some (⟨#[]⟩ : ByteArray)))
theorem spec_InputOf.mono : ∀ a0 k, LeO (spec_InputOf.f k a0) (spec_InputOf.f (k + 1) a0) := by
 intro a0 k; unfold spec_InputOf.f
 with_reducible repeat' first | exact spec_IsCandidate.mono _ _ | exact spec_l6In.mono _ _ | exact LeO.refl _ | exact LeO.none _ | refine LeO.ite ?_ ?_ | refine LeO.bind ?_ (fun _ => ?_)
theorem spec_InputOf.calls (k : Nat) (A0_0 : Option Addr) (c0_0 : Nat) (l0_0 : List (S63)) (r : ByteArray) (w : World) (hr0_0 : Kd.C k63 w A0_0 l0_0.length l0_0) (hc0_0 : l0_0.length ≤ c0_0) (h : spec_InputOf.f k l0_0 = some r) :
  Calls Try.prog 15 #[.agg #[.slice A0_0 l0_0.length c0_0]] w fun e w' => e = .returned (.string r) ∧ Below w.heap.size w w' := by
 have hu26 := Try.underlying26; have HR0_0 := asT hr0_0; have HC0_0 := asT hc0_0; clear hr0_0 hc0_0; have HB := asT (Below.refl w.heap.size w); have H := h; unfold spec_InputOf.f at H; clear h; obtain ⟨t136, A2, H⟩ := be H; by_cases c3 : t136 = true
 ·subst c3; rw [if_pos rfl] at H; obtain ⟨t137, A4, H⟩ := be H; obtain rfl := oI H; go_enter Try.func15, Try.ntmps15
  go_wp2_with (first | ((with_reducible refine gate_dst (N := 1) rfl ?_); refine boxT (N := 1) (cs := #[.slice A0_0 l0_0.length c0_0]) (t := 26) ?_; intro gb135 hg w5 hbox hb; have BK135 := asT hbox; have GW135 := asT (geT hg HB.out); have GE135 := GW135; replace HB := hS HB hb; clear hb hbox hg; obtain ⟨hcz6_0, hfz6_0⟩ := bx1 BK135.out) | ((with_reducible refine gate_callee (f := 12) rfl ?_); refine goesL_ (some 4) rfl rfl Try.func12 (by kernel_rfl) rfl #[.agg #[.slice A0_0 l0_0.length c0_0]] rfl eqT ?_; (with_reducible refine (spec_IsCandidate.calls k _ _ l0_0 true _ ?side1 ?side2 A2.out).mono ?_); (case side1 => exact crT HR0_0.out HB.out); (case side2 => exact HC0_0.out); rintro e w7 ⟨rfl, hb⟩; refine ⟨_, rfl, ?_⟩; replace BK135 := bS BK135 hb; replace HB := hS HB hb; (try clear hb hb2 hk hi); obtain ⟨hcz8_0, hfz8_0⟩ := bx1 BK135.out) | ((with_reducible refine gate_callee (f := 61) rfl ?_); refine goesL_ (some 7) rfl rfl Try.func61 (by kernel_rfl) rfl #[.agg #[.slice A0_0 l0_0.length c0_0]] rfl eqT ?_; (with_reducible refine (spec_l6In.calls k _ _ l0_0 t137 _ ?side1 ?side2 A4.out).mono ?_); (case side1 => exact crT HR0_0.out HB.out); (case side2 => exact HC0_0.out); rintro e w9 ⟨rfl, hb⟩; refine ⟨_, rfl, ?_⟩; replace BK135 := bS BK135 hb; replace HB := hS HB hb; (try clear hb hb2 hk hi)))
  go_ret; exact ⟨rlT, hbT HB.out⟩
 ·replace c3 := eE c3; subst c3; rw [if_neg nF] at H; have H1 := H; clear H; have H := H1; clear H1; obtain rfl := oI H; go_enter Try.func15, Try.ntmps15
  go_wp2_with (first | ((with_reducible refine gate_dst (N := 1) rfl ?_); refine boxT (N := 1) (cs := #[.slice A0_0 l0_0.length c0_0]) (t := 26) ?_; intro gb135 hg w10 hbox hb; have BK135 := asT hbox; have GW135 := asT (geT hg HB.out); have GE135 := GW135; replace HB := hS HB hb; clear hb hbox hg; obtain ⟨hcz11_0, hfz11_0⟩ := bx1 BK135.out) | ((with_reducible refine gate_callee (f := 12) rfl ?_); refine goesL_ (some 4) rfl rfl Try.func12 (by kernel_rfl) rfl #[.agg #[.slice A0_0 l0_0.length c0_0]] rfl eqT ?_; (with_reducible refine (spec_IsCandidate.calls k _ _ l0_0 false _ ?side1 ?side2 A2.out).mono ?_); (case side1 => exact crT HR0_0.out HB.out); (case side2 => exact HC0_0.out); rintro e w12 ⟨rfl, hb⟩; refine ⟨_, rfl, ?_⟩; replace BK135 := bS BK135 hb; replace HB := hS HB hb; (try clear hb hb2 hk hi)))
  go_ret; exact ⟨rlT, hbT HB.out⟩
def spec_OutputOf.f (k : Nat) (l0_0 : List (S63)) : Option (ByteArray) := (spec_IsCandidate.f k l0_0).bind fun t139 => (if t139 = true then ((spec_l6Out.f k l0_0).bind fun t140 => (some t140)) else (some (⟨#[]⟩ : ByteArray)))
theorem spec_OutputOf.mono : ∀ a0 k, LeO (spec_OutputOf.f k a0) (spec_OutputOf.f (k + 1) a0) := by
 intro a0 k; unfold spec_OutputOf.f
 with_reducible repeat' first | exact spec_IsCandidate.mono _ _ | exact spec_l6Out.mono _ _ | exact LeO.refl _ | exact LeO.none _ | refine LeO.ite ?_ ?_ | refine LeO.bind ?_ (fun _ => ?_)
theorem spec_OutputOf.calls (k : Nat) (A0_0 : Option Addr) (c0_0 : Nat) (l0_0 : List (S63)) (r : ByteArray) (w : World) (hr0_0 : Kd.C k63 w A0_0 l0_0.length l0_0) (hc0_0 : l0_0.length ≤ c0_0) (h : spec_OutputOf.f k l0_0 = some r) :
  Calls Try.prog 17 #[.agg #[.slice A0_0 l0_0.length c0_0]] w fun e w' => e = .returned (.string r) ∧ Below w.heap.size w w' := by
 have hu26 := Try.underlying26; have HR0_0 := asT hr0_0; have HC0_0 := asT hc0_0; clear hr0_0 hc0_0; have HB := asT (Below.refl w.heap.size w); have H := h; unfold spec_OutputOf.f at H; clear h; obtain ⟨t139, A2, H⟩ := be H; by_cases c3 : t139 = true
 ·subst c3; rw [if_pos rfl] at H; obtain ⟨t140, A4, H⟩ := be H; obtain rfl := oI H; go_enter Try.func17, Try.ntmps17
  go_wp2_with (first | ((with_reducible refine gate_dst (N := 1) rfl ?_); refine boxT (N := 1) (cs := #[.slice A0_0 l0_0.length c0_0]) (t := 26) ?_; intro gb138 hg w5 hbox hb; have BK138 := asT hbox; have GW138 := asT (geT hg HB.out); have GE138 := GW138; replace HB := hS HB hb; clear hb hbox hg; obtain ⟨hcz6_0, hfz6_0⟩ := bx1 BK138.out) | ((with_reducible refine gate_callee (f := 12) rfl ?_); refine goesL_ (some 4) rfl rfl Try.func12 (by kernel_rfl) rfl #[.agg #[.slice A0_0 l0_0.length c0_0]] rfl eqT ?_; (with_reducible refine (spec_IsCandidate.calls k _ _ l0_0 true _ ?side1 ?side2 A2.out).mono ?_); (case side1 => exact crT HR0_0.out HB.out); (case side2 => exact HC0_0.out); rintro e w7 ⟨rfl, hb⟩; refine ⟨_, rfl, ?_⟩; replace BK138 := bS BK138 hb; replace HB := hS HB hb; (try clear hb hb2 hk hi); obtain ⟨hcz8_0, hfz8_0⟩ := bx1 BK138.out) | ((with_reducible refine gate_callee (f := 62) rfl ?_); refine goesL_ (some 7) rfl rfl Try.func62 (by kernel_rfl) rfl #[.agg #[.slice A0_0 l0_0.length c0_0]] rfl eqT ?_; (with_reducible refine (spec_l6Out.calls k _ _ l0_0 t140 _ ?side1 ?side2 A4.out).mono ?_); (case side1 => exact crT HR0_0.out HB.out); (case side2 => exact HC0_0.out); rintro e w9 ⟨rfl, hb⟩; refine ⟨_, rfl, ?_⟩; replace BK138 := bS BK138 hb; replace HB := hS HB hb; (try clear hb hb2 hk hi)))
  go_ret; exact ⟨rlT, hbT HB.out⟩
 ·replace c3 := eE c3; subst c3; rw [if_neg nF] at H; have H1 := H; clear H; have H := H1; clear H1; obtain rfl := oI H; go_enter Try.func17, Try.ntmps17
  go_wp2_with (first | ((with_reducible refine gate_dst (N := 1) rfl ?_); refine boxT (N := 1) (cs := #[.slice A0_0 l0_0.length c0_0]) (t := 26) ?_; intro gb138 hg w10 hbox hb; have BK138 := asT hbox; have GW138 := asT (geT hg HB.out); have GE138 := GW138; replace HB := hS HB hb; clear hb hbox hg; obtain ⟨hcz11_0, hfz11_0⟩ := bx1 BK138.out) | ((with_reducible refine gate_callee (f := 12) rfl ?_); refine goesL_ (some 4) rfl rfl Try.func12 (by kernel_rfl) rfl #[.agg #[.slice A0_0 l0_0.length c0_0]] rfl eqT ?_; (with_reducible refine (spec_IsCandidate.calls k _ _ l0_0 false _ ?side1 ?side2 A2.out).mono ?_); (case side1 => exact crT HR0_0.out HB.out); (case side2 => exact HC0_0.out); rintro e w12 ⟨rfl, hb⟩; refine ⟨_, rfl, ?_⟩; replace BK138 := bS BK138 hb; replace HB := hS HB hb; (try clear hb hb2 hk hi)))
  go_ret; exact ⟨rlT, hbT HB.out⟩
end Go.Proofs.Ytlmfpkiaikjlbaa.PFnExactComposeCandidates
