-- Made by gen.py (a program of this session) out of the translation; Lean checks it.
import Derived.Test.YtdamagcfmhimfadPFnExactProfileOfx0
import Derived.Test.YtdamagcfmhimfadPFnExactProfileOfx2
import Derived.Test.YtdamagcfmhimfadPFnExactProfileOfx3
namespace Go.Proofs.Ytdamagcfmhimfad.PFnExactProfileOf
open Go.RowKit Go.Proofs.YtdamagcfmhimfadB Go.Proofs.YtdamagcfmhimfadW.PrintWords Go.Proofs.YtdamagcfmhimfadW.PrintLast Go.Proofs.YtdamagcfmhimfadW.PrintMore
attribute [local go_sem] max2_int min2_int max_two min_two max_three min_three max_four min_four   -- for this text's walks alone
set_option linter.unusedVariables false
set_option linter.unusedSimpArgs false

/-! ### spec_CountCodas: function 45 -/
mutual
def spec_CountCodas.l0 : Nat → ByteArray → Int → Int → Option (Int)
 | 0, _, _, _ => none
 | k + 1, x0, x3, x4 => if x4 < (x0.size : Int) then ((spec_IsForm.f k x0).bind fun t176 => (spec_CountCodas.j1 k x0 x3 x4 t176)) else (spec_CountCodas.j1 k x0 x3 x4 false)
def spec_CountCodas.j1 : Nat → ByteArray → Int → Int → Bool → Option (Int)
 | 0, _, _, _, _ => none
 | k + 1, x0, x3, x4, x12 => if x12 = true then ((spec_IsVowelAt.f x0 x4).bind fun t177 => (if t177 = true then (spec_CountCodas.l0 k x0 x3 (wrap64 (x4 + 1))) else ((spec_IsVowelAt.f x0 (wrap64 (x4 + 1))).bind fun t178 => (if t178 = true then (spec_CountCodas.l0 k x0 x3 (wrap64 (x4 + 1))) else (spec_CountCodas.l0 k x0 (wrap64 (x3 + 1)) (wrap64 (x4 + 1))))))) else (some x3)
end
def spec_CountCodas.f (k : Nat) (a0 : ByteArray) : Option (Int) := spec_CountCodas.l0 k a0 0 0
theorem spec_CountCodas.mono_l : ∀ k, (∀ y0 y1 y2, LeO (spec_CountCodas.l0 k y0 y1 y2) (spec_CountCodas.l0 (k + 1) y0 y1 y2)) ∧ (∀ y0 y1 y2 y3, LeO (spec_CountCodas.j1 k y0 y1 y2 y3) (spec_CountCodas.j1 (k + 1) y0 y1 y2 y3))
 | 0 => ⟨fun _ _ _ r h => by simp [spec_CountCodas.l0] at h, fun _ _ _ _ r h => by simp [spec_CountCodas.j1] at h⟩
 | k + 1 => by
  obtain ⟨ih0, ih1⟩ := spec_CountCodas.mono_l k; refine ⟨?_, ?_⟩
  ·intro y0 y1 y2
   unfold spec_CountCodas.l0
   repeat' first
   | (with_reducible exact ih0 _ _ _)
   | (with_reducible exact ih1 _ _ _ _)
   | (with_reducible exact spec_IsForm.mono _ _)
   | (with_reducible exact LeO.refl _)
   | (with_reducible exact LeO.none _)
   | (with_reducible refine LeO.ite ?_ ?_)
   | (with_reducible refine LeO.bind ?_ (fun _ => ?_))
   | exact ih0 _ _ _
   | exact ih1 _ _ _ _
   | exact spec_IsForm.mono _ _
   | exact LeO.none _
   | refine LeO.ite ?_ ?_
   | refine LeO.bind ?_ (fun _ => ?_)
  ·intro y0 y1 y2 y3
   unfold spec_CountCodas.j1
   repeat' first
   | (with_reducible exact ih0 _ _ _)
   | (with_reducible exact ih1 _ _ _ _)
   | (with_reducible exact spec_IsForm.mono _ _)
   | (with_reducible exact LeO.refl _)
   | (with_reducible exact LeO.none _)
   | (with_reducible refine LeO.ite ?_ ?_)
   | (with_reducible refine LeO.bind ?_ (fun _ => ?_))
   | exact ih0 _ _ _
   | exact ih1 _ _ _ _
   | exact spec_IsForm.mono _ _
   | exact LeO.none _
   | refine LeO.ite ?_ ?_
   | refine LeO.bind ?_ (fun _ => ?_)
theorem spec_CountCodas.mono : ∀ a0 k, LeO (spec_CountCodas.f k a0) (spec_CountCodas.f (k + 1) a0) := by
 intro a0 k
 obtain ⟨ih0, ih1⟩ := spec_CountCodas.mono_l k
 unfold spec_CountCodas.f
 repeat' first
   | (with_reducible exact ih0 _ _ _)
   | (with_reducible exact ih1 _ _ _ _)
   | (with_reducible exact spec_IsForm.mono _ _)
   | (with_reducible exact LeO.refl _)
   | (with_reducible exact LeO.none _)
   | (with_reducible refine LeO.ite ?_ ?_)
   | (with_reducible refine LeO.bind ?_ (fun _ => ?_))
   | exact ih0 _ _ _
   | exact ih1 _ _ _ _
   | exact spec_IsForm.mono _ _
   | exact LeO.none _
   | refine LeO.ite ?_ ?_
   | refine LeO.bind ?_ (fun _ => ?_)
set_option maxHeartbeats 8000000 in
set_option maxRecDepth 100000 in
theorem spec_CountCodas.calls (k : Nat) (a0 : ByteArray) (r : Int) (w : World) (h : spec_CountCodas.f k a0 = some r) :
  Calls Try.prog 45 #[.string a0] w fun e w' => e = .returned (.int .i64 r) ∧ Drawn0 w w' := by
 have H : (spec_CountCodas.l0 k a0 0 0) = some r := h
 clear h; have H' := Aside0.mk H; clear H
 go_enter Try.func45, Try.ntmps45
 go_wp2
 go_loopg [3, 4] k (fun kq v3 v4 w' => ∃ (x3_1 : Int) (x4_1 : Int), v3 = .int .i64 x3_1 ∧ v4 = .int .i64 x4_1 ∧ Aside0 (spec_CountCodas.l0 kq a0 x3_1 x4_1 = some r) ∧ Aside0 (kq ≤ k) ∧ Drawn0 w w')
 case atStart => exact ⟨(0), (0), rdT, rdT, H', ⟨Nat.le_refl _⟩, drT⟩
 case round =>
  clear H'; obtain ⟨x3_1, x4_1, rfl, rfl, HA, HK1, ⟨m1, rfl⟩⟩ := hrel
  cases gk with
  | zero => exact absurd HA.out (by simp [spec_CountCodas.l0])
  | succ k1 =>
   have H := HA.out; clear HA
   simp only [spec_CountCodas.l0] at H
   have HC2 := Aside0.mk H; clear H
   go_upto_region 3 with (fail)
   go_cut [12] (fun v12 wc => ∃ (kq : Nat) (x12_1 : Bool), v12 = .bool x12_1 ∧ Aside0 (spec_CountCodas.j1 kq a0 x3_1 x4_1 x12_1 = some r) ∧ Aside0 (kq ≤ k1) ∧ Drawn0 w wc)
   case first =>
    have H := HC2.out; clear HC2
    by_cases c3 : x4_1 < (a0.size : Int)
    ·rw [if_pos c3] at H
     have c3b0 : decide (x4_1 < (a0.size : Int)) = true := decide_eq_true c3
     clear c3
     (first | rw [c3b0] | (simp only [i64_w, i32_w]; rw [c3b0]) | skip)
     replace H := Option.bind_eq_some_iff.mp H; obtain ⟨t176, A40, H⟩ := H; replace H : (spec_CountCodas.j1 k1 a0 x3_1 x4_1 t176) = some r := H; have A4 := Aside0.mk A40; clear A40; have H' := Aside0.mk H; clear H
     go_wp2_with (first | (go_at_call 84; (with_reducible refine (spec_IsForm.calls k1 a0 t176 _ A4.out).mono ?_); rintro e w' ⟨rfl, ⟨nd, rfl⟩⟩))
     go_meet
     case rel => exact ⟨_, (t176), rdT, H', ⟨by have := HK1.out; first | omega | exact Nat.le_refl _⟩, drT⟩
    ·rw [if_neg c3] at H
     have c3b0 : decide (x4_1 < (a0.size : Int)) = false := decide_eq_false c3
     clear c3
     (first | rw [c3b0] | (simp only [i64_w, i32_w]; rw [c3b0]) | skip)
     have H' := Aside0.mk H; clear H
     go_wp2
     go_meet
     case rel => exact ⟨_, (false), rdT, H', ⟨by have := HK1.out; first | omega | exact Nat.le_refl _⟩, drT⟩
   case rest =>
    clear HC2; (try clear p2); (try clear c3); (try clear c3b0); (try clear c4); obtain ⟨kq, x12_1, rfl, HA, HJ1, ⟨mc1, rfl⟩⟩ := hcut
    cases kq with
    | zero => exact absurd HA.out (by simp [spec_CountCodas.j1])
    | succ kj1 =>
     have H := HA.out; clear HA
     simp only [spec_CountCodas.j1] at H
     by_cases c5 : x12_1 = true
     ·subst c5
      have H1 : ((spec_IsVowelAt.f a0 x4_1).bind fun t177 => (if t177 = true then (spec_CountCodas.l0 kj1 a0 x3_1 (wrap64 (x4_1 + 1))) else ((spec_IsVowelAt.f a0 (wrap64 (x4_1 + 1))).bind fun t178 => (if t178 = true then (spec_CountCodas.l0 kj1 a0 x3_1 (wrap64 (x4_1 + 1))) else (spec_CountCodas.l0 kj1 a0 (wrap64 (x3_1 + 1)) (wrap64 (x4_1 + 1))))))) = some r := by rw [if_pos rfl] at H; exact H
      clear H; have H := H1; clear H1; replace H := Option.bind_eq_some_iff.mp H; obtain ⟨t177, A60, H⟩ := H; replace H : (if t177 = true then (spec_CountCodas.l0 kj1 a0 x3_1 (wrap64 (x4_1 + 1))) else ((spec_IsVowelAt.f a0 (wrap64 (x4_1 + 1))).bind fun t178 => (if t178 = true then (spec_CountCodas.l0 kj1 a0 x3_1 (wrap64 (x4_1 + 1))) else (spec_CountCodas.l0 kj1 a0 (wrap64 (x3_1 + 1)) (wrap64 (x4_1 + 1)))))) = some r := H; have A6 := Aside0.mk A60; clear A60
      by_cases c7 : t177 = true
      ·subst c7
       have H1 : (spec_CountCodas.l0 kj1 a0 x3_1 (wrap64 (x4_1 + 1))) = some r := by rw [if_pos rfl] at H; exact H
       clear H; have H := H1; clear H1; have H' := Aside0.mk H; clear H
       go_wp2_with (first | ((with_reducible refine gate_callee (f := 87) rfl ?_); refine goesL_ (some 17) rfl rfl Try.func87 (by kernel_rfl) rfl #[.string a0, .int .i64 x4_1] rfl eqT ?_; (with_reducible refine (spec_IsVowelAt.calls a0 x4_1 true _ A6.out).mono ?_); rintro e w' ⟨rfl, ⟨nd, rfl⟩⟩; refine ⟨_, rfl, ?_⟩))
       go_roundg kj1
       case measure => have := HK1.out; have := HJ1.out; omega
       case rel => exact ⟨(x3_1), (wrap64 (x4_1 + 1)), rdT, rdT, H', ⟨by have := HK1.out; have := HJ1.out; omega⟩, drT⟩
      ·replace c7 := Bool.eq_false_iff.mpr c7
       subst c7
       have H1 : ((spec_IsVowelAt.f a0 (wrap64 (x4_1 + 1))).bind fun t178 => (if t178 = true then (spec_CountCodas.l0 kj1 a0 x3_1 (wrap64 (x4_1 + 1))) else (spec_CountCodas.l0 kj1 a0 (wrap64 (x3_1 + 1)) (wrap64 (x4_1 + 1))))) = some r := by rw [if_neg (show ¬ (false = true) by decide)] at H; exact H
       clear H; have H := H1; clear H1; replace H := Option.bind_eq_some_iff.mp H; obtain ⟨t178, A80, H⟩ := H; replace H : (if t178 = true then (spec_CountCodas.l0 kj1 a0 x3_1 (wrap64 (x4_1 + 1))) else (spec_CountCodas.l0 kj1 a0 (wrap64 (x3_1 + 1)) (wrap64 (x4_1 + 1)))) = some r := H; have A8 := Aside0.mk A80; clear A80
       by_cases c9 : t178 = true
       ·subst c9
        have H1 : (spec_CountCodas.l0 kj1 a0 x3_1 (wrap64 (x4_1 + 1))) = some r := by rw [if_pos rfl] at H; exact H
        clear H; have H := H1; clear H1; have H' := Aside0.mk H; clear H
        go_wp2_with (first | ((with_reducible refine gate_callee (f := 87) rfl ?_); refine goesL_ (some 17) rfl rfl Try.func87 (by kernel_rfl) rfl #[.string a0, .int .i64 x4_1] rfl eqT ?_; (with_reducible refine (spec_IsVowelAt.calls a0 x4_1 false _ A6.out).mono ?_); rintro e w' ⟨rfl, ⟨nd, rfl⟩⟩; refine ⟨_, rfl, ?_⟩) | (go_at_call 87; (with_reducible refine (spec_IsVowelAt.calls a0 (wrap64 (x4_1 + 1)) true _ A8.out).mono ?_); rintro e w' ⟨rfl, ⟨nd, rfl⟩⟩))
        go_roundg kj1
        case measure => have := HK1.out; have := HJ1.out; omega
        case rel => exact ⟨(x3_1), (wrap64 (x4_1 + 1)), rdT, rdT, H', ⟨by have := HK1.out; have := HJ1.out; omega⟩, drT⟩
       ·replace c9 := Bool.eq_false_iff.mpr c9
        subst c9
        have H1 : (spec_CountCodas.l0 kj1 a0 (wrap64 (x3_1 + 1)) (wrap64 (x4_1 + 1))) = some r := by rw [if_neg (show ¬ (false = true) by decide)] at H; exact H
        clear H; have H := H1; clear H1; have H' := Aside0.mk H; clear H
        go_wp2_with (first | ((with_reducible refine gate_callee (f := 87) rfl ?_); refine goesL_ (some 17) rfl rfl Try.func87 (by kernel_rfl) rfl #[.string a0, .int .i64 x4_1] rfl eqT ?_; (with_reducible refine (spec_IsVowelAt.calls a0 x4_1 false _ A6.out).mono ?_); rintro e w' ⟨rfl, ⟨nd, rfl⟩⟩; refine ⟨_, rfl, ?_⟩) | (go_at_call 87; (with_reducible refine (spec_IsVowelAt.calls a0 (wrap64 (x4_1 + 1)) false _ A8.out).mono ?_); rintro e w' ⟨rfl, ⟨nd, rfl⟩⟩))
        go_roundg kj1
        case measure => have := HK1.out; have := HJ1.out; omega
        case rel => exact ⟨(wrap64 (x3_1 + 1)), (wrap64 (x4_1 + 1)), rdT, rdT, H', ⟨by have := HK1.out; have := HJ1.out; omega⟩, drT⟩
     ·replace c5 := Bool.eq_false_iff.mpr c5
      subst c5
      have H1 : (some x3_1) = some r := by rw [if_neg (show ¬ (false = true) by decide)] at H; exact H
      clear H; have H := H1; clear H1
      obtain rfl := Option.some.inj H
      go_wp2
      go_ret
      exact ⟨rdT, drT⟩

/-! ### spec_CountClusters: function 46 -/
mutual
def spec_CountClusters.l0 : Nat → ByteArray → Int → Int → Option (Int)
 | 0, _, _, _ => none
 | k + 1, x0, x3, x4 => if x4 < (x0.size : Int) then ((spec_IsForm.f k x0).bind fun t179 => (spec_CountClusters.j1 k x0 x3 x4 t179)) else (spec_CountClusters.j1 k x0 x3 x4 false)
def spec_CountClusters.j1 : Nat → ByteArray → Int → Int → Bool → Option (Int)
 | 0, _, _, _, _ => none
 | k + 1, x0, x3, x4, x12 => if x12 = true then ((spec_IsVowelAt.f x0 (wrap64 (x4 - 1))).bind fun t180 => (if t180 = true then (spec_CountClusters.l0 k x0 x3 (wrap64 (x4 + 1))) else ((spec_IsVowelAt.f x0 x4).bind fun t181 => (if t181 = true then (spec_CountClusters.l0 k x0 x3 (wrap64 (x4 + 1))) else (spec_CountClusters.l0 k x0 (wrap64 (x3 + 1)) (wrap64 (x4 + 1))))))) else (some x3)
end
def spec_CountClusters.f (k : Nat) (a0 : ByteArray) : Option (Int) := spec_CountClusters.l0 k a0 0 1
theorem spec_CountClusters.mono_l : ∀ k, (∀ y0 y1 y2, LeO (spec_CountClusters.l0 k y0 y1 y2) (spec_CountClusters.l0 (k + 1) y0 y1 y2)) ∧ (∀ y0 y1 y2 y3, LeO (spec_CountClusters.j1 k y0 y1 y2 y3) (spec_CountClusters.j1 (k + 1) y0 y1 y2 y3))
 | 0 => ⟨fun _ _ _ r h => by simp [spec_CountClusters.l0] at h, fun _ _ _ _ r h => by simp [spec_CountClusters.j1] at h⟩
 | k + 1 => by
  obtain ⟨ih0, ih1⟩ := spec_CountClusters.mono_l k; refine ⟨?_, ?_⟩
  ·intro y0 y1 y2
   unfold spec_CountClusters.l0
   repeat' first
   | (with_reducible exact ih0 _ _ _)
   | (with_reducible exact ih1 _ _ _ _)
   | (with_reducible exact spec_IsForm.mono _ _)
   | (with_reducible exact LeO.refl _)
   | (with_reducible exact LeO.none _)
   | (with_reducible refine LeO.ite ?_ ?_)
   | (with_reducible refine LeO.bind ?_ (fun _ => ?_))
   | exact ih0 _ _ _
   | exact ih1 _ _ _ _
   | exact spec_IsForm.mono _ _
   | exact LeO.none _
   | refine LeO.ite ?_ ?_
   | refine LeO.bind ?_ (fun _ => ?_)
  ·intro y0 y1 y2 y3
   unfold spec_CountClusters.j1
   repeat' first
   | (with_reducible exact ih0 _ _ _)
   | (with_reducible exact ih1 _ _ _ _)
   | (with_reducible exact spec_IsForm.mono _ _)
   | (with_reducible exact LeO.refl _)
   | (with_reducible exact LeO.none _)
   | (with_reducible refine LeO.ite ?_ ?_)
   | (with_reducible refine LeO.bind ?_ (fun _ => ?_))
   | exact ih0 _ _ _
   | exact ih1 _ _ _ _
   | exact spec_IsForm.mono _ _
   | exact LeO.none _
   | refine LeO.ite ?_ ?_
   | refine LeO.bind ?_ (fun _ => ?_)
theorem spec_CountClusters.mono : ∀ a0 k, LeO (spec_CountClusters.f k a0) (spec_CountClusters.f (k + 1) a0) := by
 intro a0 k
 obtain ⟨ih0, ih1⟩ := spec_CountClusters.mono_l k
 unfold spec_CountClusters.f
 repeat' first
   | (with_reducible exact ih0 _ _ _)
   | (with_reducible exact ih1 _ _ _ _)
   | (with_reducible exact spec_IsForm.mono _ _)
   | (with_reducible exact LeO.refl _)
   | (with_reducible exact LeO.none _)
   | (with_reducible refine LeO.ite ?_ ?_)
   | (with_reducible refine LeO.bind ?_ (fun _ => ?_))
   | exact ih0 _ _ _
   | exact ih1 _ _ _ _
   | exact spec_IsForm.mono _ _
   | exact LeO.none _
   | refine LeO.ite ?_ ?_
   | refine LeO.bind ?_ (fun _ => ?_)
set_option maxHeartbeats 8000000 in
set_option maxRecDepth 100000 in
theorem spec_CountClusters.calls (k : Nat) (a0 : ByteArray) (r : Int) (w : World) (h : spec_CountClusters.f k a0 = some r) :
  Calls Try.prog 46 #[.string a0] w fun e w' => e = .returned (.int .i64 r) ∧ Drawn0 w w' := by
 have H : (spec_CountClusters.l0 k a0 0 1) = some r := h
 clear h; have H' := Aside0.mk H; clear H
 go_enter Try.func46, Try.ntmps46
 go_wp2
 go_loopg [3, 4] k (fun kq v3 v4 w' => ∃ (x3_1 : Int) (x4_1 : Int), v3 = .int .i64 x3_1 ∧ v4 = .int .i64 x4_1 ∧ Aside0 (spec_CountClusters.l0 kq a0 x3_1 x4_1 = some r) ∧ Aside0 (kq ≤ k) ∧ Drawn0 w w')
 case atStart => exact ⟨(0), (1), rdT, rdT, H', ⟨Nat.le_refl _⟩, drT⟩
 case round =>
  clear H'; obtain ⟨x3_1, x4_1, rfl, rfl, HA, HK1, ⟨m1, rfl⟩⟩ := hrel
  cases gk with
  | zero => exact absurd HA.out (by simp [spec_CountClusters.l0])
  | succ k1 =>
   have H := HA.out; clear HA
   simp only [spec_CountClusters.l0] at H
   have HC2 := Aside0.mk H; clear H
   go_upto_region 3 with (fail)
   go_cut [12] (fun v12 wc => ∃ (kq : Nat) (x12_1 : Bool), v12 = .bool x12_1 ∧ Aside0 (spec_CountClusters.j1 kq a0 x3_1 x4_1 x12_1 = some r) ∧ Aside0 (kq ≤ k1) ∧ Drawn0 w wc)
   case first =>
    have H := HC2.out; clear HC2
    by_cases c3 : x4_1 < (a0.size : Int)
    ·rw [if_pos c3] at H
     have c3b0 : decide (x4_1 < (a0.size : Int)) = true := decide_eq_true c3
     clear c3
     (first | rw [c3b0] | (simp only [i64_w, i32_w]; rw [c3b0]) | skip)
     replace H := Option.bind_eq_some_iff.mp H; obtain ⟨t179, A40, H⟩ := H; replace H : (spec_CountClusters.j1 k1 a0 x3_1 x4_1 t179) = some r := H; have A4 := Aside0.mk A40; clear A40; have H' := Aside0.mk H; clear H
     go_wp2_with (first | (go_at_call 84; (with_reducible refine (spec_IsForm.calls k1 a0 t179 _ A4.out).mono ?_); rintro e w' ⟨rfl, ⟨nd, rfl⟩⟩))
     go_meet
     case rel => exact ⟨_, (t179), rdT, H', ⟨by have := HK1.out; first | omega | exact Nat.le_refl _⟩, drT⟩
    ·rw [if_neg c3] at H
     have c3b0 : decide (x4_1 < (a0.size : Int)) = false := decide_eq_false c3
     clear c3
     (first | rw [c3b0] | (simp only [i64_w, i32_w]; rw [c3b0]) | skip)
     have H' := Aside0.mk H; clear H
     go_wp2
     go_meet
     case rel => exact ⟨_, (false), rdT, H', ⟨by have := HK1.out; first | omega | exact Nat.le_refl _⟩, drT⟩
   case rest =>
    clear HC2; (try clear p2); (try clear c3); (try clear c3b0); (try clear c4); obtain ⟨kq, x12_1, rfl, HA, HJ1, ⟨mc1, rfl⟩⟩ := hcut
    cases kq with
    | zero => exact absurd HA.out (by simp [spec_CountClusters.j1])
    | succ kj1 =>
     have H := HA.out; clear HA
     simp only [spec_CountClusters.j1] at H
     by_cases c5 : x12_1 = true
     ·subst c5
      have H1 : ((spec_IsVowelAt.f a0 (wrap64 (x4_1 - 1))).bind fun t180 => (if t180 = true then (spec_CountClusters.l0 kj1 a0 x3_1 (wrap64 (x4_1 + 1))) else ((spec_IsVowelAt.f a0 x4_1).bind fun t181 => (if t181 = true then (spec_CountClusters.l0 kj1 a0 x3_1 (wrap64 (x4_1 + 1))) else (spec_CountClusters.l0 kj1 a0 (wrap64 (x3_1 + 1)) (wrap64 (x4_1 + 1))))))) = some r := by rw [if_pos rfl] at H; exact H
      clear H; have H := H1; clear H1; replace H := Option.bind_eq_some_iff.mp H; obtain ⟨t180, A60, H⟩ := H; replace H : (if t180 = true then (spec_CountClusters.l0 kj1 a0 x3_1 (wrap64 (x4_1 + 1))) else ((spec_IsVowelAt.f a0 x4_1).bind fun t181 => (if t181 = true then (spec_CountClusters.l0 kj1 a0 x3_1 (wrap64 (x4_1 + 1))) else (spec_CountClusters.l0 kj1 a0 (wrap64 (x3_1 + 1)) (wrap64 (x4_1 + 1)))))) = some r := H; have A6 := Aside0.mk A60; clear A60
      by_cases c7 : t180 = true
      ·subst c7
       have H1 : (spec_CountClusters.l0 kj1 a0 x3_1 (wrap64 (x4_1 + 1))) = some r := by rw [if_pos rfl] at H; exact H
       clear H; have H := H1; clear H1; have H' := Aside0.mk H; clear H
       go_wp2_with (first | ((with_reducible refine gate_callee (f := 87) rfl ?_); refine goesL_ (some 18) rfl rfl Try.func87 (by kernel_rfl) rfl #[.string a0, .int .i64 (wrap64 (x4_1 - 1))] rfl eqT ?_; (with_reducible refine (spec_IsVowelAt.calls a0 (wrap64 (x4_1 - 1)) true _ A6.out).mono ?_); rintro e w' ⟨rfl, ⟨nd, rfl⟩⟩; refine ⟨_, rfl, ?_⟩))
       go_roundg kj1
       case measure => have := HK1.out; have := HJ1.out; omega
       case rel => exact ⟨(x3_1), (wrap64 (x4_1 + 1)), rdT, rdT, H', ⟨by have := HK1.out; have := HJ1.out; omega⟩, drT⟩
      ·replace c7 := Bool.eq_false_iff.mpr c7
       subst c7
       have H1 : ((spec_IsVowelAt.f a0 x4_1).bind fun t181 => (if t181 = true then (spec_CountClusters.l0 kj1 a0 x3_1 (wrap64 (x4_1 + 1))) else (spec_CountClusters.l0 kj1 a0 (wrap64 (x3_1 + 1)) (wrap64 (x4_1 + 1))))) = some r := by rw [if_neg (show ¬ (false = true) by decide)] at H; exact H
       clear H; have H := H1; clear H1; replace H := Option.bind_eq_some_iff.mp H; obtain ⟨t181, A80, H⟩ := H; replace H : (if t181 = true then (spec_CountClusters.l0 kj1 a0 x3_1 (wrap64 (x4_1 + 1))) else (spec_CountClusters.l0 kj1 a0 (wrap64 (x3_1 + 1)) (wrap64 (x4_1 + 1)))) = some r := H; have A8 := Aside0.mk A80; clear A80
       by_cases c9 : t181 = true
       ·subst c9
        have H1 : (spec_CountClusters.l0 kj1 a0 x3_1 (wrap64 (x4_1 + 1))) = some r := by rw [if_pos rfl] at H; exact H
        clear H; have H := H1; clear H1; have H' := Aside0.mk H; clear H
        go_wp2_with (first | ((with_reducible refine gate_callee (f := 87) rfl ?_); refine goesL_ (some 18) rfl rfl Try.func87 (by kernel_rfl) rfl #[.string a0, .int .i64 (wrap64 (x4_1 - 1))] rfl eqT ?_; (with_reducible refine (spec_IsVowelAt.calls a0 (wrap64 (x4_1 - 1)) false _ A6.out).mono ?_); rintro e w' ⟨rfl, ⟨nd, rfl⟩⟩; refine ⟨_, rfl, ?_⟩) | (go_at_call 87; (with_reducible refine (spec_IsVowelAt.calls a0 x4_1 true _ A8.out).mono ?_); rintro e w' ⟨rfl, ⟨nd, rfl⟩⟩))
        go_roundg kj1
        case measure => have := HK1.out; have := HJ1.out; omega
        case rel => exact ⟨(x3_1), (wrap64 (x4_1 + 1)), rdT, rdT, H', ⟨by have := HK1.out; have := HJ1.out; omega⟩, drT⟩
       ·replace c9 := Bool.eq_false_iff.mpr c9
        subst c9
        have H1 : (spec_CountClusters.l0 kj1 a0 (wrap64 (x3_1 + 1)) (wrap64 (x4_1 + 1))) = some r := by rw [if_neg (show ¬ (false = true) by decide)] at H; exact H
        clear H; have H := H1; clear H1; have H' := Aside0.mk H; clear H
        go_wp2_with (first | ((with_reducible refine gate_callee (f := 87) rfl ?_); refine goesL_ (some 18) rfl rfl Try.func87 (by kernel_rfl) rfl #[.string a0, .int .i64 (wrap64 (x4_1 - 1))] rfl eqT ?_; (with_reducible refine (spec_IsVowelAt.calls a0 (wrap64 (x4_1 - 1)) false _ A6.out).mono ?_); rintro e w' ⟨rfl, ⟨nd, rfl⟩⟩; refine ⟨_, rfl, ?_⟩) | (go_at_call 87; (with_reducible refine (spec_IsVowelAt.calls a0 x4_1 false _ A8.out).mono ?_); rintro e w' ⟨rfl, ⟨nd, rfl⟩⟩))
        go_roundg kj1
        case measure => have := HK1.out; have := HJ1.out; omega
        case rel => exact ⟨(wrap64 (x3_1 + 1)), (wrap64 (x4_1 + 1)), rdT, rdT, H', ⟨by have := HK1.out; have := HJ1.out; omega⟩, drT⟩
     ·replace c5 := Bool.eq_false_iff.mpr c5
      subst c5
      have H1 : (some x3_1) = some r := by rw [if_neg (show ¬ (false = true) by decide)] at H; exact H
      clear H; have H := H1; clear H1
      obtain rfl := Option.some.inj H
      go_wp2
      go_ret
      exact ⟨rdT, drT⟩

/-! ### spec_IsObstruent: function 90 -/
def spec_IsObstruent.f (a0 : Int) : Option (Bool) := if a0 = 112 then (some true) else (if a0 = 116 then (some true) else (if a0 = 98 then (some true) else (some (a0 == 100))))
set_option maxHeartbeats 8000000 in
set_option maxRecDepth 100000 in
theorem spec_IsObstruent.calls (a0 : Int) (r : Bool) (w : World) (h : spec_IsObstruent.f a0 = some r) :
  Calls Try.prog 90 #[.int .u8 a0] w fun e w' => e = .returned (.bool r) ∧ Drawn0 w w' := by
 have H : (if a0 = 112 then (some true) else (if a0 = 116 then (some true) else (if a0 = 98 then (some true) else (some (a0 == 100))))) = some r := h
 clear h
 by_cases c2 : a0 = 112
 ·rw [if_pos c2] at H
  have c2b0 : (a0 == 112) = true := beq_iff_eq.mpr c2
  have c2b1 : (a0 != 112) = false := bne_eq_false_iff_eq.mpr c2
  clear c2
  obtain rfl := Option.some.inj H
  go_enter Try.func90, Try.ntmps90
  go_wp2
  go_ret
  exact ⟨rdT, drT⟩
 ·rw [if_neg c2] at H
  have c2b0 : (a0 == 112) = false := beq_eq_false_iff_ne.mpr c2
  have c2b1 : (a0 != 112) = true := bne_iff_ne.mpr c2
  by_cases c3 : a0 = 116
  ·rw [if_pos c3] at H
   have c3b0 : (a0 == 116) = true := beq_iff_eq.mpr c3
   have c3b1 : (a0 != 116) = false := bne_eq_false_iff_eq.mpr c3
   clear c3
   obtain rfl := Option.some.inj H
   go_enter Try.func90, Try.ntmps90
   go_wp2
   go_ret
   exact ⟨rdT, drT⟩
  ·rw [if_neg c3] at H
   have c3b0 : (a0 == 116) = false := beq_eq_false_iff_ne.mpr c3
   have c3b1 : (a0 != 116) = true := bne_iff_ne.mpr c3
   by_cases c4 : a0 = 98
   ·rw [if_pos c4] at H
    have c4b0 : (a0 == 98) = true := beq_iff_eq.mpr c4
    have c4b1 : (a0 != 98) = false := bne_eq_false_iff_eq.mpr c4
    clear c4
    obtain rfl := Option.some.inj H
    go_enter Try.func90, Try.ntmps90
    go_wp2
    go_ret
    exact ⟨rdT, drT⟩
   ·rw [if_neg c4] at H
    have c4b0 : (a0 == 98) = false := beq_eq_false_iff_ne.mpr c4
    have c4b1 : (a0 != 98) = true := bne_iff_ne.mpr c4
    obtain rfl := Option.some.inj H
    go_enter Try.func90, Try.ntmps90
    go_wp2
    go_ret
    exact ⟨rdT, drT⟩

/-! ### spec_l8Voiced: function 88 -/
def spec_l8Voiced.f (a0 : Int) : Option (Bool) := (spec_IsObstruent.f a0).bind fun t182 => (if t182 = true then ((spec_HasFeature.f a0 1).bind fun t183 => (some t183)) else (some false))
set_option maxHeartbeats 8000000 in
set_option maxRecDepth 100000 in
theorem spec_l8Voiced.calls (a0 : Int) (r : Bool) (w : World) (h : spec_l8Voiced.f a0 = some r) :
  Calls Try.prog 88 #[.int .u8 a0] w fun e w' => e = .returned (.bool r) ∧ Drawn0 w w' := by
 have H : ((spec_IsObstruent.f a0).bind fun t182 => (if t182 = true then ((spec_HasFeature.f a0 1).bind fun t183 => (some t183)) else (some false))) = some r := h
 clear h; replace H := Option.bind_eq_some_iff.mp H; obtain ⟨t182, A20, H⟩ := H; replace H : (if t182 = true then ((spec_HasFeature.f a0 1).bind fun t183 => (some t183)) else (some false)) = some r := H; have A2 := Aside0.mk A20; clear A20
 by_cases c3 : t182 = true
 ·subst c3
  have H1 : ((spec_HasFeature.f a0 1).bind fun t183 => (some t183)) = some r := by rw [if_pos rfl] at H; exact H
  clear H; have H := H1; clear H1; replace H := Option.bind_eq_some_iff.mp H; obtain ⟨t183, A40, H⟩ := H; replace H : (some t183) = some r := H; have A4 := Aside0.mk A40; clear A40
  obtain rfl := Option.some.inj H
  go_enter Try.func88, Try.ntmps88
  go_wp2_with (first | ((with_reducible refine gate_callee (f := 90) rfl ?_); refine goesL_ (some 4) rfl rfl Try.func90 (by kernel_rfl) rfl #[.int .u8 a0] rfl eqT ?_; (with_reducible refine (spec_IsObstruent.calls a0 true _ A2.out).mono ?_); rintro e w' ⟨rfl, ⟨nd, rfl⟩⟩; refine ⟨_, rfl, ?_⟩) | (go_at_call 89; (with_reducible refine (spec_HasFeature.calls a0 1 t183 _ A4.out).mono ?_); rintro e w' ⟨rfl, ⟨nd, rfl⟩⟩))
  go_ret
  exact ⟨rdT, drT⟩
 ·replace c3 := Bool.eq_false_iff.mpr c3
  subst c3
  have H1 : (some false) = some r := by rw [if_neg (show ¬ (false = true) by decide)] at H; exact H
  clear H; have H := H1; clear H1
  obtain rfl := Option.some.inj H
  go_enter Try.func88, Try.ntmps88
  go_wp2_with (first | ((with_reducible refine gate_callee (f := 90) rfl ?_); refine goesL_ (some 4) rfl rfl Try.func90 (by kernel_rfl) rfl #[.int .u8 a0] rfl eqT ?_; (with_reducible refine (spec_IsObstruent.calls a0 false _ A2.out).mono ?_); rintro e w' ⟨rfl, ⟨nd, rfl⟩⟩; refine ⟨_, rfl, ?_⟩))
  go_ret
  exact ⟨rdT, drT⟩

/-! ### spec_CountVoiced: function 47 -/
mutual
def spec_CountVoiced.l0 : Nat → ByteArray → Int → Int → Option (Int)
 | 0, _, _, _ => none
 | k + 1, x0, x3, x4 => if x4 < (x0.size : Int) then ((spec_IsForm.f k x0).bind fun t184 => (spec_CountVoiced.j1 k x0 x3 x4 t184)) else (spec_CountVoiced.j1 k x0 x3 x4 false)
def spec_CountVoiced.j1 : Nat → ByteArray → Int → Int → Bool → Option (Int)
 | 0, _, _, _, _ => none
 | k + 1, x0, x3, x4, x12 => if x12 = true then (if 0 ≤ x4 then (if x4 < (x0.size : Int) then ((spec_l8Voiced.f (bt x0 x4)).bind fun t185 => (if t185 = true then (spec_CountVoiced.l0 k x0 (wrap64 (x3 + 1)) (wrap64 (x4 + 1))) else (spec_CountVoiced.l0 k x0 x3 (wrap64 (x4 + 1))))) else (none)) else (none)) else (some x3)
end
def spec_CountVoiced.f (k : Nat) (a0 : ByteArray) : Option (Int) := spec_CountVoiced.l0 k a0 0 0
theorem spec_CountVoiced.mono_l : ∀ k, (∀ y0 y1 y2, LeO (spec_CountVoiced.l0 k y0 y1 y2) (spec_CountVoiced.l0 (k + 1) y0 y1 y2)) ∧ (∀ y0 y1 y2 y3, LeO (spec_CountVoiced.j1 k y0 y1 y2 y3) (spec_CountVoiced.j1 (k + 1) y0 y1 y2 y3))
 | 0 => ⟨fun _ _ _ r h => by simp [spec_CountVoiced.l0] at h, fun _ _ _ _ r h => by simp [spec_CountVoiced.j1] at h⟩
 | k + 1 => by
  obtain ⟨ih0, ih1⟩ := spec_CountVoiced.mono_l k; refine ⟨?_, ?_⟩
  ·intro y0 y1 y2
   unfold spec_CountVoiced.l0
   repeat' first
   | (with_reducible exact ih0 _ _ _)
   | (with_reducible exact ih1 _ _ _ _)
   | (with_reducible exact spec_IsForm.mono _ _)
   | (with_reducible exact LeO.refl _)
   | (with_reducible exact LeO.none _)
   | (with_reducible refine LeO.ite ?_ ?_)
   | (with_reducible refine LeO.bind ?_ (fun _ => ?_))
   | exact ih0 _ _ _
   | exact ih1 _ _ _ _
   | exact spec_IsForm.mono _ _
   | exact LeO.none _
   | refine LeO.ite ?_ ?_
   | refine LeO.bind ?_ (fun _ => ?_)
  ·intro y0 y1 y2 y3
   unfold spec_CountVoiced.j1
   repeat' first
   | (with_reducible exact ih0 _ _ _)
   | (with_reducible exact ih1 _ _ _ _)
   | (with_reducible exact spec_IsForm.mono _ _)
   | (with_reducible exact LeO.refl _)
   | (with_reducible exact LeO.none _)
   | (with_reducible refine LeO.ite ?_ ?_)
   | (with_reducible refine LeO.bind ?_ (fun _ => ?_))
   | exact ih0 _ _ _
   | exact ih1 _ _ _ _
   | exact spec_IsForm.mono _ _
   | exact LeO.none _
   | refine LeO.ite ?_ ?_
   | refine LeO.bind ?_ (fun _ => ?_)
theorem spec_CountVoiced.mono : ∀ a0 k, LeO (spec_CountVoiced.f k a0) (spec_CountVoiced.f (k + 1) a0) := by
 intro a0 k
 obtain ⟨ih0, ih1⟩ := spec_CountVoiced.mono_l k
 unfold spec_CountVoiced.f
 repeat' first
   | (with_reducible exact ih0 _ _ _)
   | (with_reducible exact ih1 _ _ _ _)
   | (with_reducible exact spec_IsForm.mono _ _)
   | (with_reducible exact LeO.refl _)
   | (with_reducible exact LeO.none _)
   | (with_reducible refine LeO.ite ?_ ?_)
   | (with_reducible refine LeO.bind ?_ (fun _ => ?_))
   | exact ih0 _ _ _
   | exact ih1 _ _ _ _
   | exact spec_IsForm.mono _ _
   | exact LeO.none _
   | refine LeO.ite ?_ ?_
   | refine LeO.bind ?_ (fun _ => ?_)
set_option maxHeartbeats 8000000 in
set_option maxRecDepth 100000 in
theorem spec_CountVoiced.calls (k : Nat) (a0 : ByteArray) (r : Int) (w : World) (h : spec_CountVoiced.f k a0 = some r) :
  Calls Try.prog 47 #[.string a0] w fun e w' => e = .returned (.int .i64 r) ∧ Drawn0 w w' := by
 have H : (spec_CountVoiced.l0 k a0 0 0) = some r := h
 clear h; have H' := Aside0.mk H; clear H
 go_enter Try.func47, Try.ntmps47
 go_wp2
 go_loopg [3, 4] k (fun kq v3 v4 w' => ∃ (x3_1 : Int) (x4_1 : Int), v3 = .int .i64 x3_1 ∧ v4 = .int .i64 x4_1 ∧ Aside0 (spec_CountVoiced.l0 kq a0 x3_1 x4_1 = some r) ∧ Aside0 (kq ≤ k) ∧ Drawn0 w w')
 case atStart => exact ⟨(0), (0), rdT, rdT, H', ⟨Nat.le_refl _⟩, drT⟩
 case round =>
  clear H'; obtain ⟨x3_1, x4_1, rfl, rfl, HA, HK1, ⟨m1, rfl⟩⟩ := hrel
  cases gk with
  | zero => exact absurd HA.out (by simp [spec_CountVoiced.l0])
  | succ k1 =>
   have H := HA.out; clear HA
   simp only [spec_CountVoiced.l0] at H
   have HC2 := Aside0.mk H; clear H
   go_upto_region 3 with (fail)
   go_cut [12] (fun v12 wc => ∃ (kq : Nat) (x12_1 : Bool), v12 = .bool x12_1 ∧ Aside0 (spec_CountVoiced.j1 kq a0 x3_1 x4_1 x12_1 = some r) ∧ Aside0 (kq ≤ k1) ∧ Drawn0 w wc)
   case first =>
    have H := HC2.out; clear HC2
    by_cases c3 : x4_1 < (a0.size : Int)
    ·rw [if_pos c3] at H
     have c3b0 : decide (x4_1 < (a0.size : Int)) = true := decide_eq_true c3
     clear c3
     (first | rw [c3b0] | (simp only [i64_w, i32_w]; rw [c3b0]) | skip)
     replace H := Option.bind_eq_some_iff.mp H; obtain ⟨t184, A40, H⟩ := H; replace H : (spec_CountVoiced.j1 k1 a0 x3_1 x4_1 t184) = some r := H; have A4 := Aside0.mk A40; clear A40; have H' := Aside0.mk H; clear H
     go_wp2_with (first | (go_at_call 84; (with_reducible refine (spec_IsForm.calls k1 a0 t184 _ A4.out).mono ?_); rintro e w' ⟨rfl, ⟨nd, rfl⟩⟩))
     go_meet
     case rel => exact ⟨_, (t184), rdT, H', ⟨by have := HK1.out; first | omega | exact Nat.le_refl _⟩, drT⟩
    ·rw [if_neg c3] at H
     have c3b0 : decide (x4_1 < (a0.size : Int)) = false := decide_eq_false c3
     clear c3
     (first | rw [c3b0] | (simp only [i64_w, i32_w]; rw [c3b0]) | skip)
     have H' := Aside0.mk H; clear H
     go_wp2
     go_meet
     case rel => exact ⟨_, (false), rdT, H', ⟨by have := HK1.out; first | omega | exact Nat.le_refl _⟩, drT⟩
   case rest =>
    clear HC2; (try clear p2); (try clear c3); (try clear c3b0); (try clear c4); obtain ⟨kq, x12_1, rfl, HA, HJ1, ⟨mc1, rfl⟩⟩ := hcut
    cases kq with
    | zero => exact absurd HA.out (by simp [spec_CountVoiced.j1])
    | succ kj1 =>
     have H := HA.out; clear HA
     simp only [spec_CountVoiced.j1] at H
     by_cases c5 : x12_1 = true
     ·subst c5
      have H1 : (if 0 ≤ x4_1 then (if x4_1 < (a0.size : Int) then ((spec_l8Voiced.f (bt a0 x4_1)).bind fun t185 => (if t185 = true then (spec_CountVoiced.l0 kj1 a0 (wrap64 (x3_1 + 1)) (wrap64 (x4_1 + 1))) else (spec_CountVoiced.l0 kj1 a0 x3_1 (wrap64 (x4_1 + 1))))) else (none)) else (none)) = some r := by rw [if_pos rfl] at H; exact H
      clear H; have H := H1; clear H1
      by_cases c6 : 0 ≤ x4_1
      ·rw [if_pos c6] at H
       have c6b0 : decide (0 ≤ x4_1) = true := decide_eq_true c6
       clear c6
       by_cases c7 : x4_1 < (a0.size : Int)
       ·rw [if_pos c7] at H
        have c7b0 : decide (x4_1 < (a0.size : Int)) = true := decide_eq_true c7
        clear c7; replace H := Option.bind_eq_some_iff.mp H; obtain ⟨t185, A90, H⟩ := H; replace H : (if t185 = true then (spec_CountVoiced.l0 kj1 a0 (wrap64 (x3_1 + 1)) (wrap64 (x4_1 + 1))) else (spec_CountVoiced.l0 kj1 a0 x3_1 (wrap64 (x4_1 + 1)))) = some r := H; have A9 := Aside0.mk A90; clear A90
        by_cases c10 : t185 = true
        ·subst c10
         have H1 : (spec_CountVoiced.l0 kj1 a0 (wrap64 (x3_1 + 1)) (wrap64 (x4_1 + 1))) = some r := by rw [if_pos rfl] at H; exact H
         clear H; have H := H1; clear H1; have H' := Aside0.mk H; clear H
         have p8 : 0 ≤ (x4_1 : Int) := of_decide_eq_true asmT
         have q8 : x4_1 < (a0.size : Int) := of_decide_eq_true asmT
         have hx8 := bt_at a0 x4_1; replace p8 := eq_true p8; replace q8 := eq_true q8
         go_wp2_with (first | ((with_reducible refine gate_callee (f := 88) rfl ?_); refine goesL_ (some 18) rfl rfl Try.func88 (by kernel_rfl) rfl #[.int .u8 (bt a0 x4_1)] rfl eqT ?_; (with_reducible refine (spec_l8Voiced.calls (bt a0 x4_1) true _ A9.out).mono ?_); rintro e w' ⟨rfl, ⟨nd, rfl⟩⟩; refine ⟨_, rfl, ?_⟩))
         go_roundg kj1
         case measure => have := HK1.out; have := HJ1.out; omega
         case rel => exact ⟨(wrap64 (x3_1 + 1)), (wrap64 (x4_1 + 1)), rdT, rdT, H', ⟨by have := HK1.out; have := HJ1.out; omega⟩, drT⟩
        ·replace c10 := Bool.eq_false_iff.mpr c10
         subst c10
         have H1 : (spec_CountVoiced.l0 kj1 a0 x3_1 (wrap64 (x4_1 + 1))) = some r := by rw [if_neg (show ¬ (false = true) by decide)] at H; exact H
         clear H; have H := H1; clear H1; have H' := Aside0.mk H; clear H
         have p8 : 0 ≤ (x4_1 : Int) := of_decide_eq_true asmT
         have q8 : x4_1 < (a0.size : Int) := of_decide_eq_true asmT
         have hx8 := bt_at a0 x4_1; replace p8 := eq_true p8; replace q8 := eq_true q8
         go_wp2_with (first | ((with_reducible refine gate_callee (f := 88) rfl ?_); refine goesL_ (some 18) rfl rfl Try.func88 (by kernel_rfl) rfl #[.int .u8 (bt a0 x4_1)] rfl eqT ?_; (with_reducible refine (spec_l8Voiced.calls (bt a0 x4_1) false _ A9.out).mono ?_); rintro e w' ⟨rfl, ⟨nd, rfl⟩⟩; refine ⟨_, rfl, ?_⟩))
         go_roundg kj1
         case measure => have := HK1.out; have := HJ1.out; omega
         case rel => exact ⟨(x3_1), (wrap64 (x4_1 + 1)), rdT, rdT, H', ⟨by have := HK1.out; have := HJ1.out; omega⟩, drT⟩
       ·rw [if_neg c7] at H
        exact absurd H (by simp)
      ·rw [if_neg c6] at H
       exact absurd H (by simp)
     ·replace c5 := Bool.eq_false_iff.mpr c5
      subst c5
      have H1 : (some x3_1) = some r := by rw [if_neg (show ¬ (false = true) by decide)] at H; exact H
      clear H; have H := H1; clear H1
      obtain rfl := Option.some.inj H
      go_wp2
      go_ret
      exact ⟨rdT, drT⟩

/-! ### spec_CountFinalVoiced: function 48 -/
def spec_CountFinalVoiced.f (k : Nat) (a0 : ByteArray) : Option (Int) := (spec_IsForm.f k a0).bind fun t186 => (if t186 = true then (if a0.toList = ([] : List UInt8) then (some 0) else (if 0 ≤ (wrap64 ((a0.size : Int) - 1)) then (if (wrap64 ((a0.size : Int) - 1)) < (a0.size : Int) then ((spec_l8Voiced.f (bt a0 (wrap64 ((a0.size : Int) - 1)))).bind fun t187 => (if t187 = true then (some 1) else (some 0))) else (none)) else (none))) else (some 0))
theorem spec_CountFinalVoiced.mono : ∀ a0 k, LeO (spec_CountFinalVoiced.f k a0) (spec_CountFinalVoiced.f (k + 1) a0) := by
 intro a0 k
 unfold spec_CountFinalVoiced.f
 repeat' first
   | (with_reducible exact spec_IsForm.mono _ _)
   | (with_reducible exact LeO.refl _)
   | (with_reducible exact LeO.none _)
   | (with_reducible refine LeO.ite ?_ ?_)
   | (with_reducible refine LeO.bind ?_ (fun _ => ?_))
   | exact spec_IsForm.mono _ _
   | exact LeO.none _
   | refine LeO.ite ?_ ?_
   | refine LeO.bind ?_ (fun _ => ?_)
set_option maxHeartbeats 8000000 in
set_option maxRecDepth 100000 in
theorem spec_CountFinalVoiced.calls (k : Nat) (a0 : ByteArray) (r : Int) (w : World) (h : spec_CountFinalVoiced.f k a0 = some r) :
  Calls Try.prog 48 #[.string a0] w fun e w' => e = .returned (.int .i64 r) ∧ Drawn0 w w' := by
 have H : ((spec_IsForm.f k a0).bind fun t186 => (if t186 = true then (if a0.toList = ([] : List UInt8) then (some 0) else (if 0 ≤ (wrap64 ((a0.size : Int) - 1)) then (if (wrap64 ((a0.size : Int) - 1)) < (a0.size : Int) then ((spec_l8Voiced.f (bt a0 (wrap64 ((a0.size : Int) - 1)))).bind fun t187 => (if t187 = true then (some 1) else (some 0))) else (none)) else (none))) else (some 0))) = some r := h
 clear h; replace H := Option.bind_eq_some_iff.mp H; obtain ⟨t186, A20, H⟩ := H; replace H : (if t186 = true then (if a0.toList = ([] : List UInt8) then (some 0) else (if 0 ≤ (wrap64 ((a0.size : Int) - 1)) then (if (wrap64 ((a0.size : Int) - 1)) < (a0.size : Int) then ((spec_l8Voiced.f (bt a0 (wrap64 ((a0.size : Int) - 1)))).bind fun t187 => (if t187 = true then (some 1) else (some 0))) else (none)) else (none))) else (some 0)) = some r := H; have A2 := Aside0.mk A20; clear A20
 by_cases c3 : t186 = true
 ·subst c3
  have H1 : (if a0.toList = ([] : List UInt8) then (some 0) else (if 0 ≤ (wrap64 ((a0.size : Int) - 1)) then (if (wrap64 ((a0.size : Int) - 1)) < (a0.size : Int) then ((spec_l8Voiced.f (bt a0 (wrap64 ((a0.size : Int) - 1)))).bind fun t187 => (if t187 = true then (some 1) else (some 0))) else (none)) else (none))) = some r := by rw [if_pos rfl] at H; exact H
  clear H; have H := H1; clear H1
  by_cases c4 : a0.toList = ([] : List UInt8)
  ·rw [if_pos c4] at H
   have c4b0 : (a0.toList == ([] : List UInt8)) = true := beq_iff_eq.mpr c4
   have c4b1 : (a0.toList != ([] : List UInt8)) = false := bne_eq_false_iff_eq.mpr c4
   clear c4
   obtain rfl := Option.some.inj H
   go_enter Try.func48, Try.ntmps48
   go_wp2_with (first | ((with_reducible refine gate_callee (f := 84) rfl ?_); refine goesL_ (some 4) rfl rfl Try.func84 (by kernel_rfl) rfl #[.string a0] rfl eqT ?_; (with_reducible refine (spec_IsForm.calls k a0 true _ A2.out).mono ?_); rintro e w' ⟨rfl, ⟨nd, rfl⟩⟩; refine ⟨_, rfl, ?_⟩))
   go_ret
   exact ⟨rdT, drT⟩
  ·rw [if_neg c4] at H
   have c4b0 : (a0.toList == ([] : List UInt8)) = false := beq_eq_false_iff_ne.mpr c4
   have c4b1 : (a0.toList != ([] : List UInt8)) = true := bne_iff_ne.mpr c4
   obtain ⟨ji5, hji5⟩ : ∃ j_ : Int, (wrap64 ((a0.size : Int) - 1)) = j_ := ⟨_, rfl⟩
   replace H : (if 0 ≤ (ji5) then (if (ji5) < (a0.size : Int) then ((spec_l8Voiced.f (bt a0 (ji5))).bind fun t187 => (if t187 = true then (some 1) else (some 0))) else (none)) else (none)) = some r := by first | (rw [hji5] at H; exact H) | (simp only [hji5] at H ⊢; exact H)
   (try rw [hji5] at A2)
   have hji5w : (IntKind.i64.wrap ((a0.size : Int) - 1)) = ji5 := (i64_w _).trans hji5
   by_cases c6 : 0 ≤ (ji5)
   ·rw [if_pos c6] at H
    have c6b0 : decide (0 ≤ (ji5)) = true := decide_eq_true c6
    clear c6
    by_cases c7 : (ji5) < (a0.size : Int)
    ·rw [if_pos c7] at H
     have c7b0 : decide ((ji5) < (a0.size : Int)) = true := decide_eq_true c7
     clear c7; replace H := Option.bind_eq_some_iff.mp H; obtain ⟨t187, A90, H⟩ := H; replace H : (if t187 = true then (some 1) else (some 0)) = some r := H; have A9 := Aside0.mk A90; clear A90
     by_cases c10 : t187 = true
     ·subst c10
      have H1 : (some 1) = some r := by rw [if_pos rfl] at H; exact H
      clear H; have H := H1; clear H1
      obtain rfl := Option.some.inj H
      go_enter Try.func48, Try.ntmps48
      go_wp2_with (first | ((with_reducible refine gate_callee (f := 84) rfl ?_); refine goesL_ (some 4) rfl rfl Try.func84 (by kernel_rfl) rfl #[.string a0] rfl eqT ?_; (with_reducible refine (spec_IsForm.calls k a0 true _ A2.out).mono ?_); rintro e w' ⟨rfl, ⟨nd, rfl⟩⟩; refine ⟨_, rfl, ?_⟩; have p8 : 0 ≤ ((ji5) : Int) := of_decide_eq_true asmT; have q8 : (ji5) < (a0.size : Int) := of_decide_eq_true asmT; have hx8 := bt_at a0 (ji5); replace p8 := eq_true p8; replace q8 := eq_true q8) | (go_at_call 88; (with_reducible refine (spec_l8Voiced.calls (bt a0 (ji5)) true _ A9.out).mono ?_); rintro e w' ⟨rfl, ⟨nd, rfl⟩⟩))
      go_ret
      exact ⟨by first | rfl | (simp; done) | (simp only [← hji5] <;> (first | rfl | simp)) | (simp [*]; done), drT⟩
     ·replace c10 := Bool.eq_false_iff.mpr c10
      subst c10
      have H1 : (some 0) = some r := by rw [if_neg (show ¬ (false = true) by decide)] at H; exact H
      clear H; have H := H1; clear H1
      obtain rfl := Option.some.inj H
      go_enter Try.func48, Try.ntmps48
      go_wp2_with (first | ((with_reducible refine gate_callee (f := 84) rfl ?_); refine goesL_ (some 4) rfl rfl Try.func84 (by kernel_rfl) rfl #[.string a0] rfl eqT ?_; (with_reducible refine (spec_IsForm.calls k a0 true _ A2.out).mono ?_); rintro e w' ⟨rfl, ⟨nd, rfl⟩⟩; refine ⟨_, rfl, ?_⟩; have p8 : 0 ≤ ((ji5) : Int) := of_decide_eq_true asmT; have q8 : (ji5) < (a0.size : Int) := of_decide_eq_true asmT; have hx8 := bt_at a0 (ji5); replace p8 := eq_true p8; replace q8 := eq_true q8) | (go_at_call 88; (with_reducible refine (spec_l8Voiced.calls (bt a0 (ji5)) false _ A9.out).mono ?_); rintro e w' ⟨rfl, ⟨nd, rfl⟩⟩))
      go_ret
      exact ⟨by first | rfl | (simp; done) | (simp only [← hji5] <;> (first | rfl | simp)) | (simp [*]; done), drT⟩
    ·rw [if_neg c7] at H
     exact absurd H (by simp)
   ·rw [if_neg c6] at H
    exact absurd H (by simp)
 ·replace c3 := Bool.eq_false_iff.mpr c3
  subst c3
  have H1 : (some 0) = some r := by rw [if_neg (show ¬ (false = true) by decide)] at H; exact H
  clear H; have H := H1; clear H1
  obtain rfl := Option.some.inj H
  go_enter Try.func48, Try.ntmps48
  go_wp2_with (first | ((with_reducible refine gate_callee (f := 84) rfl ?_); refine goesL_ (some 4) rfl rfl Try.func84 (by kernel_rfl) rfl #[.string a0] rfl eqT ?_; (with_reducible refine (spec_IsForm.calls k a0 false _ A2.out).mono ?_); rintro e w' ⟨rfl, ⟨nd, rfl⟩⟩; refine ⟨_, rfl, ?_⟩))
  go_ret
  exact ⟨rdT, drT⟩

/-! ### spec_CountNasalVoiceless: function 49 -/
mutual
def spec_CountNasalVoiceless.l0 : Nat → ByteArray → Int → Int → Option (Int)
 | 0, _, _, _ => none
 | k + 1, x0, x3, x4 => if x4 < (x0.size : Int) then ((spec_IsForm.f k x0).bind fun t188 => (spec_CountNasalVoiceless.j1 k x0 x3 x4 t188)) else (spec_CountNasalVoiceless.j1 k x0 x3 x4 false)
def spec_CountNasalVoiceless.j1 : Nat → ByteArray → Int → Int → Bool → Option (Int)
 | 0, _, _, _, _ => none
 | k + 1, x0, x3, x4, x12 => if x12 = true then (if 0 ≤ (wrap64 (x4 - 1)) then (if (wrap64 (x4 - 1)) < (x0.size : Int) then ((spec_HasFeature.f (bt x0 (wrap64 (x4 - 1))) 2).bind fun t189 => (if t189 = true then (if 0 ≤ x4 then (if x4 < (x0.size : Int) then ((spec_IsObstruent.f (bt x0 x4)).bind fun t190 => (if t190 = true then ((spec_HasFeature.f (bt x0 x4) 1).bind fun t191 => (if t191 = true then (spec_CountNasalVoiceless.l0 k x0 x3 (wrap64 (x4 + 1))) else (spec_CountNasalVoiceless.l0 k x0 (wrap64 (x3 + 1)) (wrap64 (x4 + 1))))) else (spec_CountNasalVoiceless.l0 k x0 x3 (wrap64 (x4 + 1))))) else (none)) else (none)) else (spec_CountNasalVoiceless.l0 k x0 x3 (wrap64 (x4 + 1))))) else (none)) else (none)) else (some x3)
end
def spec_CountNasalVoiceless.f (k : Nat) (a0 : ByteArray) : Option (Int) := spec_CountNasalVoiceless.l0 k a0 0 1
theorem spec_CountNasalVoiceless.mono_l : ∀ k, (∀ y0 y1 y2, LeO (spec_CountNasalVoiceless.l0 k y0 y1 y2) (spec_CountNasalVoiceless.l0 (k + 1) y0 y1 y2)) ∧ (∀ y0 y1 y2 y3, LeO (spec_CountNasalVoiceless.j1 k y0 y1 y2 y3) (spec_CountNasalVoiceless.j1 (k + 1) y0 y1 y2 y3))
 | 0 => ⟨fun _ _ _ r h => by simp [spec_CountNasalVoiceless.l0] at h, fun _ _ _ _ r h => by simp [spec_CountNasalVoiceless.j1] at h⟩
 | k + 1 => by
  obtain ⟨ih0, ih1⟩ := spec_CountNasalVoiceless.mono_l k; refine ⟨?_, ?_⟩
  ·intro y0 y1 y2
   unfold spec_CountNasalVoiceless.l0
   repeat' first
   | (with_reducible exact ih0 _ _ _)
   | (with_reducible exact ih1 _ _ _ _)
   | (with_reducible exact spec_IsForm.mono _ _)
   | (with_reducible exact LeO.refl _)
   | (with_reducible exact LeO.none _)
   | (with_reducible refine LeO.ite ?_ ?_)
   | (with_reducible refine LeO.bind ?_ (fun _ => ?_))
   | exact ih0 _ _ _
   | exact ih1 _ _ _ _
   | exact spec_IsForm.mono _ _
   | exact LeO.none _
   | refine LeO.ite ?_ ?_
   | refine LeO.bind ?_ (fun _ => ?_)
  ·intro y0 y1 y2 y3
   unfold spec_CountNasalVoiceless.j1
   repeat' first
   | (with_reducible exact ih0 _ _ _)
   | (with_reducible exact ih1 _ _ _ _)
   | (with_reducible exact spec_IsForm.mono _ _)
   | (with_reducible exact LeO.refl _)
   | (with_reducible exact LeO.none _)
   | (with_reducible refine LeO.ite ?_ ?_)
   | (with_reducible refine LeO.bind ?_ (fun _ => ?_))
   | exact ih0 _ _ _
   | exact ih1 _ _ _ _
   | exact spec_IsForm.mono _ _
   | exact LeO.none _
   | refine LeO.ite ?_ ?_
   | refine LeO.bind ?_ (fun _ => ?_)
theorem spec_CountNasalVoiceless.mono : ∀ a0 k, LeO (spec_CountNasalVoiceless.f k a0) (spec_CountNasalVoiceless.f (k + 1) a0) := by
 intro a0 k
 obtain ⟨ih0, ih1⟩ := spec_CountNasalVoiceless.mono_l k
 unfold spec_CountNasalVoiceless.f
 repeat' first
   | (with_reducible exact ih0 _ _ _)
   | (with_reducible exact ih1 _ _ _ _)
   | (with_reducible exact spec_IsForm.mono _ _)
   | (with_reducible exact LeO.refl _)
   | (with_reducible exact LeO.none _)
   | (with_reducible refine LeO.ite ?_ ?_)
   | (with_reducible refine LeO.bind ?_ (fun _ => ?_))
   | exact ih0 _ _ _
   | exact ih1 _ _ _ _
   | exact spec_IsForm.mono _ _
   | exact LeO.none _
   | refine LeO.ite ?_ ?_
   | refine LeO.bind ?_ (fun _ => ?_)
set_option maxHeartbeats 8000000 in
set_option maxRecDepth 100000 in
theorem spec_CountNasalVoiceless.calls (k : Nat) (a0 : ByteArray) (r : Int) (w : World) (h : spec_CountNasalVoiceless.f k a0 = some r) :
  Calls Try.prog 49 #[.string a0] w fun e w' => e = .returned (.int .i64 r) ∧ Drawn0 w w' := by
 have H : (spec_CountNasalVoiceless.l0 k a0 0 1) = some r := h
 clear h; have H' := Aside0.mk H; clear H
 go_enter Try.func49, Try.ntmps49
 go_wp2
 go_loopg [3, 4] k (fun kq v3 v4 w' => ∃ (x3_1 : Int) (x4_1 : Int), v3 = .int .i64 x3_1 ∧ v4 = .int .i64 x4_1 ∧ Aside0 (spec_CountNasalVoiceless.l0 kq a0 x3_1 x4_1 = some r) ∧ Aside0 (kq ≤ k) ∧ Drawn0 w w')
 case atStart => exact ⟨(0), (1), rdT, rdT, H', ⟨Nat.le_refl _⟩, drT⟩
 case round =>
  clear H'; obtain ⟨x3_1, x4_1, rfl, rfl, HA, HK1, ⟨m1, rfl⟩⟩ := hrel
  cases gk with
  | zero => exact absurd HA.out (by simp [spec_CountNasalVoiceless.l0])
  | succ k1 =>
   have H := HA.out; clear HA
   simp only [spec_CountNasalVoiceless.l0] at H
   have HC2 := Aside0.mk H; clear H
   go_upto_region 3 with (fail)
   go_cut [12] (fun v12 wc => ∃ (kq : Nat) (x12_1 : Bool), v12 = .bool x12_1 ∧ Aside0 (spec_CountNasalVoiceless.j1 kq a0 x3_1 x4_1 x12_1 = some r) ∧ Aside0 (kq ≤ k1) ∧ Drawn0 w wc)
   case first =>
    have H := HC2.out; clear HC2
    by_cases c3 : x4_1 < (a0.size : Int)
    ·rw [if_pos c3] at H
     have c3b0 : decide (x4_1 < (a0.size : Int)) = true := decide_eq_true c3
     clear c3
     (first | rw [c3b0] | (simp only [i64_w, i32_w]; rw [c3b0]) | skip)
     replace H := Option.bind_eq_some_iff.mp H; obtain ⟨t188, A40, H⟩ := H; replace H : (spec_CountNasalVoiceless.j1 k1 a0 x3_1 x4_1 t188) = some r := H; have A4 := Aside0.mk A40; clear A40; have H' := Aside0.mk H; clear H
     go_wp2_with (first | (go_at_call 84; (with_reducible refine (spec_IsForm.calls k1 a0 t188 _ A4.out).mono ?_); rintro e w' ⟨rfl, ⟨nd, rfl⟩⟩))
     go_meet
     case rel => exact ⟨_, (t188), rdT, H', ⟨by have := HK1.out; first | omega | exact Nat.le_refl _⟩, drT⟩
    ·rw [if_neg c3] at H
     have c3b0 : decide (x4_1 < (a0.size : Int)) = false := decide_eq_false c3
     clear c3
     (first | rw [c3b0] | (simp only [i64_w, i32_w]; rw [c3b0]) | skip)
     have H' := Aside0.mk H; clear H
     go_wp2
     go_meet
     case rel => exact ⟨_, (false), rdT, H', ⟨by have := HK1.out; first | omega | exact Nat.le_refl _⟩, drT⟩
   case rest =>
    clear HC2; (try clear p2); (try clear c3); (try clear c3b0); (try clear c4); obtain ⟨kq, x12_1, rfl, HA, HJ1, ⟨mc1, rfl⟩⟩ := hcut
    cases kq with
    | zero => exact absurd HA.out (by simp [spec_CountNasalVoiceless.j1])
    | succ kj1 =>
     have H := HA.out; clear HA
     simp only [spec_CountNasalVoiceless.j1] at H
     by_cases c5 : x12_1 = true
     ·subst c5
      have H1 : (if 0 ≤ (wrap64 (x4_1 - 1)) then (if (wrap64 (x4_1 - 1)) < (a0.size : Int) then ((spec_HasFeature.f (bt a0 (wrap64 (x4_1 - 1))) 2).bind fun t189 => (if t189 = true then (if 0 ≤ x4_1 then (if x4_1 < (a0.size : Int) then ((spec_IsObstruent.f (bt a0 x4_1)).bind fun t190 => (if t190 = true then ((spec_HasFeature.f (bt a0 x4_1) 1).bind fun t191 => (if t191 = true then (spec_CountNasalVoiceless.l0 kj1 a0 x3_1 (wrap64 (x4_1 + 1))) else (spec_CountNasalVoiceless.l0 kj1 a0 (wrap64 (x3_1 + 1)) (wrap64 (x4_1 + 1))))) else (spec_CountNasalVoiceless.l0 kj1 a0 x3_1 (wrap64 (x4_1 + 1))))) else (none)) else (none)) else (spec_CountNasalVoiceless.l0 kj1 a0 x3_1 (wrap64 (x4_1 + 1))))) else (none)) else (none)) = some r := by rw [if_pos rfl] at H; exact H
      clear H; have H := H1; clear H1; obtain ⟨ji6, hji6⟩ : ∃ j_ : Int, (wrap64 (x4_1 - 1)) = j_ := ⟨_, rfl⟩
      replace H : (if 0 ≤ (ji6) then (if (ji6) < (a0.size : Int) then ((spec_HasFeature.f (bt a0 (ji6)) 2).bind fun t189 => (if t189 = true then (if 0 ≤ x4_1 then (if x4_1 < (a0.size : Int) then ((spec_IsObstruent.f (bt a0 x4_1)).bind fun t190 => (if t190 = true then ((spec_HasFeature.f (bt a0 x4_1) 1).bind fun t191 => (if t191 = true then (spec_CountNasalVoiceless.l0 kj1 a0 x3_1 (wrap64 (x4_1 + 1))) else (spec_CountNasalVoiceless.l0 kj1 a0 (wrap64 (x3_1 + 1)) (wrap64 (x4_1 + 1))))) else (spec_CountNasalVoiceless.l0 kj1 a0 x3_1 (wrap64 (x4_1 + 1))))) else (none)) else (none)) else (spec_CountNasalVoiceless.l0 kj1 a0 x3_1 (wrap64 (x4_1 + 1))))) else (none)) else (none)) = some r := by first | (rw [hji6] at H; exact H) | (simp only [hji6] at H ⊢; exact H)
      have hji6w : (IntKind.i64.wrap (x4_1 - 1)) = ji6 := (i64_w _).trans hji6
      by_cases c7 : 0 ≤ (ji6)
      ·rw [if_pos c7] at H
       have c7b0 : decide (0 ≤ (ji6)) = true := decide_eq_true c7
       clear c7
       by_cases c8 : (ji6) < (a0.size : Int)
       ·rw [if_pos c8] at H
        have c8b0 : decide ((ji6) < (a0.size : Int)) = true := decide_eq_true c8
        clear c8; replace H := Option.bind_eq_some_iff.mp H; obtain ⟨t189, A100, H⟩ := H; replace H : (if t189 = true then (if 0 ≤ x4_1 then (if x4_1 < (a0.size : Int) then ((spec_IsObstruent.f (bt a0 x4_1)).bind fun t190 => (if t190 = true then ((spec_HasFeature.f (bt a0 x4_1) 1).bind fun t191 => (if t191 = true then (spec_CountNasalVoiceless.l0 kj1 a0 x3_1 (wrap64 (x4_1 + 1))) else (spec_CountNasalVoiceless.l0 kj1 a0 (wrap64 (x3_1 + 1)) (wrap64 (x4_1 + 1))))) else (spec_CountNasalVoiceless.l0 kj1 a0 x3_1 (wrap64 (x4_1 + 1))))) else (none)) else (none)) else (spec_CountNasalVoiceless.l0 kj1 a0 x3_1 (wrap64 (x4_1 + 1)))) = some r := H; have A10 := Aside0.mk A100; clear A100
        by_cases c11 : t189 = true
        ·subst c11
         have H1 : (if 0 ≤ x4_1 then (if x4_1 < (a0.size : Int) then ((spec_IsObstruent.f (bt a0 x4_1)).bind fun t190 => (if t190 = true then ((spec_HasFeature.f (bt a0 x4_1) 1).bind fun t191 => (if t191 = true then (spec_CountNasalVoiceless.l0 kj1 a0 x3_1 (wrap64 (x4_1 + 1))) else (spec_CountNasalVoiceless.l0 kj1 a0 (wrap64 (x3_1 + 1)) (wrap64 (x4_1 + 1))))) else (spec_CountNasalVoiceless.l0 kj1 a0 x3_1 (wrap64 (x4_1 + 1))))) else (none)) else (none)) = some r := by rw [if_pos rfl] at H; exact H
         clear H; have H := H1; clear H1
         by_cases c12 : 0 ≤ x4_1
         ·rw [if_pos c12] at H
          have c12b0 : decide (0 ≤ x4_1) = true := decide_eq_true c12
          clear c12
          by_cases c13 : x4_1 < (a0.size : Int)
          ·rw [if_pos c13] at H
           have c13b0 : decide (x4_1 < (a0.size : Int)) = true := decide_eq_true c13
           clear c13; replace H := Option.bind_eq_some_iff.mp H; obtain ⟨t190, A150, H⟩ := H; replace H : (if t190 = true then ((spec_HasFeature.f (bt a0 x4_1) 1).bind fun t191 => (if t191 = true then (spec_CountNasalVoiceless.l0 kj1 a0 x3_1 (wrap64 (x4_1 + 1))) else (spec_CountNasalVoiceless.l0 kj1 a0 (wrap64 (x3_1 + 1)) (wrap64 (x4_1 + 1))))) else (spec_CountNasalVoiceless.l0 kj1 a0 x3_1 (wrap64 (x4_1 + 1)))) = some r := H; have A15 := Aside0.mk A150; clear A150
           by_cases c16 : t190 = true
           ·subst c16
            have H1 : ((spec_HasFeature.f (bt a0 x4_1) 1).bind fun t191 => (if t191 = true then (spec_CountNasalVoiceless.l0 kj1 a0 x3_1 (wrap64 (x4_1 + 1))) else (spec_CountNasalVoiceless.l0 kj1 a0 (wrap64 (x3_1 + 1)) (wrap64 (x4_1 + 1))))) = some r := by rw [if_pos rfl] at H; exact H
            clear H; have H := H1; clear H1; replace H := Option.bind_eq_some_iff.mp H; obtain ⟨t191, A180, H⟩ := H; replace H : (if t191 = true then (spec_CountNasalVoiceless.l0 kj1 a0 x3_1 (wrap64 (x4_1 + 1))) else (spec_CountNasalVoiceless.l0 kj1 a0 (wrap64 (x3_1 + 1)) (wrap64 (x4_1 + 1)))) = some r := H; have A18 := Aside0.mk A180; clear A180
            by_cases c19 : t191 = true
            ·subst c19
             have H1 : (spec_CountNasalVoiceless.l0 kj1 a0 x3_1 (wrap64 (x4_1 + 1))) = some r := by rw [if_pos rfl] at H; exact H
             clear H; have H := H1; clear H1; have H' := Aside0.mk H; clear H
             have p9 : 0 ≤ ((ji6) : Int) := of_decide_eq_true asmT
             have q9 : (ji6) < (a0.size : Int) := of_decide_eq_true asmT
             have hx9 := bt_at a0 (ji6); replace p9 := eq_true p9; replace q9 := eq_true q9
             go_wp2_with (first | ((with_reducible refine gate_callee (f := 89) rfl ?_); refine goesL_ (some 19) rfl rfl Try.func89 (by kernel_rfl) rfl #[.int .u8 (bt a0 (ji6)), .int .i64 2] rfl (by (try simp only [List.map_toArray, List.map_cons, List.map_nil]); first | done | (simp only [hji6]; rfl) | rfl | (simp only [List.length_drop, List.length_take]; rfl)) ?_; (with_reducible refine (spec_HasFeature.calls (bt a0 (ji6)) 2 true _ A10.out).mono ?_); rintro e w' ⟨rfl, ⟨nd, rfl⟩⟩; refine ⟨_, rfl, ?_⟩; have p14 : 0 ≤ (x4_1 : Int) := of_decide_eq_true asmT; have q14 : x4_1 < (a0.size : Int) := of_decide_eq_true asmT; have hx14 := bt_at a0 x4_1; replace p14 := eq_true p14; replace q14 := eq_true q14) | (go_at_call 90; (with_reducible refine (spec_IsObstruent.calls (bt a0 x4_1) true _ A15.out).mono ?_); rintro e w' ⟨rfl, ⟨nd, rfl⟩⟩; have p17 : 0 ≤ (x4_1 : Int) := of_decide_eq_true asmT; have q17 : x4_1 < (a0.size : Int) := of_decide_eq_true asmT; have hx17 := bt_at a0 x4_1; replace p17 := eq_true p17; replace q17 := eq_true q17) | (go_at_call 89; (with_reducible refine (spec_HasFeature.calls (bt a0 x4_1) 1 true _ A18.out).mono ?_); rintro e w' ⟨rfl, ⟨nd, rfl⟩⟩))
             go_roundg kj1
             case measure => have := HK1.out; have := HJ1.out; omega
             case rel => exact ⟨(x3_1), (wrap64 (x4_1 + 1)), rdT, rdT, H', ⟨by have := HK1.out; have := HJ1.out; omega⟩, drT⟩
            ·replace c19 := Bool.eq_false_iff.mpr c19
             subst c19
             have H1 : (spec_CountNasalVoiceless.l0 kj1 a0 (wrap64 (x3_1 + 1)) (wrap64 (x4_1 + 1))) = some r := by rw [if_neg (show ¬ (false = true) by decide)] at H; exact H
             clear H; have H := H1; clear H1; have H' := Aside0.mk H; clear H
             have p9 : 0 ≤ ((ji6) : Int) := of_decide_eq_true asmT
             have q9 : (ji6) < (a0.size : Int) := of_decide_eq_true asmT
             have hx9 := bt_at a0 (ji6); replace p9 := eq_true p9; replace q9 := eq_true q9
             go_wp2_with (first | ((with_reducible refine gate_callee (f := 89) rfl ?_); refine goesL_ (some 19) rfl rfl Try.func89 (by kernel_rfl) rfl #[.int .u8 (bt a0 (ji6)), .int .i64 2] rfl (by (try simp only [List.map_toArray, List.map_cons, List.map_nil]); first | done | (simp only [hji6]; rfl) | rfl | (simp only [List.length_drop, List.length_take]; rfl)) ?_; (with_reducible refine (spec_HasFeature.calls (bt a0 (ji6)) 2 true _ A10.out).mono ?_); rintro e w' ⟨rfl, ⟨nd, rfl⟩⟩; refine ⟨_, rfl, ?_⟩; have p14 : 0 ≤ (x4_1 : Int) := of_decide_eq_true asmT; have q14 : x4_1 < (a0.size : Int) := of_decide_eq_true asmT; have hx14 := bt_at a0 x4_1; replace p14 := eq_true p14; replace q14 := eq_true q14) | (go_at_call 90; (with_reducible refine (spec_IsObstruent.calls (bt a0 x4_1) true _ A15.out).mono ?_); rintro e w' ⟨rfl, ⟨nd, rfl⟩⟩; have p17 : 0 ≤ (x4_1 : Int) := of_decide_eq_true asmT; have q17 : x4_1 < (a0.size : Int) := of_decide_eq_true asmT; have hx17 := bt_at a0 x4_1; replace p17 := eq_true p17; replace q17 := eq_true q17) | (go_at_call 89; (with_reducible refine (spec_HasFeature.calls (bt a0 x4_1) 1 false _ A18.out).mono ?_); rintro e w' ⟨rfl, ⟨nd, rfl⟩⟩))
             go_roundg kj1
             case measure => have := HK1.out; have := HJ1.out; omega
             case rel => exact ⟨(wrap64 (x3_1 + 1)), (wrap64 (x4_1 + 1)), rdT, rdT, H', ⟨by have := HK1.out; have := HJ1.out; omega⟩, drT⟩
           ·replace c16 := Bool.eq_false_iff.mpr c16
            subst c16
            have H1 : (spec_CountNasalVoiceless.l0 kj1 a0 x3_1 (wrap64 (x4_1 + 1))) = some r := by rw [if_neg (show ¬ (false = true) by decide)] at H; exact H
            clear H; have H := H1; clear H1; have H' := Aside0.mk H; clear H
            have p9 : 0 ≤ ((ji6) : Int) := of_decide_eq_true asmT
            have q9 : (ji6) < (a0.size : Int) := of_decide_eq_true asmT
            have hx9 := bt_at a0 (ji6); replace p9 := eq_true p9; replace q9 := eq_true q9
            go_wp2_with (first | ((with_reducible refine gate_callee (f := 89) rfl ?_); refine goesL_ (some 19) rfl rfl Try.func89 (by kernel_rfl) rfl #[.int .u8 (bt a0 (ji6)), .int .i64 2] rfl (by (try simp only [List.map_toArray, List.map_cons, List.map_nil]); first | done | (simp only [hji6]; rfl) | rfl | (simp only [List.length_drop, List.length_take]; rfl)) ?_; (with_reducible refine (spec_HasFeature.calls (bt a0 (ji6)) 2 true _ A10.out).mono ?_); rintro e w' ⟨rfl, ⟨nd, rfl⟩⟩; refine ⟨_, rfl, ?_⟩; have p14 : 0 ≤ (x4_1 : Int) := of_decide_eq_true asmT; have q14 : x4_1 < (a0.size : Int) := of_decide_eq_true asmT; have hx14 := bt_at a0 x4_1; replace p14 := eq_true p14; replace q14 := eq_true q14) | (go_at_call 90; (with_reducible refine (spec_IsObstruent.calls (bt a0 x4_1) false _ A15.out).mono ?_); rintro e w' ⟨rfl, ⟨nd, rfl⟩⟩))
            go_roundg kj1
            case measure => have := HK1.out; have := HJ1.out; omega
            case rel => exact ⟨(x3_1), (wrap64 (x4_1 + 1)), rdT, rdT, H', ⟨by have := HK1.out; have := HJ1.out; omega⟩, drT⟩
          ·rw [if_neg c13] at H
           exact absurd H (by simp)
         ·rw [if_neg c12] at H
          exact absurd H (by simp)
        ·replace c11 := Bool.eq_false_iff.mpr c11
         subst c11
         have H1 : (spec_CountNasalVoiceless.l0 kj1 a0 x3_1 (wrap64 (x4_1 + 1))) = some r := by rw [if_neg (show ¬ (false = true) by decide)] at H; exact H
         clear H; have H := H1; clear H1; have H' := Aside0.mk H; clear H
         have p9 : 0 ≤ ((ji6) : Int) := of_decide_eq_true asmT
         have q9 : (ji6) < (a0.size : Int) := of_decide_eq_true asmT
         have hx9 := bt_at a0 (ji6); replace p9 := eq_true p9; replace q9 := eq_true q9
         go_wp2_with (first | ((with_reducible refine gate_callee (f := 89) rfl ?_); refine goesL_ (some 19) rfl rfl Try.func89 (by kernel_rfl) rfl #[.int .u8 (bt a0 (ji6)), .int .i64 2] rfl (by (try simp only [List.map_toArray, List.map_cons, List.map_nil]); first | done | (simp only [hji6]; rfl) | rfl | (simp only [List.length_drop, List.length_take]; rfl)) ?_; (with_reducible refine (spec_HasFeature.calls (bt a0 (ji6)) 2 false _ A10.out).mono ?_); rintro e w' ⟨rfl, ⟨nd, rfl⟩⟩; refine ⟨_, rfl, ?_⟩))
         go_roundg kj1
         case measure => have := HK1.out; have := HJ1.out; omega
         case rel => exact ⟨(x3_1), (wrap64 (x4_1 + 1)), rdT, rdT, H', ⟨by have := HK1.out; have := HJ1.out; omega⟩, drT⟩
       ·rw [if_neg c8] at H
        exact absurd H (by simp)
      ·rw [if_neg c7] at H
       exact absurd H (by simp)
     ·replace c5 := Bool.eq_false_iff.mpr c5
      subst c5
      have H1 : (some x3_1) = some r := by rw [if_neg (show ¬ (false = true) by decide)] at H; exact H
      clear H; have H := H1; clear H1
      obtain rfl := Option.some.inj H
      go_wp2
      go_ret
      exact ⟨rdT, drT⟩

end Go.Proofs.Ytdamagcfmhimfad.PFnExactProfileOf
