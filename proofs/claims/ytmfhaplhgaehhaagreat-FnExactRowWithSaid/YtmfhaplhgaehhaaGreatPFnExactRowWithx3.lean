-- Made by gen.py (a program of this session) out of the translation; Lean checks it.
import Derived.Test.YtmfhaplhgaehhaaGreatPFnExactRowWithx0
import Derived.Test.YtmfhaplhgaehhaaGreatPFnExactRowWithx1
import Derived.Test.YtmfhaplhgaehhaaGreatPFnExactRowWithx2
namespace Go.Proofs.YtmfhaplhgaehhaaGreat.PFnExactRowWith
open Go.RowKit Go.Proofs.YtmfhaplhgaehhaaGreatB Go.Proofs.YtmfhaplhgaehhaaGreatW.PrintWords Go.Proofs.YtmfhaplhgaehhaaGreatW.PrintLast Go.Proofs.YtmfhaplhgaehhaaGreatW.PrintMore
attribute [local go_sem] max2_int min2_int max_two min_two max_three min_three max_four min_four   -- for this text's walks alone
set_option linter.unusedVariables false
set_option linter.unusedSimpArgs false

/-! ### spec_CountCodas: function 85 -/
mutual
def spec_CountCodas.l0 : Nat → ByteArray → Int → Int → Option (Int)
 | 0, _, _, _ => none
 | k + 1, x0, x3, x4 => if x4 < (x0.size : Int) then ((spec_IsForm.f k x0).bind fun t164 => (spec_CountCodas.j1 k x0 x3 x4 t164)) else (spec_CountCodas.j1 k x0 x3 x4 false)
def spec_CountCodas.j1 : Nat → ByteArray → Int → Int → Bool → Option (Int)
 | 0, _, _, _, _ => none
 | k + 1, x0, x3, x4, x12 => if x12 = true then ((spec_IsVowelAt.f x0 x4).bind fun t165 => (if t165 = true then (spec_CountCodas.l0 k x0 x3 (wrap64 (x4 + 1))) else ((spec_IsVowelAt.f x0 (wrap64 (x4 + 1))).bind fun t166 => (if t166 = true then (spec_CountCodas.l0 k x0 x3 (wrap64 (x4 + 1))) else (spec_CountCodas.l0 k x0 (wrap64 (x3 + 1)) (wrap64 (x4 + 1))))))) else (some x3)
end
def spec_CountCodas.f (k : Nat) (a0 : ByteArray) : Option (Int) := spec_CountCodas.l0 k a0 0 0
theorem spec_CountCodas.mono_l : ∀ k, (∀ y0 y1 y2, LeO (spec_CountCodas.l0 k y0 y1 y2) (spec_CountCodas.l0 (k + 1) y0 y1 y2)) ∧ (∀ y0 y1 y2 y3, LeO (spec_CountCodas.j1 k y0 y1 y2 y3) (spec_CountCodas.j1 (k + 1) y0 y1 y2 y3))
 | 0 => ⟨fun _ _ _ r h => by simp [spec_CountCodas.l0] at h, fun _ _ _ _ r h => by simp [spec_CountCodas.j1] at h⟩
 | k + 1 => by
  obtain ⟨ih0, ih1⟩ := spec_CountCodas.mono_l k; refine ⟨?_, ?_⟩
  ·intro y0 y1 y2
   unfold spec_CountCodas.l0
   with_reducible repeat' first | exact ih0 _ _ _ | exact ih1 _ _ _ _ | exact spec_IsForm.mono _ _ | exact LeO.refl _ | exact LeO.none _ | refine LeO.ite ?_ ?_ | refine LeO.bind ?_ (fun _ => ?_)
  ·intro y0 y1 y2 y3
   unfold spec_CountCodas.j1
   with_reducible repeat' first | exact ih0 _ _ _ | exact ih1 _ _ _ _ | exact spec_IsForm.mono _ _ | exact LeO.refl _ | exact LeO.none _ | refine LeO.ite ?_ ?_ | refine LeO.bind ?_ (fun _ => ?_)
theorem spec_CountCodas.mono : ∀ a0 k, LeO (spec_CountCodas.f k a0) (spec_CountCodas.f (k + 1) a0) := by
 intro a0 k
 obtain ⟨ih0, ih1⟩ := spec_CountCodas.mono_l k
 unfold spec_CountCodas.f
 with_reducible repeat' first | exact ih0 _ _ _ | exact ih1 _ _ _ _ | exact spec_IsForm.mono _ _ | exact LeO.refl _ | exact LeO.none _ | refine LeO.ite ?_ ?_ | refine LeO.bind ?_ (fun _ => ?_)
set_option maxHeartbeats 8000000 in
set_option maxRecDepth 100000 in
theorem spec_CountCodas.calls (k : Nat) (a0 : ByteArray) (r : Int) (w : World) (h : spec_CountCodas.f k a0 = some r) :
  Calls Tryz.prog 85 #[.string a0] w fun e w' => e = .returned (.int .i64 r) ∧ Drawn0 w w' := by
 have H := h; unfold spec_CountCodas.f at H; clear h; have H' := Aside0.mk H; clear H
 go_enter Tryz.func85, Tryz.ntmps85
 go_wp2
 go_loopg [3, 4] k (fun kq v3 v4 w' => ∃ (x3_1 : Int) (x4_1 : Int), v3 = .int .i64 x3_1 ∧ v4 = .int .i64 x4_1 ∧ Aside0 (spec_CountCodas.l0 kq a0 x3_1 x4_1 = some r) ∧ Aside0 (kq ≤ k) ∧ Drawn0 w w')
 case atStart => exact ⟨(0), (0), rdT, rdT, H', ⟨Nat.le_refl _⟩, drT⟩
 case round =>
  clear H'; obtain ⟨x3_1, x4_1, rfl, rfl, HA, HK1, ⟨m1, rfl⟩⟩ := hrel
  cases gk with
  | zero => exact absurd HA.out (by simp [spec_CountCodas.l0])
  | succ k1 =>
   have H := HA.out; clear HA
   simp only [spec_CountCodas.l0] at H
   have HC2 := Aside0.mk H; clear H
   go_upto_region 3 with (fail)
   go_cut [12] (fun v12 wc => ∃ (kq : Nat) (x12_1 : Bool), v12 = .bool x12_1 ∧ Aside0 (spec_CountCodas.j1 kq a0 x3_1 x4_1 x12_1 = some r) ∧ Aside0 (kq ≤ k1) ∧ Drawn0 w wc)
   case first =>
    have H := HC2.out; clear HC2
    by_cases c3 : x4_1 < (a0.size : Int)
    ·rw [if_pos c3] at H
     have c3b0 : decide (x4_1 < (a0.size : Int)) = true := decide_eq_true c3
     clear c3
     (first | rw [c3b0] | (simp only [i64_w, i32_w]; rw [c3b0]) | skip)
     obtain ⟨t164, A4, H⟩ := be H; have H' := Aside0.mk H; clear H
     go_wp2_with (first | (go_at_call 31; (with_reducible refine (spec_IsForm.calls k1 a0 t164 _ A4.out).mono ?_); rintro e w' ⟨rfl, ⟨nd, rfl⟩⟩))
     go_meet
     case rel => exact ⟨_, (t164), rdT, H', ⟨by have := HK1.out; first | omega | exact Nat.le_refl _⟩, drT⟩
    ·rw [if_neg c3] at H
     have c3b0 : decide (x4_1 < (a0.size : Int)) = false := decide_eq_false c3
     clear c3
     (first | rw [c3b0] | (simp only [i64_w, i32_w]; rw [c3b0]) | skip)
     have H' := Aside0.mk H; clear H
     go_wp2
     go_meet
     case rel => exact ⟨_, (false), rdT, H', ⟨by have := HK1.out; first | omega | exact Nat.le_refl _⟩, drT⟩
   case rest =>
    clear HC2; (try clear p2 c3 c3b0); obtain ⟨kq, x12_1, rfl, HA, HJ1, ⟨mc1, rfl⟩⟩ := hcut
    cases kq with
    | zero => exact absurd HA.out (by simp [spec_CountCodas.j1])
    | succ kj1 =>
     have H := HA.out; clear HA
     simp only [spec_CountCodas.j1] at H
     by_cases c5 : x12_1 = true
     ·subst c5
      rw [if_pos rfl] at H; obtain ⟨t165, A6, H⟩ := be H
      by_cases c7 : t165 = true
      ·subst c7
       rw [if_pos rfl] at H; have H' := Aside0.mk H; clear H
       go_wp2_with (first | ((with_reducible refine gate_callee (f := 112) rfl ?_); refine goesL_ (some 17) rfl rfl Tryz.func112 (by kernel_rfl) rfl #[.string a0, .int .i64 x4_1] rfl eqT ?_; (with_reducible refine (spec_IsVowelAt.calls a0 x4_1 true _ A6.out).mono ?_); rintro e w' ⟨rfl, ⟨nd, rfl⟩⟩; refine ⟨_, rfl, ?_⟩))
       go_roundg kj1
       case measure => have := HK1.out; have := HJ1.out; omega
       case rel => exact ⟨(x3_1), (wrap64 (x4_1 + 1)), rdT, rdT, H', ⟨by have := HK1.out; have := HJ1.out; omega⟩, drT⟩
      ·replace c7 := Bool.eq_false_iff.mpr c7
       subst c7; rw [if_neg nF] at H; obtain ⟨t166, A8, H⟩ := be H
       by_cases c9 : t166 = true
       ·subst c9
        rw [if_pos rfl] at H; have H' := Aside0.mk H; clear H
        go_wp2_with (first | ((with_reducible refine gate_callee (f := 112) rfl ?_); refine goesL_ (some 17) rfl rfl Tryz.func112 (by kernel_rfl) rfl #[.string a0, .int .i64 x4_1] rfl eqT ?_; (with_reducible refine (spec_IsVowelAt.calls a0 x4_1 false _ A6.out).mono ?_); rintro e w' ⟨rfl, ⟨nd, rfl⟩⟩; refine ⟨_, rfl, ?_⟩) | (go_at_call 112; (with_reducible refine (spec_IsVowelAt.calls a0 (wrap64 (x4_1 + 1)) true _ A8.out).mono ?_); rintro e w' ⟨rfl, ⟨nd, rfl⟩⟩))
        go_roundg kj1
        case measure => have := HK1.out; have := HJ1.out; omega
        case rel => exact ⟨(x3_1), (wrap64 (x4_1 + 1)), rdT, rdT, H', ⟨by have := HK1.out; have := HJ1.out; omega⟩, drT⟩
       ·replace c9 := Bool.eq_false_iff.mpr c9
        subst c9; rw [if_neg nF] at H; have H' := Aside0.mk H; clear H
        go_wp2_with (first | ((with_reducible refine gate_callee (f := 112) rfl ?_); refine goesL_ (some 17) rfl rfl Tryz.func112 (by kernel_rfl) rfl #[.string a0, .int .i64 x4_1] rfl eqT ?_; (with_reducible refine (spec_IsVowelAt.calls a0 x4_1 false _ A6.out).mono ?_); rintro e w' ⟨rfl, ⟨nd, rfl⟩⟩; refine ⟨_, rfl, ?_⟩) | (go_at_call 112; (with_reducible refine (spec_IsVowelAt.calls a0 (wrap64 (x4_1 + 1)) false _ A8.out).mono ?_); rintro e w' ⟨rfl, ⟨nd, rfl⟩⟩))
        go_roundg kj1
        case measure => have := HK1.out; have := HJ1.out; omega
        case rel => exact ⟨(wrap64 (x3_1 + 1)), (wrap64 (x4_1 + 1)), rdT, rdT, H', ⟨by have := HK1.out; have := HJ1.out; omega⟩, drT⟩
     ·replace c5 := Bool.eq_false_iff.mpr c5
      subst c5; rw [if_neg nF] at H; have H1 := H; clear H; have H := H1; clear H1
      obtain rfl := Option.some.inj H
      go_wp2
      go_ret
      exact ⟨rdT, drT⟩

/-! ### spec_CountClusters: function 86 -/
mutual
def spec_CountClusters.l0 : Nat → ByteArray → Int → Int → Option (Int)
 | 0, _, _, _ => none
 | k + 1, x0, x3, x4 => if x4 < (x0.size : Int) then ((spec_IsForm.f k x0).bind fun t167 => (spec_CountClusters.j1 k x0 x3 x4 t167)) else (spec_CountClusters.j1 k x0 x3 x4 false)
def spec_CountClusters.j1 : Nat → ByteArray → Int → Int → Bool → Option (Int)
 | 0, _, _, _, _ => none
 | k + 1, x0, x3, x4, x12 => if x12 = true then ((spec_IsVowelAt.f x0 (wrap64 (x4 - 1))).bind fun t168 => (if t168 = true then (spec_CountClusters.l0 k x0 x3 (wrap64 (x4 + 1))) else ((spec_IsVowelAt.f x0 x4).bind fun t169 => (if t169 = true then (spec_CountClusters.l0 k x0 x3 (wrap64 (x4 + 1))) else (spec_CountClusters.l0 k x0 (wrap64 (x3 + 1)) (wrap64 (x4 + 1))))))) else (some x3)
end
def spec_CountClusters.f (k : Nat) (a0 : ByteArray) : Option (Int) := spec_CountClusters.l0 k a0 0 1
theorem spec_CountClusters.mono_l : ∀ k, (∀ y0 y1 y2, LeO (spec_CountClusters.l0 k y0 y1 y2) (spec_CountClusters.l0 (k + 1) y0 y1 y2)) ∧ (∀ y0 y1 y2 y3, LeO (spec_CountClusters.j1 k y0 y1 y2 y3) (spec_CountClusters.j1 (k + 1) y0 y1 y2 y3))
 | 0 => ⟨fun _ _ _ r h => by simp [spec_CountClusters.l0] at h, fun _ _ _ _ r h => by simp [spec_CountClusters.j1] at h⟩
 | k + 1 => by
  obtain ⟨ih0, ih1⟩ := spec_CountClusters.mono_l k; refine ⟨?_, ?_⟩
  ·intro y0 y1 y2
   unfold spec_CountClusters.l0
   with_reducible repeat' first | exact ih0 _ _ _ | exact ih1 _ _ _ _ | exact spec_IsForm.mono _ _ | exact LeO.refl _ | exact LeO.none _ | refine LeO.ite ?_ ?_ | refine LeO.bind ?_ (fun _ => ?_)
  ·intro y0 y1 y2 y3
   unfold spec_CountClusters.j1
   with_reducible repeat' first | exact ih0 _ _ _ | exact ih1 _ _ _ _ | exact spec_IsForm.mono _ _ | exact LeO.refl _ | exact LeO.none _ | refine LeO.ite ?_ ?_ | refine LeO.bind ?_ (fun _ => ?_)
theorem spec_CountClusters.mono : ∀ a0 k, LeO (spec_CountClusters.f k a0) (spec_CountClusters.f (k + 1) a0) := by
 intro a0 k
 obtain ⟨ih0, ih1⟩ := spec_CountClusters.mono_l k
 unfold spec_CountClusters.f
 with_reducible repeat' first | exact ih0 _ _ _ | exact ih1 _ _ _ _ | exact spec_IsForm.mono _ _ | exact LeO.refl _ | exact LeO.none _ | refine LeO.ite ?_ ?_ | refine LeO.bind ?_ (fun _ => ?_)
set_option maxHeartbeats 8000000 in
set_option maxRecDepth 100000 in
theorem spec_CountClusters.calls (k : Nat) (a0 : ByteArray) (r : Int) (w : World) (h : spec_CountClusters.f k a0 = some r) :
  Calls Tryz.prog 86 #[.string a0] w fun e w' => e = .returned (.int .i64 r) ∧ Drawn0 w w' := by
 have H := h; unfold spec_CountClusters.f at H; clear h; have H' := Aside0.mk H; clear H
 go_enter Tryz.func86, Tryz.ntmps86
 go_wp2
 go_loopg [3, 4] k (fun kq v3 v4 w' => ∃ (x3_1 : Int) (x4_1 : Int), v3 = .int .i64 x3_1 ∧ v4 = .int .i64 x4_1 ∧ Aside0 (spec_CountClusters.l0 kq a0 x3_1 x4_1 = some r) ∧ Aside0 (kq ≤ k) ∧ Drawn0 w w')
 case atStart => exact ⟨(0), (1), rdT, rdT, H', ⟨Nat.le_refl _⟩, drT⟩
 case round =>
  clear H'; obtain ⟨x3_1, x4_1, rfl, rfl, HA, HK1, ⟨m1, rfl⟩⟩ := hrel
  cases gk with
  | zero => exact absurd HA.out (by simp [spec_CountClusters.l0])
  | succ k1 =>
   have H := HA.out; clear HA
   simp only [spec_CountClusters.l0] at H
   have HC2 := Aside0.mk H; clear H
   go_upto_region 3 with (fail)
   go_cut [12] (fun v12 wc => ∃ (kq : Nat) (x12_1 : Bool), v12 = .bool x12_1 ∧ Aside0 (spec_CountClusters.j1 kq a0 x3_1 x4_1 x12_1 = some r) ∧ Aside0 (kq ≤ k1) ∧ Drawn0 w wc)
   case first =>
    have H := HC2.out; clear HC2
    by_cases c3 : x4_1 < (a0.size : Int)
    ·rw [if_pos c3] at H
     have c3b0 : decide (x4_1 < (a0.size : Int)) = true := decide_eq_true c3
     clear c3
     (first | rw [c3b0] | (simp only [i64_w, i32_w]; rw [c3b0]) | skip)
     obtain ⟨t167, A4, H⟩ := be H; have H' := Aside0.mk H; clear H
     go_wp2_with (first | (go_at_call 31; (with_reducible refine (spec_IsForm.calls k1 a0 t167 _ A4.out).mono ?_); rintro e w' ⟨rfl, ⟨nd, rfl⟩⟩))
     go_meet
     case rel => exact ⟨_, (t167), rdT, H', ⟨by have := HK1.out; first | omega | exact Nat.le_refl _⟩, drT⟩
    ·rw [if_neg c3] at H
     have c3b0 : decide (x4_1 < (a0.size : Int)) = false := decide_eq_false c3
     clear c3
     (first | rw [c3b0] | (simp only [i64_w, i32_w]; rw [c3b0]) | skip)
     have H' := Aside0.mk H; clear H
     go_wp2
     go_meet
     case rel => exact ⟨_, (false), rdT, H', ⟨by have := HK1.out; first | omega | exact Nat.le_refl _⟩, drT⟩
   case rest =>
    clear HC2; (try clear p2 c3 c3b0); obtain ⟨kq, x12_1, rfl, HA, HJ1, ⟨mc1, rfl⟩⟩ := hcut
    cases kq with
    | zero => exact absurd HA.out (by simp [spec_CountClusters.j1])
    | succ kj1 =>
     have H := HA.out; clear HA
     simp only [spec_CountClusters.j1] at H
     by_cases c5 : x12_1 = true
     ·subst c5
      rw [if_pos rfl] at H; obtain ⟨t168, A6, H⟩ := be H
      by_cases c7 : t168 = true
      ·subst c7
       rw [if_pos rfl] at H; have H' := Aside0.mk H; clear H
       go_wp2_with (first | ((with_reducible refine gate_callee (f := 112) rfl ?_); refine goesL_ (some 18) rfl rfl Tryz.func112 (by kernel_rfl) rfl #[.string a0, .int .i64 (wrap64 (x4_1 - 1))] rfl eqT ?_; (with_reducible refine (spec_IsVowelAt.calls a0 (wrap64 (x4_1 - 1)) true _ A6.out).mono ?_); rintro e w' ⟨rfl, ⟨nd, rfl⟩⟩; refine ⟨_, rfl, ?_⟩))
       go_roundg kj1
       case measure => have := HK1.out; have := HJ1.out; omega
       case rel => exact ⟨(x3_1), (wrap64 (x4_1 + 1)), rdT, rdT, H', ⟨by have := HK1.out; have := HJ1.out; omega⟩, drT⟩
      ·replace c7 := Bool.eq_false_iff.mpr c7
       subst c7; rw [if_neg nF] at H; obtain ⟨t169, A8, H⟩ := be H
       by_cases c9 : t169 = true
       ·subst c9
        rw [if_pos rfl] at H; have H' := Aside0.mk H; clear H
        go_wp2_with (first | ((with_reducible refine gate_callee (f := 112) rfl ?_); refine goesL_ (some 18) rfl rfl Tryz.func112 (by kernel_rfl) rfl #[.string a0, .int .i64 (wrap64 (x4_1 - 1))] rfl eqT ?_; (with_reducible refine (spec_IsVowelAt.calls a0 (wrap64 (x4_1 - 1)) false _ A6.out).mono ?_); rintro e w' ⟨rfl, ⟨nd, rfl⟩⟩; refine ⟨_, rfl, ?_⟩) | (go_at_call 112; (with_reducible refine (spec_IsVowelAt.calls a0 x4_1 true _ A8.out).mono ?_); rintro e w' ⟨rfl, ⟨nd, rfl⟩⟩))
        go_roundg kj1
        case measure => have := HK1.out; have := HJ1.out; omega
        case rel => exact ⟨(x3_1), (wrap64 (x4_1 + 1)), rdT, rdT, H', ⟨by have := HK1.out; have := HJ1.out; omega⟩, drT⟩
       ·replace c9 := Bool.eq_false_iff.mpr c9
        subst c9; rw [if_neg nF] at H; have H' := Aside0.mk H; clear H
        go_wp2_with (first | ((with_reducible refine gate_callee (f := 112) rfl ?_); refine goesL_ (some 18) rfl rfl Tryz.func112 (by kernel_rfl) rfl #[.string a0, .int .i64 (wrap64 (x4_1 - 1))] rfl eqT ?_; (with_reducible refine (spec_IsVowelAt.calls a0 (wrap64 (x4_1 - 1)) false _ A6.out).mono ?_); rintro e w' ⟨rfl, ⟨nd, rfl⟩⟩; refine ⟨_, rfl, ?_⟩) | (go_at_call 112; (with_reducible refine (spec_IsVowelAt.calls a0 x4_1 false _ A8.out).mono ?_); rintro e w' ⟨rfl, ⟨nd, rfl⟩⟩))
        go_roundg kj1
        case measure => have := HK1.out; have := HJ1.out; omega
        case rel => exact ⟨(wrap64 (x3_1 + 1)), (wrap64 (x4_1 + 1)), rdT, rdT, H', ⟨by have := HK1.out; have := HJ1.out; omega⟩, drT⟩
     ·replace c5 := Bool.eq_false_iff.mpr c5
      subst c5; rw [if_neg nF] at H; have H1 := H; clear H; have H := H1; clear H1
      obtain rfl := Option.some.inj H
      go_wp2
      go_ret
      exact ⟨rdT, drT⟩

/-! ### spec_IsObstruent: function 115 -/
def spec_IsObstruent.f (a0 : Int) : Option (Bool) := if a0 = 112 then (some true) else (if a0 = 116 then (some true) else (if a0 = 98 then (some true) else (some (a0 == 100))))
set_option maxHeartbeats 8000000 in
set_option maxRecDepth 100000 in
theorem spec_IsObstruent.calls (a0 : Int) (r : Bool) (w : World) (h : spec_IsObstruent.f a0 = some r) :
  Calls Tryz.prog 115 #[.int .u8 a0] w fun e w' => e = .returned (.bool r) ∧ Drawn0 w w' := by
 have H := h; unfold spec_IsObstruent.f at H; clear h
 by_cases c2 : a0 = 112
 ·rw [if_pos c2] at H
  have c2b0 : (a0 == 112) = true := beq_iff_eq.mpr c2
  have c2b1 : (a0 != 112) = false := bne_eq_false_iff_eq.mpr c2
  clear c2
  obtain rfl := Option.some.inj H
  go_enter Tryz.func115, Tryz.ntmps115
  go_wp2
  go_ret
  exact ⟨rdT, drT⟩
 ·rw [if_neg c2] at H
  have c2b0 : (a0 == 112) = false := beq_eq_false_iff_ne.mpr c2
  have c2b1 : (a0 != 112) = true := bne_iff_ne.mpr c2
  by_cases c3 : a0 = 116
  ·rw [if_pos c3] at H
   have c3b0 : (a0 == 116) = true := beq_iff_eq.mpr c3
   have c3b1 : (a0 != 116) = false := bne_eq_false_iff_eq.mpr c3
   clear c3
   obtain rfl := Option.some.inj H
   go_enter Tryz.func115, Tryz.ntmps115
   go_wp2
   go_ret
   exact ⟨rdT, drT⟩
  ·rw [if_neg c3] at H
   have c3b0 : (a0 == 116) = false := beq_eq_false_iff_ne.mpr c3
   have c3b1 : (a0 != 116) = true := bne_iff_ne.mpr c3
   by_cases c4 : a0 = 98
   ·rw [if_pos c4] at H
    have c4b0 : (a0 == 98) = true := beq_iff_eq.mpr c4
    have c4b1 : (a0 != 98) = false := bne_eq_false_iff_eq.mpr c4
    clear c4
    obtain rfl := Option.some.inj H
    go_enter Tryz.func115, Tryz.ntmps115
    go_wp2
    go_ret
    exact ⟨rdT, drT⟩
   ·rw [if_neg c4] at H
    have c4b0 : (a0 == 98) = false := beq_eq_false_iff_ne.mpr c4
    have c4b1 : (a0 != 98) = true := bne_iff_ne.mpr c4
    obtain rfl := Option.some.inj H
    go_enter Tryz.func115, Tryz.ntmps115
    go_wp2
    go_ret
    exact ⟨rdT, drT⟩

/-! ### spec_l8Voiced: function 113 -/
def spec_l8Voiced.f (a0 : Int) : Option (Bool) := (spec_IsObstruent.f a0).bind fun t170 => (if t170 = true then ((spec_HasFeature.f a0 1).bind fun t171 => (some t171)) else (some false))
set_option maxHeartbeats 8000000 in
set_option maxRecDepth 100000 in
theorem spec_l8Voiced.calls (a0 : Int) (r : Bool) (w : World) (h : spec_l8Voiced.f a0 = some r) :
  Calls Tryz.prog 113 #[.int .u8 a0] w fun e w' => e = .returned (.bool r) ∧ Drawn0 w w' := by
 have H := h; unfold spec_l8Voiced.f at H; clear h; obtain ⟨t170, A2, H⟩ := be H
 by_cases c3 : t170 = true
 ·subst c3
  rw [if_pos rfl] at H; obtain ⟨t171, A4, H⟩ := be H
  obtain rfl := Option.some.inj H
  go_enter Tryz.func113, Tryz.ntmps113
  go_wp2_with (first | ((with_reducible refine gate_callee (f := 115) rfl ?_); refine goesL_ (some 4) rfl rfl Tryz.func115 (by kernel_rfl) rfl #[.int .u8 a0] rfl eqT ?_; (with_reducible refine (spec_IsObstruent.calls a0 true _ A2.out).mono ?_); rintro e w' ⟨rfl, ⟨nd, rfl⟩⟩; refine ⟨_, rfl, ?_⟩) | (go_at_call 114; (with_reducible refine (spec_HasFeature.calls a0 1 t171 _ A4.out).mono ?_); rintro e w' ⟨rfl, ⟨nd, rfl⟩⟩))
  go_ret
  exact ⟨rdT, drT⟩
 ·replace c3 := Bool.eq_false_iff.mpr c3
  subst c3; rw [if_neg nF] at H; have H1 := H; clear H; have H := H1; clear H1
  obtain rfl := Option.some.inj H
  go_enter Tryz.func113, Tryz.ntmps113
  go_wp2_with (first | ((with_reducible refine gate_callee (f := 115) rfl ?_); refine goesL_ (some 4) rfl rfl Tryz.func115 (by kernel_rfl) rfl #[.int .u8 a0] rfl eqT ?_; (with_reducible refine (spec_IsObstruent.calls a0 false _ A2.out).mono ?_); rintro e w' ⟨rfl, ⟨nd, rfl⟩⟩; refine ⟨_, rfl, ?_⟩))
  go_ret
  exact ⟨rdT, drT⟩

/-! ### spec_CountVoiced: function 87 -/
mutual
def spec_CountVoiced.l0 : Nat → ByteArray → Int → Int → Option (Int)
 | 0, _, _, _ => none
 | k + 1, x0, x3, x4 => if x4 < (x0.size : Int) then ((spec_IsForm.f k x0).bind fun t172 => (spec_CountVoiced.j1 k x0 x3 x4 t172)) else (spec_CountVoiced.j1 k x0 x3 x4 false)
def spec_CountVoiced.j1 : Nat → ByteArray → Int → Int → Bool → Option (Int)
 | 0, _, _, _, _ => none
 | k + 1, x0, x3, x4, x12 => if x12 = true then (if 0 ≤ x4 then (if x4 < (x0.size : Int) then ((spec_l8Voiced.f (bt x0 x4)).bind fun t173 => (if t173 = true then (spec_CountVoiced.l0 k x0 (wrap64 (x3 + 1)) (wrap64 (x4 + 1))) else (spec_CountVoiced.l0 k x0 x3 (wrap64 (x4 + 1))))) else (none)) else (none)) else (some x3)
end
def spec_CountVoiced.f (k : Nat) (a0 : ByteArray) : Option (Int) := spec_CountVoiced.l0 k a0 0 0
theorem spec_CountVoiced.mono_l : ∀ k, (∀ y0 y1 y2, LeO (spec_CountVoiced.l0 k y0 y1 y2) (spec_CountVoiced.l0 (k + 1) y0 y1 y2)) ∧ (∀ y0 y1 y2 y3, LeO (spec_CountVoiced.j1 k y0 y1 y2 y3) (spec_CountVoiced.j1 (k + 1) y0 y1 y2 y3))
 | 0 => ⟨fun _ _ _ r h => by simp [spec_CountVoiced.l0] at h, fun _ _ _ _ r h => by simp [spec_CountVoiced.j1] at h⟩
 | k + 1 => by
  obtain ⟨ih0, ih1⟩ := spec_CountVoiced.mono_l k; refine ⟨?_, ?_⟩
  ·intro y0 y1 y2
   unfold spec_CountVoiced.l0
   with_reducible repeat' first | exact ih0 _ _ _ | exact ih1 _ _ _ _ | exact spec_IsForm.mono _ _ | exact LeO.refl _ | exact LeO.none _ | refine LeO.ite ?_ ?_ | refine LeO.bind ?_ (fun _ => ?_)
  ·intro y0 y1 y2 y3
   unfold spec_CountVoiced.j1
   with_reducible repeat' first | exact ih0 _ _ _ | exact ih1 _ _ _ _ | exact spec_IsForm.mono _ _ | exact LeO.refl _ | exact LeO.none _ | refine LeO.ite ?_ ?_ | refine LeO.bind ?_ (fun _ => ?_)
theorem spec_CountVoiced.mono : ∀ a0 k, LeO (spec_CountVoiced.f k a0) (spec_CountVoiced.f (k + 1) a0) := by
 intro a0 k
 obtain ⟨ih0, ih1⟩ := spec_CountVoiced.mono_l k
 unfold spec_CountVoiced.f
 with_reducible repeat' first | exact ih0 _ _ _ | exact ih1 _ _ _ _ | exact spec_IsForm.mono _ _ | exact LeO.refl _ | exact LeO.none _ | refine LeO.ite ?_ ?_ | refine LeO.bind ?_ (fun _ => ?_)
set_option maxHeartbeats 8000000 in
set_option maxRecDepth 100000 in
theorem spec_CountVoiced.calls (k : Nat) (a0 : ByteArray) (r : Int) (w : World) (h : spec_CountVoiced.f k a0 = some r) :
  Calls Tryz.prog 87 #[.string a0] w fun e w' => e = .returned (.int .i64 r) ∧ Drawn0 w w' := by
 have H := h; unfold spec_CountVoiced.f at H; clear h; have H' := Aside0.mk H; clear H
 go_enter Tryz.func87, Tryz.ntmps87
 go_wp2
 go_loopg [3, 4] k (fun kq v3 v4 w' => ∃ (x3_1 : Int) (x4_1 : Int), v3 = .int .i64 x3_1 ∧ v4 = .int .i64 x4_1 ∧ Aside0 (spec_CountVoiced.l0 kq a0 x3_1 x4_1 = some r) ∧ Aside0 (kq ≤ k) ∧ Drawn0 w w')
 case atStart => exact ⟨(0), (0), rdT, rdT, H', ⟨Nat.le_refl _⟩, drT⟩
 case round =>
  clear H'; obtain ⟨x3_1, x4_1, rfl, rfl, HA, HK1, ⟨m1, rfl⟩⟩ := hrel
  cases gk with
  | zero => exact absurd HA.out (by simp [spec_CountVoiced.l0])
  | succ k1 =>
   have H := HA.out; clear HA
   simp only [spec_CountVoiced.l0] at H
   have HC2 := Aside0.mk H; clear H
   go_upto_region 3 with (fail)
   go_cut [12] (fun v12 wc => ∃ (kq : Nat) (x12_1 : Bool), v12 = .bool x12_1 ∧ Aside0 (spec_CountVoiced.j1 kq a0 x3_1 x4_1 x12_1 = some r) ∧ Aside0 (kq ≤ k1) ∧ Drawn0 w wc)
   case first =>
    have H := HC2.out; clear HC2
    by_cases c3 : x4_1 < (a0.size : Int)
    ·rw [if_pos c3] at H
     have c3b0 : decide (x4_1 < (a0.size : Int)) = true := decide_eq_true c3
     clear c3
     (first | rw [c3b0] | (simp only [i64_w, i32_w]; rw [c3b0]) | skip)
     obtain ⟨t172, A4, H⟩ := be H; have H' := Aside0.mk H; clear H
     go_wp2_with (first | (go_at_call 31; (with_reducible refine (spec_IsForm.calls k1 a0 t172 _ A4.out).mono ?_); rintro e w' ⟨rfl, ⟨nd, rfl⟩⟩))
     go_meet
     case rel => exact ⟨_, (t172), rdT, H', ⟨by have := HK1.out; first | omega | exact Nat.le_refl _⟩, drT⟩
    ·rw [if_neg c3] at H
     have c3b0 : decide (x4_1 < (a0.size : Int)) = false := decide_eq_false c3
     clear c3
     (first | rw [c3b0] | (simp only [i64_w, i32_w]; rw [c3b0]) | skip)
     have H' := Aside0.mk H; clear H
     go_wp2
     go_meet
     case rel => exact ⟨_, (false), rdT, H', ⟨by have := HK1.out; first | omega | exact Nat.le_refl _⟩, drT⟩
   case rest =>
    clear HC2; (try clear p2 c3 c3b0); obtain ⟨kq, x12_1, rfl, HA, HJ1, ⟨mc1, rfl⟩⟩ := hcut
    cases kq with
    | zero => exact absurd HA.out (by simp [spec_CountVoiced.j1])
    | succ kj1 =>
     have H := HA.out; clear HA
     simp only [spec_CountVoiced.j1] at H
     by_cases c5 : x12_1 = true
     ·subst c5
      rw [if_pos rfl] at H; have H1 := H; clear H; have H := H1; clear H1
      by_cases c6 : 0 ≤ x4_1
      ·rw [if_pos c6] at H
       have c6b0 : decide (0 ≤ x4_1) = true := decide_eq_true c6
       clear c6
       by_cases c7 : x4_1 < (a0.size : Int)
       ·rw [if_pos c7] at H
        have c7b0 : decide (x4_1 < (a0.size : Int)) = true := decide_eq_true c7
        clear c7; obtain ⟨t173, A9, H⟩ := be H
        by_cases c10 : t173 = true
        ·subst c10
         rw [if_pos rfl] at H; have H' := Aside0.mk H; clear H
         have p8 : 0 ≤ (x4_1 : Int) := of_decide_eq_true asmT
         have q8 : x4_1 < (a0.size : Int) := of_decide_eq_true asmT
         have hx8 := bt_at a0 x4_1; replace p8 := eq_true p8; replace q8 := eq_true q8
         go_wp2_with (first | ((with_reducible refine gate_callee (f := 113) rfl ?_); refine goesL_ (some 18) rfl rfl Tryz.func113 (by kernel_rfl) rfl #[.int .u8 (bt a0 x4_1)] rfl eqT ?_; (with_reducible refine (spec_l8Voiced.calls (bt a0 x4_1) true _ A9.out).mono ?_); rintro e w' ⟨rfl, ⟨nd, rfl⟩⟩; refine ⟨_, rfl, ?_⟩))
         go_roundg kj1
         case measure => have := HK1.out; have := HJ1.out; omega
         case rel => exact ⟨(wrap64 (x3_1 + 1)), (wrap64 (x4_1 + 1)), rdT, rdT, H', ⟨by have := HK1.out; have := HJ1.out; omega⟩, drT⟩
        ·replace c10 := Bool.eq_false_iff.mpr c10
         subst c10; rw [if_neg nF] at H; have H' := Aside0.mk H; clear H
         have p8 : 0 ≤ (x4_1 : Int) := of_decide_eq_true asmT
         have q8 : x4_1 < (a0.size : Int) := of_decide_eq_true asmT
         have hx8 := bt_at a0 x4_1; replace p8 := eq_true p8; replace q8 := eq_true q8
         go_wp2_with (first | ((with_reducible refine gate_callee (f := 113) rfl ?_); refine goesL_ (some 18) rfl rfl Tryz.func113 (by kernel_rfl) rfl #[.int .u8 (bt a0 x4_1)] rfl eqT ?_; (with_reducible refine (spec_l8Voiced.calls (bt a0 x4_1) false _ A9.out).mono ?_); rintro e w' ⟨rfl, ⟨nd, rfl⟩⟩; refine ⟨_, rfl, ?_⟩))
         go_roundg kj1
         case measure => have := HK1.out; have := HJ1.out; omega
         case rel => exact ⟨(x3_1), (wrap64 (x4_1 + 1)), rdT, rdT, H', ⟨by have := HK1.out; have := HJ1.out; omega⟩, drT⟩
       ·rw [if_neg c7] at H
        exact absurd H (by simp)
      ·rw [if_neg c6] at H
       exact absurd H (by simp)
     ·replace c5 := Bool.eq_false_iff.mpr c5
      subst c5; rw [if_neg nF] at H; have H1 := H; clear H; have H := H1; clear H1
      obtain rfl := Option.some.inj H
      go_wp2
      go_ret
      exact ⟨rdT, drT⟩

/-! ### spec_CountFinalVoiced: function 88 -/
def spec_CountFinalVoiced.f (k : Nat) (a0 : ByteArray) : Option (Int) := (spec_IsForm.f k a0).bind fun t174 => (if t174 = true then (if a0.toList = ([] : List UInt8) then (some 0) else (if 0 ≤ (wrap64 ((a0.size : Int) - 1)) then (if (wrap64 ((a0.size : Int) - 1)) < (a0.size : Int) then ((spec_l8Voiced.f (bt a0 (wrap64 ((a0.size : Int) - 1)))).bind fun t175 => (if t175 = true then (some 1) else (some 0))) else (none)) else (none))) else (some 0))
theorem spec_CountFinalVoiced.mono : ∀ a0 k, LeO (spec_CountFinalVoiced.f k a0) (spec_CountFinalVoiced.f (k + 1) a0) := by
 intro a0 k
 unfold spec_CountFinalVoiced.f
 with_reducible repeat' first | exact spec_IsForm.mono _ _ | exact LeO.refl _ | exact LeO.none _ | refine LeO.ite ?_ ?_ | refine LeO.bind ?_ (fun _ => ?_)
set_option maxHeartbeats 8000000 in
set_option maxRecDepth 100000 in
theorem spec_CountFinalVoiced.calls (k : Nat) (a0 : ByteArray) (r : Int) (w : World) (h : spec_CountFinalVoiced.f k a0 = some r) :
  Calls Tryz.prog 88 #[.string a0] w fun e w' => e = .returned (.int .i64 r) ∧ Drawn0 w w' := by
 have H := h; unfold spec_CountFinalVoiced.f at H; clear h; obtain ⟨t174, A2, H⟩ := be H
 by_cases c3 : t174 = true
 ·subst c3
  rw [if_pos rfl] at H; have H1 := H; clear H; have H := H1; clear H1
  by_cases c4 : a0.toList = ([] : List UInt8)
  ·rw [if_pos c4] at H
   have c4b0 : (a0.toList == ([] : List UInt8)) = true := beq_iff_eq.mpr c4
   have c4b1 : (a0.toList != ([] : List UInt8)) = false := bne_eq_false_iff_eq.mpr c4
   clear c4
   obtain rfl := Option.some.inj H
   go_enter Tryz.func88, Tryz.ntmps88
   go_wp2_with (first | ((with_reducible refine gate_callee (f := 31) rfl ?_); refine goesL_ (some 4) rfl rfl Tryz.func31 (by kernel_rfl) rfl #[.string a0] rfl eqT ?_; (with_reducible refine (spec_IsForm.calls k a0 true _ A2.out).mono ?_); rintro e w' ⟨rfl, ⟨nd, rfl⟩⟩; refine ⟨_, rfl, ?_⟩))
   go_ret
   exact ⟨rdT, drT⟩
  ·rw [if_neg c4] at H
   have c4b0 : (a0.toList == ([] : List UInt8)) = false := beq_eq_false_iff_ne.mpr c4
   have c4b1 : (a0.toList != ([] : List UInt8)) = true := bne_iff_ne.mpr c4
   obtain ⟨ji5, hji5⟩ : ∃ j_ : Int, (wrap64 ((a0.size : Int) - 1)) = j_ := ⟨_, rfl⟩
   replace H : (if 0 ≤ (ji5) then (if (ji5) < (a0.size : Int) then ((spec_l8Voiced.f (bt a0 (ji5))).bind fun t175 => (if t175 = true then (some 1) else (some 0))) else (none)) else (none)) = some r := by first | (rw [hji5] at H; exact H) | (simp only [hji5] at H ⊢; exact H)
   (try rw [hji5] at A2)
   have hji5w : (IntKind.i64.wrap ((a0.size : Int) - 1)) = ji5 := (i64_w _).trans hji5
   by_cases c6 : 0 ≤ (ji5)
   ·rw [if_pos c6] at H
    have c6b0 : decide (0 ≤ (ji5)) = true := decide_eq_true c6
    clear c6
    by_cases c7 : (ji5) < (a0.size : Int)
    ·rw [if_pos c7] at H
     have c7b0 : decide ((ji5) < (a0.size : Int)) = true := decide_eq_true c7
     clear c7; obtain ⟨t175, A9, H⟩ := be H
     by_cases c10 : t175 = true
     ·subst c10
      rw [if_pos rfl] at H; have H1 := H; clear H; have H := H1; clear H1
      obtain rfl := Option.some.inj H
      go_enter Tryz.func88, Tryz.ntmps88
      go_wp2_with (first | ((with_reducible refine gate_callee (f := 31) rfl ?_); refine goesL_ (some 4) rfl rfl Tryz.func31 (by kernel_rfl) rfl #[.string a0] rfl eqT ?_; (with_reducible refine (spec_IsForm.calls k a0 true _ A2.out).mono ?_); rintro e w' ⟨rfl, ⟨nd, rfl⟩⟩; refine ⟨_, rfl, ?_⟩; have p8 : 0 ≤ ((ji5) : Int) := of_decide_eq_true asmT; have q8 : (ji5) < (a0.size : Int) := of_decide_eq_true asmT; have hx8 := bt_at a0 (ji5); replace p8 := eq_true p8; replace q8 := eq_true q8) | (go_at_call 113; (with_reducible refine (spec_l8Voiced.calls (bt a0 (ji5)) true _ A9.out).mono ?_); rintro e w' ⟨rfl, ⟨nd, rfl⟩⟩))
      go_ret
      exact ⟨by first | rfl | (simp; done) | (simp only [← hji5] <;> (first | rfl | simp)) | (simp [*]; done), drT⟩
     ·replace c10 := Bool.eq_false_iff.mpr c10
      subst c10; rw [if_neg nF] at H; have H1 := H; clear H; have H := H1; clear H1
      obtain rfl := Option.some.inj H
      go_enter Tryz.func88, Tryz.ntmps88
      go_wp2_with (first | ((with_reducible refine gate_callee (f := 31) rfl ?_); refine goesL_ (some 4) rfl rfl Tryz.func31 (by kernel_rfl) rfl #[.string a0] rfl eqT ?_; (with_reducible refine (spec_IsForm.calls k a0 true _ A2.out).mono ?_); rintro e w' ⟨rfl, ⟨nd, rfl⟩⟩; refine ⟨_, rfl, ?_⟩; have p8 : 0 ≤ ((ji5) : Int) := of_decide_eq_true asmT; have q8 : (ji5) < (a0.size : Int) := of_decide_eq_true asmT; have hx8 := bt_at a0 (ji5); replace p8 := eq_true p8; replace q8 := eq_true q8) | (go_at_call 113; (with_reducible refine (spec_l8Voiced.calls (bt a0 (ji5)) false _ A9.out).mono ?_); rintro e w' ⟨rfl, ⟨nd, rfl⟩⟩))
      go_ret
      exact ⟨by first | rfl | (simp; done) | (simp only [← hji5] <;> (first | rfl | simp)) | (simp [*]; done), drT⟩
    ·rw [if_neg c7] at H
     exact absurd H (by simp)
   ·rw [if_neg c6] at H
    exact absurd H (by simp)
 ·replace c3 := Bool.eq_false_iff.mpr c3
  subst c3; rw [if_neg nF] at H; have H1 := H; clear H; have H := H1; clear H1
  obtain rfl := Option.some.inj H
  go_enter Tryz.func88, Tryz.ntmps88
  go_wp2_with (first | ((with_reducible refine gate_callee (f := 31) rfl ?_); refine goesL_ (some 4) rfl rfl Tryz.func31 (by kernel_rfl) rfl #[.string a0] rfl eqT ?_; (with_reducible refine (spec_IsForm.calls k a0 false _ A2.out).mono ?_); rintro e w' ⟨rfl, ⟨nd, rfl⟩⟩; refine ⟨_, rfl, ?_⟩))
  go_ret
  exact ⟨rdT, drT⟩

/-! ### spec_CountNasalVoiceless: function 89 -/
mutual
def spec_CountNasalVoiceless.l0 : Nat → ByteArray → Int → Int → Option (Int)
 | 0, _, _, _ => none
 | k + 1, x0, x3, x4 => if x4 < (x0.size : Int) then ((spec_IsForm.f k x0).bind fun t176 => (spec_CountNasalVoiceless.j1 k x0 x3 x4 t176)) else (spec_CountNasalVoiceless.j1 k x0 x3 x4 false)
def spec_CountNasalVoiceless.j1 : Nat → ByteArray → Int → Int → Bool → Option (Int)
 | 0, _, _, _, _ => none
 | k + 1, x0, x3, x4, x12 => if x12 = true then (if 0 ≤ (wrap64 (x4 - 1)) then (if (wrap64 (x4 - 1)) < (x0.size : Int) then ((spec_HasFeature.f (bt x0 (wrap64 (x4 - 1))) 2).bind fun t177 => (if t177 = true then (if 0 ≤ x4 then (if x4 < (x0.size : Int) then ((spec_IsObstruent.f (bt x0 x4)).bind fun t178 => (if t178 = true then ((spec_HasFeature.f (bt x0 x4) 1).bind fun t179 => (if t179 = true then (spec_CountNasalVoiceless.l0 k x0 x3 (wrap64 (x4 + 1))) else (spec_CountNasalVoiceless.l0 k x0 (wrap64 (x3 + 1)) (wrap64 (x4 + 1))))) else (spec_CountNasalVoiceless.l0 k x0 x3 (wrap64 (x4 + 1))))) else (none)) else (none)) else (spec_CountNasalVoiceless.l0 k x0 x3 (wrap64 (x4 + 1))))) else (none)) else (none)) else (some x3)
end
def spec_CountNasalVoiceless.f (k : Nat) (a0 : ByteArray) : Option (Int) := spec_CountNasalVoiceless.l0 k a0 0 1
theorem spec_CountNasalVoiceless.mono_l : ∀ k, (∀ y0 y1 y2, LeO (spec_CountNasalVoiceless.l0 k y0 y1 y2) (spec_CountNasalVoiceless.l0 (k + 1) y0 y1 y2)) ∧ (∀ y0 y1 y2 y3, LeO (spec_CountNasalVoiceless.j1 k y0 y1 y2 y3) (spec_CountNasalVoiceless.j1 (k + 1) y0 y1 y2 y3))
 | 0 => ⟨fun _ _ _ r h => by simp [spec_CountNasalVoiceless.l0] at h, fun _ _ _ _ r h => by simp [spec_CountNasalVoiceless.j1] at h⟩
 | k + 1 => by
  obtain ⟨ih0, ih1⟩ := spec_CountNasalVoiceless.mono_l k; refine ⟨?_, ?_⟩
  ·intro y0 y1 y2
   unfold spec_CountNasalVoiceless.l0
   with_reducible repeat' first | exact ih0 _ _ _ | exact ih1 _ _ _ _ | exact spec_IsForm.mono _ _ | exact LeO.refl _ | exact LeO.none _ | refine LeO.ite ?_ ?_ | refine LeO.bind ?_ (fun _ => ?_)
  ·intro y0 y1 y2 y3
   unfold spec_CountNasalVoiceless.j1
   with_reducible repeat' first | exact ih0 _ _ _ | exact ih1 _ _ _ _ | exact spec_IsForm.mono _ _ | exact LeO.refl _ | exact LeO.none _ | refine LeO.ite ?_ ?_ | refine LeO.bind ?_ (fun _ => ?_)
theorem spec_CountNasalVoiceless.mono : ∀ a0 k, LeO (spec_CountNasalVoiceless.f k a0) (spec_CountNasalVoiceless.f (k + 1) a0) := by
 intro a0 k
 obtain ⟨ih0, ih1⟩ := spec_CountNasalVoiceless.mono_l k
 unfold spec_CountNasalVoiceless.f
 with_reducible repeat' first | exact ih0 _ _ _ | exact ih1 _ _ _ _ | exact spec_IsForm.mono _ _ | exact LeO.refl _ | exact LeO.none _ | refine LeO.ite ?_ ?_ | refine LeO.bind ?_ (fun _ => ?_)
set_option maxHeartbeats 8000000 in
set_option maxRecDepth 100000 in
theorem spec_CountNasalVoiceless.calls (k : Nat) (a0 : ByteArray) (r : Int) (w : World) (h : spec_CountNasalVoiceless.f k a0 = some r) :
  Calls Tryz.prog 89 #[.string a0] w fun e w' => e = .returned (.int .i64 r) ∧ Drawn0 w w' := by
 have H := h; unfold spec_CountNasalVoiceless.f at H; clear h; have H' := Aside0.mk H; clear H
 go_enter Tryz.func89, Tryz.ntmps89
 go_wp2
 go_loopg [3, 4] k (fun kq v3 v4 w' => ∃ (x3_1 : Int) (x4_1 : Int), v3 = .int .i64 x3_1 ∧ v4 = .int .i64 x4_1 ∧ Aside0 (spec_CountNasalVoiceless.l0 kq a0 x3_1 x4_1 = some r) ∧ Aside0 (kq ≤ k) ∧ Drawn0 w w')
 case atStart => exact ⟨(0), (1), rdT, rdT, H', ⟨Nat.le_refl _⟩, drT⟩
 case round =>
  clear H'; obtain ⟨x3_1, x4_1, rfl, rfl, HA, HK1, ⟨m1, rfl⟩⟩ := hrel
  cases gk with
  | zero => exact absurd HA.out (by simp [spec_CountNasalVoiceless.l0])
  | succ k1 =>
   have H := HA.out; clear HA
   simp only [spec_CountNasalVoiceless.l0] at H
   have HC2 := Aside0.mk H; clear H
   go_upto_region 3 with (fail)
   go_cut [12] (fun v12 wc => ∃ (kq : Nat) (x12_1 : Bool), v12 = .bool x12_1 ∧ Aside0 (spec_CountNasalVoiceless.j1 kq a0 x3_1 x4_1 x12_1 = some r) ∧ Aside0 (kq ≤ k1) ∧ Drawn0 w wc)
   case first =>
    have H := HC2.out; clear HC2
    by_cases c3 : x4_1 < (a0.size : Int)
    ·rw [if_pos c3] at H
     have c3b0 : decide (x4_1 < (a0.size : Int)) = true := decide_eq_true c3
     clear c3
     (first | rw [c3b0] | (simp only [i64_w, i32_w]; rw [c3b0]) | skip)
     obtain ⟨t176, A4, H⟩ := be H; have H' := Aside0.mk H; clear H
     go_wp2_with (first | (go_at_call 31; (with_reducible refine (spec_IsForm.calls k1 a0 t176 _ A4.out).mono ?_); rintro e w' ⟨rfl, ⟨nd, rfl⟩⟩))
     go_meet
     case rel => exact ⟨_, (t176), rdT, H', ⟨by have := HK1.out; first | omega | exact Nat.le_refl _⟩, drT⟩
    ·rw [if_neg c3] at H
     have c3b0 : decide (x4_1 < (a0.size : Int)) = false := decide_eq_false c3
     clear c3
     (first | rw [c3b0] | (simp only [i64_w, i32_w]; rw [c3b0]) | skip)
     have H' := Aside0.mk H; clear H
     go_wp2
     go_meet
     case rel => exact ⟨_, (false), rdT, H', ⟨by have := HK1.out; first | omega | exact Nat.le_refl _⟩, drT⟩
   case rest =>
    clear HC2; (try clear p2 c3 c3b0); obtain ⟨kq, x12_1, rfl, HA, HJ1, ⟨mc1, rfl⟩⟩ := hcut
    cases kq with
    | zero => exact absurd HA.out (by simp [spec_CountNasalVoiceless.j1])
    | succ kj1 =>
     have H := HA.out; clear HA
     simp only [spec_CountNasalVoiceless.j1] at H
     by_cases c5 : x12_1 = true
     ·subst c5
      rw [if_pos rfl] at H; obtain ⟨ji6, hji6⟩ : ∃ j_ : Int, (wrap64 (x4_1 - 1)) = j_ := ⟨_, rfl⟩
      replace H : (if 0 ≤ (ji6) then (if (ji6) < (a0.size : Int) then ((spec_HasFeature.f (bt a0 (ji6)) 2).bind fun t177 => (if t177 = true then (if 0 ≤ x4_1 then (if x4_1 < (a0.size : Int) then ((spec_IsObstruent.f (bt a0 x4_1)).bind fun t178 => (if t178 = true then ((spec_HasFeature.f (bt a0 x4_1) 1).bind fun t179 => (if t179 = true then (spec_CountNasalVoiceless.l0 kj1 a0 x3_1 (wrap64 (x4_1 + 1))) else (spec_CountNasalVoiceless.l0 kj1 a0 (wrap64 (x3_1 + 1)) (wrap64 (x4_1 + 1))))) else (spec_CountNasalVoiceless.l0 kj1 a0 x3_1 (wrap64 (x4_1 + 1))))) else (none)) else (none)) else (spec_CountNasalVoiceless.l0 kj1 a0 x3_1 (wrap64 (x4_1 + 1))))) else (none)) else (none)) = some r := by first | (rw [hji6] at H; exact H) | (simp only [hji6] at H ⊢; exact H)
      have hji6w : (IntKind.i64.wrap (x4_1 - 1)) = ji6 := (i64_w _).trans hji6
      by_cases c7 : 0 ≤ (ji6)
      ·rw [if_pos c7] at H
       have c7b0 : decide (0 ≤ (ji6)) = true := decide_eq_true c7
       clear c7
       by_cases c8 : (ji6) < (a0.size : Int)
       ·rw [if_pos c8] at H
        have c8b0 : decide ((ji6) < (a0.size : Int)) = true := decide_eq_true c8
        clear c8; obtain ⟨t177, A10, H⟩ := be H
        by_cases c11 : t177 = true
        ·subst c11
         rw [if_pos rfl] at H; have H1 := H; clear H; have H := H1; clear H1
         by_cases c12 : 0 ≤ x4_1
         ·rw [if_pos c12] at H
          have c12b0 : decide (0 ≤ x4_1) = true := decide_eq_true c12
          clear c12
          by_cases c13 : x4_1 < (a0.size : Int)
          ·rw [if_pos c13] at H
           have c13b0 : decide (x4_1 < (a0.size : Int)) = true := decide_eq_true c13
           clear c13; obtain ⟨t178, A15, H⟩ := be H
           by_cases c16 : t178 = true
           ·subst c16
            rw [if_pos rfl] at H; obtain ⟨t179, A18, H⟩ := be H
            by_cases c19 : t179 = true
            ·subst c19
             rw [if_pos rfl] at H; have H' := Aside0.mk H; clear H
             have p9 : 0 ≤ ((ji6) : Int) := of_decide_eq_true asmT
             have q9 : (ji6) < (a0.size : Int) := of_decide_eq_true asmT
             have hx9 := bt_at a0 (ji6); replace p9 := eq_true p9; replace q9 := eq_true q9
             go_wp2_with (first | ((with_reducible refine gate_callee (f := 114) rfl ?_); refine goesL_ (some 19) rfl rfl Tryz.func114 (by kernel_rfl) rfl #[.int .u8 (bt a0 (ji6)), .int .i64 2] rfl (by (try simp only [List.map_toArray, List.map_cons, List.map_nil]); first | done | (simp only [hji6]; rfl) | rfl | (simp only [List.length_drop, List.length_take]; rfl)) ?_; (with_reducible refine (spec_HasFeature.calls (bt a0 (ji6)) 2 true _ A10.out).mono ?_); rintro e w' ⟨rfl, ⟨nd, rfl⟩⟩; refine ⟨_, rfl, ?_⟩; have p14 : 0 ≤ (x4_1 : Int) := of_decide_eq_true asmT; have q14 : x4_1 < (a0.size : Int) := of_decide_eq_true asmT; have hx14 := bt_at a0 x4_1; replace p14 := eq_true p14; replace q14 := eq_true q14) | (go_at_call 115; (with_reducible refine (spec_IsObstruent.calls (bt a0 x4_1) true _ A15.out).mono ?_); rintro e w' ⟨rfl, ⟨nd, rfl⟩⟩; have p17 : 0 ≤ (x4_1 : Int) := of_decide_eq_true asmT; have q17 : x4_1 < (a0.size : Int) := of_decide_eq_true asmT; have hx17 := bt_at a0 x4_1; replace p17 := eq_true p17; replace q17 := eq_true q17) | (go_at_call 114; (with_reducible refine (spec_HasFeature.calls (bt a0 x4_1) 1 true _ A18.out).mono ?_); rintro e w' ⟨rfl, ⟨nd, rfl⟩⟩))
             go_roundg kj1
             case measure => have := HK1.out; have := HJ1.out; omega
             case rel => exact ⟨(x3_1), (wrap64 (x4_1 + 1)), rdT, rdT, H', ⟨by have := HK1.out; have := HJ1.out; omega⟩, drT⟩
            ·replace c19 := Bool.eq_false_iff.mpr c19
             subst c19; rw [if_neg nF] at H; have H' := Aside0.mk H; clear H
             have p9 : 0 ≤ ((ji6) : Int) := of_decide_eq_true asmT
             have q9 : (ji6) < (a0.size : Int) := of_decide_eq_true asmT
             have hx9 := bt_at a0 (ji6); replace p9 := eq_true p9; replace q9 := eq_true q9
             go_wp2_with (first | ((with_reducible refine gate_callee (f := 114) rfl ?_); refine goesL_ (some 19) rfl rfl Tryz.func114 (by kernel_rfl) rfl #[.int .u8 (bt a0 (ji6)), .int .i64 2] rfl (by (try simp only [List.map_toArray, List.map_cons, List.map_nil]); first | done | (simp only [hji6]; rfl) | rfl | (simp only [List.length_drop, List.length_take]; rfl)) ?_; (with_reducible refine (spec_HasFeature.calls (bt a0 (ji6)) 2 true _ A10.out).mono ?_); rintro e w' ⟨rfl, ⟨nd, rfl⟩⟩; refine ⟨_, rfl, ?_⟩; have p14 : 0 ≤ (x4_1 : Int) := of_decide_eq_true asmT; have q14 : x4_1 < (a0.size : Int) := of_decide_eq_true asmT; have hx14 := bt_at a0 x4_1; replace p14 := eq_true p14; replace q14 := eq_true q14) | (go_at_call 115; (with_reducible refine (spec_IsObstruent.calls (bt a0 x4_1) true _ A15.out).mono ?_); rintro e w' ⟨rfl, ⟨nd, rfl⟩⟩; have p17 : 0 ≤ (x4_1 : Int) := of_decide_eq_true asmT; have q17 : x4_1 < (a0.size : Int) := of_decide_eq_true asmT; have hx17 := bt_at a0 x4_1; replace p17 := eq_true p17; replace q17 := eq_true q17) | (go_at_call 114; (with_reducible refine (spec_HasFeature.calls (bt a0 x4_1) 1 false _ A18.out).mono ?_); rintro e w' ⟨rfl, ⟨nd, rfl⟩⟩))
             go_roundg kj1
             case measure => have := HK1.out; have := HJ1.out; omega
             case rel => exact ⟨(wrap64 (x3_1 + 1)), (wrap64 (x4_1 + 1)), rdT, rdT, H', ⟨by have := HK1.out; have := HJ1.out; omega⟩, drT⟩
           ·replace c16 := Bool.eq_false_iff.mpr c16
            subst c16; rw [if_neg nF] at H; have H' := Aside0.mk H; clear H
            have p9 : 0 ≤ ((ji6) : Int) := of_decide_eq_true asmT
            have q9 : (ji6) < (a0.size : Int) := of_decide_eq_true asmT
            have hx9 := bt_at a0 (ji6); replace p9 := eq_true p9; replace q9 := eq_true q9
            go_wp2_with (first | ((with_reducible refine gate_callee (f := 114) rfl ?_); refine goesL_ (some 19) rfl rfl Tryz.func114 (by kernel_rfl) rfl #[.int .u8 (bt a0 (ji6)), .int .i64 2] rfl (by (try simp only [List.map_toArray, List.map_cons, List.map_nil]); first | done | (simp only [hji6]; rfl) | rfl | (simp only [List.length_drop, List.length_take]; rfl)) ?_; (with_reducible refine (spec_HasFeature.calls (bt a0 (ji6)) 2 true _ A10.out).mono ?_); rintro e w' ⟨rfl, ⟨nd, rfl⟩⟩; refine ⟨_, rfl, ?_⟩; have p14 : 0 ≤ (x4_1 : Int) := of_decide_eq_true asmT; have q14 : x4_1 < (a0.size : Int) := of_decide_eq_true asmT; have hx14 := bt_at a0 x4_1; replace p14 := eq_true p14; replace q14 := eq_true q14) | (go_at_call 115; (with_reducible refine (spec_IsObstruent.calls (bt a0 x4_1) false _ A15.out).mono ?_); rintro e w' ⟨rfl, ⟨nd, rfl⟩⟩))
            go_roundg kj1
            case measure => have := HK1.out; have := HJ1.out; omega
            case rel => exact ⟨(x3_1), (wrap64 (x4_1 + 1)), rdT, rdT, H', ⟨by have := HK1.out; have := HJ1.out; omega⟩, drT⟩
          ·rw [if_neg c13] at H
           exact absurd H (by simp)
         ·rw [if_neg c12] at H
          exact absurd H (by simp)
        ·replace c11 := Bool.eq_false_iff.mpr c11
         subst c11; rw [if_neg nF] at H; have H' := Aside0.mk H; clear H
         have p9 : 0 ≤ ((ji6) : Int) := of_decide_eq_true asmT
         have q9 : (ji6) < (a0.size : Int) := of_decide_eq_true asmT
         have hx9 := bt_at a0 (ji6); replace p9 := eq_true p9; replace q9 := eq_true q9
         go_wp2_with (first | ((with_reducible refine gate_callee (f := 114) rfl ?_); refine goesL_ (some 19) rfl rfl Tryz.func114 (by kernel_rfl) rfl #[.int .u8 (bt a0 (ji6)), .int .i64 2] rfl (by (try simp only [List.map_toArray, List.map_cons, List.map_nil]); first | done | (simp only [hji6]; rfl) | rfl | (simp only [List.length_drop, List.length_take]; rfl)) ?_; (with_reducible refine (spec_HasFeature.calls (bt a0 (ji6)) 2 false _ A10.out).mono ?_); rintro e w' ⟨rfl, ⟨nd, rfl⟩⟩; refine ⟨_, rfl, ?_⟩))
         go_roundg kj1
         case measure => have := HK1.out; have := HJ1.out; omega
         case rel => exact ⟨(x3_1), (wrap64 (x4_1 + 1)), rdT, rdT, H', ⟨by have := HK1.out; have := HJ1.out; omega⟩, drT⟩
       ·rw [if_neg c8] at H
        exact absurd H (by simp)
      ·rw [if_neg c7] at H
       exact absurd H (by simp)
     ·replace c5 := Bool.eq_false_iff.mpr c5
      subst c5; rw [if_neg nF] at H; have H1 := H; clear H; have H := H1; clear H1
      obtain rfl := Option.some.inj H
      go_wp2
      go_ret
      exact ⟨rdT, drT⟩

/-! ### spec_CountDeleted: function 90 -/
mutual
def spec_CountDeleted.l0 : Nat → Int → Int → List (S70) → Option (Int)
 | 0, _, _, _ => none
 | k + 1, x3, x4, x181000 => if x4 < (x181000.length : Int) then ((spec_IsCandidate.f k x181000).bind fun t181 => (spec_CountDeleted.j1 k x3 x4 t181 x181000)) else (spec_CountDeleted.j1 k x3 x4 false x181000)
def spec_CountDeleted.j1 : Nat → Int → Int → Bool → List (S70) → Option (Int)
 | 0, _, _, _, _ => none
 | k + 1, x3, x4, x13, x181000 => if x13 = true then (if 0 ≤ x4 then (if x4 < (x181000.length : Int) then (if ((rd_T70 x181000 x4).f1) = 0 then (spec_CountDeleted.l0 k (wrap64 (x3 + 1)) (wrap64 (x4 + 1)) x181000) else (spec_CountDeleted.l0 k x3 (wrap64 (x4 + 1)) x181000)) else (none)) else (none)) else (some x3)
end
def spec_CountDeleted.f (k : Nat) (l0_0 : List (S70)) : Option (Int) := spec_CountDeleted.l0 k 0 0 l0_0
theorem spec_CountDeleted.mono_l : ∀ k, (∀ y0 y1 y2, LeO (spec_CountDeleted.l0 k y0 y1 y2) (spec_CountDeleted.l0 (k + 1) y0 y1 y2)) ∧ (∀ y0 y1 y2 y3, LeO (spec_CountDeleted.j1 k y0 y1 y2 y3) (spec_CountDeleted.j1 (k + 1) y0 y1 y2 y3))
 | 0 => ⟨fun _ _ _ r h => by simp [spec_CountDeleted.l0] at h, fun _ _ _ _ r h => by simp [spec_CountDeleted.j1] at h⟩
 | k + 1 => by
  obtain ⟨ih0, ih1⟩ := spec_CountDeleted.mono_l k; refine ⟨?_, ?_⟩
  ·intro y0 y1 y2
   unfold spec_CountDeleted.l0
   with_reducible repeat' first | exact ih0 _ _ _ | exact ih1 _ _ _ _ | exact spec_IsCandidate.mono _ _ | exact LeO.refl _ | exact LeO.none _ | refine LeO.ite ?_ ?_ | refine LeO.bind ?_ (fun _ => ?_)
  ·intro y0 y1 y2 y3
   unfold spec_CountDeleted.j1
   with_reducible repeat' first | exact ih0 _ _ _ | exact ih1 _ _ _ _ | exact spec_IsCandidate.mono _ _ | exact LeO.refl _ | exact LeO.none _ | refine LeO.ite ?_ ?_ | refine LeO.bind ?_ (fun _ => ?_)
theorem spec_CountDeleted.mono : ∀ a0 k, LeO (spec_CountDeleted.f k a0) (spec_CountDeleted.f (k + 1) a0) := by
 intro a0 k
 obtain ⟨ih0, ih1⟩ := spec_CountDeleted.mono_l k
 unfold spec_CountDeleted.f
 with_reducible repeat' first | exact ih0 _ _ _ | exact ih1 _ _ _ _ | exact spec_IsCandidate.mono _ _ | exact LeO.refl _ | exact LeO.none _ | refine LeO.ite ?_ ?_ | refine LeO.bind ?_ (fun _ => ?_)
set_option maxHeartbeats 8000000 in
set_option maxRecDepth 100000 in
theorem spec_CountDeleted.calls (k : Nat) (A0_0 : Option Addr) (c0_0 : Nat) (l0_0 : List (S70)) (r : Int) (w : World) (hr0_0 : Kd.C k70 w A0_0 l0_0.length l0_0) (hc0_0 : l0_0.length ≤ c0_0) (h : spec_CountDeleted.f k l0_0 = some r) :
  Calls Tryz.prog 90 #[.agg #[.slice A0_0 l0_0.length c0_0]] w fun e w' => e = .returned (.int .i64 r) ∧ Below w.heap.size w w' := by
 have hu48 := Tryz.underlying48; have HR0_0 := Aside0.mk hr0_0; have HC0_0 := Aside0.mk hc0_0; clear hr0_0 hc0_0; have HB := asT (Below.refl w.heap.size w); have H := h; unfold spec_CountDeleted.f at H; clear h; have H' := Aside0.mk H; clear H
 go_enter Tryz.func90, Tryz.ntmps90
 go_wp2_with (first | ((with_reducible refine gate_dst (N := 1) rfl ?_); refine boxT (N := 1) (cs := #[.slice A0_0 l0_0.length c0_0]) (t := 48) ?_; intro gb180 hg w2 hbox hb; have BK180 := asT hbox; have GW180 := asT (geT hg HB.out); have GE180 := GW180; replace HB := hS HB hb; clear hb hbox hg))
 go_loopg [3, 4] k (fun kq v3 v4 w' => ∃ (x3_1 : Int) (x4_1 : Int), v3 = .int .i64 x3_1 ∧ v4 = .int .i64 x4_1 ∧ Aside0 (spec_CountDeleted.l0 kq x3_1 x4_1 l0_0 = some r) ∧ Aside0 (kq ≤ k) ∧ Aside0 (w'.heap[gb180]? = some (.cells #[(.slice A0_0 l0_0.length c0_0)] 48 (0, 0))) ∧ Aside0 (Below w.heap.size w w'))
 case atStart => exact ⟨(0), (0), rdT, rdT, H', ⟨Nat.le_refl _⟩, ⟨by (with_reducible repeat (first | refine blk_drewN ?_ _ | refine blk_drew ?_ | refine blk_alloc ?_ _)); exact BK180.out⟩, ⟨hbT HB.out⟩⟩
 case round =>
  clear H'; (try clear p2); obtain ⟨x3_1, x4_1, rfl, rfl, HA, HK1, BK180, HB⟩ := hrel
  cases gk with
  | zero => exact absurd HA.out (by simp [spec_CountDeleted.l0])
  | succ k1 =>
   have H := HA.out; clear HA
   simp only [spec_CountDeleted.l0] at H
   have HC3 := Aside0.mk H; clear H
   go_upto_region 3 with (fail)
   go_cut [13] (fun v13 wc => ∃ (kq : Nat) (x13_2 : Bool), v13 = .bool x13_2 ∧ Aside0 (spec_CountDeleted.j1 kq x3_1 x4_1 x13_2 l0_0 = some r) ∧ Aside0 (kq ≤ k1) ∧ Aside0 (wc.heap[gb180]? = some (.cells #[(.slice A0_0 l0_0.length c0_0)] 48 (0, 0))) ∧ Aside0 (Below w.heap.size w wc))
   case first =>
    have H := HC3.out; clear HC3
    by_cases c4 : x4_1 < (l0_0.length : Int)
    ·rw [if_pos c4] at H
     have c4b0 : decide (x4_1 < (l0_0.length : Int)) = true := decide_eq_true c4
     clear c4
     (first | rw [c4b0] | (simp only [i64_w, i32_w]; rw [c4b0]) | skip)
     obtain ⟨t181, A5, H⟩ := be H; have H' := Aside0.mk H; clear H
     have hcz6_0 := bc0 BK180.out
     have hfz6_0 := blk_frozen BK180.out 0
     go_wp2_with (first | (go_at_call 49; (with_reducible refine (spec_IsCandidate.calls k1 _ _ l0_0 t181 _ ?side1 ?side2 A5.out).mono ?_); (case side1 => exact crT HR0_0.out HB.out); (case side2 => exact HC0_0.out); rintro e w7 ⟨rfl, hb⟩; replace BK180 := bS BK180 hb; replace HB := hS HB hb; (try clear hb hb2 hk hi)))
     go_meet
     case rel => exact ⟨_, (t181), rdT, H', ⟨by have := HK1.out; first | omega | exact Nat.le_refl _⟩, ⟨by (with_reducible repeat (first | refine blk_drewN ?_ _ | refine blk_drew ?_ | refine blk_alloc ?_ _)); exact BK180.out⟩, ⟨hbT HB.out⟩⟩
    ·rw [if_neg c4] at H
     have c4b0 : decide (x4_1 < (l0_0.length : Int)) = false := decide_eq_false c4
     clear c4
     (first | rw [c4b0] | (simp only [i64_w, i32_w]; rw [c4b0]) | skip)
     have H' := Aside0.mk H; clear H
     have hcz8_0 := bc0 BK180.out
     have hfz8_0 := blk_frozen BK180.out 0
     go_wp2
     go_meet
     case rel => exact ⟨_, (false), rdT, H', ⟨by have := HK1.out; first | omega | exact Nat.le_refl _⟩, ⟨by (with_reducible repeat (first | refine blk_drewN ?_ _ | refine blk_drew ?_ | refine blk_alloc ?_ _)); exact BK180.out⟩, ⟨hbT HB.out⟩⟩
   case rest =>
    clear HC3; (try clear p2 c4 c4b0 hcz6_0 hcz8_0 hfz6_0 hfz8_0 p2); obtain ⟨kq, x13_2, rfl, HA, HJ2, BK180, HB⟩ := hcut
    cases kq with
    | zero => exact absurd HA.out (by simp [spec_CountDeleted.j1])
    | succ kj2 =>
     have H := HA.out; clear HA
     simp only [spec_CountDeleted.j1] at H
     by_cases c9 : x13_2 = true
     ·subst c9
      rw [if_pos rfl] at H; have H1 := H; clear H; have H := H1; clear H1
      by_cases c10 : 0 ≤ x4_1
      ·rw [if_pos c10] at H
       have c10b0 : decide (0 ≤ x4_1) = true := decide_eq_true c10
       clear c10
       by_cases c11 : x4_1 < (l0_0.length : Int)
       ·rw [if_pos c11] at H
        have c11b0 : decide (x4_1 < (l0_0.length : Int)) = true := decide_eq_true c11
        clear c11
        by_cases c12 : ((rd_T70 l0_0 x4_1).f1) = 0
        ·rw [if_pos c12] at H
         have c12b0 : (((rd_T70 l0_0 x4_1).f1) == 0) = true := beq_iff_eq.mpr c12
         have c12b1 : (((rd_T70 l0_0 x4_1).f1) != 0) = false := bne_eq_false_iff_eq.mpr c12
         clear c12; have H' := Aside0.mk H; clear H
         have hcz13_0 := bc0 BK180.out
         have hfz13_0 := blk_frozen BK180.out 0
         have p182 : 0 ≤ (x4_1 : Int) := of_decide_eq_true asmT
         have q182 : x4_1 < (l0_0.length : Int) := of_decide_eq_true asmT
         obtain ⟨ad182, e182, hx182_0, hx182_1⟩ := at_T70 HR0_0.out x4_1 p182 q182
         cases e182
         replace hx182_0 := hbc HB.out hx182_0; replace hx182_1 := hbc HB.out hx182_1; replace p182 := eq_true p182; replace q182 := eq_true q182
         go_wp2
         go_roundg kj2
         case measure => have := HK1.out; have := HJ2.out; omega
         case rel => exact ⟨(wrap64 (x3_1 + 1)), (wrap64 (x4_1 + 1)), rdT, rdT, H', ⟨by have := HK1.out; have := HJ2.out; omega⟩, ⟨by (with_reducible repeat (first | refine blk_drewN ?_ _ | refine blk_drew ?_ | refine blk_alloc ?_ _)); exact BK180.out⟩, ⟨hbT HB.out⟩⟩
        ·rw [if_neg c12] at H
         have c12b0 : (((rd_T70 l0_0 x4_1).f1) == 0) = false := beq_eq_false_iff_ne.mpr c12
         have c12b1 : (((rd_T70 l0_0 x4_1).f1) != 0) = true := bne_iff_ne.mpr c12
         have H' := Aside0.mk H; clear H
         have hcz14_0 := bc0 BK180.out
         have hfz14_0 := blk_frozen BK180.out 0
         have p182 : 0 ≤ (x4_1 : Int) := of_decide_eq_true asmT
         have q182 : x4_1 < (l0_0.length : Int) := of_decide_eq_true asmT
         obtain ⟨ad182, e182, hx182_0, hx182_1⟩ := at_T70 HR0_0.out x4_1 p182 q182
         cases e182
         replace hx182_0 := hbc HB.out hx182_0; replace hx182_1 := hbc HB.out hx182_1; replace p182 := eq_true p182; replace q182 := eq_true q182
         go_wp2
         go_roundg kj2
         case measure => have := HK1.out; have := HJ2.out; omega
         case rel => exact ⟨(x3_1), (wrap64 (x4_1 + 1)), rdT, rdT, H', ⟨by have := HK1.out; have := HJ2.out; omega⟩, ⟨by (with_reducible repeat (first | refine blk_drewN ?_ _ | refine blk_drew ?_ | refine blk_alloc ?_ _)); exact BK180.out⟩, ⟨hbT HB.out⟩⟩
       ·rw [if_neg c11] at H
        exact absurd H (by simp)
      ·rw [if_neg c10] at H
       exact absurd H (by simp)
     ·replace c9 := Bool.eq_false_iff.mpr c9
      subst c9; rw [if_neg nF] at H; have H1 := H; clear H; have H := H1; clear H1
      obtain rfl := Option.some.inj H
      go_wp2
      go_ret
      exact ⟨rlT, hbT HB.out⟩

/-! ### spec_CountInserted: function 91 -/
mutual
def spec_CountInserted.l0 : Nat → Int → Int → List (S70) → Option (Int)
 | 0, _, _, _ => none
 | k + 1, x3, x4, x184000 => if x4 < (x184000.length : Int) then ((spec_IsCandidate.f k x184000).bind fun t184 => (spec_CountInserted.j1 k x3 x4 t184 x184000)) else (spec_CountInserted.j1 k x3 x4 false x184000)
def spec_CountInserted.j1 : Nat → Int → Int → Bool → List (S70) → Option (Int)
 | 0, _, _, _, _ => none
 | k + 1, x3, x4, x13, x184000 => if x13 = true then (if 0 ≤ x4 then (if x4 < (x184000.length : Int) then (if ((rd_T70 x184000 x4).f0) = 0 then (spec_CountInserted.l0 k (wrap64 (x3 + 1)) (wrap64 (x4 + 1)) x184000) else (spec_CountInserted.l0 k x3 (wrap64 (x4 + 1)) x184000)) else (none)) else (none)) else (some x3)
end
def spec_CountInserted.f (k : Nat) (l0_0 : List (S70)) : Option (Int) := spec_CountInserted.l0 k 0 0 l0_0
theorem spec_CountInserted.mono_l : ∀ k, (∀ y0 y1 y2, LeO (spec_CountInserted.l0 k y0 y1 y2) (spec_CountInserted.l0 (k + 1) y0 y1 y2)) ∧ (∀ y0 y1 y2 y3, LeO (spec_CountInserted.j1 k y0 y1 y2 y3) (spec_CountInserted.j1 (k + 1) y0 y1 y2 y3))
 | 0 => ⟨fun _ _ _ r h => by simp [spec_CountInserted.l0] at h, fun _ _ _ _ r h => by simp [spec_CountInserted.j1] at h⟩
 | k + 1 => by
  obtain ⟨ih0, ih1⟩ := spec_CountInserted.mono_l k; refine ⟨?_, ?_⟩
  ·intro y0 y1 y2
   unfold spec_CountInserted.l0
   with_reducible repeat' first | exact ih0 _ _ _ | exact ih1 _ _ _ _ | exact spec_IsCandidate.mono _ _ | exact LeO.refl _ | exact LeO.none _ | refine LeO.ite ?_ ?_ | refine LeO.bind ?_ (fun _ => ?_)
  ·intro y0 y1 y2 y3
   unfold spec_CountInserted.j1
   with_reducible repeat' first | exact ih0 _ _ _ | exact ih1 _ _ _ _ | exact spec_IsCandidate.mono _ _ | exact LeO.refl _ | exact LeO.none _ | refine LeO.ite ?_ ?_ | refine LeO.bind ?_ (fun _ => ?_)
theorem spec_CountInserted.mono : ∀ a0 k, LeO (spec_CountInserted.f k a0) (spec_CountInserted.f (k + 1) a0) := by
 intro a0 k
 obtain ⟨ih0, ih1⟩ := spec_CountInserted.mono_l k
 unfold spec_CountInserted.f
 with_reducible repeat' first | exact ih0 _ _ _ | exact ih1 _ _ _ _ | exact spec_IsCandidate.mono _ _ | exact LeO.refl _ | exact LeO.none _ | refine LeO.ite ?_ ?_ | refine LeO.bind ?_ (fun _ => ?_)
set_option maxHeartbeats 8000000 in
set_option maxRecDepth 100000 in
theorem spec_CountInserted.calls (k : Nat) (A0_0 : Option Addr) (c0_0 : Nat) (l0_0 : List (S70)) (r : Int) (w : World) (hr0_0 : Kd.C k70 w A0_0 l0_0.length l0_0) (hc0_0 : l0_0.length ≤ c0_0) (h : spec_CountInserted.f k l0_0 = some r) :
  Calls Tryz.prog 91 #[.agg #[.slice A0_0 l0_0.length c0_0]] w fun e w' => e = .returned (.int .i64 r) ∧ Below w.heap.size w w' := by
 have hu48 := Tryz.underlying48; have HR0_0 := Aside0.mk hr0_0; have HC0_0 := Aside0.mk hc0_0; clear hr0_0 hc0_0; have HB := asT (Below.refl w.heap.size w); have H := h; unfold spec_CountInserted.f at H; clear h; have H' := Aside0.mk H; clear H
 go_enter Tryz.func91, Tryz.ntmps91
 go_wp2_with (first | ((with_reducible refine gate_dst (N := 1) rfl ?_); refine boxT (N := 1) (cs := #[.slice A0_0 l0_0.length c0_0]) (t := 48) ?_; intro gb183 hg w2 hbox hb; have BK183 := asT hbox; have GW183 := asT (geT hg HB.out); have GE183 := GW183; replace HB := hS HB hb; clear hb hbox hg))
 go_loopg [3, 4] k (fun kq v3 v4 w' => ∃ (x3_1 : Int) (x4_1 : Int), v3 = .int .i64 x3_1 ∧ v4 = .int .i64 x4_1 ∧ Aside0 (spec_CountInserted.l0 kq x3_1 x4_1 l0_0 = some r) ∧ Aside0 (kq ≤ k) ∧ Aside0 (w'.heap[gb183]? = some (.cells #[(.slice A0_0 l0_0.length c0_0)] 48 (0, 0))) ∧ Aside0 (Below w.heap.size w w'))
 case atStart => exact ⟨(0), (0), rdT, rdT, H', ⟨Nat.le_refl _⟩, ⟨by (with_reducible repeat (first | refine blk_drewN ?_ _ | refine blk_drew ?_ | refine blk_alloc ?_ _)); exact BK183.out⟩, ⟨hbT HB.out⟩⟩
 case round =>
  clear H'; (try clear p2); obtain ⟨x3_1, x4_1, rfl, rfl, HA, HK1, BK183, HB⟩ := hrel
  cases gk with
  | zero => exact absurd HA.out (by simp [spec_CountInserted.l0])
  | succ k1 =>
   have H := HA.out; clear HA
   simp only [spec_CountInserted.l0] at H
   have HC3 := Aside0.mk H; clear H
   go_upto_region 3 with (fail)
   go_cut [13] (fun v13 wc => ∃ (kq : Nat) (x13_2 : Bool), v13 = .bool x13_2 ∧ Aside0 (spec_CountInserted.j1 kq x3_1 x4_1 x13_2 l0_0 = some r) ∧ Aside0 (kq ≤ k1) ∧ Aside0 (wc.heap[gb183]? = some (.cells #[(.slice A0_0 l0_0.length c0_0)] 48 (0, 0))) ∧ Aside0 (Below w.heap.size w wc))
   case first =>
    have H := HC3.out; clear HC3
    by_cases c4 : x4_1 < (l0_0.length : Int)
    ·rw [if_pos c4] at H
     have c4b0 : decide (x4_1 < (l0_0.length : Int)) = true := decide_eq_true c4
     clear c4
     (first | rw [c4b0] | (simp only [i64_w, i32_w]; rw [c4b0]) | skip)
     obtain ⟨t184, A5, H⟩ := be H; have H' := Aside0.mk H; clear H
     have hcz6_0 := bc0 BK183.out
     have hfz6_0 := blk_frozen BK183.out 0
     go_wp2_with (first | (go_at_call 49; (with_reducible refine (spec_IsCandidate.calls k1 _ _ l0_0 t184 _ ?side1 ?side2 A5.out).mono ?_); (case side1 => exact crT HR0_0.out HB.out); (case side2 => exact HC0_0.out); rintro e w7 ⟨rfl, hb⟩; replace BK183 := bS BK183 hb; replace HB := hS HB hb; (try clear hb hb2 hk hi)))
     go_meet
     case rel => exact ⟨_, (t184), rdT, H', ⟨by have := HK1.out; first | omega | exact Nat.le_refl _⟩, ⟨by (with_reducible repeat (first | refine blk_drewN ?_ _ | refine blk_drew ?_ | refine blk_alloc ?_ _)); exact BK183.out⟩, ⟨hbT HB.out⟩⟩
    ·rw [if_neg c4] at H
     have c4b0 : decide (x4_1 < (l0_0.length : Int)) = false := decide_eq_false c4
     clear c4
     (first | rw [c4b0] | (simp only [i64_w, i32_w]; rw [c4b0]) | skip)
     have H' := Aside0.mk H; clear H
     have hcz8_0 := bc0 BK183.out
     have hfz8_0 := blk_frozen BK183.out 0
     go_wp2
     go_meet
     case rel => exact ⟨_, (false), rdT, H', ⟨by have := HK1.out; first | omega | exact Nat.le_refl _⟩, ⟨by (with_reducible repeat (first | refine blk_drewN ?_ _ | refine blk_drew ?_ | refine blk_alloc ?_ _)); exact BK183.out⟩, ⟨hbT HB.out⟩⟩
   case rest =>
    clear HC3; (try clear p2 c4 c4b0 hcz6_0 hcz8_0 hfz6_0 hfz8_0 p2); obtain ⟨kq, x13_2, rfl, HA, HJ2, BK183, HB⟩ := hcut
    cases kq with
    | zero => exact absurd HA.out (by simp [spec_CountInserted.j1])
    | succ kj2 =>
     have H := HA.out; clear HA
     simp only [spec_CountInserted.j1] at H
     by_cases c9 : x13_2 = true
     ·subst c9
      rw [if_pos rfl] at H; have H1 := H; clear H; have H := H1; clear H1
      by_cases c10 : 0 ≤ x4_1
      ·rw [if_pos c10] at H
       have c10b0 : decide (0 ≤ x4_1) = true := decide_eq_true c10
       clear c10
       by_cases c11 : x4_1 < (l0_0.length : Int)
       ·rw [if_pos c11] at H
        have c11b0 : decide (x4_1 < (l0_0.length : Int)) = true := decide_eq_true c11
        clear c11
        by_cases c12 : ((rd_T70 l0_0 x4_1).f0) = 0
        ·rw [if_pos c12] at H
         have c12b0 : (((rd_T70 l0_0 x4_1).f0) == 0) = true := beq_iff_eq.mpr c12
         have c12b1 : (((rd_T70 l0_0 x4_1).f0) != 0) = false := bne_eq_false_iff_eq.mpr c12
         clear c12; have H' := Aside0.mk H; clear H
         have hcz13_0 := bc0 BK183.out
         have hfz13_0 := blk_frozen BK183.out 0
         have p185 : 0 ≤ (x4_1 : Int) := of_decide_eq_true asmT
         have q185 : x4_1 < (l0_0.length : Int) := of_decide_eq_true asmT
         obtain ⟨ad185, e185, hx185_0, hx185_1⟩ := at_T70 HR0_0.out x4_1 p185 q185
         cases e185
         replace hx185_0 := hbc HB.out hx185_0; replace hx185_1 := hbc HB.out hx185_1; replace p185 := eq_true p185; replace q185 := eq_true q185
         go_wp2
         go_roundg kj2
         case measure => have := HK1.out; have := HJ2.out; omega
         case rel => exact ⟨(wrap64 (x3_1 + 1)), (wrap64 (x4_1 + 1)), rdT, rdT, H', ⟨by have := HK1.out; have := HJ2.out; omega⟩, ⟨by (with_reducible repeat (first | refine blk_drewN ?_ _ | refine blk_drew ?_ | refine blk_alloc ?_ _)); exact BK183.out⟩, ⟨hbT HB.out⟩⟩
        ·rw [if_neg c12] at H
         have c12b0 : (((rd_T70 l0_0 x4_1).f0) == 0) = false := beq_eq_false_iff_ne.mpr c12
         have c12b1 : (((rd_T70 l0_0 x4_1).f0) != 0) = true := bne_iff_ne.mpr c12
         have H' := Aside0.mk H; clear H
         have hcz14_0 := bc0 BK183.out
         have hfz14_0 := blk_frozen BK183.out 0
         have p185 : 0 ≤ (x4_1 : Int) := of_decide_eq_true asmT
         have q185 : x4_1 < (l0_0.length : Int) := of_decide_eq_true asmT
         obtain ⟨ad185, e185, hx185_0, hx185_1⟩ := at_T70 HR0_0.out x4_1 p185 q185
         cases e185
         replace hx185_0 := hbc HB.out hx185_0; replace hx185_1 := hbc HB.out hx185_1; replace p185 := eq_true p185; replace q185 := eq_true q185
         go_wp2
         go_roundg kj2
         case measure => have := HK1.out; have := HJ2.out; omega
         case rel => exact ⟨(x3_1), (wrap64 (x4_1 + 1)), rdT, rdT, H', ⟨by have := HK1.out; have := HJ2.out; omega⟩, ⟨by (with_reducible repeat (first | refine blk_drewN ?_ _ | refine blk_drew ?_ | refine blk_alloc ?_ _)); exact BK183.out⟩, ⟨hbT HB.out⟩⟩
       ·rw [if_neg c11] at H
        exact absurd H (by simp)
      ·rw [if_neg c10] at H
       exact absurd H (by simp)
     ·replace c9 := Bool.eq_false_iff.mpr c9
      subst c9; rw [if_neg nF] at H; have H1 := H; clear H; have H := H1; clear H1
      obtain rfl := Option.some.inj H
      go_wp2
      go_ret
      exact ⟨rlT, hbT HB.out⟩

end Go.Proofs.YtmfhaplhgaehhaaGreat.PFnExactRowWith
