-- Made by gen.py (a program of this session) out of the translation; Lean checks it.
import Derived.Test.YtdamagcfmhimfadGreatPFnExactIsTableaux0
import Derived.Test.YtdamagcfmhimfadGreatPFnExactIsTableaux1
import Derived.Test.YtdamagcfmhimfadGreatPFnExactIsTableaux7
import Derived.Test.YtdamagcfmhimfadGreatPFnExactIsTableaux8
import Derived.Test.YtdamagcfmhimfadGreatPFnExactIsTableaux12
import Derived.Test.YtdamagcfmhimfadGreatPFnExactIsTableaux13
namespace Go.Proofs.YtdamagcfmhimfadGreat.PFnExactIsTableau
open Go.RowKit Go.Proofs.YtdamagcfmhimfadGreatB Go.Proofs.YtdamagcfmhimfadGreatW.PrintWords Go.Proofs.YtdamagcfmhimfadGreatW.PrintLast Go.Proofs.YtdamagcfmhimfadGreatW.PrintMore
attribute [local go_sem] max2_int min2_int max_two min_two max_three min_three max_four min_four   -- for this text's walks alone
set_option linter.unusedVariables false
set_option linter.unusedSimpArgs false

/-! ### laws_eqIntS: function 25 -/
def laws_eqIntS.l0 : Nat → List Int → List Int → Int → Option (Bool)
 | 0, _, _, _ => none
 | k + 1, x0, x1, x5 => if x5 < (x0.length : Int) then (if 0 ≤ x5 then (if x5 < (x1.length : Int) then (if (rd x0 x5) = (rd x1 x5) then (laws_eqIntS.l0 k x0 x1 (wrap64 (x5 + 1))) else (some false)) else (none)) else (none)) else (some true)
def laws_eqIntS.f (k : Nat) (l0 : List Int) (l1 : List Int) : Option (Bool) := if (l0.length : Int) = (l1.length : Int) then (laws_eqIntS.l0 k l0 l1 0) else (some false)
theorem laws_eqIntS.mono_l : ∀ k, (∀ y0 y1 y2, LeO (laws_eqIntS.l0 k y0 y1 y2) (laws_eqIntS.l0 (k + 1) y0 y1 y2))
 | 0 => fun _ _ _ r h => by simp [laws_eqIntS.l0] at h
 | k + 1 => by
  have ih0 := laws_eqIntS.mono_l k
  ·intro y0 y1 y2
   unfold laws_eqIntS.l0
   repeat' first
   | (with_reducible exact ih0 _ _ _)
   | (with_reducible exact LeO.refl _)
   | (with_reducible exact LeO.none _)
   | (with_reducible refine LeO.ite ?_ ?_)
   | (with_reducible refine LeO.bind ?_ (fun _ => ?_))
   | exact ih0 _ _ _
   | exact LeO.none _
   | refine LeO.ite ?_ ?_
   | refine LeO.bind ?_ (fun _ => ?_)
theorem laws_eqIntS.mono : ∀ a0 a1 k, LeO (laws_eqIntS.f k a0 a1) (laws_eqIntS.f (k + 1) a0 a1) := by
 intro a0 a1 k
 have ih0 := laws_eqIntS.mono_l k
 unfold laws_eqIntS.f
 repeat' first
   | (with_reducible exact ih0 _ _ _)
   | (with_reducible exact LeO.refl _)
   | (with_reducible exact LeO.none _)
   | (with_reducible refine LeO.ite ?_ ?_)
   | (with_reducible refine LeO.bind ?_ (fun _ => ?_))
   | exact ih0 _ _ _
   | exact LeO.none _
   | refine LeO.ite ?_ ?_
   | refine LeO.bind ?_ (fun _ => ?_)
set_option maxHeartbeats 8000000 in
set_option maxRecDepth 100000 in
theorem laws_eqIntS.calls (k : Nat) (A0 : Option Addr) (c0 : Nat) (l0 : List Int) (A1 : Option Addr) (c1 : Nat) (l1 : List Int) (r : Bool) (w : World) (hr0 : Kd.C (Kd.int .i64) w A0 l0.length l0) (hc0 : l0.length ≤ c0) (hr1 : Kd.C (Kd.int .i64) w A1 l1.length l1) (hc1 : l1.length ≤ c1) (h : laws_eqIntS.f k l0 l1 = some r) :
  Calls Tryz.prog 25 #[.slice A0 l0.length c0, .slice A1 l1.length c1] w fun e w' => e = .returned (.bool r) ∧ Drawn0 w w' := by
 have HR0 := Aside0.mk hr0; have HC0 := Aside0.mk hc0; clear hr0 hc0; have HR1 := Aside0.mk hr1; have HC1 := Aside0.mk hc1; clear hr1 hc1; have H := h; unfold laws_eqIntS.f at H; clear h
 by_cases c3 : (l0.length : Int) = (l1.length : Int)
 ·rw [if_pos c3] at H
  have c3b0 : ((l0.length : Int) == (l1.length : Int)) = true := beq_iff_eq.mpr c3
  have c3b1 : ((l0.length : Int) != (l1.length : Int)) = false := bne_eq_false_iff_eq.mpr c3
  have c3b2 : (l0.length == l1.length) = true := by first | simpa using c3 | (simp at c3 ⊢; omega)
  clear c3; have H' := Aside0.mk H; clear H
  go_enter Tryz.func25, Tryz.ntmps25
  go_wp2
  repeat (go_quiet (fail); try go_wp2)
  go_loopg [5] k (fun kq v5 w' => ∃ (x5_1 : Int), v5 = .int .i64 x5_1 ∧ Aside0 (laws_eqIntS.l0 kq l0 l1 x5_1 = some r) ∧ Aside0 (kq ≤ k) ∧ Drawn0 w w')
  case atStart => exact ⟨(0), rdT, H', ⟨Nat.le_refl _⟩, drT⟩
  case round =>
   clear H'; (try clear c1); (try clear c2); (try clear p2); (try clear c3); (try clear c3b0); (try clear c3b1); (try clear c3b2); obtain ⟨x5_1, rfl, HA, HK1, ⟨m1, rfl⟩⟩ := hrel
   cases gk with
   | zero => exact absurd HA.out (by simp [laws_eqIntS.l0])
   | succ k1 =>
    have H := HA.out; clear HA
    simp only [laws_eqIntS.l0] at H
    by_cases c4 : x5_1 < (l0.length : Int)
    ·rw [if_pos c4] at H
     have c4b0 : decide (x5_1 < (l0.length : Int)) = true := decide_eq_true c4
     clear c4
     by_cases c5 : 0 ≤ x5_1
     ·rw [if_pos c5] at H
      have c5b0 : decide (0 ≤ x5_1) = true := decide_eq_true c5
      clear c5
      by_cases c6 : x5_1 < (l1.length : Int)
      ·rw [if_pos c6] at H
       have c6b0 : decide (x5_1 < (l1.length : Int)) = true := decide_eq_true c6
       clear c6
       by_cases c7 : (rd l0 x5_1) = (rd l1 x5_1)
       ·rw [if_pos c7] at H
        have c7b0 : ((rd l0 x5_1) == (rd l1 x5_1)) = true := beq_iff_eq.mpr c7
        have c7b1 : ((rd l0 x5_1) != (rd l1 x5_1)) = false := bne_eq_false_iff_eq.mpr c7
        clear c7; have H' := Aside0.mk H; clear H
        have p466 : 0 ≤ (x5_1 : Int) := of_decide_eq_true asmT
        have q466 : x5_1 < (l0.length : Int) := of_decide_eq_true asmT
        obtain ⟨ad466, e466, hx466_0⟩ := Kd.at_int HR0.out x5_1 p466 q466
        cases e466
        replace p466 := eq_true p466; replace q466 := eq_true q466
        have p467 : 0 ≤ (x5_1 : Int) := of_decide_eq_true asmT
        have q467 : x5_1 < (l1.length : Int) := of_decide_eq_true asmT
        obtain ⟨ad467, e467, hx467_0⟩ := Kd.at_int HR1.out x5_1 p467 q467
        cases e467
        replace p467 := eq_true p467; replace q467 := eq_true q467
        go_wp2
        repeat (go_quiet (fail); try go_wp2)
        go_roundg k1
        case measure => have := HK1.out; omega
        case rel => exact ⟨(wrap64 (x5_1 + 1)), rdT, H', ⟨by have := HK1.out; omega⟩, drT⟩
       ·rw [if_neg c7] at H
        have c7b0 : ((rd l0 x5_1) == (rd l1 x5_1)) = false := beq_eq_false_iff_ne.mpr c7
        have c7b1 : ((rd l0 x5_1) != (rd l1 x5_1)) = true := bne_iff_ne.mpr c7
        obtain rfl := Option.some.inj H
        have p466 : 0 ≤ (x5_1 : Int) := of_decide_eq_true asmT
        have q466 : x5_1 < (l0.length : Int) := of_decide_eq_true asmT
        obtain ⟨ad466, e466, hx466_0⟩ := Kd.at_int HR0.out x5_1 p466 q466
        cases e466
        replace p466 := eq_true p466; replace q466 := eq_true q466
        have p467 : 0 ≤ (x5_1 : Int) := of_decide_eq_true asmT
        have q467 : x5_1 < (l1.length : Int) := of_decide_eq_true asmT
        obtain ⟨ad467, e467, hx467_0⟩ := Kd.at_int HR1.out x5_1 p467 q467
        cases e467
        replace p467 := eq_true p467; replace q467 := eq_true q467
        go_wp2
        repeat (go_quiet (fail); try go_wp2)
        go_ret
        exact ⟨rdT, drT⟩
      ·rw [if_neg c6] at H
       exact absurd H (by simp)
     ·rw [if_neg c5] at H
      exact absurd H (by simp)
    ·rw [if_neg c4] at H
     have c4b0 : decide (x5_1 < (l0.length : Int)) = false := decide_eq_false c4
     clear c4
     obtain rfl := Option.some.inj H
     go_wp2
     repeat (go_quiet (fail); try go_wp2)
     go_ret
     exact ⟨rdT, drT⟩
 ·rw [if_neg c3] at H
  have c3b0 : ((l0.length : Int) == (l1.length : Int)) = false := beq_eq_false_iff_ne.mpr c3
  have c3b1 : ((l0.length : Int) != (l1.length : Int)) = true := bne_iff_ne.mpr c3
  have c3b2 : (l0.length == l1.length) = false := by first | simpa using c3 | (simp at c3 ⊢; omega)
  obtain rfl := Option.some.inj H
  go_enter Tryz.func25, Tryz.ntmps25
  go_wp2
  repeat (go_quiet (fail); try go_wp2)
  go_ret
  exact ⟨rdT, drT⟩

/-! ### laws_eqIntSS: function 52 -/
def laws_eqIntSS.l0 : Nat → List (List Int) → List (List Int) → Int → Option (Bool)
 | 0, _, _, _ => none
 | k + 1, x0, x1, x5 => if x5 < (x0.length : Int) then (if 0 ≤ x5 then (if x5 < (x1.length : Int) then ((laws_eqIntS.f k (rd_L6 x0 x5) (rd_L6 x1 x5)).bind fun t470 => (if t470 = true then (laws_eqIntSS.l0 k x0 x1 (wrap64 (x5 + 1))) else (some false))) else (none)) else (none)) else (some true)
def laws_eqIntSS.f (k : Nat) (l0 : List (List Int)) (l1 : List (List Int)) : Option (Bool) := if (l0.length : Int) = (l1.length : Int) then (laws_eqIntSS.l0 k l0 l1 0) else (some false)
theorem laws_eqIntSS.mono_l : ∀ k, (∀ y0 y1 y2, LeO (laws_eqIntSS.l0 k y0 y1 y2) (laws_eqIntSS.l0 (k + 1) y0 y1 y2))
 | 0 => fun _ _ _ r h => by simp [laws_eqIntSS.l0] at h
 | k + 1 => by
  have ih0 := laws_eqIntSS.mono_l k
  ·intro y0 y1 y2
   unfold laws_eqIntSS.l0
   repeat' first
   | (with_reducible exact ih0 _ _ _)
   | (with_reducible exact laws_eqIntS.mono _ _ _)
   | (with_reducible exact LeO.refl _)
   | (with_reducible exact LeO.none _)
   | (with_reducible refine LeO.ite ?_ ?_)
   | (with_reducible refine LeO.bind ?_ (fun _ => ?_))
   | exact ih0 _ _ _
   | exact laws_eqIntS.mono _ _ _
   | exact LeO.none _
   | refine LeO.ite ?_ ?_
   | refine LeO.bind ?_ (fun _ => ?_)
theorem laws_eqIntSS.mono : ∀ a0 a1 k, LeO (laws_eqIntSS.f k a0 a1) (laws_eqIntSS.f (k + 1) a0 a1) := by
 intro a0 a1 k
 have ih0 := laws_eqIntSS.mono_l k
 unfold laws_eqIntSS.f
 repeat' first
   | (with_reducible exact ih0 _ _ _)
   | (with_reducible exact laws_eqIntS.mono _ _ _)
   | (with_reducible exact LeO.refl _)
   | (with_reducible exact LeO.none _)
   | (with_reducible refine LeO.ite ?_ ?_)
   | (with_reducible refine LeO.bind ?_ (fun _ => ?_))
   | exact ih0 _ _ _
   | exact laws_eqIntS.mono _ _ _
   | exact LeO.none _
   | refine LeO.ite ?_ ?_
   | refine LeO.bind ?_ (fun _ => ?_)
set_option maxHeartbeats 8000000 in
set_option maxRecDepth 100000 in
theorem laws_eqIntSS.calls (k : Nat) (A0 : Option Addr) (c0 : Nat) (l0 : List (List Int)) (A1 : Option Addr) (c1 : Nat) (l1 : List (List Int)) (r : Bool) (w : World) (hr0 : Kd.C (Kd.slice 3 (Kd.int .i64)) w A0 l0.length l0) (hc0 : l0.length ≤ c0) (hr1 : Kd.C (Kd.slice 3 (Kd.int .i64)) w A1 l1.length l1) (hc1 : l1.length ≤ c1) (h : laws_eqIntSS.f k l0 l1 = some r) :
  Calls Tryz.prog 52 #[.slice A0 l0.length c0, .slice A1 l1.length c1] w fun e w' => e = .returned (.bool r) ∧ Drawn0 w w' := by
 have HR0 := Aside0.mk hr0; have HC0 := Aside0.mk hc0; clear hr0 hc0; have HR1 := Aside0.mk hr1; have HC1 := Aside0.mk hc1; clear hr1 hc1; have H := h; unfold laws_eqIntSS.f at H; clear h
 by_cases c3 : (l0.length : Int) = (l1.length : Int)
 ·rw [if_pos c3] at H
  have c3b0 : ((l0.length : Int) == (l1.length : Int)) = true := beq_iff_eq.mpr c3
  have c3b1 : ((l0.length : Int) != (l1.length : Int)) = false := bne_eq_false_iff_eq.mpr c3
  have c3b2 : (l0.length == l1.length) = true := by first | simpa using c3 | (simp at c3 ⊢; omega)
  clear c3; have H' := Aside0.mk H; clear H
  go_enter Tryz.func52, Tryz.ntmps52
  go_wp2
  repeat (go_quiet (fail); try go_wp2)
  go_loopg [5] k (fun kq v5 w' => ∃ (x5_1 : Int), v5 = .int .i64 x5_1 ∧ Aside0 (laws_eqIntSS.l0 kq l0 l1 x5_1 = some r) ∧ Aside0 (kq ≤ k) ∧ Drawn0 w w')
  case atStart => exact ⟨(0), rdT, H', ⟨Nat.le_refl _⟩, drT⟩
  case round =>
   clear H'; (try clear c1); (try clear p2); (try clear c3); (try clear c3b0); (try clear c3b1); (try clear c3b2); obtain ⟨x5_1, rfl, HA, HK1, ⟨m1, rfl⟩⟩ := hrel
   cases gk with
   | zero => exact absurd HA.out (by simp [laws_eqIntSS.l0])
   | succ k1 =>
    have H := HA.out; clear HA
    simp only [laws_eqIntSS.l0] at H
    by_cases c4 : x5_1 < (l0.length : Int)
    ·rw [if_pos c4] at H
     have c4b0 : decide (x5_1 < (l0.length : Int)) = true := decide_eq_true c4
     clear c4
     by_cases c5 : 0 ≤ x5_1
     ·rw [if_pos c5] at H
      have c5b0 : decide (0 ≤ x5_1) = true := decide_eq_true c5
      clear c5
      by_cases c6 : x5_1 < (l1.length : Int)
      ·rw [if_pos c6] at H
       have c6b0 : decide (x5_1 < (l1.length : Int)) = true := decide_eq_true c6
       clear c6; replace H := Option.bind_eq_some_iff.mp H; obtain ⟨t470, A70, H⟩ := H; have A7 := Aside0.mk A70; clear A70
       by_cases c8 : t470 = true
       ·subst c8
        rw [if_pos rfl] at H; have H1 := H; clear H; have H := H1; clear H1; have H' := Aside0.mk H; clear H
        have p468 : 0 ≤ (x5_1 : Int) := of_decide_eq_true asmT
        have q468 : x5_1 < (l0.length : Int) := of_decide_eq_true asmT
        obtain ⟨ad468, A468_0, c468_0, e468, hx468_0, hl468_0, hi468_0⟩ := at_L6 HR0.out x5_1 p468 q468
        cases e468
        have HR468_0 := Aside0.mk hi468_0; have HC468_0 := Aside0.mk hl468_0; clear hi468_0 hl468_0; replace p468 := eq_true p468; replace q468 := eq_true q468
        have p469 : 0 ≤ (x5_1 : Int) := of_decide_eq_true asmT
        have q469 : x5_1 < (l1.length : Int) := of_decide_eq_true asmT
        obtain ⟨ad469, A469_0, c469_0, e469, hx469_0, hl469_0, hi469_0⟩ := at_L6 HR1.out x5_1 p469 q469
        cases e469
        have HR469_0 := Aside0.mk hi469_0; have HC469_0 := Aside0.mk hl469_0; clear hi469_0 hl469_0; replace p469 := eq_true p469; replace q469 := eq_true q469
        go_wp2_with (first | (go_at_call 25; (with_reducible refine (laws_eqIntS.calls k1 _ _ (rd_L6 l0 x5_1) _ _ (rd_L6 l1 x5_1) true _ ?side1 ?side2 ?side3 ?side4 A7.out).mono ?_); (case side1 => repeat (first | exact HR468_0.out | (with_reducible refine Kd.C_alloc ?_ _) | (with_reducible refine Kd.C_drewN ?_ _) | (with_reducible refine Kd.C_drew ?_))); (case side2 => exact HC468_0.out); (case side3 => repeat (first | exact HR469_0.out | (with_reducible refine Kd.C_alloc ?_ _) | (with_reducible refine Kd.C_drewN ?_ _) | (with_reducible refine Kd.C_drew ?_))); (case side4 => exact HC469_0.out); rintro e w' ⟨rfl, ⟨nd, rfl⟩⟩; (try first | exact ⟨rfl, _, World.drewN_drewN _ _ _⟩ | exact ⟨rfl, _, Eq.trans (World.drewN_drewN _ _ _) (congrArg (World.drewN _) (Nat.add_assoc _ _ _))⟩)))
        repeat (go_quiet (first | (go_at_call 25; (with_reducible refine (laws_eqIntS.calls k1 _ _ (rd_L6 l0 x5_1) _ _ (rd_L6 l1 x5_1) true _ ?side1 ?side2 ?side3 ?side4 A7.out).mono ?_); (case side1 => repeat (first | exact HR468_0.out | (with_reducible refine Kd.C_alloc ?_ _) | (with_reducible refine Kd.C_drewN ?_ _) | (with_reducible refine Kd.C_drew ?_))); (case side2 => exact HC468_0.out); (case side3 => repeat (first | exact HR469_0.out | (with_reducible refine Kd.C_alloc ?_ _) | (with_reducible refine Kd.C_drewN ?_ _) | (with_reducible refine Kd.C_drew ?_))); (case side4 => exact HC469_0.out); rintro e w' ⟨rfl, ⟨nd, rfl⟩⟩; (try first | exact ⟨rfl, _, World.drewN_drewN _ _ _⟩ | exact ⟨rfl, _, Eq.trans (World.drewN_drewN _ _ _) (congrArg (World.drewN _) (Nat.add_assoc _ _ _))⟩))); try go_wp2_with (first | (go_at_call 25; (with_reducible refine (laws_eqIntS.calls k1 _ _ (rd_L6 l0 x5_1) _ _ (rd_L6 l1 x5_1) true _ ?side1 ?side2 ?side3 ?side4 A7.out).mono ?_); (case side1 => repeat (first | exact HR468_0.out | (with_reducible refine Kd.C_alloc ?_ _) | (with_reducible refine Kd.C_drewN ?_ _) | (with_reducible refine Kd.C_drew ?_))); (case side2 => exact HC468_0.out); (case side3 => repeat (first | exact HR469_0.out | (with_reducible refine Kd.C_alloc ?_ _) | (with_reducible refine Kd.C_drewN ?_ _) | (with_reducible refine Kd.C_drew ?_))); (case side4 => exact HC469_0.out); rintro e w' ⟨rfl, ⟨nd, rfl⟩⟩; (try first | exact ⟨rfl, _, World.drewN_drewN _ _ _⟩ | exact ⟨rfl, _, Eq.trans (World.drewN_drewN _ _ _) (congrArg (World.drewN _) (Nat.add_assoc _ _ _))⟩))))
        go_roundg k1
        case measure => have := HK1.out; omega
        case rel => exact ⟨(wrap64 (x5_1 + 1)), rdT, H', ⟨by have := HK1.out; omega⟩, drT⟩
       ·replace c8 := Bool.eq_false_iff.mpr c8
        subst c8; rw [if_neg (show ¬ (false = true) by decide)] at H; have H1 := H; clear H; have H := H1; clear H1
        obtain rfl := Option.some.inj H
        have p468 : 0 ≤ (x5_1 : Int) := of_decide_eq_true asmT
        have q468 : x5_1 < (l0.length : Int) := of_decide_eq_true asmT
        obtain ⟨ad468, A468_0, c468_0, e468, hx468_0, hl468_0, hi468_0⟩ := at_L6 HR0.out x5_1 p468 q468
        cases e468
        have HR468_0 := Aside0.mk hi468_0; have HC468_0 := Aside0.mk hl468_0; clear hi468_0 hl468_0; replace p468 := eq_true p468; replace q468 := eq_true q468
        have p469 : 0 ≤ (x5_1 : Int) := of_decide_eq_true asmT
        have q469 : x5_1 < (l1.length : Int) := of_decide_eq_true asmT
        obtain ⟨ad469, A469_0, c469_0, e469, hx469_0, hl469_0, hi469_0⟩ := at_L6 HR1.out x5_1 p469 q469
        cases e469
        have HR469_0 := Aside0.mk hi469_0; have HC469_0 := Aside0.mk hl469_0; clear hi469_0 hl469_0; replace p469 := eq_true p469; replace q469 := eq_true q469
        go_wp2_with (first | (go_at_call 25; (with_reducible refine (laws_eqIntS.calls k1 _ _ (rd_L6 l0 x5_1) _ _ (rd_L6 l1 x5_1) false _ ?side1 ?side2 ?side3 ?side4 A7.out).mono ?_); (case side1 => repeat (first | exact HR468_0.out | (with_reducible refine Kd.C_alloc ?_ _) | (with_reducible refine Kd.C_drewN ?_ _) | (with_reducible refine Kd.C_drew ?_))); (case side2 => exact HC468_0.out); (case side3 => repeat (first | exact HR469_0.out | (with_reducible refine Kd.C_alloc ?_ _) | (with_reducible refine Kd.C_drewN ?_ _) | (with_reducible refine Kd.C_drew ?_))); (case side4 => exact HC469_0.out); rintro e w' ⟨rfl, ⟨nd, rfl⟩⟩; (try first | exact ⟨rfl, _, World.drewN_drewN _ _ _⟩ | exact ⟨rfl, _, Eq.trans (World.drewN_drewN _ _ _) (congrArg (World.drewN _) (Nat.add_assoc _ _ _))⟩)))
        repeat (go_quiet (first | (go_at_call 25; (with_reducible refine (laws_eqIntS.calls k1 _ _ (rd_L6 l0 x5_1) _ _ (rd_L6 l1 x5_1) false _ ?side1 ?side2 ?side3 ?side4 A7.out).mono ?_); (case side1 => repeat (first | exact HR468_0.out | (with_reducible refine Kd.C_alloc ?_ _) | (with_reducible refine Kd.C_drewN ?_ _) | (with_reducible refine Kd.C_drew ?_))); (case side2 => exact HC468_0.out); (case side3 => repeat (first | exact HR469_0.out | (with_reducible refine Kd.C_alloc ?_ _) | (with_reducible refine Kd.C_drewN ?_ _) | (with_reducible refine Kd.C_drew ?_))); (case side4 => exact HC469_0.out); rintro e w' ⟨rfl, ⟨nd, rfl⟩⟩; (try first | exact ⟨rfl, _, World.drewN_drewN _ _ _⟩ | exact ⟨rfl, _, Eq.trans (World.drewN_drewN _ _ _) (congrArg (World.drewN _) (Nat.add_assoc _ _ _))⟩))); try go_wp2_with (first | (go_at_call 25; (with_reducible refine (laws_eqIntS.calls k1 _ _ (rd_L6 l0 x5_1) _ _ (rd_L6 l1 x5_1) false _ ?side1 ?side2 ?side3 ?side4 A7.out).mono ?_); (case side1 => repeat (first | exact HR468_0.out | (with_reducible refine Kd.C_alloc ?_ _) | (with_reducible refine Kd.C_drewN ?_ _) | (with_reducible refine Kd.C_drew ?_))); (case side2 => exact HC468_0.out); (case side3 => repeat (first | exact HR469_0.out | (with_reducible refine Kd.C_alloc ?_ _) | (with_reducible refine Kd.C_drewN ?_ _) | (with_reducible refine Kd.C_drew ?_))); (case side4 => exact HC469_0.out); rintro e w' ⟨rfl, ⟨nd, rfl⟩⟩; (try first | exact ⟨rfl, _, World.drewN_drewN _ _ _⟩ | exact ⟨rfl, _, Eq.trans (World.drewN_drewN _ _ _) (congrArg (World.drewN _) (Nat.add_assoc _ _ _))⟩))))
        go_ret
        exact ⟨rdT, drT⟩
      ·rw [if_neg c6] at H
       exact absurd H (by simp)
     ·rw [if_neg c5] at H
      exact absurd H (by simp)
    ·rw [if_neg c4] at H
     have c4b0 : decide (x5_1 < (l0.length : Int)) = false := decide_eq_false c4
     clear c4
     obtain rfl := Option.some.inj H
     go_wp2
     repeat (go_quiet (fail); try go_wp2)
     go_ret
     exact ⟨rdT, drT⟩
 ·rw [if_neg c3] at H
  have c3b0 : ((l0.length : Int) == (l1.length : Int)) = false := beq_eq_false_iff_ne.mpr c3
  have c3b1 : ((l0.length : Int) != (l1.length : Int)) = true := bne_iff_ne.mpr c3
  have c3b2 : (l0.length == l1.length) = false := by first | simpa using c3 | (simp at c3 ⊢; omega)
  obtain rfl := Option.some.inj H
  go_enter Tryz.func52, Tryz.ntmps52
  go_wp2
  repeat (go_quiet (fail); try go_wp2)
  go_ret
  exact ⟨rdT, drT⟩

/-! ### laws_eqTableau: function 12 -/
def laws_eqTableau.f (k : Nat) (a0_0 : ByteArray) (l0_1 : List ByteArray) (l0_2 : List (S61)) (l0_3 : List (List Int)) (a1_0 : ByteArray) (l1_1 : List ByteArray) (l1_2 : List (S61)) (l1_3 : List (List Int)) : Option (Bool) := if a0_0.toList = a1_0.toList then ((laws_eqStringS.f k l0_1 l1_1).bind fun t473 => (if t473 = true then ((laws_eqCandidateS.f k l0_2 l1_2).bind fun t474 => (if t474 = true then ((laws_eqIntSS.f k l0_3 l1_3).bind fun t475 => (if t475 = true then (some true) else (some false))) else (some false))) else (some false))) else (some false)
theorem laws_eqTableau.mono : ∀ a0 a1 a2 a3 a4 a5 a6 a7 k, LeO (laws_eqTableau.f k a0 a1 a2 a3 a4 a5 a6 a7) (laws_eqTableau.f (k + 1) a0 a1 a2 a3 a4 a5 a6 a7) := by
 intro a0 a1 a2 a3 a4 a5 a6 a7 k
 unfold laws_eqTableau.f
 repeat' first
   | (with_reducible exact laws_eqCandidateS.mono _ _ _)
   | (with_reducible exact laws_eqIntSS.mono _ _ _)
   | (with_reducible exact laws_eqStringS.mono _ _ _)
   | (with_reducible exact LeO.refl _)
   | (with_reducible exact LeO.none _)
   | (with_reducible refine LeO.ite ?_ ?_)
   | (with_reducible refine LeO.bind ?_ (fun _ => ?_))
   | exact laws_eqCandidateS.mono _ _ _
   | exact laws_eqIntSS.mono _ _ _
   | exact laws_eqStringS.mono _ _ _
   | exact LeO.none _
   | refine LeO.ite ?_ ?_
   | refine LeO.bind ?_ (fun _ => ?_)
set_option maxHeartbeats 8000000 in
set_option maxRecDepth 100000 in
theorem laws_eqTableau.calls (k : Nat) (a0_0 : ByteArray) (A0_1 : Option Addr) (c0_1 : Nat) (l0_1 : List ByteArray) (A0_2 : Option Addr) (c0_2 : Nat) (l0_2 : List (S61)) (A0_3 : Option Addr) (c0_3 : Nat) (l0_3 : List (List Int)) (a1_0 : ByteArray) (A1_1 : Option Addr) (c1_1 : Nat) (l1_1 : List ByteArray) (A1_2 : Option Addr) (c1_2 : Nat) (l1_2 : List (S61)) (A1_3 : Option Addr) (c1_3 : Nat) (l1_3 : List (List Int)) (r : Bool) (w : World) (hr0_1 : Kd.C Kd.string w A0_1 l0_1.length l0_1) (hc0_1 : l0_1.length ≤ c0_1) (hr0_2 : Kd.C k61 w A0_2 l0_2.length l0_2) (hc0_2 : l0_2.length ≤ c0_2) (hr0_3 : Kd.C (Kd.slice 3 (Kd.int .i64)) w A0_3 l0_3.length l0_3) (hc0_3 : l0_3.length ≤ c0_3) (hr1_1 : Kd.C Kd.string w A1_1 l1_1.length l1_1) (hc1_1 : l1_1.length ≤ c1_1) (hr1_2 : Kd.C k61 w A1_2 l1_2.length l1_2) (hc1_2 : l1_2.length ≤ c1_2) (hr1_3 : Kd.C (Kd.slice 3 (Kd.int .i64)) w A1_3 l1_3.length l1_3) (hc1_3 : l1_3.length ≤ c1_3) (h : laws_eqTableau.f k a0_0 l0_1 l0_2 l0_3 a1_0 l1_1 l1_2 l1_3 = some r) :
  Calls Tryz.prog 12 #[.agg #[.string a0_0, .slice A0_1 l0_1.length c0_1, .slice A0_2 l0_2.length c0_2, .slice A0_3 l0_3.length c0_3], .agg #[.string a1_0, .slice A1_1 l1_1.length c1_1, .slice A1_2 l1_2.length c1_2, .slice A1_3 l1_3.length c1_3]] w fun e w' => e = .returned (.bool r) ∧ Below w.heap.size w w' := by
 have hu31 := Tryz.underlying31; have HR0_1 := Aside0.mk hr0_1; have HC0_1 := Aside0.mk hc0_1; clear hr0_1 hc0_1; have HR0_2 := Aside0.mk hr0_2; have HC0_2 := Aside0.mk hc0_2; clear hr0_2 hc0_2; have HR0_3 := Aside0.mk hr0_3; have HC0_3 := Aside0.mk hc0_3; clear hr0_3 hc0_3; have HR1_1 := Aside0.mk hr1_1; have HC1_1 := Aside0.mk hc1_1; clear hr1_1 hc1_1; have HR1_2 := Aside0.mk hr1_2; have HC1_2 := Aside0.mk hc1_2; clear hr1_2 hc1_2; have HR1_3 := Aside0.mk hr1_3; have HC1_3 := Aside0.mk hc1_3; clear hr1_3 hc1_3; have HB := asT (Below.refl w.heap.size w); have H := h; unfold laws_eqTableau.f at H; clear h
 by_cases c3 : a0_0.toList = a1_0.toList
 ·rw [if_pos c3] at H
  have c3b0 : (a0_0.toList == a1_0.toList) = true := beq_iff_eq.mpr c3
  have c3b1 : (a0_0.toList != a1_0.toList) = false := bne_eq_false_iff_eq.mpr c3
  clear c3; replace H := Option.bind_eq_some_iff.mp H; obtain ⟨t473, A40, H⟩ := H; have A4 := Aside0.mk A40; clear A40
  by_cases c5 : t473 = true
  ·subst c5
   rw [if_pos rfl] at H; have H1 := H; clear H; have H := H1; clear H1; replace H := Option.bind_eq_some_iff.mp H; obtain ⟨t474, A60, H⟩ := H; have A6 := Aside0.mk A60; clear A60
   by_cases c7 : t474 = true
   ·subst c7
    rw [if_pos rfl] at H; have H1 := H; clear H; have H := H1; clear H1; replace H := Option.bind_eq_some_iff.mp H; obtain ⟨t475, A80, H⟩ := H; have A8 := Aside0.mk A80; clear A80
    by_cases c9 : t475 = true
    ·subst c9
     rw [if_pos rfl] at H; have H1 := H; clear H; have H := H1; clear H1
     obtain rfl := Option.some.inj H
     go_enter Tryz.func12, Tryz.ntmps12
     go_wp2_with (first | ((with_reducible refine gate_dst (N := 2) rfl ?_); refine boxT (N := 2) (cs := #[.string a0_0, .slice A0_1 l0_1.length c0_1, .slice A0_2 l0_2.length c0_2, .slice A0_3 l0_3.length c0_3]) (t := 31) ?_; intro gb471 hg w10 hbox hb; have BK471 := asT hbox; have GW471 := asT (geT hg HB.out); have GE471 := GW471; replace HB := asT (below_step (hbT HB.out) hb); clear hb hbox hg) | ((with_reducible refine gate_dst (N := 3) rfl ?_); refine boxT (N := 3) (cs := #[.string a1_0, .slice A1_1 l1_1.length c1_1, .slice A1_2 l1_2.length c1_2, .slice A1_3 l1_3.length c1_3]) (t := 31) ?_; intro gb472 hg w11 hbox hb; have BK472 := asT (hbox); have GW472 := asT (geT hg HB.out); have GE472 := asT (geT hg HB.out); replace HB := asT (below_step (hbT HB.out) hb); have NB471_472 := asT ((by rw [hg]; exact Nat.ne_of_lt (blk_lt (bkT BK471.out)) : gb471 ≠ gb472)); have NB472_471 := asT ((by rw [hg]; exact Nat.ne_of_gt (blk_lt (bkT BK471.out)) : gb472 ≠ gb471)); replace BK471 := asT (blk_below (bkT BK471.out) hb); clear hb hbox hg; have hnb12 := NB471_472.out; have hnc12 := NB472_471.out; have hcz13_0 : w11.cell? ⟨gb471, 0, none⟩ = some (.string a0_0) := (blk_cell BK471.out 0).trans rfl; have hcz13_1 : w11.cell? ⟨gb471, 1, none⟩ = some (.slice A0_1 l0_1.length c0_1) := (blk_cell BK471.out 1).trans rfl; have hcz13_2 : w11.cell? ⟨gb471, 2, none⟩ = some (.slice A0_2 l0_2.length c0_2) := (blk_cell BK471.out 2).trans rfl; have hcz13_3 : w11.cell? ⟨gb471, 3, none⟩ = some (.slice A0_3 l0_3.length c0_3) := (blk_cell BK471.out 3).trans rfl; have hfz13_0 := blk_frozen BK471.out 0; have hfz13_1 := blk_frozen BK471.out 1; have hfz13_2 := blk_frozen BK471.out 2; have hfz13_3 := blk_frozen BK471.out 3; have hcz14_0 : w11.cell? ⟨gb472, 0, none⟩ = some (.string a1_0) := (blk_cell BK472.out 0).trans rfl; have hcz14_1 : w11.cell? ⟨gb472, 1, none⟩ = some (.slice A1_1 l1_1.length c1_1) := (blk_cell BK472.out 1).trans rfl; have hcz14_2 : w11.cell? ⟨gb472, 2, none⟩ = some (.slice A1_2 l1_2.length c1_2) := (blk_cell BK472.out 2).trans rfl; have hcz14_3 : w11.cell? ⟨gb472, 3, none⟩ = some (.slice A1_3 l1_3.length c1_3) := (blk_cell BK472.out 3).trans rfl; have hfz14_0 := blk_frozen BK472.out 0; have hfz14_1 := blk_frozen BK472.out 1; have hfz14_2 := blk_frozen BK472.out 2; have hfz14_3 := blk_frozen BK472.out 3) | ((with_reducible refine gate_callee (f := 19) rfl ?_); refine goesL_ (some 14) rfl rfl Tryz.func19 (by kernel_rfl) rfl #[.slice A0_1 l0_1.length c0_1, .slice A1_1 l1_1.length c1_1] rfl eqT ?_; (with_reducible refine (laws_eqStringS.calls k _ _ l0_1 _ _ l1_1 true _ ?side1 ?side2 ?side3 ?side4 A4.out).mono ?_); (case side1 => exact crT HR0_1.out HB.out); (case side2 => exact HC0_1.out); (case side3 => exact crT HR1_1.out HB.out); (case side4 => exact HC1_1.out); rintro e w' ⟨rfl, ⟨nd, rfl⟩⟩; refine ⟨_, rfl, ?_⟩) | ((with_reducible refine gate_callee (f := 51) rfl ?_); refine goesL_ (some 20) rfl rfl Tryz.func51 (by kernel_rfl) rfl #[.slice A0_2 l0_2.length c0_2, .slice A1_2 l1_2.length c1_2] rfl eqT ?_; (with_reducible refine (laws_eqCandidateS.calls k _ _ l0_2 _ _ l1_2 true _ ?side1 ?side2 ?side3 ?side4 A6.out).mono ?_); (case side1 => exact crT HR0_2.out (hbT HB.out)); (case side2 => exact HC0_2.out); (case side3 => exact crT HR1_2.out (hbT HB.out)); (case side4 => exact HC1_2.out); rintro e w15 ⟨rfl, hb⟩; refine ⟨_, rfl, ?_⟩; replace BK471 := asT (blk_below (bkT BK471.out) hb); replace BK472 := asT (blk_below (bkT BK472.out) hb); replace HB := asT (below_step (hbT HB.out) hb); (try clear hb); (try clear hb2); (try clear hk); (try clear hi); have hcz16_0 : w15.cell? ⟨gb471, 0, none⟩ = some (.string a0_0) := (blk_cell BK471.out 0).trans rfl; have hcz16_1 : w15.cell? ⟨gb471, 1, none⟩ = some (.slice A0_1 l0_1.length c0_1) := (blk_cell BK471.out 1).trans rfl; have hcz16_2 : w15.cell? ⟨gb471, 2, none⟩ = some (.slice A0_2 l0_2.length c0_2) := (blk_cell BK471.out 2).trans rfl; have hcz16_3 : w15.cell? ⟨gb471, 3, none⟩ = some (.slice A0_3 l0_3.length c0_3) := (blk_cell BK471.out 3).trans rfl; have hfz16_0 := blk_frozen BK471.out 0; have hfz16_1 := blk_frozen BK471.out 1; have hfz16_2 := blk_frozen BK471.out 2; have hfz16_3 := blk_frozen BK471.out 3; have hcz17_0 : w15.cell? ⟨gb472, 0, none⟩ = some (.string a1_0) := (blk_cell BK472.out 0).trans rfl; have hcz17_1 : w15.cell? ⟨gb472, 1, none⟩ = some (.slice A1_1 l1_1.length c1_1) := (blk_cell BK472.out 1).trans rfl; have hcz17_2 : w15.cell? ⟨gb472, 2, none⟩ = some (.slice A1_2 l1_2.length c1_2) := (blk_cell BK472.out 2).trans rfl; have hcz17_3 : w15.cell? ⟨gb472, 3, none⟩ = some (.slice A1_3 l1_3.length c1_3) := (blk_cell BK472.out 3).trans rfl; have hfz17_0 := blk_frozen BK472.out 0; have hfz17_1 := blk_frozen BK472.out 1; have hfz17_2 := blk_frozen BK472.out 2; have hfz17_3 := blk_frozen BK472.out 3) | ((with_reducible refine gate_callee (f := 52) rfl ?_); refine goesL_ (some 26) rfl rfl Tryz.func52 (by kernel_rfl) rfl #[.slice A0_3 l0_3.length c0_3, .slice A1_3 l1_3.length c1_3] rfl eqT ?_; (with_reducible refine (laws_eqIntSS.calls k _ _ l0_3 _ _ l1_3 true _ ?side1 ?side2 ?side3 ?side4 A8.out).mono ?_); (case side1 => exact crT HR0_3.out HB.out); (case side2 => exact HC0_3.out); (case side3 => exact crT HR1_3.out HB.out); (case side4 => exact HC1_3.out); rintro e w' ⟨rfl, ⟨nd, rfl⟩⟩; refine ⟨_, rfl, ?_⟩))
     go_ret
     exact ⟨rlT, hbT HB.out⟩
    ·replace c9 := Bool.eq_false_iff.mpr c9
     subst c9; rw [if_neg (show ¬ (false = true) by decide)] at H; have H1 := H; clear H; have H := H1; clear H1
     obtain rfl := Option.some.inj H
     go_enter Tryz.func12, Tryz.ntmps12
     go_wp2_with (first | ((with_reducible refine gate_dst (N := 2) rfl ?_); refine boxT (N := 2) (cs := #[.string a0_0, .slice A0_1 l0_1.length c0_1, .slice A0_2 l0_2.length c0_2, .slice A0_3 l0_3.length c0_3]) (t := 31) ?_; intro gb471 hg w18 hbox hb; have BK471 := asT hbox; have GW471 := asT (geT hg HB.out); have GE471 := GW471; replace HB := asT (below_step (hbT HB.out) hb); clear hb hbox hg) | ((with_reducible refine gate_dst (N := 3) rfl ?_); refine boxT (N := 3) (cs := #[.string a1_0, .slice A1_1 l1_1.length c1_1, .slice A1_2 l1_2.length c1_2, .slice A1_3 l1_3.length c1_3]) (t := 31) ?_; intro gb472 hg w19 hbox hb; have BK472 := asT (hbox); have GW472 := asT (geT hg HB.out); have GE472 := asT (geT hg HB.out); replace HB := asT (below_step (hbT HB.out) hb); have NB471_472 := asT ((by rw [hg]; exact Nat.ne_of_lt (blk_lt (bkT BK471.out)) : gb471 ≠ gb472)); have NB472_471 := asT ((by rw [hg]; exact Nat.ne_of_gt (blk_lt (bkT BK471.out)) : gb472 ≠ gb471)); replace BK471 := asT (blk_below (bkT BK471.out) hb); clear hb hbox hg; have hnb20 := NB471_472.out; have hnc20 := NB472_471.out; have hcz21_0 : w19.cell? ⟨gb471, 0, none⟩ = some (.string a0_0) := (blk_cell BK471.out 0).trans rfl; have hcz21_1 : w19.cell? ⟨gb471, 1, none⟩ = some (.slice A0_1 l0_1.length c0_1) := (blk_cell BK471.out 1).trans rfl; have hcz21_2 : w19.cell? ⟨gb471, 2, none⟩ = some (.slice A0_2 l0_2.length c0_2) := (blk_cell BK471.out 2).trans rfl; have hcz21_3 : w19.cell? ⟨gb471, 3, none⟩ = some (.slice A0_3 l0_3.length c0_3) := (blk_cell BK471.out 3).trans rfl; have hfz21_0 := blk_frozen BK471.out 0; have hfz21_1 := blk_frozen BK471.out 1; have hfz21_2 := blk_frozen BK471.out 2; have hfz21_3 := blk_frozen BK471.out 3; have hcz22_0 : w19.cell? ⟨gb472, 0, none⟩ = some (.string a1_0) := (blk_cell BK472.out 0).trans rfl; have hcz22_1 : w19.cell? ⟨gb472, 1, none⟩ = some (.slice A1_1 l1_1.length c1_1) := (blk_cell BK472.out 1).trans rfl; have hcz22_2 : w19.cell? ⟨gb472, 2, none⟩ = some (.slice A1_2 l1_2.length c1_2) := (blk_cell BK472.out 2).trans rfl; have hcz22_3 : w19.cell? ⟨gb472, 3, none⟩ = some (.slice A1_3 l1_3.length c1_3) := (blk_cell BK472.out 3).trans rfl; have hfz22_0 := blk_frozen BK472.out 0; have hfz22_1 := blk_frozen BK472.out 1; have hfz22_2 := blk_frozen BK472.out 2; have hfz22_3 := blk_frozen BK472.out 3) | ((with_reducible refine gate_callee (f := 19) rfl ?_); refine goesL_ (some 14) rfl rfl Tryz.func19 (by kernel_rfl) rfl #[.slice A0_1 l0_1.length c0_1, .slice A1_1 l1_1.length c1_1] rfl eqT ?_; (with_reducible refine (laws_eqStringS.calls k _ _ l0_1 _ _ l1_1 true _ ?side1 ?side2 ?side3 ?side4 A4.out).mono ?_); (case side1 => exact crT HR0_1.out HB.out); (case side2 => exact HC0_1.out); (case side3 => exact crT HR1_1.out HB.out); (case side4 => exact HC1_1.out); rintro e w' ⟨rfl, ⟨nd, rfl⟩⟩; refine ⟨_, rfl, ?_⟩) | ((with_reducible refine gate_callee (f := 51) rfl ?_); refine goesL_ (some 20) rfl rfl Tryz.func51 (by kernel_rfl) rfl #[.slice A0_2 l0_2.length c0_2, .slice A1_2 l1_2.length c1_2] rfl eqT ?_; (with_reducible refine (laws_eqCandidateS.calls k _ _ l0_2 _ _ l1_2 true _ ?side1 ?side2 ?side3 ?side4 A6.out).mono ?_); (case side1 => exact crT HR0_2.out (hbT HB.out)); (case side2 => exact HC0_2.out); (case side3 => exact crT HR1_2.out (hbT HB.out)); (case side4 => exact HC1_2.out); rintro e w23 ⟨rfl, hb⟩; refine ⟨_, rfl, ?_⟩; replace BK471 := asT (blk_below (bkT BK471.out) hb); replace BK472 := asT (blk_below (bkT BK472.out) hb); replace HB := asT (below_step (hbT HB.out) hb); (try clear hb); (try clear hb2); (try clear hk); (try clear hi); have hcz24_0 : w23.cell? ⟨gb471, 0, none⟩ = some (.string a0_0) := (blk_cell BK471.out 0).trans rfl; have hcz24_1 : w23.cell? ⟨gb471, 1, none⟩ = some (.slice A0_1 l0_1.length c0_1) := (blk_cell BK471.out 1).trans rfl; have hcz24_2 : w23.cell? ⟨gb471, 2, none⟩ = some (.slice A0_2 l0_2.length c0_2) := (blk_cell BK471.out 2).trans rfl; have hcz24_3 : w23.cell? ⟨gb471, 3, none⟩ = some (.slice A0_3 l0_3.length c0_3) := (blk_cell BK471.out 3).trans rfl; have hfz24_0 := blk_frozen BK471.out 0; have hfz24_1 := blk_frozen BK471.out 1; have hfz24_2 := blk_frozen BK471.out 2; have hfz24_3 := blk_frozen BK471.out 3; have hcz25_0 : w23.cell? ⟨gb472, 0, none⟩ = some (.string a1_0) := (blk_cell BK472.out 0).trans rfl; have hcz25_1 : w23.cell? ⟨gb472, 1, none⟩ = some (.slice A1_1 l1_1.length c1_1) := (blk_cell BK472.out 1).trans rfl; have hcz25_2 : w23.cell? ⟨gb472, 2, none⟩ = some (.slice A1_2 l1_2.length c1_2) := (blk_cell BK472.out 2).trans rfl; have hcz25_3 : w23.cell? ⟨gb472, 3, none⟩ = some (.slice A1_3 l1_3.length c1_3) := (blk_cell BK472.out 3).trans rfl; have hfz25_0 := blk_frozen BK472.out 0; have hfz25_1 := blk_frozen BK472.out 1; have hfz25_2 := blk_frozen BK472.out 2; have hfz25_3 := blk_frozen BK472.out 3) | ((with_reducible refine gate_callee (f := 52) rfl ?_); refine goesL_ (some 26) rfl rfl Tryz.func52 (by kernel_rfl) rfl #[.slice A0_3 l0_3.length c0_3, .slice A1_3 l1_3.length c1_3] rfl eqT ?_; (with_reducible refine (laws_eqIntSS.calls k _ _ l0_3 _ _ l1_3 false _ ?side1 ?side2 ?side3 ?side4 A8.out).mono ?_); (case side1 => exact crT HR0_3.out HB.out); (case side2 => exact HC0_3.out); (case side3 => exact crT HR1_3.out HB.out); (case side4 => exact HC1_3.out); rintro e w' ⟨rfl, ⟨nd, rfl⟩⟩; refine ⟨_, rfl, ?_⟩))
     go_ret
     exact ⟨rlT, hbT HB.out⟩
   ·replace c7 := Bool.eq_false_iff.mpr c7
    subst c7; rw [if_neg (show ¬ (false = true) by decide)] at H; have H1 := H; clear H; have H := H1; clear H1
    obtain rfl := Option.some.inj H
    go_enter Tryz.func12, Tryz.ntmps12
    go_wp2_with (first | ((with_reducible refine gate_dst (N := 2) rfl ?_); refine boxT (N := 2) (cs := #[.string a0_0, .slice A0_1 l0_1.length c0_1, .slice A0_2 l0_2.length c0_2, .slice A0_3 l0_3.length c0_3]) (t := 31) ?_; intro gb471 hg w26 hbox hb; have BK471 := asT hbox; have GW471 := asT (geT hg HB.out); have GE471 := GW471; replace HB := asT (below_step (hbT HB.out) hb); clear hb hbox hg) | ((with_reducible refine gate_dst (N := 3) rfl ?_); refine boxT (N := 3) (cs := #[.string a1_0, .slice A1_1 l1_1.length c1_1, .slice A1_2 l1_2.length c1_2, .slice A1_3 l1_3.length c1_3]) (t := 31) ?_; intro gb472 hg w27 hbox hb; have BK472 := asT (hbox); have GW472 := asT (geT hg HB.out); have GE472 := asT (geT hg HB.out); replace HB := asT (below_step (hbT HB.out) hb); have NB471_472 := asT ((by rw [hg]; exact Nat.ne_of_lt (blk_lt (bkT BK471.out)) : gb471 ≠ gb472)); have NB472_471 := asT ((by rw [hg]; exact Nat.ne_of_gt (blk_lt (bkT BK471.out)) : gb472 ≠ gb471)); replace BK471 := asT (blk_below (bkT BK471.out) hb); clear hb hbox hg; have hnb28 := NB471_472.out; have hnc28 := NB472_471.out; have hcz29_0 : w27.cell? ⟨gb471, 0, none⟩ = some (.string a0_0) := (blk_cell BK471.out 0).trans rfl; have hcz29_1 : w27.cell? ⟨gb471, 1, none⟩ = some (.slice A0_1 l0_1.length c0_1) := (blk_cell BK471.out 1).trans rfl; have hcz29_2 : w27.cell? ⟨gb471, 2, none⟩ = some (.slice A0_2 l0_2.length c0_2) := (blk_cell BK471.out 2).trans rfl; have hcz29_3 : w27.cell? ⟨gb471, 3, none⟩ = some (.slice A0_3 l0_3.length c0_3) := (blk_cell BK471.out 3).trans rfl; have hfz29_0 := blk_frozen BK471.out 0; have hfz29_1 := blk_frozen BK471.out 1; have hfz29_2 := blk_frozen BK471.out 2; have hfz29_3 := blk_frozen BK471.out 3; have hcz30_0 : w27.cell? ⟨gb472, 0, none⟩ = some (.string a1_0) := (blk_cell BK472.out 0).trans rfl; have hcz30_1 : w27.cell? ⟨gb472, 1, none⟩ = some (.slice A1_1 l1_1.length c1_1) := (blk_cell BK472.out 1).trans rfl; have hcz30_2 : w27.cell? ⟨gb472, 2, none⟩ = some (.slice A1_2 l1_2.length c1_2) := (blk_cell BK472.out 2).trans rfl; have hcz30_3 : w27.cell? ⟨gb472, 3, none⟩ = some (.slice A1_3 l1_3.length c1_3) := (blk_cell BK472.out 3).trans rfl; have hfz30_0 := blk_frozen BK472.out 0; have hfz30_1 := blk_frozen BK472.out 1; have hfz30_2 := blk_frozen BK472.out 2; have hfz30_3 := blk_frozen BK472.out 3) | ((with_reducible refine gate_callee (f := 19) rfl ?_); refine goesL_ (some 14) rfl rfl Tryz.func19 (by kernel_rfl) rfl #[.slice A0_1 l0_1.length c0_1, .slice A1_1 l1_1.length c1_1] rfl eqT ?_; (with_reducible refine (laws_eqStringS.calls k _ _ l0_1 _ _ l1_1 true _ ?side1 ?side2 ?side3 ?side4 A4.out).mono ?_); (case side1 => exact crT HR0_1.out HB.out); (case side2 => exact HC0_1.out); (case side3 => exact crT HR1_1.out HB.out); (case side4 => exact HC1_1.out); rintro e w' ⟨rfl, ⟨nd, rfl⟩⟩; refine ⟨_, rfl, ?_⟩) | ((with_reducible refine gate_callee (f := 51) rfl ?_); refine goesL_ (some 20) rfl rfl Tryz.func51 (by kernel_rfl) rfl #[.slice A0_2 l0_2.length c0_2, .slice A1_2 l1_2.length c1_2] rfl eqT ?_; (with_reducible refine (laws_eqCandidateS.calls k _ _ l0_2 _ _ l1_2 false _ ?side1 ?side2 ?side3 ?side4 A6.out).mono ?_); (case side1 => exact crT HR0_2.out (hbT HB.out)); (case side2 => exact HC0_2.out); (case side3 => exact crT HR1_2.out (hbT HB.out)); (case side4 => exact HC1_2.out); rintro e w31 ⟨rfl, hb⟩; refine ⟨_, rfl, ?_⟩; replace BK471 := asT (blk_below (bkT BK471.out) hb); replace BK472 := asT (blk_below (bkT BK472.out) hb); replace HB := asT (below_step (hbT HB.out) hb); (try clear hb); (try clear hb2); (try clear hk); (try clear hi)))
    go_ret
    exact ⟨rlT, hbT HB.out⟩
  ·replace c5 := Bool.eq_false_iff.mpr c5
   subst c5; rw [if_neg (show ¬ (false = true) by decide)] at H; have H1 := H; clear H; have H := H1; clear H1
   obtain rfl := Option.some.inj H
   go_enter Tryz.func12, Tryz.ntmps12
   go_wp2_with (first | ((with_reducible refine gate_dst (N := 2) rfl ?_); refine boxT (N := 2) (cs := #[.string a0_0, .slice A0_1 l0_1.length c0_1, .slice A0_2 l0_2.length c0_2, .slice A0_3 l0_3.length c0_3]) (t := 31) ?_; intro gb471 hg w32 hbox hb; have BK471 := asT hbox; have GW471 := asT (geT hg HB.out); have GE471 := GW471; replace HB := asT (below_step (hbT HB.out) hb); clear hb hbox hg) | ((with_reducible refine gate_dst (N := 3) rfl ?_); refine boxT (N := 3) (cs := #[.string a1_0, .slice A1_1 l1_1.length c1_1, .slice A1_2 l1_2.length c1_2, .slice A1_3 l1_3.length c1_3]) (t := 31) ?_; intro gb472 hg w33 hbox hb; have BK472 := asT (hbox); have GW472 := asT (geT hg HB.out); have GE472 := asT (geT hg HB.out); replace HB := asT (below_step (hbT HB.out) hb); have NB471_472 := asT ((by rw [hg]; exact Nat.ne_of_lt (blk_lt (bkT BK471.out)) : gb471 ≠ gb472)); have NB472_471 := asT ((by rw [hg]; exact Nat.ne_of_gt (blk_lt (bkT BK471.out)) : gb472 ≠ gb471)); replace BK471 := asT (blk_below (bkT BK471.out) hb); clear hb hbox hg; have hnb34 := NB471_472.out; have hnc34 := NB472_471.out; have hcz35_0 : w33.cell? ⟨gb471, 0, none⟩ = some (.string a0_0) := (blk_cell BK471.out 0).trans rfl; have hcz35_1 : w33.cell? ⟨gb471, 1, none⟩ = some (.slice A0_1 l0_1.length c0_1) := (blk_cell BK471.out 1).trans rfl; have hcz35_2 : w33.cell? ⟨gb471, 2, none⟩ = some (.slice A0_2 l0_2.length c0_2) := (blk_cell BK471.out 2).trans rfl; have hcz35_3 : w33.cell? ⟨gb471, 3, none⟩ = some (.slice A0_3 l0_3.length c0_3) := (blk_cell BK471.out 3).trans rfl; have hfz35_0 := blk_frozen BK471.out 0; have hfz35_1 := blk_frozen BK471.out 1; have hfz35_2 := blk_frozen BK471.out 2; have hfz35_3 := blk_frozen BK471.out 3; have hcz36_0 : w33.cell? ⟨gb472, 0, none⟩ = some (.string a1_0) := (blk_cell BK472.out 0).trans rfl; have hcz36_1 : w33.cell? ⟨gb472, 1, none⟩ = some (.slice A1_1 l1_1.length c1_1) := (blk_cell BK472.out 1).trans rfl; have hcz36_2 : w33.cell? ⟨gb472, 2, none⟩ = some (.slice A1_2 l1_2.length c1_2) := (blk_cell BK472.out 2).trans rfl; have hcz36_3 : w33.cell? ⟨gb472, 3, none⟩ = some (.slice A1_3 l1_3.length c1_3) := (blk_cell BK472.out 3).trans rfl; have hfz36_0 := blk_frozen BK472.out 0; have hfz36_1 := blk_frozen BK472.out 1; have hfz36_2 := blk_frozen BK472.out 2; have hfz36_3 := blk_frozen BK472.out 3) | ((with_reducible refine gate_callee (f := 19) rfl ?_); refine goesL_ (some 14) rfl rfl Tryz.func19 (by kernel_rfl) rfl #[.slice A0_1 l0_1.length c0_1, .slice A1_1 l1_1.length c1_1] rfl eqT ?_; (with_reducible refine (laws_eqStringS.calls k _ _ l0_1 _ _ l1_1 false _ ?side1 ?side2 ?side3 ?side4 A4.out).mono ?_); (case side1 => exact crT HR0_1.out HB.out); (case side2 => exact HC0_1.out); (case side3 => exact crT HR1_1.out HB.out); (case side4 => exact HC1_1.out); rintro e w' ⟨rfl, ⟨nd, rfl⟩⟩; refine ⟨_, rfl, ?_⟩))
   go_ret
   exact ⟨rlT, hbT HB.out⟩
 ·rw [if_neg c3] at H
  have c3b0 : (a0_0.toList == a1_0.toList) = false := beq_eq_false_iff_ne.mpr c3
  have c3b1 : (a0_0.toList != a1_0.toList) = true := bne_iff_ne.mpr c3
  obtain rfl := Option.some.inj H
  go_enter Tryz.func12, Tryz.ntmps12
  go_wp2_with (first | ((with_reducible refine gate_dst (N := 2) rfl ?_); refine boxT (N := 2) (cs := #[.string a0_0, .slice A0_1 l0_1.length c0_1, .slice A0_2 l0_2.length c0_2, .slice A0_3 l0_3.length c0_3]) (t := 31) ?_; intro gb471 hg w37 hbox hb; have BK471 := asT hbox; have GW471 := asT (geT hg HB.out); have GE471 := GW471; replace HB := asT (below_step (hbT HB.out) hb); clear hb hbox hg) | ((with_reducible refine gate_dst (N := 3) rfl ?_); refine boxT (N := 3) (cs := #[.string a1_0, .slice A1_1 l1_1.length c1_1, .slice A1_2 l1_2.length c1_2, .slice A1_3 l1_3.length c1_3]) (t := 31) ?_; intro gb472 hg w38 hbox hb; have BK472 := asT (hbox); have GW472 := asT (geT hg HB.out); have GE472 := asT (geT hg HB.out); replace HB := asT (below_step (hbT HB.out) hb); have NB471_472 := asT ((by rw [hg]; exact Nat.ne_of_lt (blk_lt (bkT BK471.out)) : gb471 ≠ gb472)); have NB472_471 := asT ((by rw [hg]; exact Nat.ne_of_gt (blk_lt (bkT BK471.out)) : gb472 ≠ gb471)); replace BK471 := asT (blk_below (bkT BK471.out) hb); clear hb hbox hg; have hnb39 := NB471_472.out; have hnc39 := NB472_471.out; have hcz40_0 : w38.cell? ⟨gb471, 0, none⟩ = some (.string a0_0) := (blk_cell BK471.out 0).trans rfl; have hcz40_1 : w38.cell? ⟨gb471, 1, none⟩ = some (.slice A0_1 l0_1.length c0_1) := (blk_cell BK471.out 1).trans rfl; have hcz40_2 : w38.cell? ⟨gb471, 2, none⟩ = some (.slice A0_2 l0_2.length c0_2) := (blk_cell BK471.out 2).trans rfl; have hcz40_3 : w38.cell? ⟨gb471, 3, none⟩ = some (.slice A0_3 l0_3.length c0_3) := (blk_cell BK471.out 3).trans rfl; have hfz40_0 := blk_frozen BK471.out 0; have hfz40_1 := blk_frozen BK471.out 1; have hfz40_2 := blk_frozen BK471.out 2; have hfz40_3 := blk_frozen BK471.out 3; have hcz41_0 : w38.cell? ⟨gb472, 0, none⟩ = some (.string a1_0) := (blk_cell BK472.out 0).trans rfl; have hcz41_1 : w38.cell? ⟨gb472, 1, none⟩ = some (.slice A1_1 l1_1.length c1_1) := (blk_cell BK472.out 1).trans rfl; have hcz41_2 : w38.cell? ⟨gb472, 2, none⟩ = some (.slice A1_2 l1_2.length c1_2) := (blk_cell BK472.out 2).trans rfl; have hcz41_3 : w38.cell? ⟨gb472, 3, none⟩ = some (.slice A1_3 l1_3.length c1_3) := (blk_cell BK472.out 3).trans rfl; have hfz41_0 := blk_frozen BK472.out 0; have hfz41_1 := blk_frozen BK472.out 1; have hfz41_2 := blk_frozen BK472.out 2; have hfz41_3 := blk_frozen BK472.out 3))
  go_ret
  exact ⟨rlT, hbT HB.out⟩

/-! ### laws_FnExactIsTableau: function 3 -/
def laws_FnExactIsTableau.f (k : Nat) (a0_0 : ByteArray) (l0_1 : List ByteArray) (l0_2 : List (S85)) (l0_3 : List (List Int)) : Option (Bool) := (laws_szTableau.f k a0_0 l0_1 l0_2 l0_3 1048576).bind fun t477 => (if t477 < 0 then (some true) else ((laws_toTableau.f k a0_0 l0_1 l0_2 l0_3).bind fun bt478 => ((spec_IsTableau.f k bt478.1 bt478.2.1 bt478.2.2.1 bt478.2.2.2).bind fun t488 => ((laws_toTableau.f k a0_0 l0_1 l0_2 l0_3).bind fun bt489 => ((impl_IsTableau.f k bt489.1 bt489.2.1 bt489.2.2.1 bt489.2.2.2).bind fun t500 => (if (t500 != t488) = true then (none) else ((laws_toTableau.f k a0_0 l0_1 l0_2 l0_3).bind fun bt501 => ((laws_eqTableau.f k bt489.1 bt489.2.1 bt489.2.2.1 bt489.2.2.2 bt501.1 bt501.2.1 bt501.2.2.1 bt501.2.2.2).bind fun t511 => (if t511 = true then (some true) else (none))))))))))
theorem laws_FnExactIsTableau.mono : ∀ a0 a1 a2 a3 k, LeO (laws_FnExactIsTableau.f k a0 a1 a2 a3) (laws_FnExactIsTableau.f (k + 1) a0 a1 a2 a3) := by
 intro a0 a1 a2 a3 k
 unfold laws_FnExactIsTableau.f
 repeat' first
   | (with_reducible exact impl_IsTableau.mono _ _ _ _ _)
   | (with_reducible exact laws_eqTableau.mono _ _ _ _ _ _ _ _ _)
   | (with_reducible exact laws_szTableau.mono _ _ _ _ _ _)
   | (with_reducible exact laws_toTableau.mono _ _ _ _ _)
   | (with_reducible exact spec_IsTableau.mono _ _ _ _ _)
   | (with_reducible exact LeO.refl _)
   | (with_reducible exact LeO.none _)
   | (with_reducible refine LeO.ite ?_ ?_)
   | (with_reducible refine LeO.bind ?_ (fun _ => ?_))
   | exact impl_IsTableau.mono _ _ _ _ _
   | exact laws_eqTableau.mono _ _ _ _ _ _ _ _ _
   | exact laws_szTableau.mono _ _ _ _ _ _
   | exact laws_toTableau.mono _ _ _ _ _
   | exact spec_IsTableau.mono _ _ _ _ _
   | exact LeO.none _
   | refine LeO.ite ?_ ?_
   | refine LeO.bind ?_ (fun _ => ?_)
set_option maxHeartbeats 8000000 in
set_option maxRecDepth 100000 in
theorem laws_FnExactIsTableau.calls (k : Nat) (a0_0 : ByteArray) (A0_1 : Option Addr) (c0_1 : Nat) (l0_1 : List ByteArray) (A0_2 : Option Addr) (c0_2 : Nat) (l0_2 : List (S85)) (A0_3 : Option Addr) (c0_3 : Nat) (l0_3 : List (List Int)) (r : Bool) (w : World) (hr0_1 : Kd.C Kd.string w A0_1 l0_1.length l0_1) (hc0_1 : l0_1.length ≤ c0_1) (hr0_2 : Kd.C k85 w A0_2 l0_2.length l0_2) (hc0_2 : l0_2.length ≤ c0_2) (hr0_3 : Kd.C (Kd.slice 3 (Kd.int .i64)) w A0_3 l0_3.length l0_3) (hc0_3 : l0_3.length ≤ c0_3) (h : laws_FnExactIsTableau.f k a0_0 l0_1 l0_2 l0_3 = some r) :
  Calls Tryz.prog 3 #[.agg #[.string a0_0, .slice A0_1 l0_1.length c0_1, .slice A0_2 l0_2.length c0_2, .slice A0_3 l0_3.length c0_3]] w fun e w' => e = .returned (.bool r) ∧ Below w.heap.size w w' := by
 have hu26 := Tryz.underlying26; have hu31 := Tryz.underlying31; have HR0_1 := Aside0.mk hr0_1; have HC0_1 := Aside0.mk hc0_1; clear hr0_1 hc0_1; have HR0_2 := Aside0.mk hr0_2; have HC0_2 := Aside0.mk hc0_2; clear hr0_2 hc0_2; have HR0_3 := Aside0.mk hr0_3; have HC0_3 := Aside0.mk hc0_3; clear hr0_3 hc0_3; have HB := asT (Below.refl w.heap.size w); have H := h; unfold laws_FnExactIsTableau.f at H; clear h; replace H := Option.bind_eq_some_iff.mp H; obtain ⟨t477, A20, H⟩ := H; have A2 := Aside0.mk A20; clear A20
 by_cases c3 : t477 < 0
 ·rw [if_pos c3] at H
  have c3b0 : decide (t477 < 0) = true := decide_eq_true c3
  clear c3
  obtain rfl := Option.some.inj H
  go_enter Tryz.func3, Tryz.ntmps3
  go_wp2_with (first | ((with_reducible refine gate_dst (N := 1) rfl ?_); refine boxT (N := 1) (cs := #[.string a0_0, .slice A0_1 l0_1.length c0_1, .slice A0_2 l0_2.length c0_2, .slice A0_3 l0_3.length c0_3]) (t := 26) ?_; intro gb476 hg w4 hbox hb; have BK476 := asT hbox; have GW476 := asT (geT hg HB.out); have GE476 := GW476; replace HB := asT (below_step (hbT HB.out) hb); clear hb hbox hg; have hcz5_0 : w4.cell? ⟨gb476, 0, none⟩ = some (.string a0_0) := (blk_cell BK476.out 0).trans rfl; have hcz5_1 : w4.cell? ⟨gb476, 1, none⟩ = some (.slice A0_1 l0_1.length c0_1) := (blk_cell BK476.out 1).trans rfl; have hcz5_2 : w4.cell? ⟨gb476, 2, none⟩ = some (.slice A0_2 l0_2.length c0_2) := (blk_cell BK476.out 2).trans rfl; have hcz5_3 : w4.cell? ⟨gb476, 3, none⟩ = some (.slice A0_3 l0_3.length c0_3) := (blk_cell BK476.out 3).trans rfl; have hfz5_0 := blk_frozen BK476.out 0; have hfz5_1 := blk_frozen BK476.out 1; have hfz5_2 := blk_frozen BK476.out 2; have hfz5_3 := blk_frozen BK476.out 3) | ((with_reducible refine gate_callee (f := 8) rfl ?_); refine goesL_ (some 9) rfl rfl Tryz.func8 (by kernel_rfl) rfl #[.agg #[.string a0_0, .slice A0_1 l0_1.length c0_1, .slice A0_2 l0_2.length c0_2, .slice A0_3 l0_3.length c0_3], .int .i64 1048576] rfl eqT ?_; (with_reducible refine (laws_szTableau.calls k a0_0 _ _ l0_1 _ _ l0_2 _ _ l0_3 1048576 t477 _ ?side1 ?side2 ?side3 ?side4 ?side5 ?side6 A2.out).mono ?_); (case side1 => exact crT HR0_1.out HB.out); (case side2 => exact HC0_1.out); (case side3 => exact crT HR0_2.out HB.out); (case side4 => exact HC0_2.out); (case side5 => exact crT HR0_3.out HB.out); (case side6 => exact HC0_3.out); rintro e w6 ⟨rfl, hb⟩; refine ⟨_, rfl, ?_⟩; replace BK476 := asT (blk_below (bkT BK476.out) hb); replace HB := asT (below_step (hbT HB.out) hb); (try clear hb); (try clear hb2); (try clear hk); (try clear hi)))
  go_ret
  exact ⟨rlT, hbT HB.out⟩
 ·rw [if_neg c3] at H
  have c3b0 : decide (t477 < 0) = false := decide_eq_false c3
  clear c3; replace H := Option.bind_eq_some_iff.mp H; obtain ⟨⟨t478, t479, t482, t485⟩, A70, H⟩ := H; replace H : ((spec_IsTableau.f k t478 t479 t482 t485).bind fun t488 => ((laws_toTableau.f k a0_0 l0_1 l0_2 l0_3).bind fun bt489 => ((impl_IsTableau.f k bt489.1 bt489.2.1 bt489.2.2.1 bt489.2.2.2).bind fun t500 => (if (t500 != t488) = true then (none) else ((laws_toTableau.f k a0_0 l0_1 l0_2 l0_3).bind fun bt501 => ((laws_eqTableau.f k bt489.1 bt489.2.1 bt489.2.2.1 bt489.2.2.2 bt501.1 bt501.2.1 bt501.2.2.1 bt501.2.2.2).bind fun t511 => (if t511 = true then (some true) else (none)))))))) = some r := H; have A7 := Aside0.mk A70; clear A70; replace H := Option.bind_eq_some_iff.mp H; obtain ⟨t488, A80, H⟩ := H; have A8 := Aside0.mk A80; clear A80; replace H := Option.bind_eq_some_iff.mp H; obtain ⟨⟨t489, t490, t493, t496⟩, A90, H⟩ := H; replace H : ((impl_IsTableau.f k t489 t490 t493 t496).bind fun t500 => (if (t500 != t488) = true then (none) else ((laws_toTableau.f k a0_0 l0_1 l0_2 l0_3).bind fun bt501 => ((laws_eqTableau.f k t489 t490 t493 t496 bt501.1 bt501.2.1 bt501.2.2.1 bt501.2.2.2).bind fun t511 => (if t511 = true then (some true) else (none)))))) = some r := H; have A9 := Aside0.mk A90; clear A90; replace H := Option.bind_eq_some_iff.mp H; obtain ⟨t500, A100, H⟩ := H; have A10 := Aside0.mk A100; clear A100
  by_cases c11 : (t500 != t488) = true
  ·rw [if_pos c11] at H
   exact absurd H (by simp)
  ·rw [if_neg c11] at H
   have c11b0 : (t500 != t488) = false := by simpa using c11
   (try (have c11b1 : decide (t500 = t488) = true := by simpa using c11))
   (try (have c11b2 : (t500 == t488) = true := by simpa using c11))
   clear c11; replace H := Option.bind_eq_some_iff.mp H; obtain ⟨⟨t501, t502, t505, t508⟩, A120, H⟩ := H; replace H : ((laws_eqTableau.f k t489 t490 t493 t496 t501 t502 t505 t508).bind fun t511 => (if t511 = true then (some true) else (none))) = some r := H; have A12 := Aside0.mk A120; clear A120; replace H := Option.bind_eq_some_iff.mp H; obtain ⟨t511, A130, H⟩ := H; have A13 := Aside0.mk A130; clear A130
   by_cases c14 : t511 = true
   ·subst c14
    rw [if_pos rfl] at H; have H1 := H; clear H; have H := H1; clear H1
    obtain rfl := Option.some.inj H
    go_enter Tryz.func3, Tryz.ntmps3
    try go_wp2_with (first | ((with_reducible refine gate_dst (N := 1) rfl ?_); refine boxT (N := 1) (cs := #[.string a0_0, .slice A0_1 l0_1.length c0_1, .slice A0_2 l0_2.length c0_2, .slice A0_3 l0_3.length c0_3]) (t := 26) ?_; intro gb476 hg w15 hbox hb; have BK476 := asT hbox; have GW476 := asT (geT hg HB.out); have GE476 := GW476; replace HB := asT (below_step (hbT HB.out) hb); clear hb hbox hg; have hcz16_0 : w15.cell? ⟨gb476, 0, none⟩ = some (.string a0_0) := (blk_cell BK476.out 0).trans rfl; have hcz16_1 : w15.cell? ⟨gb476, 1, none⟩ = some (.slice A0_1 l0_1.length c0_1) := (blk_cell BK476.out 1).trans rfl; have hcz16_2 : w15.cell? ⟨gb476, 2, none⟩ = some (.slice A0_2 l0_2.length c0_2) := (blk_cell BK476.out 2).trans rfl; have hcz16_3 : w15.cell? ⟨gb476, 3, none⟩ = some (.slice A0_3 l0_3.length c0_3) := (blk_cell BK476.out 3).trans rfl; have hfz16_0 := blk_frozen BK476.out 0; have hfz16_1 := blk_frozen BK476.out 1; have hfz16_2 := blk_frozen BK476.out 2; have hfz16_3 := blk_frozen BK476.out 3) | ((with_reducible refine gate_callee (f := 8) rfl ?_); refine goesL_ (some 9) rfl rfl Tryz.func8 (by kernel_rfl) rfl #[.agg #[.string a0_0, .slice A0_1 l0_1.length c0_1, .slice A0_2 l0_2.length c0_2, .slice A0_3 l0_3.length c0_3], .int .i64 1048576] rfl eqT ?_; (with_reducible refine (laws_szTableau.calls k a0_0 _ _ l0_1 _ _ l0_2 _ _ l0_3 1048576 t477 _ ?side1 ?side2 ?side3 ?side4 ?side5 ?side6 A2.out).mono ?_); (case side1 => exact crT HR0_1.out HB.out); (case side2 => exact HC0_1.out); (case side3 => exact crT HR0_2.out HB.out); (case side4 => exact HC0_2.out); (case side5 => exact crT HR0_3.out HB.out); (case side6 => exact HC0_3.out); rintro e w17 ⟨rfl, hb⟩; refine ⟨_, rfl, ?_⟩; replace BK476 := asT (blk_below (bkT BK476.out) hb); replace HB := asT (below_step (hbT HB.out) hb); (try clear hb); (try clear hb2); (try clear hk); (try clear hi); have hcz18_0 : w17.cell? ⟨gb476, 0, none⟩ = some (.string a0_0) := (blk_cell BK476.out 0).trans rfl; have hcz18_1 : w17.cell? ⟨gb476, 1, none⟩ = some (.slice A0_1 l0_1.length c0_1) := (blk_cell BK476.out 1).trans rfl; have hcz18_2 : w17.cell? ⟨gb476, 2, none⟩ = some (.slice A0_2 l0_2.length c0_2) := (blk_cell BK476.out 2).trans rfl; have hcz18_3 : w17.cell? ⟨gb476, 3, none⟩ = some (.slice A0_3 l0_3.length c0_3) := (blk_cell BK476.out 3).trans rfl; have hfz18_0 := blk_frozen BK476.out 0; have hfz18_1 := blk_frozen BK476.out 1; have hfz18_2 := blk_frozen BK476.out 2; have hfz18_3 := blk_frozen BK476.out 3) | ((with_reducible refine gate_callee (f := 10) rfl ?_); refine goesL_ (some 13) rfl rfl Tryz.func10 (by kernel_rfl) rfl #[.agg #[.string a0_0, .slice A0_1 l0_1.length c0_1, .slice A0_2 l0_2.length c0_2, .slice A0_3 l0_3.length c0_3]] rfl eqT ?_; (with_reducible refine (laws_toTableau.calls k a0_0 _ _ l0_1 _ _ l0_2 _ _ l0_3 t478 t479 t482 t485 _ ?side1 ?side2 ?side3 ?side4 ?side5 ?side6 A7.out).mono ?_); (case side1 => exact crT HR0_1.out HB.out); (case side2 => exact HC0_1.out); (case side3 => exact crT HR0_2.out HB.out); (case side4 => exact HC0_2.out); (case side5 => exact crT HR0_3.out HB.out); (case side6 => exact HC0_3.out); rintro e w19 ⟨v480, v483, v486, rfl, ho0, ho1, ho2, hb⟩; refine ⟨_, rfl, ?_⟩; have HO481 := asT (Kd.R_lower ho0 (below_size (hbT HB.out))); have HO484 := asT (Kd.S_lower ho1 (below_size (hbT HB.out))); have HO487 := asT (Kd.S_lower ho2 (below_size (hbT HB.out))); replace BK476 := asT (blk_below (bkT BK476.out) hb); replace HB := asT (below_step (hbT HB.out) hb); (try clear hb); (try clear hb2); (try clear hk); (try clear hi); (try clear ho0); (try clear ho1); (try clear ho2); obtain ⟨Ao20, co20, eo20⟩ := Kd.R_slice HO481.out; subst eo20; obtain ⟨Ao21, co21, eo21⟩ := Kd.S_slice HO484.out; subst eo21; obtain ⟨Ao22, co22, eo22⟩ := Kd.S_slice HO487.out; subst eo22) | ((with_reducible refine gate_callee (f := 9) rfl ?_); refine goesL_ (some 14) rfl rfl Tryz.func9 (by kernel_rfl) rfl #[.agg #[.string t478, .slice Ao20 t479.length co20, .slice Ao21 t482.length co21, .slice Ao22 t485.length co22]] rfl eqT ?_; (with_reducible refine (spec_IsTableau.calls k t478 _ _ t479 _ _ t482 _ _ t485 t488 _ ?side1 ?side2 ?side3 ?side4 ?side5 ?side6 A8.out).mono ?_); (case side1 => repeat (first | exact (Kd.R_reads' HO481.out).2.2 | (with_reducible refine Kd.C_alloc ?_ _) | (with_reducible refine Kd.C_drewN ?_ _) | (with_reducible refine Kd.C_drew ?_))); (case side2 => exact (Kd.R_reads' HO481.out).2.1); (case side3 => repeat (first | exact (Kd.S_reads' HO484.out).2.2 | (with_reducible refine Kd.C_alloc ?_ _) | (with_reducible refine Kd.C_drewN ?_ _) | (with_reducible refine Kd.C_drew ?_))); (case side4 => exact (Kd.S_reads' HO484.out).2.1); (case side5 => repeat (first | exact (Kd.S_reads' HO487.out).2.2 | (with_reducible refine Kd.C_alloc ?_ _) | (with_reducible refine Kd.C_drewN ?_ _) | (with_reducible refine Kd.C_drew ?_))); (case side6 => exact (Kd.S_reads' HO487.out).2.1); rintro e w23 ⟨rfl, hb⟩; refine ⟨_, rfl, ?_⟩; replace HO481 := asT (Kd.R_below (roT HO481.out) hb); replace HO484 := asT (Kd.S_below (by (with_reducible repeat (first | apply Kd.S_alloc | apply Kd.S_drewN | apply Kd.S_drew)); exact HO484.out) hb); replace HO487 := asT (Kd.S_below (by (with_reducible repeat (first | apply Kd.S_alloc | apply Kd.S_drewN | apply Kd.S_drew)); exact HO487.out) hb); replace BK476 := asT (blk_below (bkT BK476.out) hb); replace HB := asT (below_step (hbT HB.out) hb); (try clear hb); (try clear hb2); (try clear hk); (try clear hi); have hcz24_0 : w23.cell? ⟨gb476, 0, none⟩ = some (.string a0_0) := (blk_cell BK476.out 0).trans rfl; have hcz24_1 : w23.cell? ⟨gb476, 1, none⟩ = some (.slice A0_1 l0_1.length c0_1) := (blk_cell BK476.out 1).trans rfl; have hcz24_2 : w23.cell? ⟨gb476, 2, none⟩ = some (.slice A0_2 l0_2.length c0_2) := (blk_cell BK476.out 2).trans rfl; have hcz24_3 : w23.cell? ⟨gb476, 3, none⟩ = some (.slice A0_3 l0_3.length c0_3) := (blk_cell BK476.out 3).trans rfl; have hfz24_0 := blk_frozen BK476.out 0; have hfz24_1 := blk_frozen BK476.out 1; have hfz24_2 := blk_frozen BK476.out 2; have hfz24_3 := blk_frozen BK476.out 3) | ((with_reducible refine gate_callee (f := 10) rfl ?_); refine goesL_ (some 16) rfl rfl Tryz.func10 (by kernel_rfl) rfl #[.agg #[.string a0_0, .slice A0_1 l0_1.length c0_1, .slice A0_2 l0_2.length c0_2, .slice A0_3 l0_3.length c0_3]] rfl eqT ?_; (with_reducible refine (laws_toTableau.calls k a0_0 _ _ l0_1 _ _ l0_2 _ _ l0_3 t489 t490 t493 t496 _ ?side1 ?side2 ?side3 ?side4 ?side5 ?side6 A9.out).mono ?_); (case side1 => exact crT HR0_1.out HB.out); (case side2 => exact HC0_1.out); (case side3 => exact crT HR0_2.out HB.out); (case side4 => exact HC0_2.out); (case side5 => exact crT HR0_3.out HB.out); (case side6 => exact HC0_3.out); rintro e w25 ⟨v491, v494, v497, rfl, ho0, ho1, ho2, hb⟩; refine ⟨_, rfl, ?_⟩; have HO492 := asT (Kd.R_lower (Kd.R_new' ho0 (Kd.R_lt (roT HO481.out))) (below_size (hbT HB.out))); replace HO481 := asT (Kd.R_elder' (roT HO481.out) (Kd.R_base ho0) hb); have HO495 := asT (Kd.S_lower (Kd.S_new' ho1 (Kd.S_lt (by (with_reducible repeat (first | apply Kd.S_alloc | apply Kd.S_drewN | apply Kd.S_drew)); exact HO484.out))) (below_size (hbT HB.out))); replace HO484 := asT (Kd.S_elder' (by (with_reducible repeat (first | apply Kd.S_alloc | apply Kd.S_drewN | apply Kd.S_drew)); exact HO484.out) (Kd.S_base ho1) hb); have HO498 := asT (Kd.S_lower (Kd.S_new' ho2 (Kd.S_lt (by (with_reducible repeat (first | apply Kd.S_alloc | apply Kd.S_drewN | apply Kd.S_drew)); exact HO487.out))) (below_size (hbT HB.out))); replace HO487 := asT (Kd.S_elder' (by (with_reducible repeat (first | apply Kd.S_alloc | apply Kd.S_drewN | apply Kd.S_drew)); exact HO487.out) (Kd.S_base ho2) hb); replace BK476 := asT (blk_below (bkT BK476.out) hb); replace HB := asT (below_step (hbT HB.out) hb); (try clear hb); (try clear hb2); (try clear hk); (try clear hi); (try clear ho0); (try clear ho1); (try clear ho2)) | ((with_reducible refine gate_dst (N := 5) rfl ?_); refine boxT (N := 5) (cs := #[.string (⟨#[]⟩ : ByteArray), .slice none 0 0, .slice none 0 0, .slice none 0 0]) (t := 31) ?_; intro gb499 hg w26 hbox hb; replace HO481 := asT (Kd.R_below (roT HO481.out) hb); replace HO484 := asT (Kd.S_below (by (with_reducible repeat (first | apply Kd.S_alloc | apply Kd.S_drewN | apply Kd.S_drew)); exact HO484.out) hb); replace HO487 := asT (Kd.S_below (by (with_reducible repeat (first | apply Kd.S_alloc | apply Kd.S_drewN | apply Kd.S_drew)); exact HO487.out) hb); replace HO492 := asT (Kd.R_below (roT HO492.out) hb); replace HO495 := asT (Kd.S_below (by (with_reducible repeat (first | apply Kd.S_alloc | apply Kd.S_drewN | apply Kd.S_drew)); exact HO495.out) hb); replace HO498 := asT (Kd.S_below (by (with_reducible repeat (first | apply Kd.S_alloc | apply Kd.S_drewN | apply Kd.S_drew)); exact HO498.out) hb); have BK499 := asT (hbox); have GW499 := asT (geT hg HB.out); have GE499 := asT (geT hg HB.out); replace HB := asT (below_step (hbT HB.out) hb); have NB476_499 := asT ((by rw [hg]; exact Nat.ne_of_lt (blk_lt (bkT BK476.out)) : gb476 ≠ gb499)); have NB499_476 := asT ((by rw [hg]; exact Nat.ne_of_gt (blk_lt (bkT BK476.out)) : gb499 ≠ gb476)); replace BK476 := asT (blk_below (bkT BK476.out) hb); clear hb hbox hg; have hnb27 := NB499_476.out; have hnc27 := NB476_499.out; have hcz28_0 : w26.cell? ⟨gb499, 0, none⟩ = some (.string (⟨#[]⟩ : ByteArray)) := (blk_cell BK499.out 0).trans rfl; have hcz28_1 : w26.cell? ⟨gb499, 1, none⟩ = some (.slice none 0 0) := (blk_cell BK499.out 1).trans rfl; have hcz28_2 : w26.cell? ⟨gb499, 2, none⟩ = some (.slice none 0 0) := (blk_cell BK499.out 2).trans rfl; have hcz28_3 : w26.cell? ⟨gb499, 3, none⟩ = some (.slice none 0 0) := (blk_cell BK499.out 3).trans rfl; have hfz28_0 := blk_frozen BK499.out 0; have hfz28_1 := blk_frozen BK499.out 1; have hfz28_2 := blk_frozen BK499.out 2; have hfz28_3 := blk_frozen BK499.out 3; obtain ⟨Ao29, co29, eo29⟩ := Kd.R_slice HO492.out; subst eo29; obtain ⟨Ao30, co30, eo30⟩ := Kd.S_slice HO495.out; subst eo30; obtain ⟨Ao31, co31, eo31⟩ := Kd.S_slice HO498.out; subst eo31) | ((with_reducible refine gate_callee (f := 11) rfl ?_); refine goesL_ (some 18) rfl rfl Tryz.func11 (by kernel_rfl) rfl #[.agg #[.string t489, .slice Ao29 t490.length co29, .slice Ao30 t493.length co30, .slice Ao31 t496.length co31]] rfl eqT ?_; (with_reducible refine (impl_IsTableau.calls k t489 _ _ t490 _ _ t493 _ _ t496 t500 _ ?side1 ?side2 ?side3 ?side4 ?side5 ?side6 A10.out).mono ?_); (case side1 => refine (Kd.R_reads' (e := 9) (base := w.heap.size) (ok := fun k_ => (True ∧ some k_ ≠ (.slice Ao20 t479.length co20 : Value).ownBlock)) (n := t490.length) (c := co29) ?_).2.2; exact (by (with_reducible repeat (first | apply Kd.R_alloc | apply Kd.R_drewN | apply Kd.R_drew)); exact (Kd.R_mono (Kd.R_far (p := ⟨gb499, 3, none⟩) (Kd.R_far (p := ⟨gb499, 2, none⟩) (Kd.R_far (p := ⟨gb499, 1, none⟩) (Kd.R_far (p := ⟨gb499, 0, none⟩) (Kd.R_types HO492.out BK499.out (by decide)) (fun _ hk => hk.2) (.string t489)) (fun _ hk => hk.2) (.slice Ao29 t490.length co29)) (fun _ hk => hk.2) (.slice Ao30 t493.length co30)) (fun _ hk => hk.2) (.slice Ao31 t496.length co31)) (fun _ h_ => h_.1)))); (case side2 => exact (Kd.R_reads' HO492.out).2.1); (case side3 => refine (Kd.S_reads' (e := 61) (base := w.heap.size) (ok := fun k_ => (True ∧ some k_ ≠ (.slice Ao21 t482.length co21 : Value).ownBlock)) (n := t493.length) (c := co30) ?_).2.2; exact (by (with_reducible repeat (first | apply Kd.S_alloc | apply Kd.S_drewN | apply Kd.S_drew)); exact (Kd.S_mono (Kd.S_far (p := ⟨gb499, 3, none⟩) (Kd.S_far (p := ⟨gb499, 2, none⟩) (Kd.S_far (p := ⟨gb499, 1, none⟩) (Kd.S_far (p := ⟨gb499, 0, none⟩) (Kd.S_types HO495.out BK499.out (by decide)) (fun _ hk => hk.2) (.string t489)) (fun _ hk => hk.2) (.slice Ao29 t490.length co29)) (fun _ hk => hk.2) (.slice Ao30 t493.length co30)) (fun _ hk => hk.2) (.slice Ao31 t496.length co31)) (fun _ h_ => h_.1)))); (case side4 => exact (Kd.S_reads' HO495.out).2.1); (case side5 => refine (Kd.S_reads' (e := 44) (base := w.heap.size) (ok := fun k_ => (True ∧ some k_ ≠ (.slice Ao22 t485.length co22 : Value).ownBlock)) (n := t496.length) (c := co31) ?_).2.2; exact (by (with_reducible repeat (first | apply Kd.S_alloc | apply Kd.S_drewN | apply Kd.S_drew)); exact (Kd.S_mono (Kd.S_far (p := ⟨gb499, 3, none⟩) (Kd.S_far (p := ⟨gb499, 2, none⟩) (Kd.S_far (p := ⟨gb499, 1, none⟩) (Kd.S_far (p := ⟨gb499, 0, none⟩) (Kd.S_types HO498.out BK499.out (by decide)) (fun _ hk => hk.2) (.string t489)) (fun _ hk => hk.2) (.slice Ao29 t490.length co29)) (fun _ hk => hk.2) (.slice Ao30 t493.length co30)) (fun _ hk => hk.2) (.slice Ao31 t496.length co31)) (fun _ h_ => h_.1)))); (case side6 => exact (Kd.S_reads' HO498.out).2.1); rintro e w32 ⟨rfl, hb⟩; refine ⟨_, rfl, ?_⟩; replace HO481 := asT (Kd.R_below (by (with_reducible repeat (first | apply Kd.R_alloc | apply Kd.R_drewN | apply Kd.R_drew)); exact (Kd.R_mono (Kd.R_far (p := ⟨gb499, 3, none⟩) (Kd.R_far (p := ⟨gb499, 2, none⟩) (Kd.R_far (p := ⟨gb499, 1, none⟩) (Kd.R_far (p := ⟨gb499, 0, none⟩) (Kd.R_types HO481.out BK499.out (by decide)) (fun _ hk => hk.2) (.string t489)) (fun _ hk => hk.2) (.slice Ao29 t490.length co29)) (fun _ hk => hk.2) (.slice Ao30 t493.length co30)) (fun _ hk => hk.2) (.slice Ao31 t496.length co31)) (fun _ h_ => h_.1))) hb); replace HO484 := asT (Kd.S_below (by (with_reducible repeat (first | apply Kd.S_alloc | apply Kd.S_drewN | apply Kd.S_drew)); exact (Kd.S_mono (Kd.S_far (p := ⟨gb499, 3, none⟩) (Kd.S_far (p := ⟨gb499, 2, none⟩) (Kd.S_far (p := ⟨gb499, 1, none⟩) (Kd.S_far (p := ⟨gb499, 0, none⟩) (Kd.S_types HO484.out BK499.out (by decide)) (fun _ hk => hk.2) (.string t489)) (fun _ hk => hk.2) (.slice Ao29 t490.length co29)) (fun _ hk => hk.2) (.slice Ao30 t493.length co30)) (fun _ hk => hk.2) (.slice Ao31 t496.length co31)) (fun _ h_ => h_.1))) hb); replace HO487 := asT (Kd.S_below (by (with_reducible repeat (first | apply Kd.S_alloc | apply Kd.S_drewN | apply Kd.S_drew)); exact (Kd.S_mono (Kd.S_far (p := ⟨gb499, 3, none⟩) (Kd.S_far (p := ⟨gb499, 2, none⟩) (Kd.S_far (p := ⟨gb499, 1, none⟩) (Kd.S_far (p := ⟨gb499, 0, none⟩) (Kd.S_types HO487.out BK499.out (by decide)) (fun _ hk => hk.2) (.string t489)) (fun _ hk => hk.2) (.slice Ao29 t490.length co29)) (fun _ hk => hk.2) (.slice Ao30 t493.length co30)) (fun _ hk => hk.2) (.slice Ao31 t496.length co31)) (fun _ h_ => h_.1))) hb); replace HO492 := asT (Kd.R_below (by (with_reducible repeat (first | apply Kd.R_alloc | apply Kd.R_drewN | apply Kd.R_drew)); exact (Kd.R_mono (Kd.R_far (p := ⟨gb499, 3, none⟩) (Kd.R_far (p := ⟨gb499, 2, none⟩) (Kd.R_far (p := ⟨gb499, 1, none⟩) (Kd.R_far (p := ⟨gb499, 0, none⟩) (Kd.R_types HO492.out BK499.out (by decide)) (fun _ hk => hk.2) (.string t489)) (fun _ hk => hk.2) (.slice Ao29 t490.length co29)) (fun _ hk => hk.2) (.slice Ao30 t493.length co30)) (fun _ hk => hk.2) (.slice Ao31 t496.length co31)) (fun _ h_ => h_.1))) hb); replace HO495 := asT (Kd.S_below (by (with_reducible repeat (first | apply Kd.S_alloc | apply Kd.S_drewN | apply Kd.S_drew)); exact (Kd.S_mono (Kd.S_far (p := ⟨gb499, 3, none⟩) (Kd.S_far (p := ⟨gb499, 2, none⟩) (Kd.S_far (p := ⟨gb499, 1, none⟩) (Kd.S_far (p := ⟨gb499, 0, none⟩) (Kd.S_types HO495.out BK499.out (by decide)) (fun _ hk => hk.2) (.string t489)) (fun _ hk => hk.2) (.slice Ao29 t490.length co29)) (fun _ hk => hk.2) (.slice Ao30 t493.length co30)) (fun _ hk => hk.2) (.slice Ao31 t496.length co31)) (fun _ h_ => h_.1))) hb); replace HO498 := asT (Kd.S_below (by (with_reducible repeat (first | apply Kd.S_alloc | apply Kd.S_drewN | apply Kd.S_drew)); exact (Kd.S_mono (Kd.S_far (p := ⟨gb499, 3, none⟩) (Kd.S_far (p := ⟨gb499, 2, none⟩) (Kd.S_far (p := ⟨gb499, 1, none⟩) (Kd.S_far (p := ⟨gb499, 0, none⟩) (Kd.S_types HO498.out BK499.out (by decide)) (fun _ hk => hk.2) (.string t489)) (fun _ hk => hk.2) (.slice Ao29 t490.length co29)) (fun _ hk => hk.2) (.slice Ao30 t493.length co30)) (fun _ hk => hk.2) (.slice Ao31 t496.length co31)) (fun _ h_ => h_.1))) hb); replace BK476 := asT (blk_below (g := gb476) (o := .cells #[.string a0_0, .slice A0_1 l0_1.length c0_1, .slice A0_2 l0_2.length c0_2, .slice A0_3 l0_3.length c0_3] 26 (0, 0)) (by (with_reducible repeat (first | refine blk_drewN ?_ _ | refine blk_drew ?_ | refine blk_alloc ?_ _)); refine blk_far ?_ NB476_499.out _; (with_reducible repeat (first | refine blk_drewN ?_ _ | refine blk_drew ?_ | refine blk_alloc ?_ _)); refine blk_far ?_ NB476_499.out _; (with_reducible repeat (first | refine blk_drewN ?_ _ | refine blk_drew ?_ | refine blk_alloc ?_ _)); refine blk_far ?_ NB476_499.out _; (with_reducible repeat (first | refine blk_drewN ?_ _ | refine blk_drew ?_ | refine blk_alloc ?_ _)); refine blk_far ?_ NB476_499.out _; (with_reducible repeat (first | refine blk_drewN ?_ _ | refine blk_drew ?_ | refine blk_alloc ?_ _)); exact BK476.out) hb); replace BK499 := asT (blk_below (g := gb499) (o := .cells #[.string t489, .slice Ao29 t490.length co29, .slice Ao30 t493.length co30, .slice Ao31 t496.length co31] 31 (0, 0)) (by (with_reducible repeat (first | refine blk_drewN ?_ _ | refine blk_drew ?_ | refine blk_alloc ?_ _)); refine blk_put (cs := #[.string t489, .slice Ao29 t490.length co29, .slice Ao30 t493.length co30, .slice none 0 0]) ?_ 3 _ rfl; (with_reducible repeat (first | refine blk_drewN ?_ _ | refine blk_drew ?_ | refine blk_alloc ?_ _)); refine blk_put (cs := #[.string t489, .slice Ao29 t490.length co29, .slice none 0 0, .slice none 0 0]) ?_ 2 _ rfl; (with_reducible repeat (first | refine blk_drewN ?_ _ | refine blk_drew ?_ | refine blk_alloc ?_ _)); refine blk_put (cs := #[.string t489, .slice none 0 0, .slice none 0 0, .slice none 0 0]) ?_ 1 _ rfl; (with_reducible repeat (first | refine blk_drewN ?_ _ | refine blk_drew ?_ | refine blk_alloc ?_ _)); refine blk_put (cs := #[.string (⟨#[]⟩ : ByteArray), .slice none 0 0, .slice none 0 0, .slice none 0 0]) ?_ 0 _ rfl; (with_reducible repeat (first | refine blk_drewN ?_ _ | refine blk_drew ?_ | refine blk_alloc ?_ _)); exact BK499.out) hb); replace HB := asT (below_step (hbT HB.out) hb); (try clear hb); (try clear hb2); (try clear hk); (try clear hi)))
    replace HO481 := asT (Kd.R_drew HO481.out); replace HO484 := asT (Kd.S_drew HO484.out); replace HO487 := asT (Kd.S_drew HO487.out); replace HO492 := asT (Kd.R_drew HO492.out); replace HO495 := asT (Kd.S_drew HO495.out); replace HO498 := asT (Kd.S_drew HO498.out); replace BK476 := asT (blk_drew BK476.out); replace BK499 := asT (blk_drew BK499.out); replace HB := asT (below_drew1 HB.out)
    refine start_ (n := 5) (S := fun w' => w'.cell? ⟨gb499, 0, none⟩ = some (.string t489) ∧ w'.cell? ⟨gb499, 1, none⟩ = some (.slice Ao29 t490.length co29) ∧ w'.cell? ⟨gb499, 2, none⟩ = some (.slice Ao30 t493.length co30) ∧ w'.cell? ⟨gb499, 3, none⟩ = some (.slice Ao31 t496.length co31) ∧ w'.cell? ⟨gb476, 0, none⟩ = some (.string a0_0) ∧ w'.cell? ⟨gb476, 1, none⟩ = some (.slice A0_1 l0_1.length c0_1) ∧ w'.cell? ⟨gb476, 2, none⟩ = some (.slice A0_2 l0_2.length c0_2) ∧ w'.cell? ⟨gb476, 3, none⟩ = some (.slice A0_3 l0_3.length c0_3)) (ds := []) #[false, false, false, false, false] (by kernel_rfl) rfl rfl ⟨(blk_cell BK499.out 0).trans rfl, (blk_cell BK499.out 1).trans rfl, (blk_cell BK499.out 2).trans rfl, (blk_cell BK499.out 3).trans rfl, (blk_cell BK476.out 0).trans rfl, (blk_cell BK476.out 1).trans rfl, (blk_cell BK476.out 2).trans rfl, (blk_cell BK476.out 3).trans rfl⟩ (fun hHeld => ?_)
    generalize w32.drew = w33 at HO481 HO484 HO487 HO492 HO495 HO498 BK476 BK499 HB hHeld ⊢
    refine take_ (i := 0) (N := some 22) (v := ?_) (a' := ?_) #[true, false, false, false, false] rfl rfl (by kernel_rfl) (fun _ _ _ h => h) (Or.inl ⟨by rfl, ?_⟩) hHeld ?_ ?_
    rotate_left
    ·rintro w' ⟨s0, s1, s2, s3, s4, s5, s6, s7⟩
     go_simp
     (with_reducible rfl)
    rotate_left
    ·simp only [Act.put, sA, sZ, sS, i64_w, i32_w]
     rfl
    refine take_ (i := 1) (N := some 23) (v := ?_) (a' := ?_) #[true, true, false, false, false] rfl rfl (by kernel_rfl) (fun _ _ _ h => h) (Or.inl ⟨by rfl, ?_⟩) hHeld ?_ ?_
    rotate_left
    ·rintro w' ⟨s0, s1, s2, s3, s4, s5, s6, s7⟩
     go_simp
     (with_reducible rfl)
    rotate_left
    ·simp only [Act.put, sA, sZ, sS, i64_w, i32_w]
     rfl
    refine one_ (i := 2) (N := some 24) #[true, true, true, false, false] rfl rfl (by kernel_rfl) (by decide) (fun K hK => ?_)
    refine goes_ Tryz.func10 (by kernel_rfl) rfl #[.agg #[.string a0_0, .slice A0_1 l0_1.length c0_1, .slice A0_2 l0_2.length c0_2, .slice A0_3 l0_3.length c0_3]] (by rfl) rfl rfl eqT ?_
    (with_reducible refine (laws_toTableau.calls k a0_0 _ _ l0_1 _ _ l0_2 _ _ l0_3 t501 t502 t505 t508 _ ?side1 ?side2 ?side3 ?side4 ?side5 ?side6 A12.out).mono ?_); (case side1 => exact crT HR0_1.out HB.out); (case side2 => exact HC0_1.out); (case side3 => exact crT HR0_2.out HB.out); (case side4 => exact HC0_2.out); (case side5 => exact crT HR0_3.out HB.out); (case side6 => exact HC0_3.out); rintro e w34 ⟨v503, v506, v509, rfl, ho0, ho1, ho2, hb⟩; refine ⟨_, rfl, ?_⟩; have HO504 := asT (Kd.R_lower (Kd.R_new' (Kd.R_new' ho0 (Kd.R_lt (roT HO481.out))) (Kd.R_lt (roT HO492.out))) (below_size (hbT HB.out))); replace HO481 := asT (Kd.R_elder' (roT HO481.out) (Kd.R_base ho0) hb); replace HO492 := asT (Kd.R_elder' (roT HO492.out) (Kd.R_base ho0) hb); have HO507 := asT (Kd.S_lower (Kd.S_new' (Kd.S_new' ho1 (Kd.S_lt (by (with_reducible repeat (first | apply Kd.S_alloc | apply Kd.S_drewN | apply Kd.S_drew)); exact HO484.out))) (Kd.S_lt (by (with_reducible repeat (first | apply Kd.S_alloc | apply Kd.S_drewN | apply Kd.S_drew)); exact HO495.out))) (below_size (hbT HB.out))); replace HO484 := asT (Kd.S_elder' (by (with_reducible repeat (first | apply Kd.S_alloc | apply Kd.S_drewN | apply Kd.S_drew)); exact HO484.out) (Kd.S_base ho1) hb); replace HO495 := asT (Kd.S_elder' (by (with_reducible repeat (first | apply Kd.S_alloc | apply Kd.S_drewN | apply Kd.S_drew)); exact HO495.out) (Kd.S_base ho1) hb); have HO510 := asT (Kd.S_lower (Kd.S_new' (Kd.S_new' ho2 (Kd.S_lt (by (with_reducible repeat (first | apply Kd.S_alloc | apply Kd.S_drewN | apply Kd.S_drew)); exact HO487.out))) (Kd.S_lt (by (with_reducible repeat (first | apply Kd.S_alloc | apply Kd.S_drewN | apply Kd.S_drew)); exact HO498.out))) (below_size (hbT HB.out))); replace HO487 := asT (Kd.S_elder' (by (with_reducible repeat (first | apply Kd.S_alloc | apply Kd.S_drewN | apply Kd.S_drew)); exact HO487.out) (Kd.S_base ho2) hb); replace HO498 := asT (Kd.S_elder' (by (with_reducible repeat (first | apply Kd.S_alloc | apply Kd.S_drewN | apply Kd.S_drew)); exact HO498.out) (Kd.S_base ho2) hb); replace BK476 := asT (blk_below (bkT BK476.out) hb); replace BK499 := asT (blk_below (bkT BK499.out) hb); replace HB := asT (below_step (hbT HB.out) hb); (try clear hb); (try clear hb2); (try clear hk); (try clear hi); (try clear ho0); (try clear ho1); (try clear ho2); obtain ⟨Ao35, co35, eo35⟩ := Kd.R_slice HO504.out; (first | subst eo35 | (injection eo35 with f1_ f2_ f3_; have f4_ := f1_.symm; have f5_ := f3_.symm; clear f1_ f2_ f3_; subst f4_; subst f5_)); obtain ⟨Ao36, co36, eo36⟩ := Kd.S_slice HO507.out; (first | subst eo36 | (injection eo36 with f1_ f2_ f3_; have f4_ := f1_.symm; have f5_ := f3_.symm; clear f1_ f2_ f3_; subst f4_; subst f5_)); obtain ⟨Ao37, co37, eo37⟩ := Kd.S_slice HO510.out; (first | subst eo37 | (injection eo37 with f1_ f2_ f3_; have f4_ := f1_.symm; have f5_ := f3_.symm; clear f1_ f2_ f3_; subst f4_; subst f5_))
    refine hK.out _ _ ⟨(blk_cell BK499.out 0).trans rfl, (blk_cell BK499.out 1).trans rfl, (blk_cell BK499.out 2).trans rfl, (blk_cell BK499.out 3).trans rfl, (blk_cell BK476.out 0).trans rfl, (blk_cell BK476.out 1).trans rfl, (blk_cell BK476.out 2).trans rfl, (blk_cell BK476.out 3).trans rfl⟩ (fun hHeld => ?_)
    clear hK K
    refine norm_ (a' := ?_) ?_ ?_
    rotate_left
    ·show Act.put _ (some 24) _ = _
     simp only [Act.put, sA, sZ, sS, i64_w, i32_w]
     rfl
    refine one_ (i := 3) (N := some 25) #[true, true, true, true, false] rfl rfl (by kernel_rfl) (by decide) (fun K hK => ?_)
    refine goes_ Tryz.func12 (by kernel_rfl) rfl #[.agg #[.string t489, .slice Ao29 t490.length co29, .slice Ao30 t493.length co30, .slice Ao31 t496.length co31], .agg #[.string t501, .slice Ao35 t502.length co35, .slice Ao36 t505.length co36, .slice Ao37 t508.length co37]] (by rfl) rfl rfl eqT ?_
    (with_reducible refine (laws_eqTableau.calls k t489 _ _ t490 _ _ t493 _ _ t496 t501 _ _ t502 _ _ t505 _ _ t508 true _ ?side1 ?side2 ?side3 ?side4 ?side5 ?side6 ?side7 ?side8 ?side9 ?side10 ?side11 ?side12 A13.out).mono ?_); (case side1 => repeat (first | exact (Kd.R_reads' HO492.out).2.2 | (with_reducible refine Kd.C_alloc ?_ _) | (with_reducible refine Kd.C_drewN ?_ _) | (with_reducible refine Kd.C_drew ?_))); (case side2 => exact (Kd.R_reads' HO492.out).2.1); (case side3 => repeat (first | exact (Kd.S_reads' HO495.out).2.2 | (with_reducible refine Kd.C_alloc ?_ _) | (with_reducible refine Kd.C_drewN ?_ _) | (with_reducible refine Kd.C_drew ?_))); (case side4 => exact (Kd.S_reads' HO495.out).2.1); (case side5 => repeat (first | exact (Kd.S_reads' HO498.out).2.2 | (with_reducible refine Kd.C_alloc ?_ _) | (with_reducible refine Kd.C_drewN ?_ _) | (with_reducible refine Kd.C_drew ?_))); (case side6 => exact (Kd.S_reads' HO498.out).2.1); (case side7 => repeat (first | exact (Kd.R_reads' HO504.out).2.2 | (with_reducible refine Kd.C_alloc ?_ _) | (with_reducible refine Kd.C_drewN ?_ _) | (with_reducible refine Kd.C_drew ?_))); (case side8 => exact (Kd.R_reads' HO504.out).2.1); (case side9 => repeat (first | exact (Kd.S_reads' HO507.out).2.2 | (with_reducible refine Kd.C_alloc ?_ _) | (with_reducible refine Kd.C_drewN ?_ _) | (with_reducible refine Kd.C_drew ?_))); (case side10 => exact (Kd.S_reads' HO507.out).2.1); (case side11 => repeat (first | exact (Kd.S_reads' HO510.out).2.2 | (with_reducible refine Kd.C_alloc ?_ _) | (with_reducible refine Kd.C_drewN ?_ _) | (with_reducible refine Kd.C_drew ?_))); (case side12 => exact (Kd.S_reads' HO510.out).2.1); rintro e w38 ⟨rfl, hb⟩; refine ⟨_, rfl, ?_⟩; replace HO481 := asT (Kd.R_below (roT HO481.out) hb); replace HO484 := asT (Kd.S_below (by (with_reducible repeat (first | apply Kd.S_alloc | apply Kd.S_drewN | apply Kd.S_drew)); exact HO484.out) hb); replace HO487 := asT (Kd.S_below (by (with_reducible repeat (first | apply Kd.S_alloc | apply Kd.S_drewN | apply Kd.S_drew)); exact HO487.out) hb); replace HO492 := asT (Kd.R_below (roT HO492.out) hb); replace HO495 := asT (Kd.S_below (by (with_reducible repeat (first | apply Kd.S_alloc | apply Kd.S_drewN | apply Kd.S_drew)); exact HO495.out) hb); replace HO498 := asT (Kd.S_below (by (with_reducible repeat (first | apply Kd.S_alloc | apply Kd.S_drewN | apply Kd.S_drew)); exact HO498.out) hb); replace HO504 := asT (Kd.R_below (roT HO504.out) hb); replace HO507 := asT (Kd.S_below (by (with_reducible repeat (first | apply Kd.S_alloc | apply Kd.S_drewN | apply Kd.S_drew)); exact HO507.out) hb); replace HO510 := asT (Kd.S_below (by (with_reducible repeat (first | apply Kd.S_alloc | apply Kd.S_drewN | apply Kd.S_drew)); exact HO510.out) hb); replace BK476 := asT (blk_below (bkT BK476.out) hb); replace BK499 := asT (blk_below (bkT BK499.out) hb); replace HB := asT (below_step (hbT HB.out) hb); (try clear hb); (try clear hb2); (try clear hk); (try clear hi)
    refine hK.out _ _ ⟨(blk_cell BK499.out 0).trans rfl, (blk_cell BK499.out 1).trans rfl, (blk_cell BK499.out 2).trans rfl, (blk_cell BK499.out 3).trans rfl, (blk_cell BK476.out 0).trans rfl, (blk_cell BK476.out 1).trans rfl, (blk_cell BK476.out 2).trans rfl, (blk_cell BK476.out 3).trans rfl⟩ (fun hHeld => ?_)
    clear hK K
    refine norm_ (a' := ?_) ?_ ?_
    rotate_left
    ·show Act.put _ (some 25) _ = _
     simp only [Act.put, sA, sZ, sS, i64_w, i32_w]
     rfl
    refine pure_ (i := 4) (N := some 26) (v := ?_) (a' := ?_) #[true, true, true, true, true] rfl rfl (by kernel_rfl) (fun _ _ _ h => h) (Or.inl ⟨by rfl, ?_⟩) ?_ ?_
    rotate_left
    ·intro w'
     go_simp
     (with_reducible rfl)
    rotate_left
    ·simp only [Act.put, sA, sZ, sS, i64_w, i32_w]
     rfl
    refine done_ (by kernel_rfl) ?_
    try go_wp2
    go_ret
    exact ⟨rlT, hbT HB.out⟩
   ·replace c14 := Bool.eq_false_iff.mpr c14
    subst c14; rw [if_neg (show ¬ (false = true) by decide)] at H; have H1 := H; clear H; have H := H1; clear H1
    exact absurd H (by simp)


def Bd120 : S120 → Prop := fun x => (BdInt .u8) x.f0 ∧ (BdInt .u8) x.f1
def Bd85 : S85 → Prop := fun x => (BdSlice 2 Bd120) x.f0
def Bd26 : S26 → Prop := fun x => BdStr x.f0 ∧ (BdSlice 16 BdStr) x.f1 ∧ (BdSlice 24 Bd85) x.f2 ∧ (BdSlice 24 (BdSlice 8 (BdInt .i64))) x.f3
/-- THE ONE PURE STATEMENT of laws_FnExactIsTableau -/
def laws_FnExactIsTableau.Pure : Prop := ∀ (a0_0 : ByteArray) (l0_1 : List ByteArray) (l0_2 : List (S85)) (l0_3 : List (List Int)), BdStr a0_0 → (BdSlice 16 BdStr) l0_1 → (BdSlice 24 Bd85) l0_2 → (BdSlice 24 (BdSlice 8 (BdInt .i64))) l0_3 → ∃ k, laws_FnExactIsTableau.f k a0_0 l0_1 l0_2 l0_3 = some true

end Go.Proofs.YtdamagcfmhimfadGreat.PFnExactIsTableau
