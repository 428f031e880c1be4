-- Made by gen.py (a program of this session) out of the translation; Lean checks it.
import Derived.Test.YtmfhaplhgaehhabGreatPFnExactFatalMarkx0
import Derived.Test.YtmfhaplhgaehhabGreatPFnExactFatalMarkx3
import Derived.Test.YtmfhaplhgaehhabGreatPFnExactFatalMarkx6
namespace Go.Proofs.YtmfhaplhgaehhabGreat.PFnExactFatalMark
open Go.RowKit Go.Proofs.YtmfhaplhgaehhabGreatB Go.Proofs.YtmfhaplhgaehhabGreatW.PrintWords Go.Proofs.YtmfhaplhgaehhabGreatW.PrintLast Go.Proofs.YtmfhaplhgaehhabGreatW.PrintMore
attribute [local go_sem] max2_int min2_int max_two min_two max_three min_three max_four min_four   -- for this text's walks alone
set_option linter.unusedVariables false
set_option linter.unusedSimpArgs false
def spec_l12Has.l0 : Nat → List Int → Int → Int → Option (Bool)
 | 0, _, _, _ => none
 | k + 1, x0, x1, x5 => if x5 < (x0.length : Int) then (if 0 ≤ x5 then (if (rd x0 x5) = x1 then (some true) else (spec_l12Has.l0 k x0 x1 (wrap64 (x5 + 1)))) else (none)) else (some false)
def spec_l12Has.f (k : Nat) (l0 : List Int) (a1 : Int) : Option (Bool) := spec_l12Has.l0 k l0 a1 0
theorem spec_l12Has.mono_l : ∀ k, (∀ y0 y1 y2, LeO (spec_l12Has.l0 k y0 y1 y2) (spec_l12Has.l0 (k + 1) y0 y1 y2))
 | 0 => fun _ _ _ r h => by simp [spec_l12Has.l0] at h
 | k + 1 => by
  have ih0 := spec_l12Has.mono_l k
  ·intro y0 y1 y2
   unfold spec_l12Has.l0
   with_reducible repeat' first | exact ih0 _ _ _ | exact LeO.refl _ | exact LeO.none _ | refine LeO.ite ?_ ?_ | refine LeO.bind ?_ (fun _ => ?_)
theorem spec_l12Has.mono : ∀ a0 a1 k, LeO (spec_l12Has.f k a0 a1) (spec_l12Has.f (k + 1) a0 a1) := by
 intro a0 a1 k
 have ih0 := spec_l12Has.mono_l k
 unfold spec_l12Has.f
 with_reducible repeat' first | exact ih0 _ _ _ | exact LeO.refl _ | exact LeO.none _ | refine LeO.ite ?_ ?_ | refine LeO.bind ?_ (fun _ => ?_)
set_option maxHeartbeats 8000000 in
set_option maxRecDepth 100000 in
theorem spec_l12Has.calls (k : Nat) (A0 : Option Addr) (c0 : Nat) (l0 : List Int) (a1 : Int) (r : Bool) (w : World) (hr0 : Kd.C (Kd.int .i64) w A0 l0.length l0) (hc0 : l0.length ≤ c0) (h : spec_l12Has.f k l0 a1 = some r) :
  Calls Tryz.prog 85 #[.slice A0 l0.length c0, .int .i64 a1] w fun e w' => e = .returned (.bool r) ∧ Drawn0 w w' := by
 have HR0 := Aside0.mk hr0; have HC0 := Aside0.mk hc0; clear hr0 hc0; have H := h; unfold spec_l12Has.f at H; clear h; have H' := Aside0.mk H; clear H
 go_enter Tryz.func85, Tryz.ntmps85
 go_wp2
 go_loopg [5] k (fun kq v5 w' => ∃ (x5_1 : Int), v5 = .int .i64 x5_1 ∧ Aside0 (spec_l12Has.l0 kq l0 a1 x5_1 = some r) ∧ Aside0 (kq ≤ k) ∧ Drawn0 w w')
 case atStart => exact ⟨(0), rdT, H', ⟨Nat.le_refl _⟩, drT⟩
 case round =>
  clear H'; (try clear p2); obtain ⟨x5_1, rfl, HA, HK1, ⟨m1, rfl⟩⟩ := hrel
  cases gk with
  | zero => exact absurd HA.out (by simp [spec_l12Has.l0])
  | succ k1 =>
   have H := HA.out; clear HA
   simp only [spec_l12Has.l0] at H
   by_cases c3 : x5_1 < (l0.length : Int)
   ·rw [if_pos c3] at H
    have c3b0 : decide (x5_1 < (l0.length : Int)) = true := decide_eq_true c3
    clear c3
    by_cases c4 : 0 ≤ x5_1
    ·rw [if_pos c4] at H
     have c4b0 : decide (0 ≤ x5_1) = true := decide_eq_true c4
     clear c4
     by_cases c5 : (rd l0 x5_1) = a1
     ·rw [if_pos c5] at H
      have c5b0 : ((rd l0 x5_1) == a1) = true := beq_iff_eq.mpr c5
      have c5b1 : ((rd l0 x5_1) != a1) = false := bne_eq_false_iff_eq.mpr c5
      clear c5
      obtain rfl := Option.some.inj H
      have p318 : 0 ≤ (x5_1 : Int) := of_decide_eq_true asmT
      have q318 : x5_1 < (l0.length : Int) := of_decide_eq_true asmT
      obtain ⟨ad318, e318, hx318_0⟩ := Kd.at_int HR0.out x5_1 p318 q318
      cases e318
      replace p318 := eq_true p318; replace q318 := eq_true q318
      go_wp2
      go_ret
      exact ⟨rdT, drT⟩
     ·rw [if_neg c5] at H
      have c5b0 : ((rd l0 x5_1) == a1) = false := beq_eq_false_iff_ne.mpr c5
      have c5b1 : ((rd l0 x5_1) != a1) = true := bne_iff_ne.mpr c5
      have H' := Aside0.mk H; clear H
      have p318 : 0 ≤ (x5_1 : Int) := of_decide_eq_true asmT
      have q318 : x5_1 < (l0.length : Int) := of_decide_eq_true asmT
      obtain ⟨ad318, e318, hx318_0⟩ := Kd.at_int HR0.out x5_1 p318 q318
      cases e318
      replace p318 := eq_true p318; replace q318 := eq_true q318
      go_wp2
      go_roundg k1
      case measure => have := HK1.out; omega
      case rel => exact ⟨(wrap64 (x5_1 + 1)), rdT, H', ⟨by have := HK1.out; omega⟩, drT⟩
    ·rw [if_neg c4] at H
     exact absurd H (by simp)
   ·rw [if_neg c3] at H
    have c3b0 : decide (x5_1 < (l0.length : Int)) = false := decide_eq_false c3
    clear c3
    obtain rfl := Option.some.inj H
    go_wp2
    go_ret
    exact ⟨rdT, drT⟩
def spec_IsRanking.l0 : Nat → List Int → Int → Int → Option (Bool)
 | 0, _, _, _ => none
 | k + 1, x0, x1, x5 => if x5 < (x0.length : Int) then (if 0 ≤ x5 then (if (rd x0 x5) < 0 then (some false) else (if (rd x0 x5) ≥ x1 then (some false) else (if x5 ≤ (x0.length : Int) then ((spec_l12Has.f k (x0.take (x5 : Int).toNat) (rd x0 x5)).bind fun t323 => (if t323 = true then (some false) else (spec_IsRanking.l0 k x0 x1 (wrap64 (x5 + 1))))) else (none)))) else (none)) else ((spec_l1In.f x1 1 5).bind fun t324 => (if t324 = true then (some ((x0.length : Int) == x1)) else (some false)))
def spec_IsRanking.f (k : Nat) (l0 : List Int) (a1 : Int) : Option (Bool) := spec_IsRanking.l0 k l0 a1 0
theorem spec_IsRanking.mono_l : ∀ k, (∀ y0 y1 y2, LeO (spec_IsRanking.l0 k y0 y1 y2) (spec_IsRanking.l0 (k + 1) y0 y1 y2))
 | 0 => fun _ _ _ r h => by simp [spec_IsRanking.l0] at h
 | k + 1 => by
  have ih0 := spec_IsRanking.mono_l k
  ·intro y0 y1 y2
   unfold spec_IsRanking.l0
   with_reducible repeat' first | exact ih0 _ _ _ | exact spec_l12Has.mono _ _ _ | exact LeO.refl _ | exact LeO.none _ | refine LeO.ite ?_ ?_ | refine LeO.bind ?_ (fun _ => ?_)
theorem spec_IsRanking.mono : ∀ a0 a1 k, LeO (spec_IsRanking.f k a0 a1) (spec_IsRanking.f (k + 1) a0 a1) := by
 intro a0 a1 k
 have ih0 := spec_IsRanking.mono_l k
 unfold spec_IsRanking.f
 with_reducible repeat' first | exact ih0 _ _ _ | exact spec_l12Has.mono _ _ _ | exact LeO.refl _ | exact LeO.none _ | refine LeO.ite ?_ ?_ | refine LeO.bind ?_ (fun _ => ?_)
set_option maxHeartbeats 8000000 in
set_option maxRecDepth 100000 in
theorem spec_IsRanking.calls (k : Nat) (A0 : Option Addr) (c0 : Nat) (l0 : List Int) (a1 : Int) (r : Bool) (w : World) (hr0 : Kd.C (Kd.int .i64) w A0 l0.length l0) (hc0 : l0.length ≤ c0) (h : spec_IsRanking.f k l0 a1 = some r) :
  Calls Tryz.prog 55 #[.slice A0 l0.length c0, .int .i64 a1] w fun e w' => e = .returned (.bool r) ∧ Drawn0 w w' := by
 have HR0 := Aside0.mk hr0; have HC0 := Aside0.mk hc0; clear hr0 hc0; have H := h; unfold spec_IsRanking.f at H; clear h; have H' := Aside0.mk H; clear H
 go_enter Tryz.func55, Tryz.ntmps55
 go_wp2
 repeat (go_quiet (fail); try go_wp2)
 go_loopg [5] k (fun kq v5 w' => ∃ (x5_1 : Int), v5 = .int .i64 x5_1 ∧ Aside0 (spec_IsRanking.l0 kq l0 a1 x5_1 = some r) ∧ Aside0 (kq ≤ k) ∧ Drawn0 w w')
 case atStart => exact ⟨(0), rdT, H', ⟨Nat.le_refl _⟩, drT⟩
 case round =>
  clear H'; (try clear p2); obtain ⟨x5_1, rfl, HA, HK1, ⟨m1, rfl⟩⟩ := hrel
  cases gk with
  | zero => exact absurd HA.out (by simp [spec_IsRanking.l0])
  | succ k1 =>
   have H := HA.out; clear HA
   simp only [spec_IsRanking.l0] at H
   by_cases c3 : x5_1 < (l0.length : Int)
   ·rw [if_pos c3] at H
    have c3b0 : decide (x5_1 < (l0.length : Int)) = true := decide_eq_true c3
    clear c3
    by_cases c4 : 0 ≤ x5_1
    ·rw [if_pos c4] at H
     have c4b0 : decide (0 ≤ x5_1) = true := decide_eq_true c4
     clear c4
     by_cases c5 : (rd l0 x5_1) < 0
     ·rw [if_pos c5] at H
      have c5b0 : decide ((rd l0 x5_1) < 0) = true := decide_eq_true c5
      clear c5
      obtain rfl := Option.some.inj H
      have p319 : 0 ≤ (x5_1 : Int) := of_decide_eq_true asmT
      have q319 : x5_1 < (l0.length : Int) := of_decide_eq_true asmT
      obtain ⟨ad319, e319, hx319_0⟩ := Kd.at_int HR0.out x5_1 p319 q319
      cases e319
      replace p319 := eq_true p319; replace q319 := eq_true q319
      go_wp2
      repeat (go_quiet (fail); try go_wp2)
      go_ret
      exact ⟨rdT, drT⟩
     ·rw [if_neg c5] at H
      have c5b0 : decide ((rd l0 x5_1) < 0) = false := decide_eq_false c5
      clear c5
      by_cases c6 : (rd l0 x5_1) ≥ a1
      ·rw [if_pos c6] at H
       have c6b0 : decide (a1 ≤ (rd l0 x5_1)) = true := decide_eq_true c6
       clear c6
       obtain rfl := Option.some.inj H
       have p319 : 0 ≤ (x5_1 : Int) := of_decide_eq_true asmT
       have q319 : x5_1 < (l0.length : Int) := of_decide_eq_true asmT
       obtain ⟨ad319, e319, hx319_0⟩ := Kd.at_int HR0.out x5_1 p319 q319
       cases e319
       replace p319 := eq_true p319; replace q319 := eq_true q319
       have p320 : 0 ≤ (x5_1 : Int) := of_decide_eq_true asmT
       have q320 : x5_1 < (l0.length : Int) := of_decide_eq_true asmT
       obtain ⟨ad320, e320, hx320_0⟩ := Kd.at_int HR0.out x5_1 p320 q320
       obtain rfl : ad319 = ad320 := (by injection e320)
       replace p320 := eq_true p320; replace q320 := eq_true q320
       go_wp2
       repeat (go_quiet (fail); try go_wp2)
       go_ret
       exact ⟨rdT, drT⟩
      ·rw [if_neg c6] at H
       have c6b0 : decide (a1 ≤ (rd l0 x5_1)) = false := decide_eq_false c6
       clear c6; have c7b0 := eq_true (of_decide_eq_true asmT : 0 ≤ x5_1)
       by_cases c8 : x5_1 ≤ (l0.length : Int)
       ·rw [if_pos c8] at H
        have c8b0 := eq_true c8
        have c8b1 : decide (x5_1 ≤ (l0.length : Int)) = true := decide_eq_true c8
        clear c8; obtain ⟨t323, A9, H⟩ := be H
        by_cases c10 : t323 = true
        ·subst c10
         rw [if_pos rfl] at H; have H1 := H; clear H; have H := H1; clear H1
         obtain rfl := Option.some.inj H
         have p319 : 0 ≤ (x5_1 : Int) := of_decide_eq_true asmT
         have q319 : x5_1 < (l0.length : Int) := of_decide_eq_true asmT
         obtain ⟨ad319, e319, hx319_0⟩ := Kd.at_int HR0.out x5_1 p319 q319
         cases e319
         replace p319 := eq_true p319; replace q319 := eq_true q319
         have p320 : 0 ≤ (x5_1 : Int) := of_decide_eq_true asmT
         have q320 : x5_1 < (l0.length : Int) := of_decide_eq_true asmT
         obtain ⟨ad320, e320, hx320_0⟩ := Kd.at_int HR0.out x5_1 p320 q320
         obtain rfl : ad319 = ad320 := (by injection e320)
         replace p320 := eq_true p320; replace q320 := eq_true q320; obtain ⟨i011, hi011, _, hsz11, _⟩ := info_parts info3; obtain ⟨hcut11, hA11, hC11⟩ := print_take_of (P := Tryz.prog) (Value.int .i64) 0 28 3 .i64 Tryz.underlying28 hi011 hsz11 (some ad319) c0 l0 x5_1 (of_decide_eq_true asmT) (of_decide_eq_true asmT) HC0.out; have HR321 := asT (Kd.C_of_reads (h1 := fun _ => rfl) (hA11 _ (Kd.reads_of_C HR0.out))); have HC321 := Aside0.mk hC11; clear hA11 hC11 hi011 hsz11
         have p322 : 0 ≤ (x5_1 : Int) := of_decide_eq_true asmT
         have q322 : x5_1 < (l0.length : Int) := of_decide_eq_true asmT
         obtain ⟨ad322, e322, hx322_0⟩ := Kd.at_int HR0.out x5_1 p322 q322
         obtain rfl : ad319 = ad322 := (by injection e322)
         replace p322 := eq_true p322; replace q322 := eq_true q322
         go_wp2_with (first | (go_at_call 85; refine calls_of_args (args' := #[.slice _ (l0.take (x5_1 : Int).toNat).length _, .int .i64 (rd l0 x5_1)]) (by first | (rw [show (l0.take (x5_1 : Int).toNat).length = x5_1.toNat from (by rw [List.length_take]; have h_ : (x5_1 : Int) ≤ (l0.length : Int) := of_decide_eq_true asmT; omega)] <;> rfl) | rfl) ?_; (with_reducible refine (spec_l12Has.calls k1 _ _ (l0.take (x5_1 : Int).toNat) (rd l0 x5_1) true _ ?side1 ?side2 A9.out).mono ?_); (case side1 => repeat (first | exact HR321.out | (with_reducible refine Kd.C_alloc ?_ _) | (with_reducible refine Kd.C_drewN ?_ _) | (with_reducible refine Kd.C_drew ?_))); (case side2 => exact HC321.out); rintro e w' ⟨rfl, ⟨nd, rfl⟩⟩; (try first | exact ⟨rfl, _, World.drewN_drewN _ _ _⟩ | exact ⟨rfl, _, Eq.trans (World.drewN_drewN _ _ _) (congrArg (World.drewN _) (Nat.add_assoc _ _ _))⟩)))
         repeat (go_quiet (first | (go_at_call 85; refine calls_of_args (args' := #[.slice _ (l0.take (x5_1 : Int).toNat).length _, .int .i64 (rd l0 x5_1)]) (by first | (rw [show (l0.take (x5_1 : Int).toNat).length = x5_1.toNat from (by rw [List.length_take]; have h_ : (x5_1 : Int) ≤ (l0.length : Int) := of_decide_eq_true asmT; omega)] <;> rfl) | rfl) ?_; (with_reducible refine (spec_l12Has.calls k1 _ _ (l0.take (x5_1 : Int).toNat) (rd l0 x5_1) true _ ?side1 ?side2 A9.out).mono ?_); (case side1 => repeat (first | exact HR321.out | (with_reducible refine Kd.C_alloc ?_ _) | (with_reducible refine Kd.C_drewN ?_ _) | (with_reducible refine Kd.C_drew ?_))); (case side2 => exact HC321.out); rintro e w' ⟨rfl, ⟨nd, rfl⟩⟩; (try first | exact ⟨rfl, _, World.drewN_drewN _ _ _⟩ | exact ⟨rfl, _, Eq.trans (World.drewN_drewN _ _ _) (congrArg (World.drewN _) (Nat.add_assoc _ _ _))⟩))); try go_wp2_with (first | (go_at_call 85; refine calls_of_args (args' := #[.slice _ (l0.take (x5_1 : Int).toNat).length _, .int .i64 (rd l0 x5_1)]) (by first | (rw [show (l0.take (x5_1 : Int).toNat).length = x5_1.toNat from (by rw [List.length_take]; have h_ : (x5_1 : Int) ≤ (l0.length : Int) := of_decide_eq_true asmT; omega)] <;> rfl) | rfl) ?_; (with_reducible refine (spec_l12Has.calls k1 _ _ (l0.take (x5_1 : Int).toNat) (rd l0 x5_1) true _ ?side1 ?side2 A9.out).mono ?_); (case side1 => repeat (first | exact HR321.out | (with_reducible refine Kd.C_alloc ?_ _) | (with_reducible refine Kd.C_drewN ?_ _) | (with_reducible refine Kd.C_drew ?_))); (case side2 => exact HC321.out); rintro e w' ⟨rfl, ⟨nd, rfl⟩⟩; (try first | exact ⟨rfl, _, World.drewN_drewN _ _ _⟩ | exact ⟨rfl, _, Eq.trans (World.drewN_drewN _ _ _) (congrArg (World.drewN _) (Nat.add_assoc _ _ _))⟩))))
         go_ret
         exact ⟨rdT, drT⟩
        ·replace c10 := Bool.eq_false_iff.mpr c10
         subst c10; rw [if_neg nF] at H; have H' := Aside0.mk H; clear H
         have p319 : 0 ≤ (x5_1 : Int) := of_decide_eq_true asmT
         have q319 : x5_1 < (l0.length : Int) := of_decide_eq_true asmT
         obtain ⟨ad319, e319, hx319_0⟩ := Kd.at_int HR0.out x5_1 p319 q319
         cases e319
         replace p319 := eq_true p319; replace q319 := eq_true q319
         have p320 : 0 ≤ (x5_1 : Int) := of_decide_eq_true asmT
         have q320 : x5_1 < (l0.length : Int) := of_decide_eq_true asmT
         obtain ⟨ad320, e320, hx320_0⟩ := Kd.at_int HR0.out x5_1 p320 q320
         obtain rfl : ad319 = ad320 := (by injection e320)
         replace p320 := eq_true p320; replace q320 := eq_true q320; obtain ⟨i012, hi012, _, hsz12, _⟩ := info_parts info3; obtain ⟨hcut12, hA12, hC12⟩ := print_take_of (P := Tryz.prog) (Value.int .i64) 0 28 3 .i64 Tryz.underlying28 hi012 hsz12 (some ad319) c0 l0 x5_1 (of_decide_eq_true asmT) (of_decide_eq_true asmT) HC0.out; have HR321 := asT (Kd.C_of_reads (h1 := fun _ => rfl) (hA12 _ (Kd.reads_of_C HR0.out))); have HC321 := Aside0.mk hC12; clear hA12 hC12 hi012 hsz12
         have p322 : 0 ≤ (x5_1 : Int) := of_decide_eq_true asmT
         have q322 : x5_1 < (l0.length : Int) := of_decide_eq_true asmT
         obtain ⟨ad322, e322, hx322_0⟩ := Kd.at_int HR0.out x5_1 p322 q322
         obtain rfl : ad319 = ad322 := (by injection e322)
         replace p322 := eq_true p322; replace q322 := eq_true q322
         go_wp2_with (first | (go_at_call 85; refine calls_of_args (args' := #[.slice _ (l0.take (x5_1 : Int).toNat).length _, .int .i64 (rd l0 x5_1)]) (by first | (rw [show (l0.take (x5_1 : Int).toNat).length = x5_1.toNat from (by rw [List.length_take]; have h_ : (x5_1 : Int) ≤ (l0.length : Int) := of_decide_eq_true asmT; omega)] <;> rfl) | rfl) ?_; (with_reducible refine (spec_l12Has.calls k1 _ _ (l0.take (x5_1 : Int).toNat) (rd l0 x5_1) false _ ?side1 ?side2 A9.out).mono ?_); (case side1 => repeat (first | exact HR321.out | (with_reducible refine Kd.C_alloc ?_ _) | (with_reducible refine Kd.C_drewN ?_ _) | (with_reducible refine Kd.C_drew ?_))); (case side2 => exact HC321.out); rintro e w' ⟨rfl, ⟨nd, rfl⟩⟩; (try first | exact ⟨rfl, _, World.drewN_drewN _ _ _⟩ | exact ⟨rfl, _, Eq.trans (World.drewN_drewN _ _ _) (congrArg (World.drewN _) (Nat.add_assoc _ _ _))⟩)))
         repeat (go_quiet (first | (go_at_call 85; refine calls_of_args (args' := #[.slice _ (l0.take (x5_1 : Int).toNat).length _, .int .i64 (rd l0 x5_1)]) (by first | (rw [show (l0.take (x5_1 : Int).toNat).length = x5_1.toNat from (by rw [List.length_take]; have h_ : (x5_1 : Int) ≤ (l0.length : Int) := of_decide_eq_true asmT; omega)] <;> rfl) | rfl) ?_; (with_reducible refine (spec_l12Has.calls k1 _ _ (l0.take (x5_1 : Int).toNat) (rd l0 x5_1) false _ ?side1 ?side2 A9.out).mono ?_); (case side1 => repeat (first | exact HR321.out | (with_reducible refine Kd.C_alloc ?_ _) | (with_reducible refine Kd.C_drewN ?_ _) | (with_reducible refine Kd.C_drew ?_))); (case side2 => exact HC321.out); rintro e w' ⟨rfl, ⟨nd, rfl⟩⟩; (try first | exact ⟨rfl, _, World.drewN_drewN _ _ _⟩ | exact ⟨rfl, _, Eq.trans (World.drewN_drewN _ _ _) (congrArg (World.drewN _) (Nat.add_assoc _ _ _))⟩))); try go_wp2_with (first | (go_at_call 85; refine calls_of_args (args' := #[.slice _ (l0.take (x5_1 : Int).toNat).length _, .int .i64 (rd l0 x5_1)]) (by first | (rw [show (l0.take (x5_1 : Int).toNat).length = x5_1.toNat from (by rw [List.length_take]; have h_ : (x5_1 : Int) ≤ (l0.length : Int) := of_decide_eq_true asmT; omega)] <;> rfl) | rfl) ?_; (with_reducible refine (spec_l12Has.calls k1 _ _ (l0.take (x5_1 : Int).toNat) (rd l0 x5_1) false _ ?side1 ?side2 A9.out).mono ?_); (case side1 => repeat (first | exact HR321.out | (with_reducible refine Kd.C_alloc ?_ _) | (with_reducible refine Kd.C_drewN ?_ _) | (with_reducible refine Kd.C_drew ?_))); (case side2 => exact HC321.out); rintro e w' ⟨rfl, ⟨nd, rfl⟩⟩; (try first | exact ⟨rfl, _, World.drewN_drewN _ _ _⟩ | exact ⟨rfl, _, Eq.trans (World.drewN_drewN _ _ _) (congrArg (World.drewN _) (Nat.add_assoc _ _ _))⟩))))
         go_roundg k1
         case measure => have := HK1.out; omega
         case rel => exact ⟨(wrap64 (x5_1 + 1)), rdT, H', ⟨by have := HK1.out; omega⟩, drT⟩
       ·rw [if_neg c8] at H
        exact absurd H (by simp)
    ·rw [if_neg c4] at H
     exact absurd H (by simp)
   ·rw [if_neg c3] at H
    have c3b0 : decide (x5_1 < (l0.length : Int)) = false := decide_eq_false c3
    clear c3; obtain ⟨t324, A13, H⟩ := be H
    by_cases c14 : t324 = true
    ·subst c14
     rw [if_pos rfl] at H; have H1 := H; clear H; have H := H1; clear H1
     obtain rfl := Option.some.inj H
     go_wp2_with (first | (go_at_call 67; (with_reducible refine (spec_l1In.calls a1 1 5 true _ A13.out).mono ?_); rintro e w' ⟨rfl, ⟨nd, rfl⟩⟩; (try first | exact ⟨rfl, _, World.drewN_drewN _ _ _⟩ | exact ⟨rfl, _, Eq.trans (World.drewN_drewN _ _ _) (congrArg (World.drewN _) (Nat.add_assoc _ _ _))⟩)))
     repeat (go_quiet (first | (go_at_call 67; (with_reducible refine (spec_l1In.calls a1 1 5 true _ A13.out).mono ?_); rintro e w' ⟨rfl, ⟨nd, rfl⟩⟩; (try first | exact ⟨rfl, _, World.drewN_drewN _ _ _⟩ | exact ⟨rfl, _, Eq.trans (World.drewN_drewN _ _ _) (congrArg (World.drewN _) (Nat.add_assoc _ _ _))⟩))); try go_wp2_with (first | (go_at_call 67; (with_reducible refine (spec_l1In.calls a1 1 5 true _ A13.out).mono ?_); rintro e w' ⟨rfl, ⟨nd, rfl⟩⟩; (try first | exact ⟨rfl, _, World.drewN_drewN _ _ _⟩ | exact ⟨rfl, _, Eq.trans (World.drewN_drewN _ _ _) (congrArg (World.drewN _) (Nat.add_assoc _ _ _))⟩))))
     go_ret
     exact ⟨rdT, drT⟩
    ·replace c14 := Bool.eq_false_iff.mpr c14
     subst c14; rw [if_neg nF] at H; have H1 := H; clear H; have H := H1; clear H1
     obtain rfl := Option.some.inj H
     go_wp2_with (first | (go_at_call 67; (with_reducible refine (spec_l1In.calls a1 1 5 false _ A13.out).mono ?_); rintro e w' ⟨rfl, ⟨nd, rfl⟩⟩; (try first | exact ⟨rfl, _, World.drewN_drewN _ _ _⟩ | exact ⟨rfl, _, Eq.trans (World.drewN_drewN _ _ _) (congrArg (World.drewN _) (Nat.add_assoc _ _ _))⟩)))
     repeat (go_quiet (first | (go_at_call 67; (with_reducible refine (spec_l1In.calls a1 1 5 false _ A13.out).mono ?_); rintro e w' ⟨rfl, ⟨nd, rfl⟩⟩; (try first | exact ⟨rfl, _, World.drewN_drewN _ _ _⟩ | exact ⟨rfl, _, Eq.trans (World.drewN_drewN _ _ _) (congrArg (World.drewN _) (Nat.add_assoc _ _ _))⟩))); try go_wp2_with (first | (go_at_call 67; (with_reducible refine (spec_l1In.calls a1 1 5 false _ A13.out).mono ?_); rintro e w' ⟨rfl, ⟨nd, rfl⟩⟩; (try first | exact ⟨rfl, _, World.drewN_drewN _ _ _⟩ | exact ⟨rfl, _, Eq.trans (World.drewN_drewN _ _ _) (congrArg (World.drewN _) (Nat.add_assoc _ _ _))⟩))))
     go_ret
     exact ⟨rdT, drT⟩
mutual
def spec_CompareMarks.j0 : Nat → List Int → List Int → List Int → Bool → Option (Int)
 | 0, _, _, _, _ => none
 | k + 1, x0, x1, x2, x19 => if x19 = true then (some 0) else (spec_CompareMarks.l0 k x0 x1 x2 0)
def spec_CompareMarks.l0 : Nat → List Int → List Int → List Int → Int → Option (Int)
 | 0, _, _, _, _ => none
 | k + 1, x0, x1, x2, x7 => if x7 < (x2.length : Int) then (if 0 ≤ x7 then (if 0 ≤ (rd x2 x7) then (if (rd x2 x7) < (x0.length : Int) then (if (rd x2 x7) < (x1.length : Int) then (if (rd x0 (rd x2 x7)) < (rd x1 (rd x2 x7)) then (some (-1)) else (if (rd x0 (rd x2 x7)) > (rd x1 (rd x2 x7)) then (some 1) else (spec_CompareMarks.l0 k x0 x1 x2 (wrap64 (x7 + 1))))) else (none)) else (none)) else (none)) else (none)) else (some 0)
end
def spec_CompareMarks.f (k : Nat) (l0 : List Int) (l1 : List Int) (l2 : List Int) : Option (Int) := (spec_IsRanking.f k l2 (l0.length : Int)).bind fun t325 => (if t325 = true then (spec_CompareMarks.j0 k l0 l1 l2 ((l0.length : Int) != (l1.length : Int))) else (spec_CompareMarks.j0 k l0 l1 l2 true))
theorem spec_CompareMarks.mono_l : ∀ k, (∀ y0 y1 y2 y3, LeO (spec_CompareMarks.j0 k y0 y1 y2 y3) (spec_CompareMarks.j0 (k + 1) y0 y1 y2 y3)) ∧ (∀ y0 y1 y2 y3, LeO (spec_CompareMarks.l0 k y0 y1 y2 y3) (spec_CompareMarks.l0 (k + 1) y0 y1 y2 y3))
 | 0 => ⟨fun _ _ _ _ r h => by simp [spec_CompareMarks.j0] at h, fun _ _ _ _ r h => by simp [spec_CompareMarks.l0] at h⟩
 | k + 1 => by
  obtain ⟨ih0, ih1⟩ := spec_CompareMarks.mono_l k; refine ⟨?_, ?_⟩
  ·intro y0 y1 y2 y3
   unfold spec_CompareMarks.j0
   with_reducible repeat' first | exact ih0 _ _ _ _ | exact ih1 _ _ _ _ | exact spec_IsRanking.mono _ _ _ | exact LeO.refl _ | exact LeO.none _ | refine LeO.ite ?_ ?_ | refine LeO.bind ?_ (fun _ => ?_)
  ·intro y0 y1 y2 y3
   unfold spec_CompareMarks.l0
   with_reducible repeat' first | exact ih0 _ _ _ _ | exact ih1 _ _ _ _ | exact spec_IsRanking.mono _ _ _ | exact LeO.refl _ | exact LeO.none _ | refine LeO.ite ?_ ?_ | refine LeO.bind ?_ (fun _ => ?_)
theorem spec_CompareMarks.mono : ∀ a0 a1 a2 k, LeO (spec_CompareMarks.f k a0 a1 a2) (spec_CompareMarks.f (k + 1) a0 a1 a2) := by
 intro a0 a1 a2 k
 obtain ⟨ih0, ih1⟩ := spec_CompareMarks.mono_l k
 unfold spec_CompareMarks.f
 with_reducible repeat' first | exact ih0 _ _ _ _ | exact ih1 _ _ _ _ | exact spec_IsRanking.mono _ _ _ | exact LeO.refl _ | exact LeO.none _ | refine LeO.ite ?_ ?_ | refine LeO.bind ?_ (fun _ => ?_)
set_option maxHeartbeats 8000000 in
set_option maxRecDepth 100000 in
theorem spec_CompareMarks.calls (k : Nat) (A0 : Option Addr) (c0 : Nat) (l0 : List Int) (A1 : Option Addr) (c1 : Nat) (l1 : List Int) (A2 : Option Addr) (c2 : Nat) (l2 : List Int) (r : Int) (w : World) (hr0 : Kd.C (Kd.int .i64) w A0 l0.length l0) (hc0 : l0.length ≤ c0) (hr1 : Kd.C (Kd.int .i64) w A1 l1.length l1) (hc1 : l1.length ≤ c1) (hr2 : Kd.C (Kd.int .i64) w A2 l2.length l2) (hc2 : l2.length ≤ c2) (h : spec_CompareMarks.f k l0 l1 l2 = some r) :
  Calls Tryz.prog 56 #[.slice A0 l0.length c0, .slice A1 l1.length c1, .slice A2 l2.length c2] w fun e w' => e = .returned (.int .i64 r) ∧ Drawn0 w w' := by
 have HR0 := Aside0.mk hr0; have HC0 := Aside0.mk hc0; clear hr0 hc0; have HR1 := Aside0.mk hr1; have HC1 := Aside0.mk hc1; clear hr1 hc1; have HR2 := Aside0.mk hr2; have HC2 := Aside0.mk hc2; clear hr2 hc2; have H := h; unfold spec_CompareMarks.f at H; clear h; have HC4 := Aside0.mk H; clear H
 go_enter Tryz.func56, Tryz.ntmps56
 go_upto_region 1 with (fail)
 repeat (go_quiet (fail); go_upto_region 1 with (fail))
 go_cut [19] (fun v19 wc => ∃ (kq : Nat) (x19_3 : Bool), v19 = .bool x19_3 ∧ Aside0 (spec_CompareMarks.j0 kq l0 l1 l2 x19_3 = some r) ∧ Aside0 (kq ≤ k) ∧ Drawn0 w wc)
 case first =>
  have H := HC4.out; clear HC4; obtain ⟨t325, A5, H⟩ := be H
  by_cases c6 : t325 = true
  ·subst c6
   rw [if_pos rfl] at H; have H' := Aside0.mk H; clear H
   go_wp2_with (first | (go_at_call 55; (with_reducible refine (spec_IsRanking.calls k _ _ l2 (l0.length : Int) true _ ?side1 ?side2 A5.out).mono ?_); (case side1 => repeat (first | exact HR2.out | (with_reducible refine Kd.C_alloc ?_ _) | (with_reducible refine Kd.C_drewN ?_ _) | (with_reducible refine Kd.C_drew ?_))); (case side2 => exact HC2.out); rintro e w' ⟨rfl, ⟨nd, rfl⟩⟩; (try first | exact ⟨rfl, _, World.drewN_drewN _ _ _⟩ | exact ⟨rfl, _, Eq.trans (World.drewN_drewN _ _ _) (congrArg (World.drewN _) (Nat.add_assoc _ _ _))⟩)))
   repeat (go_quiet (first | (go_at_call 55; (with_reducible refine (spec_IsRanking.calls k _ _ l2 (l0.length : Int) true _ ?side1 ?side2 A5.out).mono ?_); (case side1 => repeat (first | exact HR2.out | (with_reducible refine Kd.C_alloc ?_ _) | (with_reducible refine Kd.C_drewN ?_ _) | (with_reducible refine Kd.C_drew ?_))); (case side2 => exact HC2.out); rintro e w' ⟨rfl, ⟨nd, rfl⟩⟩; (try first | exact ⟨rfl, _, World.drewN_drewN _ _ _⟩ | exact ⟨rfl, _, Eq.trans (World.drewN_drewN _ _ _) (congrArg (World.drewN _) (Nat.add_assoc _ _ _))⟩))); try go_wp2_with (first | (go_at_call 55; (with_reducible refine (spec_IsRanking.calls k _ _ l2 (l0.length : Int) true _ ?side1 ?side2 A5.out).mono ?_); (case side1 => repeat (first | exact HR2.out | (with_reducible refine Kd.C_alloc ?_ _) | (with_reducible refine Kd.C_drewN ?_ _) | (with_reducible refine Kd.C_drew ?_))); (case side2 => exact HC2.out); rintro e w' ⟨rfl, ⟨nd, rfl⟩⟩; (try first | exact ⟨rfl, _, World.drewN_drewN _ _ _⟩ | exact ⟨rfl, _, Eq.trans (World.drewN_drewN _ _ _) (congrArg (World.drewN _) (Nat.add_assoc _ _ _))⟩))))
   go_meet
   case rel => exact ⟨_, (((l0.length : Int) != (l1.length : Int))), rdT, H', ⟨by first | omega | exact Nat.le_refl _⟩, drT⟩
  ·replace c6 := Bool.eq_false_iff.mpr c6
   subst c6; rw [if_neg nF] at H; have H' := Aside0.mk H; clear H
   go_wp2_with (first | (go_at_call 55; (with_reducible refine (spec_IsRanking.calls k _ _ l2 (l0.length : Int) false _ ?side1 ?side2 A5.out).mono ?_); (case side1 => repeat (first | exact HR2.out | (with_reducible refine Kd.C_alloc ?_ _) | (with_reducible refine Kd.C_drewN ?_ _) | (with_reducible refine Kd.C_drew ?_))); (case side2 => exact HC2.out); rintro e w' ⟨rfl, ⟨nd, rfl⟩⟩; (try first | exact ⟨rfl, _, World.drewN_drewN _ _ _⟩ | exact ⟨rfl, _, Eq.trans (World.drewN_drewN _ _ _) (congrArg (World.drewN _) (Nat.add_assoc _ _ _))⟩)))
   repeat (go_quiet (first | (go_at_call 55; (with_reducible refine (spec_IsRanking.calls k _ _ l2 (l0.length : Int) false _ ?side1 ?side2 A5.out).mono ?_); (case side1 => repeat (first | exact HR2.out | (with_reducible refine Kd.C_alloc ?_ _) | (with_reducible refine Kd.C_drewN ?_ _) | (with_reducible refine Kd.C_drew ?_))); (case side2 => exact HC2.out); rintro e w' ⟨rfl, ⟨nd, rfl⟩⟩; (try first | exact ⟨rfl, _, World.drewN_drewN _ _ _⟩ | exact ⟨rfl, _, Eq.trans (World.drewN_drewN _ _ _) (congrArg (World.drewN _) (Nat.add_assoc _ _ _))⟩))); try go_wp2_with (first | (go_at_call 55; (with_reducible refine (spec_IsRanking.calls k _ _ l2 (l0.length : Int) false _ ?side1 ?side2 A5.out).mono ?_); (case side1 => repeat (first | exact HR2.out | (with_reducible refine Kd.C_alloc ?_ _) | (with_reducible refine Kd.C_drewN ?_ _) | (with_reducible refine Kd.C_drew ?_))); (case side2 => exact HC2.out); rintro e w' ⟨rfl, ⟨nd, rfl⟩⟩; (try first | exact ⟨rfl, _, World.drewN_drewN _ _ _⟩ | exact ⟨rfl, _, Eq.trans (World.drewN_drewN _ _ _) (congrArg (World.drewN _) (Nat.add_assoc _ _ _))⟩))))
   go_meet
   case rel => exact ⟨_, (true), rdT, H', ⟨by first | omega | exact Nat.le_refl _⟩, drT⟩
 case rest =>
  clear HC4; (try clear c1 c2 p2 c5 c6); obtain ⟨kq, x19_3, rfl, HA, HJ3, ⟨mc3, rfl⟩⟩ := hcut
  cases kq with
  | zero => exact absurd HA.out (by simp [spec_CompareMarks.j0])
  | succ kj3 =>
   have H := HA.out; clear HA
   simp only [spec_CompareMarks.j0] at H
   by_cases c7 : x19_3 = true
   ·subst c7
    rw [if_pos rfl] at H; have H1 := H; clear H; have H := H1; clear H1
    obtain rfl := Option.some.inj H
    go_wp2
    repeat (go_quiet (fail); try go_wp2)
    go_ret
    exact ⟨rdT, drT⟩
   ·replace c7 := Bool.eq_false_iff.mpr c7
    subst c7; rw [if_neg nF] at H; have H' := Aside0.mk H; clear H
    go_wp2
    repeat (go_quiet (fail); try go_wp2)
    go_loopg [7] kj3 (fun kq v7 w' => ∃ (x7_2 : Int), v7 = .int .i64 x7_2 ∧ Aside0 (spec_CompareMarks.l0 kq l0 l1 l2 x7_2 = some r) ∧ Aside0 (kq ≤ kj3) ∧ Drawn0 w w')
    case atStart => exact ⟨(0), rdT, H', ⟨Nat.le_refl _⟩, drT⟩
    case round =>
     clear H'; (try clear c1 c2 p2 c3 c5 c6 c7 p2); obtain ⟨x7_2, rfl, HA, HK2, ⟨m2, rfl⟩⟩ := hrel
     cases gk with
     | zero => exact absurd HA.out (by simp [spec_CompareMarks.l0])
     | succ k2 =>
      have H := HA.out; clear HA
      simp only [spec_CompareMarks.l0] at H
      by_cases c8 : x7_2 < (l2.length : Int)
      ·rw [if_pos c8] at H
       have c8b0 : decide (x7_2 < (l2.length : Int)) = true := decide_eq_true c8
       clear c8
       by_cases c9 : 0 ≤ x7_2
       ·rw [if_pos c9] at H
        have c9b0 : decide (0 ≤ x7_2) = true := decide_eq_true c9
        clear c9
        by_cases c10 : 0 ≤ (rd l2 x7_2)
        ·rw [if_pos c10] at H
         have c10b0 : decide (0 ≤ (rd l2 x7_2)) = true := decide_eq_true c10
         clear c10
         by_cases c11 : (rd l2 x7_2) < (l0.length : Int)
         ·rw [if_pos c11] at H
          have c11b0 : decide ((rd l2 x7_2) < (l0.length : Int)) = true := decide_eq_true c11
          clear c11
          by_cases c12 : (rd l2 x7_2) < (l1.length : Int)
          ·rw [if_pos c12] at H
           have c12b0 : decide ((rd l2 x7_2) < (l1.length : Int)) = true := decide_eq_true c12
           clear c12
           by_cases c13 : (rd l0 (rd l2 x7_2)) < (rd l1 (rd l2 x7_2))
           ·rw [if_pos c13] at H
            have c13b0 : decide ((rd l0 (rd l2 x7_2)) < (rd l1 (rd l2 x7_2))) = true := decide_eq_true c13
            clear c13
            obtain rfl := Option.some.inj H
            have p326 : 0 ≤ (x7_2 : Int) := of_decide_eq_true asmT
            have q326 : x7_2 < (l2.length : Int) := of_decide_eq_true asmT
            obtain ⟨ad326, e326, hx326_0⟩ := Kd.at_int HR2.out x7_2 p326 q326
            cases e326
            replace p326 := eq_true p326; replace q326 := eq_true q326
            have p327 : 0 ≤ ((rd l2 x7_2) : Int) := of_decide_eq_true asmT
            have q327 : (rd l2 x7_2) < (l0.length : Int) := of_decide_eq_true asmT
            obtain ⟨ad327, e327, hx327_0⟩ := Kd.at_int HR0.out (rd l2 x7_2) p327 q327
            cases e327
            replace p327 := eq_true p327; replace q327 := eq_true q327
            have p328 : 0 ≤ (x7_2 : Int) := of_decide_eq_true asmT
            have q328 : x7_2 < (l2.length : Int) := of_decide_eq_true asmT
            obtain ⟨ad328, e328, hx328_0⟩ := Kd.at_int HR2.out x7_2 p328 q328
            obtain rfl : ad326 = ad328 := (by injection e328)
            replace p328 := eq_true p328; replace q328 := eq_true q328
            have p329 : 0 ≤ ((rd l2 x7_2) : Int) := of_decide_eq_true asmT
            have q329 : (rd l2 x7_2) < (l1.length : Int) := of_decide_eq_true asmT
            obtain ⟨ad329, e329, hx329_0⟩ := Kd.at_int HR1.out (rd l2 x7_2) p329 q329
            cases e329
            replace p329 := eq_true p329; replace q329 := eq_true q329
            go_wp2
            repeat (go_quiet (fail); try go_wp2)
            go_ret
            exact ⟨rdT, drT⟩
           ·rw [if_neg c13] at H
            have c13b0 : decide ((rd l0 (rd l2 x7_2)) < (rd l1 (rd l2 x7_2))) = false := decide_eq_false c13
            clear c13
            by_cases c14 : (rd l0 (rd l2 x7_2)) > (rd l1 (rd l2 x7_2))
            ·rw [if_pos c14] at H
             have c14b0 : decide ((rd l1 (rd l2 x7_2)) < (rd l0 (rd l2 x7_2))) = true := decide_eq_true c14
             clear c14
             obtain rfl := Option.some.inj H
             have p326 : 0 ≤ (x7_2 : Int) := of_decide_eq_true asmT
             have q326 : x7_2 < (l2.length : Int) := of_decide_eq_true asmT
             obtain ⟨ad326, e326, hx326_0⟩ := Kd.at_int HR2.out x7_2 p326 q326
             cases e326
             replace p326 := eq_true p326; replace q326 := eq_true q326
             have p327 : 0 ≤ ((rd l2 x7_2) : Int) := of_decide_eq_true asmT
             have q327 : (rd l2 x7_2) < (l0.length : Int) := of_decide_eq_true asmT
             obtain ⟨ad327, e327, hx327_0⟩ := Kd.at_int HR0.out (rd l2 x7_2) p327 q327
             cases e327
             replace p327 := eq_true p327; replace q327 := eq_true q327
             have p328 : 0 ≤ (x7_2 : Int) := of_decide_eq_true asmT
             have q328 : x7_2 < (l2.length : Int) := of_decide_eq_true asmT
             obtain ⟨ad328, e328, hx328_0⟩ := Kd.at_int HR2.out x7_2 p328 q328
             obtain rfl : ad326 = ad328 := (by injection e328)
             replace p328 := eq_true p328; replace q328 := eq_true q328
             have p329 : 0 ≤ ((rd l2 x7_2) : Int) := of_decide_eq_true asmT
             have q329 : (rd l2 x7_2) < (l1.length : Int) := of_decide_eq_true asmT
             obtain ⟨ad329, e329, hx329_0⟩ := Kd.at_int HR1.out (rd l2 x7_2) p329 q329
             cases e329
             replace p329 := eq_true p329; replace q329 := eq_true q329
             have p330 : 0 ≤ (x7_2 : Int) := of_decide_eq_true asmT
             have q330 : x7_2 < (l2.length : Int) := of_decide_eq_true asmT
             obtain ⟨ad330, e330, hx330_0⟩ := Kd.at_int HR2.out x7_2 p330 q330
             obtain rfl : ad326 = ad330 := (by injection e330)
             replace p330 := eq_true p330; replace q330 := eq_true q330
             have p331 : 0 ≤ ((rd l2 x7_2) : Int) := of_decide_eq_true asmT
             have q331 : (rd l2 x7_2) < (l0.length : Int) := of_decide_eq_true asmT
             obtain ⟨ad331, e331, hx331_0⟩ := Kd.at_int HR0.out (rd l2 x7_2) p331 q331
             obtain rfl : ad327 = ad331 := (by injection e331)
             replace p331 := eq_true p331; replace q331 := eq_true q331
             have p332 : 0 ≤ (x7_2 : Int) := of_decide_eq_true asmT
             have q332 : x7_2 < (l2.length : Int) := of_decide_eq_true asmT
             obtain ⟨ad332, e332, hx332_0⟩ := Kd.at_int HR2.out x7_2 p332 q332
             obtain rfl : ad326 = ad332 := (by injection e332)
             replace p332 := eq_true p332; replace q332 := eq_true q332
             have p333 : 0 ≤ ((rd l2 x7_2) : Int) := of_decide_eq_true asmT
             have q333 : (rd l2 x7_2) < (l1.length : Int) := of_decide_eq_true asmT
             obtain ⟨ad333, e333, hx333_0⟩ := Kd.at_int HR1.out (rd l2 x7_2) p333 q333
             obtain rfl : ad329 = ad333 := (by injection e333)
             replace p333 := eq_true p333; replace q333 := eq_true q333
             go_wp2
             repeat (go_quiet (fail); try go_wp2)
             go_ret
             exact ⟨rdT, drT⟩
            ·rw [if_neg c14] at H
             have c14b0 : decide ((rd l1 (rd l2 x7_2)) < (rd l0 (rd l2 x7_2))) = false := decide_eq_false c14
             clear c14; have H' := Aside0.mk H; clear H
             have p326 : 0 ≤ (x7_2 : Int) := of_decide_eq_true asmT
             have q326 : x7_2 < (l2.length : Int) := of_decide_eq_true asmT
             obtain ⟨ad326, e326, hx326_0⟩ := Kd.at_int HR2.out x7_2 p326 q326
             cases e326
             replace p326 := eq_true p326; replace q326 := eq_true q326
             have p327 : 0 ≤ ((rd l2 x7_2) : Int) := of_decide_eq_true asmT
             have q327 : (rd l2 x7_2) < (l0.length : Int) := of_decide_eq_true asmT
             obtain ⟨ad327, e327, hx327_0⟩ := Kd.at_int HR0.out (rd l2 x7_2) p327 q327
             cases e327
             replace p327 := eq_true p327; replace q327 := eq_true q327
             have p328 : 0 ≤ (x7_2 : Int) := of_decide_eq_true asmT
             have q328 : x7_2 < (l2.length : Int) := of_decide_eq_true asmT
             obtain ⟨ad328, e328, hx328_0⟩ := Kd.at_int HR2.out x7_2 p328 q328
             obtain rfl : ad326 = ad328 := (by injection e328)
             replace p328 := eq_true p328; replace q328 := eq_true q328
             have p329 : 0 ≤ ((rd l2 x7_2) : Int) := of_decide_eq_true asmT
             have q329 : (rd l2 x7_2) < (l1.length : Int) := of_decide_eq_true asmT
             obtain ⟨ad329, e329, hx329_0⟩ := Kd.at_int HR1.out (rd l2 x7_2) p329 q329
             cases e329
             replace p329 := eq_true p329; replace q329 := eq_true q329
             have p330 : 0 ≤ (x7_2 : Int) := of_decide_eq_true asmT
             have q330 : x7_2 < (l2.length : Int) := of_decide_eq_true asmT
             obtain ⟨ad330, e330, hx330_0⟩ := Kd.at_int HR2.out x7_2 p330 q330
             obtain rfl : ad326 = ad330 := (by injection e330)
             replace p330 := eq_true p330; replace q330 := eq_true q330
             have p331 : 0 ≤ ((rd l2 x7_2) : Int) := of_decide_eq_true asmT
             have q331 : (rd l2 x7_2) < (l0.length : Int) := of_decide_eq_true asmT
             obtain ⟨ad331, e331, hx331_0⟩ := Kd.at_int HR0.out (rd l2 x7_2) p331 q331
             obtain rfl : ad327 = ad331 := (by injection e331)
             replace p331 := eq_true p331; replace q331 := eq_true q331
             have p332 : 0 ≤ (x7_2 : Int) := of_decide_eq_true asmT
             have q332 : x7_2 < (l2.length : Int) := of_decide_eq_true asmT
             obtain ⟨ad332, e332, hx332_0⟩ := Kd.at_int HR2.out x7_2 p332 q332
             obtain rfl : ad326 = ad332 := (by injection e332)
             replace p332 := eq_true p332; replace q332 := eq_true q332
             have p333 : 0 ≤ ((rd l2 x7_2) : Int) := of_decide_eq_true asmT
             have q333 : (rd l2 x7_2) < (l1.length : Int) := of_decide_eq_true asmT
             obtain ⟨ad333, e333, hx333_0⟩ := Kd.at_int HR1.out (rd l2 x7_2) p333 q333
             obtain rfl : ad329 = ad333 := (by injection e333)
             replace p333 := eq_true p333; replace q333 := eq_true q333
             go_wp2
             repeat (go_quiet (fail); try go_wp2)
             go_roundg k2
             case measure => have := HJ3.out; have := HK2.out; omega
             case rel => exact ⟨(wrap64 (x7_2 + 1)), rdT, H', ⟨by have := HJ3.out; have := HK2.out; omega⟩, drT⟩
          ·rw [if_neg c12] at H
           exact absurd H (by simp)
         ·rw [if_neg c11] at H
          exact absurd H (by simp)
        ·rw [if_neg c10] at H
         exact absurd H (by simp)
       ·rw [if_neg c9] at H
        exact absurd H (by simp)
      ·rw [if_neg c8] at H
       have c8b0 : decide (x7_2 < (l2.length : Int)) = false := decide_eq_false c8
       clear c8
       obtain rfl := Option.some.inj H
       go_wp2
       repeat (go_quiet (fail); try go_wp2)
       go_ret
       exact ⟨rdT, drT⟩
mutual
def spec_WinnersOf.j0 : Nat → List Int → List Int → Bool → ByteArray → List ByteArray → List (S77) → List (List Int) → Option (List Int)
 | 0, _, _, _, _, _, _, _ => none
 | k + 1, x1, x5, x20, x335000, x335001, x335002, x335003 => if x20 = true then (some x5) else (spec_WinnersOf.l0 k x1 x5 0 x335000 x335001 x335002 x335003)
def spec_WinnersOf.l0 : Nat → List Int → List Int → Int → ByteArray → List ByteArray → List (S77) → List (List Int) → Option (List Int)
 | 0, _, _, _, _, _, _, _ => none
 | k + 1, x1, x5, x6, x335000, x335001, x335002, x335003 => if x6 < (x335002.length : Int) then (spec_WinnersOf.l1 k x1 x5 x6 true 0 x335000 x335001 x335002 x335003) else (some x5)
def spec_WinnersOf.l1 : Nat → List Int → List Int → Int → Bool → Int → ByteArray → List ByteArray → List (S77) → List (List Int) → Option (List Int)
 | 0, _, _, _, _, _, _, _, _, _ => none
 | k + 1, x1, x5, x6, x7, x8, x335000, x335001, x335002, x335003 => if x8 < (x335002.length : Int) then (if x7 = true then (if 0 ≤ x6 then (if x6 < (x335003.length : Int) then (if 0 ≤ x8 then (if x8 < (x335003.length : Int) then ((spec_CompareMarks.f k (rd_L6 x335003 x6) (rd_L6 x335003 x8) x1).bind fun t342 => (spec_WinnersOf.l1 k x1 x5 x6 (decide (t342 ≤ 0)) (wrap64 (x8 + 1)) x335000 x335001 x335002 x335003)) else (none)) else (none)) else (none)) else (none)) else (spec_WinnersOf.l0 k x1 x5 (wrap64 (x6 + 1)) x335000 x335001 x335002 x335003)) else (if x7 = true then (if x5.length < 17592186044416 then (spec_WinnersOf.l0 k x1 (x5 ++ [x6]) (wrap64 (x6 + 1)) x335000 x335001 x335002 x335003) else (none)) else (spec_WinnersOf.l0 k x1 x5 (wrap64 (x6 + 1)) x335000 x335001 x335002 x335003))
end
def spec_WinnersOf.f (k : Nat) (a0_0 : ByteArray) (l0_1 : List ByteArray) (l0_2 : List (S77)) (l0_3 : List (List Int)) (l1 : List Int) : Option (List Int) := (some (([] : List Int) : List Int)).bind fun y335 => ((spec_IsTableau.f k a0_0 l0_1 l0_2 l0_3).bind fun t338 => (if t338 = true then ((spec_IsRanking.f k l1 (l0_1.length : Int)).bind fun t339 => (spec_WinnersOf.j0 k l1 y335 (!t339) a0_0 l0_1 l0_2 l0_3)) else (spec_WinnersOf.j0 k l1 y335 true a0_0 l0_1 l0_2 l0_3)))
theorem spec_WinnersOf.mono_l : ∀ k, (∀ y0 y1 y2 y3 y4 y5 y6, LeO (spec_WinnersOf.j0 k y0 y1 y2 y3 y4 y5 y6) (spec_WinnersOf.j0 (k + 1) y0 y1 y2 y3 y4 y5 y6)) ∧ (∀ y0 y1 y2 y3 y4 y5 y6, LeO (spec_WinnersOf.l0 k y0 y1 y2 y3 y4 y5 y6) (spec_WinnersOf.l0 (k + 1) y0 y1 y2 y3 y4 y5 y6)) ∧ (∀ y0 y1 y2 y3 y4 y5 y6 y7 y8, LeO (spec_WinnersOf.l1 k y0 y1 y2 y3 y4 y5 y6 y7 y8) (spec_WinnersOf.l1 (k + 1) y0 y1 y2 y3 y4 y5 y6 y7 y8))
 | 0 => ⟨fun _ _ _ _ _ _ _ r h => by simp [spec_WinnersOf.j0] at h, fun _ _ _ _ _ _ _ r h => by simp [spec_WinnersOf.l0] at h, fun _ _ _ _ _ _ _ _ _ r h => by simp [spec_WinnersOf.l1] at h⟩
 | k + 1 => by
  obtain ⟨ih0, ih1, ih2⟩ := spec_WinnersOf.mono_l k; refine ⟨?_, ?_, ?_⟩
  ·intro y0 y1 y2 y3 y4 y5 y6
   unfold spec_WinnersOf.j0
   with_reducible repeat' first | exact ih0 _ _ _ _ _ _ _ | exact ih1 _ _ _ _ _ _ _ | exact ih2 _ _ _ _ _ _ _ _ _ | exact spec_CompareMarks.mono _ _ _ _ | exact spec_IsRanking.mono _ _ _ | exact spec_IsTableau.mono _ _ _ _ _ | exact LeO.refl _ | exact LeO.none _ | refine LeO.ite ?_ ?_ | refine LeO.bind ?_ (fun _ => ?_)
  ·intro y0 y1 y2 y3 y4 y5 y6
   unfold spec_WinnersOf.l0
   with_reducible repeat' first | exact ih0 _ _ _ _ _ _ _ | exact ih1 _ _ _ _ _ _ _ | exact ih2 _ _ _ _ _ _ _ _ _ | exact spec_CompareMarks.mono _ _ _ _ | exact spec_IsRanking.mono _ _ _ | exact spec_IsTableau.mono _ _ _ _ _ | exact LeO.refl _ | exact LeO.none _ | refine LeO.ite ?_ ?_ | refine LeO.bind ?_ (fun _ => ?_)
  ·intro y0 y1 y2 y3 y4 y5 y6 y7 y8
   unfold spec_WinnersOf.l1
   with_reducible repeat' first | exact ih0 _ _ _ _ _ _ _ | exact ih1 _ _ _ _ _ _ _ | exact ih2 _ _ _ _ _ _ _ _ _ | exact spec_CompareMarks.mono _ _ _ _ | exact spec_IsRanking.mono _ _ _ | exact spec_IsTableau.mono _ _ _ _ _ | exact LeO.refl _ | exact LeO.none _ | refine LeO.ite ?_ ?_ | refine LeO.bind ?_ (fun _ => ?_)
theorem spec_WinnersOf.mono : ∀ a0 a1 a2 a3 a4 k, LeO (spec_WinnersOf.f k a0 a1 a2 a3 a4) (spec_WinnersOf.f (k + 1) a0 a1 a2 a3 a4) := by
 intro a0 a1 a2 a3 a4 k
 obtain ⟨ih0, ih1, ih2⟩ := spec_WinnersOf.mono_l k
 unfold spec_WinnersOf.f
 with_reducible repeat' first | exact ih0 _ _ _ _ _ _ _ | exact ih1 _ _ _ _ _ _ _ | exact ih2 _ _ _ _ _ _ _ _ _ | exact spec_CompareMarks.mono _ _ _ _ | exact spec_IsRanking.mono _ _ _ | exact spec_IsTableau.mono _ _ _ _ _ | exact LeO.refl _ | exact LeO.none _ | refine LeO.ite ?_ ?_ | refine LeO.bind ?_ (fun _ => ?_)
set_option maxHeartbeats 8000000 in
set_option maxRecDepth 100000 in
theorem spec_WinnersOf.calls (k : Nat) (a0_0 : ByteArray) (A0_1 : Option Addr) (c0_1 : Nat) (l0_1 : List ByteArray) (A0_2 : Option Addr) (c0_2 : Nat) (l0_2 : List (S77)) (A0_3 : Option Addr) (c0_3 : Nat) (l0_3 : List (List Int)) (A1 : Option Addr) (c1 : Nat) (l1 : List Int) (r : List Int) (w : World) (hr0_1 : Kd.C Kd.string w A0_1 l0_1.length l0_1) (hc0_1 : l0_1.length ≤ c0_1) (hr0_2 : Kd.C k77 w A0_2 l0_2.length l0_2) (hc0_2 : l0_2.length ≤ c0_2) (hr0_3 : Kd.C (Kd.slice 3 (Kd.int .i64)) w A0_3 l0_3.length l0_3) (hc0_3 : l0_3.length ≤ c0_3) (hr1 : Kd.C (Kd.int .i64) w A1 l1.length l1) (hc1 : l1.length ≤ c1) (h : spec_WinnersOf.f k a0_0 l0_1 l0_2 l0_3 l1 = some r) :
  Calls Tryz.prog 25 #[.agg #[.string a0_0, .slice A0_1 l0_1.length c0_1, .slice A0_2 l0_2.length c0_2, .slice A0_3 l0_3.length c0_3], .slice A1 l1.length c1] w fun e w' => ∃ v0_ : Value, e = .returned (v0_) ∧ Kd.R (Kd.int .i64) 3 w' w.heap.size (fun _ => True) v0_ r ∧ Below w.heap.size w w' := by
 have hu32 := Tryz.underlying32; have HR0_1 := Aside0.mk hr0_1; have HC0_1 := Aside0.mk hc0_1; clear hr0_1 hc0_1; have HR0_2 := Aside0.mk hr0_2; have HC0_2 := Aside0.mk hc0_2; clear hr0_2 hc0_2; have HR0_3 := Aside0.mk hr0_3; have HC0_3 := Aside0.mk hc0_3; clear hr0_3 hc0_3; have HR1 := Aside0.mk hr1; have HC1 := Aside0.mk hc1; clear hr1 hc1; have HB := asT (Below.refl w.heap.size w); have H := h; unfold spec_WinnersOf.f at H; clear h; obtain ⟨y335, hy335⟩ : ∃ y_ : List Int, y_ = (([] : List Int)) := ⟨_, rfl⟩
 replace H : ((spec_IsTableau.f k a0_0 l0_1 l0_2 l0_3).bind fun t338 => (if t338 = true then ((spec_IsRanking.f k l1 (l0_1.length : Int)).bind fun t339 => (spec_WinnersOf.j0 k l1 y335 (!t339) a0_0 l0_1 l0_2 l0_3)) else (spec_WinnersOf.j0 k l1 y335 true a0_0 l0_1 l0_2 l0_3))) = some r := by first | (rw [hy335]; with_reducible exact H) | (have H2_ := (Option.bind_some _ _).symm.trans H; rw [hy335]; with_reducible exact H2_) | (have H2_ := (Option.bind_some _ _).symm.trans H; with_reducible exact H2_) | with_reducible exact H | (rw [hy335]; exact H) | exact H
 have Ny335 := Aside0.mk hy335; clear hy335; have HC3 := Aside0.mk H; clear H
 go_enter Tryz.func25, Tryz.ntmps25
 go_upto_region 2 with (first | ((with_reducible refine gate_dst (N := 2) rfl ?_); (try (refine gate_guard (by rfl) ?_; dsimp only)); refine boxT (N := 2) (cs := #[.string a0_0, .slice A0_1 l0_1.length c0_1, .slice A0_2 l0_2.length c0_2, .slice A0_3 l0_3.length c0_3]) (t := 32) ?_; intro gb334 hg w4 hbox hb; have BK334 := asT hbox; have GW334 := asT (geT hg HB.out); have GE334 := GW334; replace HB := hS HB hb; clear hb hbox hg) | ((with_reducible refine gate_dst (N := 9) rfl ?_); (try (refine gate_guard (by rfl) ?_; dsimp only)); refine Kd.R_lit (Kd.int .i64) _ 3 ?hg (N := 9) ?hd (xs := ([] : List Int)) (inner := []) (ok := fun _ => True) (okp := fun _ => True) ?hr ?hp (fun _ hk => hk) trivial (Below.refl _ _) (Nat.le_refl _) (by simp) ?_; (case hd => rfl); (case hg => rfl); (case hr => first | (go_simp; done) | (go_simp; rfl)); (case hp => exact (Reps.none _ _)); intro v336 w5 ho6 hb hg_ hnew_; clear hg_ hnew_; (first | rw [← Ny335.out] at ho6 | (simp only [Int.reduceToNat] at ho6; rw [← Ny335.out] at ho6)); have HO337 := asT (Kd.R_lower ho6 (below_size (hbT HB.out))); replace BK334 := bS BK334 hb; replace HB := hS HB hb; clear hb ho6))
 repeat (go_quiet (first | ((with_reducible refine gate_dst (N := 2) rfl ?_); (try (refine gate_guard (by rfl) ?_; dsimp only)); refine boxT (N := 2) (cs := #[.string a0_0, .slice A0_1 l0_1.length c0_1, .slice A0_2 l0_2.length c0_2, .slice A0_3 l0_3.length c0_3]) (t := 32) ?_; intro gb334 hg w4 hbox hb; have BK334 := asT hbox; have GW334 := asT (geT hg HB.out); have GE334 := GW334; replace HB := hS HB hb; clear hb hbox hg) | ((with_reducible refine gate_dst (N := 9) rfl ?_); (try (refine gate_guard (by rfl) ?_; dsimp only)); refine Kd.R_lit (Kd.int .i64) _ 3 ?hg (N := 9) ?hd (xs := ([] : List Int)) (inner := []) (ok := fun _ => True) (okp := fun _ => True) ?hr ?hp (fun _ hk => hk) trivial (Below.refl _ _) (Nat.le_refl _) (by simp) ?_; (case hd => rfl); (case hg => rfl); (case hr => first | (go_simp; done) | (go_simp; rfl)); (case hp => exact (Reps.none _ _)); intro v336 w5 ho6 hb hg_ hnew_; clear hg_ hnew_; (first | rw [← Ny335.out] at ho6 | (simp only [Int.reduceToNat] at ho6; rw [← Ny335.out] at ho6)); have HO337 := asT (Kd.R_lower ho6 (below_size (hbT HB.out))); replace BK334 := bS BK334 hb; replace HB := hS HB hb; clear hb ho6)); go_upto_region 2 with (first | ((with_reducible refine gate_dst (N := 2) rfl ?_); (try (refine gate_guard (by rfl) ?_; dsimp only)); refine boxT (N := 2) (cs := #[.string a0_0, .slice A0_1 l0_1.length c0_1, .slice A0_2 l0_2.length c0_2, .slice A0_3 l0_3.length c0_3]) (t := 32) ?_; intro gb334 hg w4 hbox hb; have BK334 := asT hbox; have GW334 := asT (geT hg HB.out); have GE334 := GW334; replace HB := hS HB hb; clear hb hbox hg) | ((with_reducible refine gate_dst (N := 9) rfl ?_); (try (refine gate_guard (by rfl) ?_; dsimp only)); refine Kd.R_lit (Kd.int .i64) _ 3 ?hg (N := 9) ?hd (xs := ([] : List Int)) (inner := []) (ok := fun _ => True) (okp := fun _ => True) ?hr ?hp (fun _ hk => hk) trivial (Below.refl _ _) (Nat.le_refl _) (by simp) ?_; (case hd => rfl); (case hg => rfl); (case hr => first | (go_simp; done) | (go_simp; rfl)); (case hp => exact (Reps.none _ _)); intro v336 w5 ho6 hb hg_ hnew_; clear hg_ hnew_; (first | rw [← Ny335.out] at ho6 | (simp only [Int.reduceToNat] at ho6; rw [← Ny335.out] at ho6)); have HO337 := asT (Kd.R_lower ho6 (below_size (hbT HB.out))); replace BK334 := bS BK334 hb; replace HB := hS HB hb; clear hb ho6)))
 (try simp only [Act.put, sA, sZ, sS])
 go_cut [20] (fun v20 wc => ∃ (kq : Nat) (x20_2 : Bool), v20 = .bool x20_2 ∧ Aside0 (spec_WinnersOf.j0 kq l1 y335 x20_2 a0_0 l0_1 l0_2 l0_3 = some r) ∧ Aside0 (kq ≤ k) ∧ Aside0 (Kd.R (Kd.int .i64) 3 wc w.heap.size (fun _ => True) v336 y335) ∧ Aside0 (wc.heap[gb334]? = some (.cells #[.string a0_0, (.slice A0_1 l0_1.length c0_1), (.slice A0_2 l0_2.length c0_2), (.slice A0_3 l0_3.length c0_3)] 32 (0, 0))) ∧ Aside0 (Below w.heap.size w wc))
 case first =>
  have H := HC3.out; clear HC3; obtain ⟨t338, A7, H⟩ := be H
  by_cases c8 : t338 = true
  ·subst c8
   rw [if_pos rfl] at H; obtain ⟨t339, A9, H⟩ := be H; have H' := Aside0.mk H; clear H
   have hcz10_0 := bc0 BK334.out
   have hcz10_1 := bc1 BK334.out
   have hcz10_2 := bc2 BK334.out
   have hcz10_3 := bc3 BK334.out
   have hfz10_0 := blk_frozen BK334.out 0; have hfz10_1 := blk_frozen BK334.out 1; have hfz10_2 := blk_frozen BK334.out 2; have hfz10_3 := blk_frozen BK334.out 3
   go_wp2_with (first | (go_at_call 35; (with_reducible refine (spec_IsTableau.calls k a0_0 _ _ l0_1 _ _ l0_2 _ _ l0_3 true _ ?side1 ?side2 ?side3 ?side4 ?side5 ?side6 A7.out).mono ?_); (case side1 => exact crT HR0_1.out HB.out); (case side2 => exact HC0_1.out); (case side3 => exact crT HR0_2.out HB.out); (case side4 => exact HC0_2.out); (case side5 => exact crT HR0_3.out HB.out); (case side6 => exact HC0_3.out); rintro e w11 ⟨rfl, hb⟩; replace HO337 := asT (Kd.R_below (roT HO337.out) hb); replace BK334 := bS BK334 hb; replace HB := hS HB hb; (try clear hb hb2 hk hi); obtain ⟨hcz12_0, hcz12_1, hcz12_2, hcz12_3, hfz12_0, hfz12_1, hfz12_2, hfz12_3⟩ := bx4 BK334.out) | (go_at_call 55; (with_reducible refine (spec_IsRanking.calls k _ _ l1 (l0_1.length : Int) t339 _ ?side1 ?side2 A9.out).mono ?_); (case side1 => exact crT HR1.out HB.out); (case side2 => exact HC1.out); rintro e w' ⟨rfl, ⟨nd, rfl⟩⟩; (try first | exact ⟨rfl, _, World.drewN_drewN _ _ _⟩ | exact ⟨rfl, _, Eq.trans (World.drewN_drewN _ _ _) (congrArg (World.drewN _) (Nat.add_assoc _ _ _))⟩)))
   repeat (go_quiet (first | (go_at_call 35; (with_reducible refine (spec_IsTableau.calls k a0_0 _ _ l0_1 _ _ l0_2 _ _ l0_3 true _ ?side1 ?side2 ?side3 ?side4 ?side5 ?side6 A7.out).mono ?_); (case side1 => exact crT HR0_1.out HB.out); (case side2 => exact HC0_1.out); (case side3 => exact crT HR0_2.out HB.out); (case side4 => exact HC0_2.out); (case side5 => exact crT HR0_3.out HB.out); (case side6 => exact HC0_3.out); rintro e w11 ⟨rfl, hb⟩; replace HO337 := asT (Kd.R_below (roT HO337.out) hb); replace BK334 := bS BK334 hb; replace HB := hS HB hb; (try clear hb hb2 hk hi); obtain ⟨hcz12_0, hcz12_1, hcz12_2, hcz12_3, hfz12_0, hfz12_1, hfz12_2, hfz12_3⟩ := bx4 BK334.out) | (go_at_call 55; (with_reducible refine (spec_IsRanking.calls k _ _ l1 (l0_1.length : Int) t339 _ ?side1 ?side2 A9.out).mono ?_); (case side1 => exact crT HR1.out HB.out); (case side2 => exact HC1.out); rintro e w' ⟨rfl, ⟨nd, rfl⟩⟩; (try first | exact ⟨rfl, _, World.drewN_drewN _ _ _⟩ | exact ⟨rfl, _, Eq.trans (World.drewN_drewN _ _ _) (congrArg (World.drewN _) (Nat.add_assoc _ _ _))⟩))); try go_wp2_with (first | (go_at_call 35; (with_reducible refine (spec_IsTableau.calls k a0_0 _ _ l0_1 _ _ l0_2 _ _ l0_3 true _ ?side1 ?side2 ?side3 ?side4 ?side5 ?side6 A7.out).mono ?_); (case side1 => exact crT HR0_1.out HB.out); (case side2 => exact HC0_1.out); (case side3 => exact crT HR0_2.out HB.out); (case side4 => exact HC0_2.out); (case side5 => exact crT HR0_3.out HB.out); (case side6 => exact HC0_3.out); rintro e w11 ⟨rfl, hb⟩; replace HO337 := asT (Kd.R_below (roT HO337.out) hb); replace BK334 := bS BK334 hb; replace HB := hS HB hb; (try clear hb hb2 hk hi); obtain ⟨hcz12_0, hcz12_1, hcz12_2, hcz12_3, hfz12_0, hfz12_1, hfz12_2, hfz12_3⟩ := bx4 BK334.out) | (go_at_call 55; (with_reducible refine (spec_IsRanking.calls k _ _ l1 (l0_1.length : Int) t339 _ ?side1 ?side2 A9.out).mono ?_); (case side1 => exact crT HR1.out HB.out); (case side2 => exact HC1.out); rintro e w' ⟨rfl, ⟨nd, rfl⟩⟩; (try first | exact ⟨rfl, _, World.drewN_drewN _ _ _⟩ | exact ⟨rfl, _, Eq.trans (World.drewN_drewN _ _ _) (congrArg (World.drewN _) (Nat.add_assoc _ _ _))⟩))))
   go_meet
   case rel => exact ⟨_, (!t339), rdT, H', ⟨by first | omega | exact Nat.le_refl _⟩, ⟨by (with_reducible repeat (first | apply Kd.R_alloc | apply Kd.R_drewN | apply Kd.R_drew)); exact HO337.out⟩, ⟨by (with_reducible repeat (first | refine blk_drewN ?_ _ | refine blk_drew ?_ | refine blk_alloc ?_ _)); exact BK334.out⟩, ⟨hbT HB.out⟩⟩
  ·replace c8 := Bool.eq_false_iff.mpr c8
   subst c8; rw [if_neg nF] at H; have H' := Aside0.mk H; clear H
   have hcz13_0 := bc0 BK334.out
   have hcz13_1 := bc1 BK334.out
   have hcz13_2 := bc2 BK334.out
   have hcz13_3 := bc3 BK334.out
   have hfz13_0 := blk_frozen BK334.out 0; have hfz13_1 := blk_frozen BK334.out 1; have hfz13_2 := blk_frozen BK334.out 2; have hfz13_3 := blk_frozen BK334.out 3
   go_wp2_with (first | (go_at_call 35; (with_reducible refine (spec_IsTableau.calls k a0_0 _ _ l0_1 _ _ l0_2 _ _ l0_3 false _ ?side1 ?side2 ?side3 ?side4 ?side5 ?side6 A7.out).mono ?_); (case side1 => exact crT HR0_1.out HB.out); (case side2 => exact HC0_1.out); (case side3 => exact crT HR0_2.out HB.out); (case side4 => exact HC0_2.out); (case side5 => exact crT HR0_3.out HB.out); (case side6 => exact HC0_3.out); rintro e w14 ⟨rfl, hb⟩; replace HO337 := asT (Kd.R_below (roT HO337.out) hb); replace BK334 := bS BK334 hb; replace HB := hS HB hb; (try clear hb hb2 hk hi)))
   repeat (go_quiet (first | (go_at_call 35; (with_reducible refine (spec_IsTableau.calls k a0_0 _ _ l0_1 _ _ l0_2 _ _ l0_3 false _ ?side1 ?side2 ?side3 ?side4 ?side5 ?side6 A7.out).mono ?_); (case side1 => exact crT HR0_1.out HB.out); (case side2 => exact HC0_1.out); (case side3 => exact crT HR0_2.out HB.out); (case side4 => exact HC0_2.out); (case side5 => exact crT HR0_3.out HB.out); (case side6 => exact HC0_3.out); rintro e w14 ⟨rfl, hb⟩; replace HO337 := asT (Kd.R_below (roT HO337.out) hb); replace BK334 := bS BK334 hb; replace HB := hS HB hb; (try clear hb hb2 hk hi))); try go_wp2_with (first | (go_at_call 35; (with_reducible refine (spec_IsTableau.calls k a0_0 _ _ l0_1 _ _ l0_2 _ _ l0_3 false _ ?side1 ?side2 ?side3 ?side4 ?side5 ?side6 A7.out).mono ?_); (case side1 => exact crT HR0_1.out HB.out); (case side2 => exact HC0_1.out); (case side3 => exact crT HR0_2.out HB.out); (case side4 => exact HC0_2.out); (case side5 => exact crT HR0_3.out HB.out); (case side6 => exact HC0_3.out); rintro e w14 ⟨rfl, hb⟩; replace HO337 := asT (Kd.R_below (roT HO337.out) hb); replace BK334 := bS BK334 hb; replace HB := hS HB hb; (try clear hb hb2 hk hi))))
   go_meet
   case rel => exact ⟨_, (true), rdT, H', ⟨by first | omega | exact Nat.le_refl _⟩, ⟨by (with_reducible repeat (first | apply Kd.R_alloc | apply Kd.R_drewN | apply Kd.R_drew)); exact HO337.out⟩, ⟨by (with_reducible repeat (first | refine blk_drewN ?_ _ | refine blk_drew ?_ | refine blk_alloc ?_ _)); exact BK334.out⟩, ⟨hbT HB.out⟩⟩
 case rest =>
  clear HC3; (try clear c1 c2 p2 c8 hcz10_0 hcz10_1 hcz10_2 hcz10_3 hcz12_0 hcz12_1 hcz12_2 hcz12_3 hcz13_0 hcz13_1 hcz13_2 hcz13_3 hfz10_0 hfz10_1 hfz10_2 hfz10_3 hfz12_0 hfz12_1 hfz12_2 hfz12_3 hfz13_0 hfz13_1 hfz13_2 hfz13_3); obtain ⟨kq, x20_2, rfl, HA, HJ2, HO_5, BK334, HB⟩ := hcut
  cases kq with
  | zero => exact absurd HA.out (by simp [spec_WinnersOf.j0])
  | succ kj2 =>
   have H := HA.out; clear HA
   simp only [spec_WinnersOf.j0] at H
   by_cases c15 : x20_2 = true
   ·subst c15
    rw [if_pos rfl] at H; have H1 := H; clear H; have H := H1; clear H1
    obtain rfl := Option.some.inj H
    go_wp2
    repeat (go_quiet (fail); try go_wp2)
    go_ret
    exact ⟨_, rlT, by (with_reducible repeat (first | apply Kd.R_alloc | apply Kd.R_drewN | apply Kd.R_drew)); exact HO_5.out, hbT HB.out⟩
   ·replace c15 := Bool.eq_false_iff.mpr c15
    subst c15; rw [if_neg nF] at H; have H' := Aside0.mk H; clear H
    go_wp2
    repeat (go_quiet (fail); try go_wp2)
    go_loopg [5, 6] kj2 (fun kq v5 v6 w' => ∃ (x5_2 : List Int) (x6_2 : Int), v6 = .int .i64 x6_2 ∧ Aside0 (spec_WinnersOf.l0 kq l1 x5_2 x6_2 a0_0 l0_1 l0_2 l0_3 = some r) ∧ Aside0 (kq ≤ kj2) ∧ Aside0 (Kd.R (Kd.int .i64) 3 w' w.heap.size (fun _ => True) v5 x5_2) ∧ Aside0 (w'.heap[gb334]? = some (.cells #[.string a0_0, (.slice A0_1 l0_1.length c0_1), (.slice A0_2 l0_2.length c0_2), (.slice A0_3 l0_3.length c0_3)] 32 (0, 0))) ∧ Aside0 (Below w.heap.size w w'))
    case atStart => exact ⟨(y335), (0), rdT, H', ⟨Nat.le_refl _⟩, ⟨by (with_reducible repeat (first | apply Kd.R_alloc | apply Kd.R_drewN | apply Kd.R_drew)); exact HO_5.out⟩, ⟨by (with_reducible repeat (first | refine blk_drewN ?_ _ | refine blk_drew ?_ | refine blk_alloc ?_ _)); exact BK334.out⟩, ⟨hbT HB.out⟩⟩
    case round =>
     clear H'; (try clear c1 c2 p2 c8 c15 hcz10_0 hcz10_1 hcz10_2 hcz10_3 hcz12_0 hcz12_1 hcz12_2 hcz12_3 hcz13_0 hcz13_1 hcz13_2 hcz13_3 hfz10_0 hfz10_1 hfz10_2 hfz10_3 hfz12_0 hfz12_1 hfz12_2 hfz12_3 hfz13_0 hfz13_1 hfz13_2 hfz13_3 p2); obtain ⟨x5_2, x6_2, rfl, HA, HK2, HO_5, BK334, HB⟩ := hrel
     cases gk with
     | zero => exact absurd HA.out (by simp [spec_WinnersOf.l0])
     | succ k2 =>
      have H := HA.out; clear HA
      simp only [spec_WinnersOf.l0] at H
      by_cases c16 : x6_2 < (l0_2.length : Int)
      ·rw [if_pos c16] at H
       have c16b0 : decide (x6_2 < (l0_2.length : Int)) = true := decide_eq_true c16
       clear c16; have H' := Aside0.mk H; clear H
       have hcz17_0 := bc0 BK334.out
       have hcz17_1 := bc1 BK334.out
       have hcz17_2 := bc2 BK334.out
       have hcz17_3 := bc3 BK334.out
       have hfz17_0 := blk_frozen BK334.out 0; have hfz17_1 := blk_frozen BK334.out 1; have hfz17_2 := blk_frozen BK334.out 2; have hfz17_3 := blk_frozen BK334.out 3
       go_wp2
       repeat (go_quiet (fail); try go_wp2)
       go_loopg [7, 8] k2 (fun kq v7 v8 w' => ∃ (x7_3 : Bool) (x8_3 : Int), v7 = .bool x7_3 ∧ v8 = .int .i64 x8_3 ∧ Aside0 (spec_WinnersOf.l1 kq l1 x5_2 x6_2 x7_3 x8_3 a0_0 l0_1 l0_2 l0_3 = some r) ∧ Aside0 (kq ≤ k2) ∧ Aside0 (Kd.R (Kd.int .i64) 3 w' w.heap.size (fun _ => True) u5 x5_2) ∧ Aside0 (w'.heap[gb334]? = some (.cells #[.string a0_0, (.slice A0_1 l0_1.length c0_1), (.slice A0_2 l0_2.length c0_2), (.slice A0_3 l0_3.length c0_3)] 32 (0, 0))) ∧ Aside0 (Below w.heap.size w w'))
       case atStart => exact ⟨(true), (0), rdT, rdT, H', ⟨Nat.le_refl _⟩, ⟨by (with_reducible repeat (first | apply Kd.R_alloc | apply Kd.R_drewN | apply Kd.R_drew)); exact HO_5.out⟩, ⟨by (with_reducible repeat (first | refine blk_drewN ?_ _ | refine blk_drew ?_ | refine blk_alloc ?_ _)); exact BK334.out⟩, ⟨hbT HB.out⟩⟩
       case round =>
        clear H'; (try clear c1 c2 p2 c8 c15 c16 c16b0 hcz10_0 hcz10_1 hcz10_2 hcz10_3 hcz12_0 hcz12_1 hcz12_2 hcz12_3 hcz13_0 hcz13_1 hcz13_2 hcz13_3 hcz17_0 hcz17_1 hcz17_2 hcz17_3 hfz10_0 hfz10_1 hfz10_2 hfz10_3 hfz12_0 hfz12_1 hfz12_2 hfz12_3 hfz13_0 hfz13_1 hfz13_2 hfz13_3 hfz17_0 hfz17_1 hfz17_2 hfz17_3 p2); obtain ⟨x7_3, x8_3, rfl, rfl, HA, HK3, HO_5, BK334, HB⟩ := hrel
        cases gk with
        | zero => exact absurd HA.out (by simp [spec_WinnersOf.l1])
        | succ k3 =>
         have H := HA.out; clear HA
         simp only [spec_WinnersOf.l1] at H
         by_cases c18 : x8_3 < (l0_2.length : Int)
         ·rw [if_pos c18] at H
          have c18b0 : decide (x8_3 < (l0_2.length : Int)) = true := decide_eq_true c18
          clear c18
          by_cases c19 : x7_3 = true
          ·subst c19
           rw [if_pos rfl] at H; have H1 := H; clear H; have H := H1; clear H1
           by_cases c20 : 0 ≤ x6_2
           ·rw [if_pos c20] at H
            have c20b0 : decide (0 ≤ x6_2) = true := decide_eq_true c20
            clear c20
            by_cases c21 : x6_2 < (l0_3.length : Int)
            ·rw [if_pos c21] at H
             have c21b0 : decide (x6_2 < (l0_3.length : Int)) = true := decide_eq_true c21
             clear c21
             by_cases c22 : 0 ≤ x8_3
             ·rw [if_pos c22] at H
              have c22b0 : decide (0 ≤ x8_3) = true := decide_eq_true c22
              clear c22
              by_cases c23 : x8_3 < (l0_3.length : Int)
              ·rw [if_pos c23] at H
               have c23b0 : decide (x8_3 < (l0_3.length : Int)) = true := decide_eq_true c23
               clear c23; obtain ⟨t342, A24, H⟩ := be H; have H' := Aside0.mk H; clear H
               have hcz25_0 := bc0 BK334.out
               have hcz25_1 := bc1 BK334.out
               have hcz25_2 := bc2 BK334.out
               have hcz25_3 := bc3 BK334.out
               have hfz25_0 := blk_frozen BK334.out 0; have hfz25_1 := blk_frozen BK334.out 1; have hfz25_2 := blk_frozen BK334.out 2; have hfz25_3 := blk_frozen BK334.out 3
               have p340 : 0 ≤ (x6_2 : Int) := of_decide_eq_true asmT
               have q340 : x6_2 < (l0_3.length : Int) := of_decide_eq_true asmT
               obtain ⟨ad340, A340_0, c340_0, e340, hx340_0, hl340_0, hi340_0⟩ := at_L6 HR0_3.out x6_2 p340 q340
               cases e340
               replace hx340_0 := hbc HB.out hx340_0; have HR340_0 := Aside0.mk hi340_0; have HC340_0 := Aside0.mk hl340_0; clear hi340_0 hl340_0; replace p340 := eq_true p340; replace q340 := eq_true q340
               have p341 : 0 ≤ (x8_3 : Int) := of_decide_eq_true asmT
               have q341 : x8_3 < (l0_3.length : Int) := of_decide_eq_true asmT
               obtain ⟨ad341, A341_0, c341_0, e341, hx341_0, hl341_0, hi341_0⟩ := at_L6 HR0_3.out x8_3 p341 q341
               obtain rfl : ad340 = ad341 := (by injection e341)
               replace hx341_0 := hbc HB.out hx341_0; have HR341_0 := Aside0.mk hi341_0; have HC341_0 := Aside0.mk hl341_0; clear hi341_0 hl341_0; replace p341 := eq_true p341; replace q341 := eq_true q341
               go_wp2_with (first | (go_at_call 56; (with_reducible refine (spec_CompareMarks.calls k3 _ _ (rd_L6 l0_3 x6_2) _ _ (rd_L6 l0_3 x8_3) _ _ l1 t342 _ ?side1 ?side2 ?side3 ?side4 ?side5 ?side6 A24.out).mono ?_); (case side1 => exact crT HR340_0.out HB.out); (case side2 => exact HC340_0.out); (case side3 => exact crT HR341_0.out HB.out); (case side4 => exact HC341_0.out); (case side5 => exact crT HR1.out HB.out); (case side6 => exact HC1.out); rintro e w' ⟨rfl, ⟨nd, rfl⟩⟩; (try first | exact ⟨rfl, _, World.drewN_drewN _ _ _⟩ | exact ⟨rfl, _, Eq.trans (World.drewN_drewN _ _ _) (congrArg (World.drewN _) (Nat.add_assoc _ _ _))⟩)))
               repeat (go_quiet (first | (go_at_call 56; (with_reducible refine (spec_CompareMarks.calls k3 _ _ (rd_L6 l0_3 x6_2) _ _ (rd_L6 l0_3 x8_3) _ _ l1 t342 _ ?side1 ?side2 ?side3 ?side4 ?side5 ?side6 A24.out).mono ?_); (case side1 => exact crT HR340_0.out HB.out); (case side2 => exact HC340_0.out); (case side3 => exact crT HR341_0.out HB.out); (case side4 => exact HC341_0.out); (case side5 => exact crT HR1.out HB.out); (case side6 => exact HC1.out); rintro e w' ⟨rfl, ⟨nd, rfl⟩⟩; (try first | exact ⟨rfl, _, World.drewN_drewN _ _ _⟩ | exact ⟨rfl, _, Eq.trans (World.drewN_drewN _ _ _) (congrArg (World.drewN _) (Nat.add_assoc _ _ _))⟩))); try go_wp2_with (first | (go_at_call 56; (with_reducible refine (spec_CompareMarks.calls k3 _ _ (rd_L6 l0_3 x6_2) _ _ (rd_L6 l0_3 x8_3) _ _ l1 t342 _ ?side1 ?side2 ?side3 ?side4 ?side5 ?side6 A24.out).mono ?_); (case side1 => exact crT HR340_0.out HB.out); (case side2 => exact HC340_0.out); (case side3 => exact crT HR341_0.out HB.out); (case side4 => exact HC341_0.out); (case side5 => exact crT HR1.out HB.out); (case side6 => exact HC1.out); rintro e w' ⟨rfl, ⟨nd, rfl⟩⟩; (try first | exact ⟨rfl, _, World.drewN_drewN _ _ _⟩ | exact ⟨rfl, _, Eq.trans (World.drewN_drewN _ _ _) (congrArg (World.drewN _) (Nat.add_assoc _ _ _))⟩))))
               go_roundg k3
               case measure => have := HJ2.out; have := HK2.out; have := HK3.out; omega
               case rel => exact ⟨(decide (t342 ≤ 0)), (wrap64 (x8_3 + 1)), rdT, rdT, H', ⟨by have := HJ2.out; have := HK2.out; have := HK3.out; omega⟩, ⟨by (with_reducible repeat (first | apply Kd.R_alloc | apply Kd.R_drewN | apply Kd.R_drew)); exact HO_5.out⟩, ⟨by (with_reducible repeat (first | refine blk_drewN ?_ _ | refine blk_drew ?_ | refine blk_alloc ?_ _)); exact BK334.out⟩, ⟨hbT HB.out⟩⟩
              ·rw [if_neg c23] at H
               exact absurd H (by simp)
             ·rw [if_neg c22] at H
              exact absurd H (by simp)
            ·rw [if_neg c21] at H
             exact absurd H (by simp)
           ·rw [if_neg c20] at H
            exact absurd H (by simp)
          ·replace c19 := Bool.eq_false_iff.mpr c19
           subst c19; rw [if_neg nF] at H; have H' := Aside0.mk H; clear H
           have hcz26_0 := bc0 BK334.out
           have hcz26_1 := bc1 BK334.out
           have hcz26_2 := bc2 BK334.out
           have hcz26_3 := bc3 BK334.out
           have hfz26_0 := blk_frozen BK334.out 0; have hfz26_1 := blk_frozen BK334.out 1; have hfz26_2 := blk_frozen BK334.out 2; have hfz26_3 := blk_frozen BK334.out 3
           go_wp2
           repeat (go_quiet (fail); try go_wp2)
           go_roundg k3
           case measure => have := HJ2.out; have := HK2.out; have := HK3.out; omega
           case rel => exact ⟨(x5_2), (wrap64 (x6_2 + 1)), rdT, H', ⟨by have := HJ2.out; have := HK2.out; have := HK3.out; omega⟩, ⟨by (with_reducible repeat (first | apply Kd.R_alloc | apply Kd.R_drewN | apply Kd.R_drew)); exact HO_5.out⟩, ⟨by (with_reducible repeat (first | refine blk_drewN ?_ _ | refine blk_drew ?_ | refine blk_alloc ?_ _)); exact BK334.out⟩, ⟨hbT HB.out⟩⟩
         ·rw [if_neg c18] at H
          have c18b0 : decide (x8_3 < (l0_2.length : Int)) = false := decide_eq_false c18
          clear c18
          by_cases c27 : x7_3 = true
          ·subst c27
           rw [if_pos rfl] at H; have H1 := H; clear H; have H := H1; clear H1
           by_cases c28 : x5_2.length < 17592186044416
           ·rw [if_pos c28] at H
            have LMc28 := Aside0.mk c28; clear c28; obtain ⟨y343, hy343⟩ : ∃ y_ : List Int, y_ = (x5_2 ++ [x6_2]) := ⟨_, rfl⟩
            replace H : (spec_WinnersOf.l0 k3 l1 y343 (wrap64 (x6_2 + 1)) a0_0 l0_1 l0_2 l0_3) = some r := by first | (rw [hy343]; with_reducible exact H) | (have H2_ := (Option.bind_some _ _).symm.trans H; rw [hy343]; with_reducible exact H2_) | (have H2_ := (Option.bind_some _ _).symm.trans H; with_reducible exact H2_) | with_reducible exact H | (rw [hy343]; exact H) | exact H
            have Ny343 := Aside0.mk hy343; clear hy343; have H' := Aside0.mk H; clear H
            have hcz29_0 := bc0 BK334.out
            have hcz29_1 := bc1 BK334.out
            have hcz29_2 := bc2 BK334.out
            have hcz29_3 := bc3 BK334.out
            have hfz29_0 := blk_frozen BK334.out 0; have hfz29_1 := blk_frozen BK334.out 1; have hfz29_2 := blk_frozen BK334.out 2; have hfz29_3 := blk_frozen BK334.out 3
            go_wp2_with (first | ((with_reducible refine gate_builtin (b := .append) (xs := #[.tmp 53, .tmp 55]) rfl ?_); (try (refine gate_guard (by rfl) ?_; dsimp only)); at_builtin; refine Kd.R_append (Kd.int .i64) (w0 := w) w.heap.size rfl (.tmp 53) (.tmp 55) 28 3 (.int .i64 0) 8 rfl Tryz.underlying28 info3 rfl (by decide) (by omega) u5 x5_2 x6_2 [.int .i64 x6_2] (fun _ => True) (fun _ => False) rfl rfl ?aP (fun _ hk => hk.elim) ?aF ?aO ?aB ?aS ?aL ?_; (case aP => exact rfl); (case aB => exact (hbT HB.out)); (case aF => exact (fun _ _ => trivial)); (case aO => exact (roT HO_5.out)); (case aS => exact (below_size (hbT HB.out))); (case aL => have := LMc28.out; omega); intro v344 w30 ho hb hg hat; rw [← Ny343.out] at ho; replace BK334 := asT (blk_grown (g := gb334) (o := .cells #[.string a0_0, .slice A0_1 l0_1.length c0_1, .slice A0_2 l0_2.length c0_2, .slice A0_3 l0_3.length c0_3] 32 (0, 0)) (bkT BK334.out) hg (Kd.R_ne HO_5.out BK334.out (by decide))); replace HB := asT (hb); have HO345 := asT (ho); clear HO_5 ho hb hg hat))
            repeat (go_quiet (first | ((with_reducible refine gate_builtin (b := .append) (xs := #[.tmp 53, .tmp 55]) rfl ?_); (try (refine gate_guard (by rfl) ?_; dsimp only)); at_builtin; refine Kd.R_append (Kd.int .i64) (w0 := w) w.heap.size rfl (.tmp 53) (.tmp 55) 28 3 (.int .i64 0) 8 rfl Tryz.underlying28 info3 rfl (by decide) (by omega) u5 x5_2 x6_2 [.int .i64 x6_2] (fun _ => True) (fun _ => False) rfl rfl ?aP (fun _ hk => hk.elim) ?aF ?aO ?aB ?aS ?aL ?_; (case aP => exact rfl); (case aB => exact (hbT HB.out)); (case aF => exact (fun _ _ => trivial)); (case aO => exact (roT HO_5.out)); (case aS => exact (below_size (hbT HB.out))); (case aL => have := LMc28.out; omega); intro v344 w30 ho hb hg hat; rw [← Ny343.out] at ho; replace BK334 := asT (blk_grown (g := gb334) (o := .cells #[.string a0_0, .slice A0_1 l0_1.length c0_1, .slice A0_2 l0_2.length c0_2, .slice A0_3 l0_3.length c0_3] 32 (0, 0)) (bkT BK334.out) hg (Kd.R_ne HO_5.out BK334.out (by decide))); replace HB := asT (hb); have HO345 := asT (ho); clear HO_5 ho hb hg hat)); try go_wp2_with (first | ((with_reducible refine gate_builtin (b := .append) (xs := #[.tmp 53, .tmp 55]) rfl ?_); (try (refine gate_guard (by rfl) ?_; dsimp only)); at_builtin; refine Kd.R_append (Kd.int .i64) (w0 := w) w.heap.size rfl (.tmp 53) (.tmp 55) 28 3 (.int .i64 0) 8 rfl Tryz.underlying28 info3 rfl (by decide) (by omega) u5 x5_2 x6_2 [.int .i64 x6_2] (fun _ => True) (fun _ => False) rfl rfl ?aP (fun _ hk => hk.elim) ?aF ?aO ?aB ?aS ?aL ?_; (case aP => exact rfl); (case aB => exact (hbT HB.out)); (case aF => exact (fun _ _ => trivial)); (case aO => exact (roT HO_5.out)); (case aS => exact (below_size (hbT HB.out))); (case aL => have := LMc28.out; omega); intro v344 w30 ho hb hg hat; rw [← Ny343.out] at ho; replace BK334 := asT (blk_grown (g := gb334) (o := .cells #[.string a0_0, .slice A0_1 l0_1.length c0_1, .slice A0_2 l0_2.length c0_2, .slice A0_3 l0_3.length c0_3] 32 (0, 0)) (bkT BK334.out) hg (Kd.R_ne HO_5.out BK334.out (by decide))); replace HB := asT (hb); have HO345 := asT (ho); clear HO_5 ho hb hg hat)))
            go_roundg k3
            case measure => have := HJ2.out; have := HK2.out; have := HK3.out; omega
            case rel => exact ⟨(y343), (wrap64 (x6_2 + 1)), rdT, H', ⟨by have := HJ2.out; have := HK2.out; have := HK3.out; omega⟩, ⟨by (with_reducible repeat (first | apply Kd.R_alloc | apply Kd.R_drewN | apply Kd.R_drew)); exact HO345.out⟩, ⟨by (with_reducible repeat (first | refine blk_drewN ?_ _ | refine blk_drew ?_ | refine blk_alloc ?_ _)); exact BK334.out⟩, ⟨hbT HB.out⟩⟩
           ·rw [if_neg c28] at H
            exact absurd H (by simp)
          ·replace c27 := Bool.eq_false_iff.mpr c27
           subst c27; rw [if_neg nF] at H; have H' := Aside0.mk H; clear H
           have hcz31_0 := bc0 BK334.out
           have hcz31_1 := bc1 BK334.out
           have hcz31_2 := bc2 BK334.out
           have hcz31_3 := bc3 BK334.out
           have hfz31_0 := blk_frozen BK334.out 0; have hfz31_1 := blk_frozen BK334.out 1; have hfz31_2 := blk_frozen BK334.out 2; have hfz31_3 := blk_frozen BK334.out 3
           go_wp2
           repeat (go_quiet (fail); try go_wp2)
           go_roundg k3
           case measure => have := HJ2.out; have := HK2.out; have := HK3.out; omega
           case rel => exact ⟨(x5_2), (wrap64 (x6_2 + 1)), rdT, H', ⟨by have := HJ2.out; have := HK2.out; have := HK3.out; omega⟩, ⟨by (with_reducible repeat (first | apply Kd.R_alloc | apply Kd.R_drewN | apply Kd.R_drew)); exact HO_5.out⟩, ⟨by (with_reducible repeat (first | refine blk_drewN ?_ _ | refine blk_drew ?_ | refine blk_alloc ?_ _)); exact BK334.out⟩, ⟨hbT HB.out⟩⟩
      ·rw [if_neg c16] at H
       have c16b0 : decide (x6_2 < (l0_2.length : Int)) = false := decide_eq_false c16
       clear c16
       obtain rfl := Option.some.inj H
       have hcz32_0 := bc0 BK334.out
       have hcz32_1 := bc1 BK334.out
       have hcz32_2 := bc2 BK334.out
       have hcz32_3 := bc3 BK334.out
       have hfz32_0 := blk_frozen BK334.out 0; have hfz32_1 := blk_frozen BK334.out 1; have hfz32_2 := blk_frozen BK334.out 2; have hfz32_3 := blk_frozen BK334.out 3
       go_wp2
       repeat (go_quiet (fail); try go_wp2)
       go_ret
       exact ⟨_, rlT, by (with_reducible repeat (first | apply Kd.R_alloc | apply Kd.R_drewN | apply Kd.R_drew)); exact HO_5.out, hbT HB.out⟩
end Go.Proofs.YtmfhaplhgaehhabGreat.PFnExactFatalMark
