-- Made by gen.py (a program of this session) out of the translation; Lean checks it.
import Derived.Test.YtlmfpkiaikjlbaaDoorPFnExactParseRankingx0
import Derived.Test.YtlmfpkiaikjlbaaDoorPFnExactParseRankingx1
namespace Go.Proofs.YtlmfpkiaikjlbaaDoor.PFnExactParseRanking
open Go.RowKit Go.Proofs.YtlmfpkiaikjlbaaDoorB Go.Proofs.YtlmfpkiaikjlbaaDoorW.PrintWords Go.Proofs.YtlmfpkiaikjlbaaDoorW.PrintLast Go.Proofs.YtlmfpkiaikjlbaaDoorW.PrintMore
attribute [local go_sem] max2_int min2_int max_two min_two max_three min_three max_four min_four   -- for this text's walks alone
set_option linter.unusedVariables false
set_option linter.unusedSimpArgs false

/-! ### spec_IsRanking: function 32 -/
def spec_IsRanking.l0 : Nat → List Int → Int → Int → Option (Bool)
 | 0, _, _, _ => none
 | k + 1, x0, x1, x5 => if x5 < (x0.length : Int) then (if 0 ≤ x5 then (if (rd x0 x5) < 0 then (some false) else (if (rd x0 x5) ≥ x1 then (some false) else (if x5 ≤ (x0.length : Int) then ((spec_l12Has.f k (x0.take (x5 : Int).toNat) (rd x0 x5)).bind fun t136 => (if t136 = true then (some false) else (spec_IsRanking.l0 k x0 x1 (wrap64 (x5 + 1))))) else (none)))) else (none)) else ((spec_l1In.f x1 1 5).bind fun t137 => (if t137 = true then (some ((x0.length : Int) == x1)) else (some false)))
def spec_IsRanking.f (k : Nat) (l0 : List Int) (a1 : Int) : Option (Bool) := spec_IsRanking.l0 k l0 a1 0
theorem spec_IsRanking.mono_l : ∀ k, (∀ y0 y1 y2, LeO (spec_IsRanking.l0 k y0 y1 y2) (spec_IsRanking.l0 (k + 1) y0 y1 y2))
 | 0 => fun _ _ _ r h => by simp [spec_IsRanking.l0] at h
 | k + 1 => by
  have ih0 := spec_IsRanking.mono_l k
  ·intro y0 y1 y2
   unfold spec_IsRanking.l0
   with_reducible repeat' first | exact ih0 _ _ _ | exact spec_l12Has.mono _ _ _ | exact LeO.refl _ | exact LeO.none _ | refine LeO.ite ?_ ?_ | refine LeO.bind ?_ (fun _ => ?_)
theorem spec_IsRanking.mono : ∀ a0 a1 k, LeO (spec_IsRanking.f k a0 a1) (spec_IsRanking.f (k + 1) a0 a1) := by
 intro a0 a1 k
 have ih0 := spec_IsRanking.mono_l k
 unfold spec_IsRanking.f
 with_reducible repeat' first | exact ih0 _ _ _ | exact spec_l12Has.mono _ _ _ | exact LeO.refl _ | exact LeO.none _ | refine LeO.ite ?_ ?_ | refine LeO.bind ?_ (fun _ => ?_)
set_option maxHeartbeats 8000000 in
set_option maxRecDepth 100000 in
theorem spec_IsRanking.calls (k : Nat) (A0 : Option Addr) (c0 : Nat) (l0 : List Int) (a1 : Int) (r : Bool) (w : World) (hr0 : Kd.C (Kd.int .i64) w A0 l0.length l0) (hc0 : l0.length ≤ c0) (h : spec_IsRanking.f k l0 a1 = some r) :
  Calls Tryd.prog 32 #[.slice A0 l0.length c0, .int .i64 a1] w fun e w' => e = .returned (.bool r) ∧ Drawn0 w w' := by
 have HR0 := Aside0.mk hr0; have HC0 := Aside0.mk hc0; clear hr0 hc0; have H := h; unfold spec_IsRanking.f at H; clear h; have H' := Aside0.mk H; clear H
 go_enter Tryd.func32, Tryd.ntmps32
 go_wp2
 repeat (go_quiet (fail); try go_wp2)
 go_loopg [5] k (fun kq v5 w' => ∃ (x5_1 : Int), v5 = .int .i64 x5_1 ∧ Aside0 (spec_IsRanking.l0 kq l0 a1 x5_1 = some r) ∧ Aside0 (kq ≤ k) ∧ Drawn0 w w')
 case atStart => exact ⟨(0), rdT, H', ⟨Nat.le_refl _⟩, drT⟩
 case round =>
  clear H'; (try clear p2); obtain ⟨x5_1, rfl, HA, HK1, ⟨m1, rfl⟩⟩ := hrel
  cases gk with
  | zero => exact absurd HA.out (by simp [spec_IsRanking.l0])
  | succ k1 =>
   have H := HA.out; clear HA
   simp only [spec_IsRanking.l0] at H
   by_cases c3 : x5_1 < (l0.length : Int)
   ·rw [if_pos c3] at H
    have c3b0 : decide (x5_1 < (l0.length : Int)) = true := decide_eq_true c3
    clear c3
    by_cases c4 : 0 ≤ x5_1
    ·rw [if_pos c4] at H
     have c4b0 : decide (0 ≤ x5_1) = true := decide_eq_true c4
     clear c4
     by_cases c5 : (rd l0 x5_1) < 0
     ·rw [if_pos c5] at H
      have c5b0 : decide ((rd l0 x5_1) < 0) = true := decide_eq_true c5
      clear c5
      obtain rfl := Option.some.inj H
      have p132 : 0 ≤ (x5_1 : Int) := of_decide_eq_true asmT
      have q132 : x5_1 < (l0.length : Int) := of_decide_eq_true asmT
      obtain ⟨ad132, e132, hx132_0⟩ := Kd.at_int HR0.out x5_1 p132 q132
      cases e132
      replace p132 := eq_true p132; replace q132 := eq_true q132
      go_wp2
      repeat (go_quiet (fail); try go_wp2)
      go_ret
      exact ⟨rdT, drT⟩
     ·rw [if_neg c5] at H
      have c5b0 : decide ((rd l0 x5_1) < 0) = false := decide_eq_false c5
      clear c5
      by_cases c6 : (rd l0 x5_1) ≥ a1
      ·rw [if_pos c6] at H
       have c6b0 : decide (a1 ≤ (rd l0 x5_1)) = true := decide_eq_true c6
       clear c6
       obtain rfl := Option.some.inj H
       have p132 : 0 ≤ (x5_1 : Int) := of_decide_eq_true asmT
       have q132 : x5_1 < (l0.length : Int) := of_decide_eq_true asmT
       obtain ⟨ad132, e132, hx132_0⟩ := Kd.at_int HR0.out x5_1 p132 q132
       cases e132
       replace p132 := eq_true p132; replace q132 := eq_true q132
       have p133 : 0 ≤ (x5_1 : Int) := of_decide_eq_true asmT
       have q133 : x5_1 < (l0.length : Int) := of_decide_eq_true asmT
       obtain ⟨ad133, e133, hx133_0⟩ := Kd.at_int HR0.out x5_1 p133 q133
       obtain rfl : ad132 = ad133 := (by injection e133)
       replace p133 := eq_true p133; replace q133 := eq_true q133
       go_wp2
       repeat (go_quiet (fail); try go_wp2)
       go_ret
       exact ⟨rdT, drT⟩
      ·rw [if_neg c6] at H
       have c6b0 : decide (a1 ≤ (rd l0 x5_1)) = false := decide_eq_false c6
       clear c6; have c7b0 := eq_true (of_decide_eq_true asmT : 0 ≤ x5_1)
       by_cases c8 : x5_1 ≤ (l0.length : Int)
       ·rw [if_pos c8] at H
        have c8b0 := eq_true c8
        have c8b1 : decide (x5_1 ≤ (l0.length : Int)) = true := decide_eq_true c8
        clear c8; obtain ⟨t136, A9, H⟩ := be H
        by_cases c10 : t136 = true
        ·subst c10
         rw [if_pos rfl] at H; have H1 := H; clear H; have H := H1; clear H1
         obtain rfl := Option.some.inj H
         have p132 : 0 ≤ (x5_1 : Int) := of_decide_eq_true asmT
         have q132 : x5_1 < (l0.length : Int) := of_decide_eq_true asmT
         obtain ⟨ad132, e132, hx132_0⟩ := Kd.at_int HR0.out x5_1 p132 q132
         cases e132
         replace p132 := eq_true p132; replace q132 := eq_true q132
         have p133 : 0 ≤ (x5_1 : Int) := of_decide_eq_true asmT
         have q133 : x5_1 < (l0.length : Int) := of_decide_eq_true asmT
         obtain ⟨ad133, e133, hx133_0⟩ := Kd.at_int HR0.out x5_1 p133 q133
         obtain rfl : ad132 = ad133 := (by injection e133)
         replace p133 := eq_true p133; replace q133 := eq_true q133; obtain ⟨i011, hi011, _, hsz11, _⟩ := info_parts info3; obtain ⟨hcut11, hA11, hC11⟩ := print_take_of (P := Tryd.prog) (Value.int .i64) 0 28 3 .i64 Tryd.underlying28 hi011 hsz11 (some ad132) c0 l0 x5_1 (of_decide_eq_true asmT) (of_decide_eq_true asmT) HC0.out; have HR134 := asT (Kd.C_of_reads (h1 := fun _ => rfl) (hA11 _ (Kd.reads_of_C HR0.out))); have HC134 := Aside0.mk hC11; clear hA11 hC11 hi011 hsz11
         have p135 : 0 ≤ (x5_1 : Int) := of_decide_eq_true asmT
         have q135 : x5_1 < (l0.length : Int) := of_decide_eq_true asmT
         obtain ⟨ad135, e135, hx135_0⟩ := Kd.at_int HR0.out x5_1 p135 q135
         obtain rfl : ad132 = ad135 := (by injection e135)
         replace p135 := eq_true p135; replace q135 := eq_true q135
         go_wp2_with (first | (go_at_call 39; refine calls_of_args (args' := #[.slice _ (l0.take (x5_1 : Int).toNat).length _, .int .i64 (rd l0 x5_1)]) (by first | (rw [show (l0.take (x5_1 : Int).toNat).length = x5_1.toNat from (by rw [List.length_take]; have h_ : (x5_1 : Int) ≤ (l0.length : Int) := of_decide_eq_true asmT; omega)] <;> rfl) | rfl) ?_; (with_reducible refine (spec_l12Has.calls k1 _ _ (l0.take (x5_1 : Int).toNat) (rd l0 x5_1) true _ ?side1 ?side2 A9.out).mono ?_); (case side1 => repeat (first | exact HR134.out | (with_reducible refine Kd.C_alloc ?_ _) | (with_reducible refine Kd.C_drewN ?_ _) | (with_reducible refine Kd.C_drew ?_))); (case side2 => exact HC134.out); rintro e w' ⟨rfl, ⟨nd, rfl⟩⟩; (try first | exact ⟨rfl, _, World.drewN_drewN _ _ _⟩ | exact ⟨rfl, _, Eq.trans (World.drewN_drewN _ _ _) (congrArg (World.drewN _) (Nat.add_assoc _ _ _))⟩)))
         repeat (go_quiet (first | (go_at_call 39; refine calls_of_args (args' := #[.slice _ (l0.take (x5_1 : Int).toNat).length _, .int .i64 (rd l0 x5_1)]) (by first | (rw [show (l0.take (x5_1 : Int).toNat).length = x5_1.toNat from (by rw [List.length_take]; have h_ : (x5_1 : Int) ≤ (l0.length : Int) := of_decide_eq_true asmT; omega)] <;> rfl) | rfl) ?_; (with_reducible refine (spec_l12Has.calls k1 _ _ (l0.take (x5_1 : Int).toNat) (rd l0 x5_1) true _ ?side1 ?side2 A9.out).mono ?_); (case side1 => repeat (first | exact HR134.out | (with_reducible refine Kd.C_alloc ?_ _) | (with_reducible refine Kd.C_drewN ?_ _) | (with_reducible refine Kd.C_drew ?_))); (case side2 => exact HC134.out); rintro e w' ⟨rfl, ⟨nd, rfl⟩⟩; (try first | exact ⟨rfl, _, World.drewN_drewN _ _ _⟩ | exact ⟨rfl, _, Eq.trans (World.drewN_drewN _ _ _) (congrArg (World.drewN _) (Nat.add_assoc _ _ _))⟩))); try go_wp2_with (first | (go_at_call 39; refine calls_of_args (args' := #[.slice _ (l0.take (x5_1 : Int).toNat).length _, .int .i64 (rd l0 x5_1)]) (by first | (rw [show (l0.take (x5_1 : Int).toNat).length = x5_1.toNat from (by rw [List.length_take]; have h_ : (x5_1 : Int) ≤ (l0.length : Int) := of_decide_eq_true asmT; omega)] <;> rfl) | rfl) ?_; (with_reducible refine (spec_l12Has.calls k1 _ _ (l0.take (x5_1 : Int).toNat) (rd l0 x5_1) true _ ?side1 ?side2 A9.out).mono ?_); (case side1 => repeat (first | exact HR134.out | (with_reducible refine Kd.C_alloc ?_ _) | (with_reducible refine Kd.C_drewN ?_ _) | (with_reducible refine Kd.C_drew ?_))); (case side2 => exact HC134.out); rintro e w' ⟨rfl, ⟨nd, rfl⟩⟩; (try first | exact ⟨rfl, _, World.drewN_drewN _ _ _⟩ | exact ⟨rfl, _, Eq.trans (World.drewN_drewN _ _ _) (congrArg (World.drewN _) (Nat.add_assoc _ _ _))⟩))))
         go_ret
         exact ⟨rdT, drT⟩
        ·replace c10 := Bool.eq_false_iff.mpr c10
         subst c10; rw [if_neg nF] at H; have H' := Aside0.mk H; clear H
         have p132 : 0 ≤ (x5_1 : Int) := of_decide_eq_true asmT
         have q132 : x5_1 < (l0.length : Int) := of_decide_eq_true asmT
         obtain ⟨ad132, e132, hx132_0⟩ := Kd.at_int HR0.out x5_1 p132 q132
         cases e132
         replace p132 := eq_true p132; replace q132 := eq_true q132
         have p133 : 0 ≤ (x5_1 : Int) := of_decide_eq_true asmT
         have q133 : x5_1 < (l0.length : Int) := of_decide_eq_true asmT
         obtain ⟨ad133, e133, hx133_0⟩ := Kd.at_int HR0.out x5_1 p133 q133
         obtain rfl : ad132 = ad133 := (by injection e133)
         replace p133 := eq_true p133; replace q133 := eq_true q133; obtain ⟨i012, hi012, _, hsz12, _⟩ := info_parts info3; obtain ⟨hcut12, hA12, hC12⟩ := print_take_of (P := Tryd.prog) (Value.int .i64) 0 28 3 .i64 Tryd.underlying28 hi012 hsz12 (some ad132) c0 l0 x5_1 (of_decide_eq_true asmT) (of_decide_eq_true asmT) HC0.out; have HR134 := asT (Kd.C_of_reads (h1 := fun _ => rfl) (hA12 _ (Kd.reads_of_C HR0.out))); have HC134 := Aside0.mk hC12; clear hA12 hC12 hi012 hsz12
         have p135 : 0 ≤ (x5_1 : Int) := of_decide_eq_true asmT
         have q135 : x5_1 < (l0.length : Int) := of_decide_eq_true asmT
         obtain ⟨ad135, e135, hx135_0⟩ := Kd.at_int HR0.out x5_1 p135 q135
         obtain rfl : ad132 = ad135 := (by injection e135)
         replace p135 := eq_true p135; replace q135 := eq_true q135
         go_wp2_with (first | (go_at_call 39; refine calls_of_args (args' := #[.slice _ (l0.take (x5_1 : Int).toNat).length _, .int .i64 (rd l0 x5_1)]) (by first | (rw [show (l0.take (x5_1 : Int).toNat).length = x5_1.toNat from (by rw [List.length_take]; have h_ : (x5_1 : Int) ≤ (l0.length : Int) := of_decide_eq_true asmT; omega)] <;> rfl) | rfl) ?_; (with_reducible refine (spec_l12Has.calls k1 _ _ (l0.take (x5_1 : Int).toNat) (rd l0 x5_1) false _ ?side1 ?side2 A9.out).mono ?_); (case side1 => repeat (first | exact HR134.out | (with_reducible refine Kd.C_alloc ?_ _) | (with_reducible refine Kd.C_drewN ?_ _) | (with_reducible refine Kd.C_drew ?_))); (case side2 => exact HC134.out); rintro e w' ⟨rfl, ⟨nd, rfl⟩⟩; (try first | exact ⟨rfl, _, World.drewN_drewN _ _ _⟩ | exact ⟨rfl, _, Eq.trans (World.drewN_drewN _ _ _) (congrArg (World.drewN _) (Nat.add_assoc _ _ _))⟩)))
         repeat (go_quiet (first | (go_at_call 39; refine calls_of_args (args' := #[.slice _ (l0.take (x5_1 : Int).toNat).length _, .int .i64 (rd l0 x5_1)]) (by first | (rw [show (l0.take (x5_1 : Int).toNat).length = x5_1.toNat from (by rw [List.length_take]; have h_ : (x5_1 : Int) ≤ (l0.length : Int) := of_decide_eq_true asmT; omega)] <;> rfl) | rfl) ?_; (with_reducible refine (spec_l12Has.calls k1 _ _ (l0.take (x5_1 : Int).toNat) (rd l0 x5_1) false _ ?side1 ?side2 A9.out).mono ?_); (case side1 => repeat (first | exact HR134.out | (with_reducible refine Kd.C_alloc ?_ _) | (with_reducible refine Kd.C_drewN ?_ _) | (with_reducible refine Kd.C_drew ?_))); (case side2 => exact HC134.out); rintro e w' ⟨rfl, ⟨nd, rfl⟩⟩; (try first | exact ⟨rfl, _, World.drewN_drewN _ _ _⟩ | exact ⟨rfl, _, Eq.trans (World.drewN_drewN _ _ _) (congrArg (World.drewN _) (Nat.add_assoc _ _ _))⟩))); try go_wp2_with (first | (go_at_call 39; refine calls_of_args (args' := #[.slice _ (l0.take (x5_1 : Int).toNat).length _, .int .i64 (rd l0 x5_1)]) (by first | (rw [show (l0.take (x5_1 : Int).toNat).length = x5_1.toNat from (by rw [List.length_take]; have h_ : (x5_1 : Int) ≤ (l0.length : Int) := of_decide_eq_true asmT; omega)] <;> rfl) | rfl) ?_; (with_reducible refine (spec_l12Has.calls k1 _ _ (l0.take (x5_1 : Int).toNat) (rd l0 x5_1) false _ ?side1 ?side2 A9.out).mono ?_); (case side1 => repeat (first | exact HR134.out | (with_reducible refine Kd.C_alloc ?_ _) | (with_reducible refine Kd.C_drewN ?_ _) | (with_reducible refine Kd.C_drew ?_))); (case side2 => exact HC134.out); rintro e w' ⟨rfl, ⟨nd, rfl⟩⟩; (try first | exact ⟨rfl, _, World.drewN_drewN _ _ _⟩ | exact ⟨rfl, _, Eq.trans (World.drewN_drewN _ _ _) (congrArg (World.drewN _) (Nat.add_assoc _ _ _))⟩))))
         go_roundg k1
         case measure => have := HK1.out; omega
         case rel => exact ⟨(wrap64 (x5_1 + 1)), rdT, H', ⟨by have := HK1.out; omega⟩, drT⟩
       ·rw [if_neg c8] at H
        exact absurd H (by simp)
    ·rw [if_neg c4] at H
     exact absurd H (by simp)
   ·rw [if_neg c3] at H
    have c3b0 : decide (x5_1 < (l0.length : Int)) = false := decide_eq_false c3
    clear c3; obtain ⟨t137, A13, H⟩ := be H
    by_cases c14 : t137 = true
    ·subst c14
     rw [if_pos rfl] at H; have H1 := H; clear H; have H := H1; clear H1
     obtain rfl := Option.some.inj H
     go_wp2_with (first | (go_at_call 27; (with_reducible refine (spec_l1In.calls a1 1 5 true _ A13.out).mono ?_); rintro e w' ⟨rfl, ⟨nd, rfl⟩⟩; (try first | exact ⟨rfl, _, World.drewN_drewN _ _ _⟩ | exact ⟨rfl, _, Eq.trans (World.drewN_drewN _ _ _) (congrArg (World.drewN _) (Nat.add_assoc _ _ _))⟩)))
     repeat (go_quiet (first | (go_at_call 27; (with_reducible refine (spec_l1In.calls a1 1 5 true _ A13.out).mono ?_); rintro e w' ⟨rfl, ⟨nd, rfl⟩⟩; (try first | exact ⟨rfl, _, World.drewN_drewN _ _ _⟩ | exact ⟨rfl, _, Eq.trans (World.drewN_drewN _ _ _) (congrArg (World.drewN _) (Nat.add_assoc _ _ _))⟩))); try go_wp2_with (first | (go_at_call 27; (with_reducible refine (spec_l1In.calls a1 1 5 true _ A13.out).mono ?_); rintro e w' ⟨rfl, ⟨nd, rfl⟩⟩; (try first | exact ⟨rfl, _, World.drewN_drewN _ _ _⟩ | exact ⟨rfl, _, Eq.trans (World.drewN_drewN _ _ _) (congrArg (World.drewN _) (Nat.add_assoc _ _ _))⟩))))
     go_ret
     exact ⟨rdT, drT⟩
    ·replace c14 := Bool.eq_false_iff.mpr c14
     subst c14; rw [if_neg nF] at H; have H1 := H; clear H; have H := H1; clear H1
     obtain rfl := Option.some.inj H
     go_wp2_with (first | (go_at_call 27; (with_reducible refine (spec_l1In.calls a1 1 5 false _ A13.out).mono ?_); rintro e w' ⟨rfl, ⟨nd, rfl⟩⟩; (try first | exact ⟨rfl, _, World.drewN_drewN _ _ _⟩ | exact ⟨rfl, _, Eq.trans (World.drewN_drewN _ _ _) (congrArg (World.drewN _) (Nat.add_assoc _ _ _))⟩)))
     repeat (go_quiet (first | (go_at_call 27; (with_reducible refine (spec_l1In.calls a1 1 5 false _ A13.out).mono ?_); rintro e w' ⟨rfl, ⟨nd, rfl⟩⟩; (try first | exact ⟨rfl, _, World.drewN_drewN _ _ _⟩ | exact ⟨rfl, _, Eq.trans (World.drewN_drewN _ _ _) (congrArg (World.drewN _) (Nat.add_assoc _ _ _))⟩))); try go_wp2_with (first | (go_at_call 27; (with_reducible refine (spec_l1In.calls a1 1 5 false _ A13.out).mono ?_); rintro e w' ⟨rfl, ⟨nd, rfl⟩⟩; (try first | exact ⟨rfl, _, World.drewN_drewN _ _ _⟩ | exact ⟨rfl, _, Eq.trans (World.drewN_drewN _ _ _) (congrArg (World.drewN _) (Nat.add_assoc _ _ _))⟩))))
     go_ret
     exact ⟨rdT, drT⟩

/-! ### spec_FormatRanking: function 22 -/
mutual
def spec_FormatRanking.j0 : Nat → List ByteArray → List Int → Bool → Option (ByteArray)
 | 0, _, _, _ => none
 | k + 1, x0, x1, x16 => if x16 = true then (some (⟨#[]⟩ : ByteArray)) else (spec_FormatRanking.l0 k x0 x1 (⟨#[]⟩ : ByteArray) 0)
def spec_FormatRanking.l0 : Nat → List ByteArray → List Int → ByteArray → Int → Option (ByteArray)
 | 0, _, _, _, _ => none
 | k + 1, x0, x1, x5, x6 => if x6 < (x1.length : Int) then (if x6 > 0 then (if x5.size + 1 ≤ 9223372036854775807 then (if 0 ≤ x6 then (if 0 ≤ (rd x1 x6) then (if (rd x1 x6) < (x0.length : Int) then (if (x5 ++ (⟨#[62]⟩ : ByteArray)).size + (rdOf ByteArray.empty x0 (rd x1 x6)).size ≤ 9223372036854775807 then (spec_FormatRanking.l0 k x0 x1 ((x5 ++ (⟨#[62]⟩ : ByteArray)) ++ (rdOf ByteArray.empty x0 (rd x1 x6))) (wrap64 (x6 + 1))) else (none)) else (none)) else (none)) else (none)) else (none)) else (if 0 ≤ x6 then (if 0 ≤ (rd x1 x6) then (if (rd x1 x6) < (x0.length : Int) then (if x5.size + (rdOf ByteArray.empty x0 (rd x1 x6)).size ≤ 9223372036854775807 then (spec_FormatRanking.l0 k x0 x1 (x5 ++ (rdOf ByteArray.empty x0 (rd x1 x6))) (wrap64 (x6 + 1))) else (none)) else (none)) else (none)) else (none))) else (some x5)
end
def spec_FormatRanking.f (k : Nat) (l0 : List ByteArray) (l1 : List Int) : Option (ByteArray) := (spec_AreConstraints.f k l0).bind fun t138 => (if t138 = true then ((spec_IsRanking.f k l1 (l0.length : Int)).bind fun t139 => (spec_FormatRanking.j0 k l0 l1 (!t139))) else (spec_FormatRanking.j0 k l0 l1 true))
theorem spec_FormatRanking.mono_l : ∀ k, (∀ y0 y1 y2, LeO (spec_FormatRanking.j0 k y0 y1 y2) (spec_FormatRanking.j0 (k + 1) y0 y1 y2)) ∧ (∀ y0 y1 y2 y3, LeO (spec_FormatRanking.l0 k y0 y1 y2 y3) (spec_FormatRanking.l0 (k + 1) y0 y1 y2 y3))
 | 0 => ⟨fun _ _ _ r h => by simp [spec_FormatRanking.j0] at h, fun _ _ _ _ r h => by simp [spec_FormatRanking.l0] at h⟩
 | k + 1 => by
  obtain ⟨ih0, ih1⟩ := spec_FormatRanking.mono_l k; refine ⟨?_, ?_⟩
  ·intro y0 y1 y2
   unfold spec_FormatRanking.j0
   with_reducible repeat' first | exact ih0 _ _ _ | exact ih1 _ _ _ _ | exact spec_AreConstraints.mono _ _ | exact spec_IsRanking.mono _ _ _ | exact LeO.refl _ | exact LeO.none _ | refine LeO.ite ?_ ?_ | refine LeO.bind ?_ (fun _ => ?_)
  ·intro y0 y1 y2 y3
   unfold spec_FormatRanking.l0
   with_reducible repeat' first | exact ih0 _ _ _ | exact ih1 _ _ _ _ | exact spec_AreConstraints.mono _ _ | exact spec_IsRanking.mono _ _ _ | exact LeO.refl _ | exact LeO.none _ | refine LeO.ite ?_ ?_ | refine LeO.bind ?_ (fun _ => ?_)
theorem spec_FormatRanking.mono : ∀ a0 a1 k, LeO (spec_FormatRanking.f k a0 a1) (spec_FormatRanking.f (k + 1) a0 a1) := by
 intro a0 a1 k
 obtain ⟨ih0, ih1⟩ := spec_FormatRanking.mono_l k
 unfold spec_FormatRanking.f
 with_reducible repeat' first | exact ih0 _ _ _ | exact ih1 _ _ _ _ | exact spec_AreConstraints.mono _ _ | exact spec_IsRanking.mono _ _ _ | exact LeO.refl _ | exact LeO.none _ | refine LeO.ite ?_ ?_ | refine LeO.bind ?_ (fun _ => ?_)
set_option maxHeartbeats 8000000 in
set_option maxRecDepth 100000 in
theorem spec_FormatRanking.calls (k : Nat) (A0 : Option Addr) (c0 : Nat) (l0 : List ByteArray) (A1 : Option Addr) (c1 : Nat) (l1 : List Int) (r : ByteArray) (w : World) (hr0 : Kd.C Kd.string w A0 l0.length l0) (hc0 : l0.length ≤ c0) (hr1 : Kd.C (Kd.int .i64) w A1 l1.length l1) (hc1 : l1.length ≤ c1) (h : spec_FormatRanking.f k l0 l1 = some r) :
  Calls Tryd.prog 22 #[.slice A0 l0.length c0, .slice A1 l1.length c1] w fun e w' => e = .returned (.string r) ∧ Below w.heap.size w w' := by
 have HR0 := Aside0.mk hr0; have HC0 := Aside0.mk hc0; clear hr0 hc0; have HR1 := Aside0.mk hr1; have HC1 := Aside0.mk hc1; clear hr1 hc1; have HB := asT (Below.refl w.heap.size w); have H := h; unfold spec_FormatRanking.f at H; clear h; have HC3 := Aside0.mk H; clear H
 go_enter Tryd.func22, Tryd.ntmps22
 go_upto_region 1 with (fail)
 go_cut [16] (fun v16 wc => ∃ (kq : Nat) (x16_2 : Bool), v16 = .bool x16_2 ∧ Aside0 (spec_FormatRanking.j0 kq l0 l1 x16_2 = some r) ∧ Aside0 (kq ≤ k) ∧ Aside0 (Below w.heap.size w wc))
 case first =>
  have H := HC3.out; clear HC3; obtain ⟨t138, A4, H⟩ := be H
  by_cases c5 : t138 = true
  ·subst c5
   rw [if_pos rfl] at H; obtain ⟨t139, A6, H⟩ := be H; have H' := Aside0.mk H; clear H
   go_wp2_with (first | ((with_reducible refine gate_callee (f := 18) rfl ?_); refine goesL_ (some 8) rfl rfl Tryd.func18 (by kernel_rfl) rfl #[.slice A0 l0.length c0] rfl eqT ?_; (with_reducible refine (spec_AreConstraints.calls k _ _ l0 true _ ?side1 ?side2 A4.out).mono ?_); (case side1 => exact crT HR0.out HB.out); (case side2 => exact HC0.out); rintro e w7 ⟨rfl, hb⟩; refine ⟨_, rfl, ?_⟩; replace HB := hS HB hb; (try clear hb hb2 hk hi)) | (go_at_call 32; (with_reducible refine (spec_IsRanking.calls k _ _ l1 (l0.length : Int) t139 _ ?side1 ?side2 A6.out).mono ?_); (case side1 => exact crT HR1.out HB.out); (case side2 => exact HC1.out); rintro e w' ⟨rfl, ⟨nd, rfl⟩⟩))
   go_meet
   case rel => exact ⟨_, (!t139), rdT, H', ⟨by first | omega | exact Nat.le_refl _⟩, ⟨hbT HB.out⟩⟩
  ·replace c5 := Bool.eq_false_iff.mpr c5
   subst c5; rw [if_neg nF] at H; have H' := Aside0.mk H; clear H
   go_wp2_with (first | ((with_reducible refine gate_callee (f := 18) rfl ?_); refine goesL_ (some 8) rfl rfl Tryd.func18 (by kernel_rfl) rfl #[.slice A0 l0.length c0] rfl eqT ?_; (with_reducible refine (spec_AreConstraints.calls k _ _ l0 false _ ?side1 ?side2 A4.out).mono ?_); (case side1 => exact crT HR0.out HB.out); (case side2 => exact HC0.out); rintro e w8 ⟨rfl, hb⟩; refine ⟨_, rfl, ?_⟩; replace HB := hS HB hb; (try clear hb hb2 hk hi)))
   go_meet
   case rel => exact ⟨_, (true), rdT, H', ⟨by first | omega | exact Nat.le_refl _⟩, ⟨hbT HB.out⟩⟩
 case rest =>
  clear HC3; (try clear c1 c2 p2 c5); obtain ⟨kq, x16_2, rfl, HA, HJ2, HB⟩ := hcut
  cases kq with
  | zero => exact absurd HA.out (by simp [spec_FormatRanking.j0])
  | succ kj2 =>
   have H := HA.out; clear HA
   simp only [spec_FormatRanking.j0] at H
   by_cases c9 : x16_2 = true
   ·subst c9
    rw [if_pos rfl] at H; have H1 := H; clear H; have H := H1; clear H1
    obtain rfl := Option.some.inj H
    go_wp2
    go_ret
    exact ⟨rlT, hbT HB.out⟩
   ·replace c9 := Bool.eq_false_iff.mpr c9
    subst c9; rw [if_neg nF] at H; have H' := Aside0.mk H; clear H
    go_wp2
    go_loopg [5, 6] kj2 (fun kq v5 v6 w' => ∃ (x5_2 : ByteArray) (x6_2 : Int), v5 = .string x5_2 ∧ v6 = .int .i64 x6_2 ∧ Aside0 (spec_FormatRanking.l0 kq l0 l1 x5_2 x6_2 = some r) ∧ Aside0 (kq ≤ kj2) ∧ Aside0 (Below w.heap.size w w'))
    case atStart => exact ⟨((⟨#[]⟩ : ByteArray)), (0), rdT, rdT, H', ⟨Nat.le_refl _⟩, ⟨hbT HB.out⟩⟩
    case round =>
     clear H'; (try clear c1 c2 p2 c5 c9 p2); obtain ⟨x5_2, x6_2, rfl, rfl, HA, HK2, HB⟩ := hrel
     cases gk with
     | zero => exact absurd HA.out (by simp [spec_FormatRanking.l0])
     | succ k2 =>
      have H := HA.out; clear HA
      simp only [spec_FormatRanking.l0] at H
      by_cases c10 : x6_2 < (l1.length : Int)
      ·rw [if_pos c10] at H
       have c10b0 : decide (x6_2 < (l1.length : Int)) = true := decide_eq_true c10
       clear c10
       by_cases c11 : x6_2 > 0
       ·rw [if_pos c11] at H
        have c11b0 : decide (0 < x6_2) = true := decide_eq_true c11
        clear c11
        by_cases c12 : x5_2.size + 1 ≤ 9223372036854775807
        ·rw [if_pos c12] at H
         have c12b0 := eq_true c12
         have c12b1 : decide (x5_2.size + 1 ≤ 9223372036854775807) = true := decide_eq_true c12
         try have c12b2 : (9223372036854775807 < x5_2.size + 1) = False := eq_false (Nat.not_lt.2 c12)
         by_cases c13 : 0 ≤ x6_2
         ·rw [if_pos c13] at H
          have c13b0 : decide (0 ≤ x6_2) = true := decide_eq_true c13
          clear c13
          by_cases c14 : 0 ≤ (rd l1 x6_2)
          ·rw [if_pos c14] at H
           have c14b0 : decide (0 ≤ (rd l1 x6_2)) = true := decide_eq_true c14
           clear c14
           by_cases c15 : (rd l1 x6_2) < (l0.length : Int)
           ·rw [if_pos c15] at H
            have c15b0 : decide ((rd l1 x6_2) < (l0.length : Int)) = true := decide_eq_true c15
            clear c15
            by_cases c16 : (x5_2 ++ (⟨#[62]⟩ : ByteArray)).size + (rdOf ByteArray.empty l0 (rd l1 x6_2)).size ≤ 9223372036854775807
            ·rw [if_pos c16] at H
             have c16b0 := eq_true c16
             have c16b1 : decide ((x5_2 ++ (⟨#[62]⟩ : ByteArray)).size + (rdOf ByteArray.empty l0 (rd l1 x6_2)).size ≤ 9223372036854775807) = true := decide_eq_true c16
             try have c16b2 : (9223372036854775807 < (x5_2 ++ (⟨#[62]⟩ : ByteArray)).size + (rdOf ByteArray.empty l0 (rd l1 x6_2)).size) = False := eq_false (Nat.not_lt.2 c16)
             have H' := Aside0.mk H; clear H
             have p140 : 0 ≤ (x6_2 : Int) := of_decide_eq_true asmT
             have q140 : x6_2 < (l1.length : Int) := of_decide_eq_true asmT
             obtain ⟨ad140, e140, hx140_0⟩ := Kd.at_int HR1.out x6_2 p140 q140
             cases e140
             replace hx140_0 := hbc HB.out hx140_0; replace p140 := eq_true p140; replace q140 := eq_true q140
             have p141 : 0 ≤ ((rd l1 x6_2) : Int) := of_decide_eq_true asmT
             have q141 : (rd l1 x6_2) < (l0.length : Int) := of_decide_eq_true asmT
             obtain ⟨ad141, e141, hx141_0⟩ := Kd.at_string HR0.out (rd l1 x6_2) p141 q141
             cases e141
             replace hx141_0 := hbc HB.out hx141_0; replace p141 := eq_true p141; replace q141 := eq_true q141
             go_wp2
             go_roundg k2
             case measure => have := HJ2.out; have := HK2.out; omega
             case rel => exact ⟨((x5_2 ++ (⟨#[62]⟩ : ByteArray)) ++ (rdOf ByteArray.empty l0 (rd l1 x6_2))), (wrap64 (x6_2 + 1)), rdT, rdT, H', ⟨by have := HJ2.out; have := HK2.out; omega⟩, ⟨hbT HB.out⟩⟩
            ·rw [if_neg c16] at H
             exact absurd H (by simp)
           ·rw [if_neg c15] at H
            exact absurd H (by simp)
          ·rw [if_neg c14] at H
           exact absurd H (by simp)
         ·rw [if_neg c13] at H
          exact absurd H (by simp)
        ·rw [if_neg c12] at H
         exact absurd H (by simp)
       ·rw [if_neg c11] at H
        have c11b0 : decide (0 < x6_2) = false := decide_eq_false c11
        clear c11
        by_cases c17 : 0 ≤ x6_2
        ·rw [if_pos c17] at H
         have c17b0 : decide (0 ≤ x6_2) = true := decide_eq_true c17
         clear c17
         by_cases c18 : 0 ≤ (rd l1 x6_2)
         ·rw [if_pos c18] at H
          have c18b0 : decide (0 ≤ (rd l1 x6_2)) = true := decide_eq_true c18
          clear c18
          by_cases c19 : (rd l1 x6_2) < (l0.length : Int)
          ·rw [if_pos c19] at H
           have c19b0 : decide ((rd l1 x6_2) < (l0.length : Int)) = true := decide_eq_true c19
           clear c19
           by_cases c20 : x5_2.size + (rdOf ByteArray.empty l0 (rd l1 x6_2)).size ≤ 9223372036854775807
           ·rw [if_pos c20] at H
            have c20b0 := eq_true c20
            have c20b1 : decide (x5_2.size + (rdOf ByteArray.empty l0 (rd l1 x6_2)).size ≤ 9223372036854775807) = true := decide_eq_true c20
            try have c20b2 : (9223372036854775807 < x5_2.size + (rdOf ByteArray.empty l0 (rd l1 x6_2)).size) = False := eq_false (Nat.not_lt.2 c20)
            have H' := Aside0.mk H; clear H
            have p142 : 0 ≤ (x6_2 : Int) := of_decide_eq_true asmT
            have q142 : x6_2 < (l1.length : Int) := of_decide_eq_true asmT
            obtain ⟨ad142, e142, hx142_0⟩ := Kd.at_int HR1.out x6_2 p142 q142
            cases e142
            replace hx142_0 := hbc HB.out hx142_0; replace p142 := eq_true p142; replace q142 := eq_true q142
            have p143 : 0 ≤ ((rd l1 x6_2) : Int) := of_decide_eq_true asmT
            have q143 : (rd l1 x6_2) < (l0.length : Int) := of_decide_eq_true asmT
            obtain ⟨ad143, e143, hx143_0⟩ := Kd.at_string HR0.out (rd l1 x6_2) p143 q143
            cases e143
            replace hx143_0 := hbc HB.out hx143_0; replace p143 := eq_true p143; replace q143 := eq_true q143
            go_wp2
            go_roundg k2
            case measure => have := HJ2.out; have := HK2.out; omega
            case rel => exact ⟨(x5_2 ++ (rdOf ByteArray.empty l0 (rd l1 x6_2))), (wrap64 (x6_2 + 1)), rdT, rdT, H', ⟨by have := HJ2.out; have := HK2.out; omega⟩, ⟨hbT HB.out⟩⟩
           ·rw [if_neg c20] at H
            exact absurd H (by simp)
          ·rw [if_neg c19] at H
           exact absurd H (by simp)
         ·rw [if_neg c18] at H
          exact absurd H (by simp)
        ·rw [if_neg c17] at H
         exact absurd H (by simp)
      ·rw [if_neg c10] at H
       have c10b0 : decide (x6_2 < (l1.length : Int)) = false := decide_eq_false c10
       clear c10
       obtain rfl := Option.some.inj H
       go_wp2
       go_ret
       exact ⟨rlT, hbT HB.out⟩

/-! ### spec_ParseRanking: function 11 -/
mutual
def spec_ParseRanking.j0 : Nat → List ByteArray → ByteArray → List Int → Bool → Option (List Int × Bool)
 | 0, _, _, _, _ => none
 | k + 1, x0, x1, x6, x18 => if x18 = true then (some (x6, false)) else ((spec_l10Cut.f k x1 62).bind fun t148 => (spec_ParseRanking.l0 k x0 x1 x6 t148 0))
def spec_ParseRanking.l0 : Nat → List ByteArray → ByteArray → List Int → List ByteArray → Int → Option (List Int × Bool)
 | 0, _, _, _, _, _ => none
 | k + 1, x0, x1, x6, x7, x8 => if x8 < (x7.length : Int) then (spec_ParseRanking.l1 k x0 x1 x6 x7 x8 0) else ((spec_FormatRanking.f k x0 x6).bind fun t151 => (if t151.toList = x1.toList then (if x1.toList = ([] : List UInt8) then (some ((([] : List Int)), false)) else (some (x6, true))) else (some ((([] : List Int)), false))))
def spec_ParseRanking.l1 : Nat → List ByteArray → ByteArray → List Int → List ByteArray → Int → Int → Option (List Int × Bool)
 | 0, _, _, _, _, _, _ => none
 | k + 1, x0, x1, x6, x7, x8, x9 => if x9 < (x0.length : Int) then (if 0 ≤ x9 then (if 0 ≤ x8 then (if x8 < (x7.length : Int) then (if (rdOf ByteArray.empty x0 x9).toList = (rdOf ByteArray.empty x7 x8).toList then (if x6.length < 17592186044416 then (spec_ParseRanking.l1 k x0 x1 (x6 ++ [x9]) x7 x8 (wrap64 (x9 + 1))) else (none)) else (spec_ParseRanking.l1 k x0 x1 x6 x7 x8 (wrap64 (x9 + 1)))) else (none)) else (none)) else (none)) else (spec_ParseRanking.l0 k x0 x1 x6 x7 (wrap64 (x8 + 1)))
end
def spec_ParseRanking.f (k : Nat) (l0 : List ByteArray) (a1 : ByteArray) : Option (List Int × Bool) := (some (([] : List Int) : List Int)).bind fun y144 => ((spec_AreConstraints.f k l0).bind fun t147 => (if t147 = true then (spec_ParseRanking.j0 k l0 a1 y144 (decide ((a1.size : Int) > 100))) else (spec_ParseRanking.j0 k l0 a1 y144 true)))
theorem spec_ParseRanking.mono_l : ∀ k, (∀ y0 y1 y2 y3, LeO (spec_ParseRanking.j0 k y0 y1 y2 y3) (spec_ParseRanking.j0 (k + 1) y0 y1 y2 y3)) ∧ (∀ y0 y1 y2 y3 y4, LeO (spec_ParseRanking.l0 k y0 y1 y2 y3 y4) (spec_ParseRanking.l0 (k + 1) y0 y1 y2 y3 y4)) ∧ (∀ y0 y1 y2 y3 y4 y5, LeO (spec_ParseRanking.l1 k y0 y1 y2 y3 y4 y5) (spec_ParseRanking.l1 (k + 1) y0 y1 y2 y3 y4 y5))
 | 0 => ⟨fun _ _ _ _ r h => by simp [spec_ParseRanking.j0] at h, fun _ _ _ _ _ r h => by simp [spec_ParseRanking.l0] at h, fun _ _ _ _ _ _ r h => by simp [spec_ParseRanking.l1] at h⟩
 | k + 1 => by
  obtain ⟨ih0, ih1, ih2⟩ := spec_ParseRanking.mono_l k; refine ⟨?_, ?_, ?_⟩
  ·intro y0 y1 y2 y3
   unfold spec_ParseRanking.j0
   with_reducible repeat' first | exact ih0 _ _ _ _ | exact ih1 _ _ _ _ _ | exact ih2 _ _ _ _ _ _ | exact spec_AreConstraints.mono _ _ | exact spec_FormatRanking.mono _ _ _ | exact spec_l10Cut.mono _ _ _ | exact LeO.refl _ | exact LeO.none _ | refine LeO.ite ?_ ?_ | refine LeO.bind ?_ (fun _ => ?_)
  ·intro y0 y1 y2 y3 y4
   unfold spec_ParseRanking.l0
   with_reducible repeat' first | exact ih0 _ _ _ _ | exact ih1 _ _ _ _ _ | exact ih2 _ _ _ _ _ _ | exact spec_AreConstraints.mono _ _ | exact spec_FormatRanking.mono _ _ _ | exact spec_l10Cut.mono _ _ _ | exact LeO.refl _ | exact LeO.none _ | refine LeO.ite ?_ ?_ | refine LeO.bind ?_ (fun _ => ?_)
  ·intro y0 y1 y2 y3 y4 y5
   unfold spec_ParseRanking.l1
   with_reducible repeat' first | exact ih0 _ _ _ _ | exact ih1 _ _ _ _ _ | exact ih2 _ _ _ _ _ _ | exact spec_AreConstraints.mono _ _ | exact spec_FormatRanking.mono _ _ _ | exact spec_l10Cut.mono _ _ _ | exact LeO.refl _ | exact LeO.none _ | refine LeO.ite ?_ ?_ | refine LeO.bind ?_ (fun _ => ?_)
theorem spec_ParseRanking.mono : ∀ a0 a1 k, LeO (spec_ParseRanking.f k a0 a1) (spec_ParseRanking.f (k + 1) a0 a1) := by
 intro a0 a1 k
 obtain ⟨ih0, ih1, ih2⟩ := spec_ParseRanking.mono_l k
 unfold spec_ParseRanking.f
 with_reducible repeat' first | exact ih0 _ _ _ _ | exact ih1 _ _ _ _ _ | exact ih2 _ _ _ _ _ _ | exact spec_AreConstraints.mono _ _ | exact spec_FormatRanking.mono _ _ _ | exact spec_l10Cut.mono _ _ _ | exact LeO.refl _ | exact LeO.none _ | refine LeO.ite ?_ ?_ | refine LeO.bind ?_ (fun _ => ?_)
set_option maxHeartbeats 8000000 in
set_option maxRecDepth 100000 in
theorem spec_ParseRanking.calls (k : Nat) (A0 : Option Addr) (c0 : Nat) (l0 : List ByteArray) (a1 : ByteArray) (r1 : List Int) (r2 : Bool) (w : World) (hr0 : Kd.C Kd.string w A0 l0.length l0) (hc0 : l0.length ≤ c0) (h : spec_ParseRanking.f k l0 a1 = some (r1, r2)) :
  Calls Tryd.prog 11 #[.slice A0 l0.length c0, .string a1] w fun e w' => ∃ v0_ : Value, e = .returned (.tuple #[v0_, .bool r2]) ∧ Kd.R (Kd.int .i64) 3 w' w.heap.size (fun _ => True) v0_ r1 ∧ Below w.heap.size w w' := by
 have HR0 := Aside0.mk hr0; have HC0 := Aside0.mk hc0; clear hr0 hc0; have HB := asT (Below.refl w.heap.size w); have H := h; unfold spec_ParseRanking.f at H; clear h; obtain ⟨y144, hy144⟩ : ∃ y_ : List Int, y_ = (([] : List Int)) := ⟨_, rfl⟩
 replace H : ((spec_AreConstraints.f k l0).bind fun t147 => (if t147 = true then (spec_ParseRanking.j0 k l0 a1 y144 (decide ((a1.size : Int) > 100))) else (spec_ParseRanking.j0 k l0 a1 y144 true))) = some (r1, r2) := by first | (rw [hy144]; with_reducible exact H) | (have H2_ := (Option.bind_some _ _).symm.trans H; rw [hy144]; with_reducible exact H2_) | (have H2_ := (Option.bind_some _ _).symm.trans H; with_reducible exact H2_) | with_reducible exact H | (rw [hy144]; exact H) | exact H
 have Ny144 := Aside0.mk hy144; clear hy144; have HC3 := Aside0.mk H; clear H
 go_enter Tryd.func11, Tryd.ntmps11
 go_upto_region 2 with (first | ((with_reducible refine gate_dst (N := 10) rfl ?_); (try (refine gate_guard (by rfl) ?_; dsimp only)); refine Kd.R_lit (Kd.int .i64) _ 3 ?hg (N := 10) ?hd (xs := ([] : List Int)) (inner := []) (ok := fun _ => True) (okp := fun _ => True) ?hr ?hp (fun _ hk => hk) trivial (Below.refl _ _) (Nat.le_refl _) (by simp) ?_; (case hd => rfl); (case hg => rfl); (case hr => first | (go_simp; done) | (go_simp; rfl)); (case hp => exact (Reps.none _ _)); intro v145 w4 ho5 hb hg_ hnew_; clear hg_ hnew_; (first | rw [← Ny144.out] at ho5 | (simp only [Int.reduceToNat] at ho5; rw [← Ny144.out] at ho5)); have HO146 := asT (Kd.R_lower ho5 (below_size (hbT HB.out))); replace HB := hS HB hb; clear hb ho5))
 repeat (go_quiet (first | ((with_reducible refine gate_dst (N := 10) rfl ?_); (try (refine gate_guard (by rfl) ?_; dsimp only)); refine Kd.R_lit (Kd.int .i64) _ 3 ?hg (N := 10) ?hd (xs := ([] : List Int)) (inner := []) (ok := fun _ => True) (okp := fun _ => True) ?hr ?hp (fun _ hk => hk) trivial (Below.refl _ _) (Nat.le_refl _) (by simp) ?_; (case hd => rfl); (case hg => rfl); (case hr => first | (go_simp; done) | (go_simp; rfl)); (case hp => exact (Reps.none _ _)); intro v145 w4 ho5 hb hg_ hnew_; clear hg_ hnew_; (first | rw [← Ny144.out] at ho5 | (simp only [Int.reduceToNat] at ho5; rw [← Ny144.out] at ho5)); have HO146 := asT (Kd.R_lower ho5 (below_size (hbT HB.out))); replace HB := hS HB hb; clear hb ho5)); go_upto_region 2 with (first | ((with_reducible refine gate_dst (N := 10) rfl ?_); (try (refine gate_guard (by rfl) ?_; dsimp only)); refine Kd.R_lit (Kd.int .i64) _ 3 ?hg (N := 10) ?hd (xs := ([] : List Int)) (inner := []) (ok := fun _ => True) (okp := fun _ => True) ?hr ?hp (fun _ hk => hk) trivial (Below.refl _ _) (Nat.le_refl _) (by simp) ?_; (case hd => rfl); (case hg => rfl); (case hr => first | (go_simp; done) | (go_simp; rfl)); (case hp => exact (Reps.none _ _)); intro v145 w4 ho5 hb hg_ hnew_; clear hg_ hnew_; (first | rw [← Ny144.out] at ho5 | (simp only [Int.reduceToNat] at ho5; rw [← Ny144.out] at ho5)); have HO146 := asT (Kd.R_lower ho5 (below_size (hbT HB.out))); replace HB := hS HB hb; clear hb ho5)))
 (try simp only [Act.put, sA, sZ, sS])
 go_cut [18] (fun v18 wc => ∃ (kq : Nat) (x18_2 : Bool), v18 = .bool x18_2 ∧ Aside0 (spec_ParseRanking.j0 kq l0 a1 y144 x18_2 = some (r1, r2)) ∧ Aside0 (kq ≤ k) ∧ Aside0 (Kd.R (Kd.int .i64) 3 wc w.heap.size (fun _ => True) v145 y144) ∧ Aside0 (Below w.heap.size w wc))
 case first =>
  have H := HC3.out; clear HC3; obtain ⟨t147, A6, H⟩ := be H
  by_cases c7 : t147 = true
  ·subst c7
   rw [if_pos rfl] at H; have H' := Aside0.mk H; clear H
   go_wp2_with (first | (go_at_call 18; (with_reducible refine (spec_AreConstraints.calls k _ _ l0 true _ ?side1 ?side2 A6.out).mono ?_); (case side1 => exact crT HR0.out HB.out); (case side2 => exact HC0.out); rintro e w8 ⟨rfl, hb⟩; replace HO146 := asT (Kd.R_below (roT HO146.out) hb); replace HB := hS HB hb; (try clear hb hb2 hk hi)))
   repeat (go_quiet (first | (go_at_call 18; (with_reducible refine (spec_AreConstraints.calls k _ _ l0 true _ ?side1 ?side2 A6.out).mono ?_); (case side1 => exact crT HR0.out HB.out); (case side2 => exact HC0.out); rintro e w8 ⟨rfl, hb⟩; replace HO146 := asT (Kd.R_below (roT HO146.out) hb); replace HB := hS HB hb; (try clear hb hb2 hk hi))); try go_wp2_with (first | (go_at_call 18; (with_reducible refine (spec_AreConstraints.calls k _ _ l0 true _ ?side1 ?side2 A6.out).mono ?_); (case side1 => exact crT HR0.out HB.out); (case side2 => exact HC0.out); rintro e w8 ⟨rfl, hb⟩; replace HO146 := asT (Kd.R_below (roT HO146.out) hb); replace HB := hS HB hb; (try clear hb hb2 hk hi))))
   go_meet
   case rel => exact ⟨_, (decide ((a1.size : Int) > 100)), rdT, H', ⟨by first | omega | exact Nat.le_refl _⟩, ⟨by (with_reducible repeat (first | apply Kd.R_alloc | apply Kd.R_drewN | apply Kd.R_drew)); exact HO146.out⟩, ⟨hbT HB.out⟩⟩
  ·replace c7 := Bool.eq_false_iff.mpr c7
   subst c7; rw [if_neg nF] at H; have H' := Aside0.mk H; clear H
   go_wp2_with (first | (go_at_call 18; (with_reducible refine (spec_AreConstraints.calls k _ _ l0 false _ ?side1 ?side2 A6.out).mono ?_); (case side1 => exact crT HR0.out HB.out); (case side2 => exact HC0.out); rintro e w9 ⟨rfl, hb⟩; replace HO146 := asT (Kd.R_below (roT HO146.out) hb); replace HB := hS HB hb; (try clear hb hb2 hk hi)))
   repeat (go_quiet (first | (go_at_call 18; (with_reducible refine (spec_AreConstraints.calls k _ _ l0 false _ ?side1 ?side2 A6.out).mono ?_); (case side1 => exact crT HR0.out HB.out); (case side2 => exact HC0.out); rintro e w9 ⟨rfl, hb⟩; replace HO146 := asT (Kd.R_below (roT HO146.out) hb); replace HB := hS HB hb; (try clear hb hb2 hk hi))); try go_wp2_with (first | (go_at_call 18; (with_reducible refine (spec_AreConstraints.calls k _ _ l0 false _ ?side1 ?side2 A6.out).mono ?_); (case side1 => exact crT HR0.out HB.out); (case side2 => exact HC0.out); rintro e w9 ⟨rfl, hb⟩; replace HO146 := asT (Kd.R_below (roT HO146.out) hb); replace HB := hS HB hb; (try clear hb hb2 hk hi))))
   go_meet
   case rel => exact ⟨_, (true), rdT, H', ⟨by first | omega | exact Nat.le_refl _⟩, ⟨by (with_reducible repeat (first | apply Kd.R_alloc | apply Kd.R_drewN | apply Kd.R_drew)); exact HO146.out⟩, ⟨hbT HB.out⟩⟩
 case rest =>
  clear HC3; (try clear c1 p2 c7); obtain ⟨kq, x18_2, rfl, HA, HJ2, HO_6, HB⟩ := hcut
  cases kq with
  | zero => exact absurd HA.out (by simp [spec_ParseRanking.j0])
  | succ kj2 =>
   have H := HA.out; clear HA
   simp only [spec_ParseRanking.j0] at H
   by_cases c10 : x18_2 = true
   ·subst c10
    rw [if_pos rfl] at H; have H1 := H; clear H; have H := H1; clear H1
    simp only [Option.some.injEq, Prod.mk.injEq] at H
    obtain ⟨rfl, rfl⟩ := H
    go_wp2
    repeat (go_quiet (fail); try go_wp2)
    go_ret2
    exact ⟨_, rlT, by (with_reducible repeat (first | apply Kd.R_alloc | apply Kd.R_drewN | apply Kd.R_drew)); exact HO_6.out, hbT HB.out⟩
   ·replace c10 := Bool.eq_false_iff.mpr c10
    subst c10; rw [if_neg nF] at H; obtain ⟨t148, A11, H⟩ := be H; have H' := Aside0.mk H; clear H
    go_wp2_with (first | (go_at_call 17; (with_reducible refine (spec_l10Cut.calls kj2 a1 62 t148 _ A11.out).mono ?_); rintro e w12 ⟨v149, rfl, ho0, hb⟩; replace HO_6 := asT (Kd.R_below (roT HO_6.out) hb); have HO150 := asT (Kd.R_lower ho0 (below_size (hbT HB.out))); replace HB := hS HB hb; (try clear hb hb2 hk hi ho0)))
    repeat (go_quiet (first | (go_at_call 17; (with_reducible refine (spec_l10Cut.calls kj2 a1 62 t148 _ A11.out).mono ?_); rintro e w12 ⟨v149, rfl, ho0, hb⟩; replace HO_6 := asT (Kd.R_below (roT HO_6.out) hb); have HO150 := asT (Kd.R_lower ho0 (below_size (hbT HB.out))); replace HB := hS HB hb; (try clear hb hb2 hk hi ho0))); try go_wp2_with (first | (go_at_call 17; (with_reducible refine (spec_l10Cut.calls kj2 a1 62 t148 _ A11.out).mono ?_); rintro e w12 ⟨v149, rfl, ho0, hb⟩; replace HO_6 := asT (Kd.R_below (roT HO_6.out) hb); have HO150 := asT (Kd.R_lower ho0 (below_size (hbT HB.out))); replace HB := hS HB hb; (try clear hb hb2 hk hi ho0))))
    go_loopg [6, 8] kj2 (fun kq v6 v8 w' => ∃ (x6_2 : List Int) (x8_2 : Int), v8 = .int .i64 x8_2 ∧ Aside0 (spec_ParseRanking.l0 kq l0 a1 x6_2 t148 x8_2 = some (r1, r2)) ∧ Aside0 (kq ≤ kj2) ∧ Aside0 (Kd.R (Kd.int .i64) 3 w' w.heap.size (fun _ => True) v6 x6_2) ∧ Aside0 (Kd.R Kd.string 9 w' w.heap.size (fun _ => True) v149 t148) ∧ Aside0 (Below w.heap.size w w'))
    case atStart => exact ⟨(y144), (0), rdT, H', ⟨Nat.le_refl _⟩, ⟨by (with_reducible repeat (first | apply Kd.R_alloc | apply Kd.R_drewN | apply Kd.R_drew)); exact HO_6.out⟩, ⟨by (with_reducible repeat (first | apply Kd.R_alloc | apply Kd.R_drewN | apply Kd.R_drew)); exact HO150.out⟩, ⟨hbT HB.out⟩⟩
    case round =>
     clear H'; (try clear c1 p2 c7 c10 c11 p2); obtain ⟨x6_2, x8_2, rfl, HA, HK2, HO_6, HO_7, HB⟩ := hrel
     cases gk with
     | zero => exact absurd HA.out (by simp [spec_ParseRanking.l0])
     | succ k2 =>
      have H := HA.out; clear HA
      simp only [spec_ParseRanking.l0] at H
      by_cases c13 : x8_2 < (t148.length : Int)
      ·rw [if_pos c13] at H
       have c13b0 : decide (x8_2 < (t148.length : Int)) = true := decide_eq_true c13
       clear c13; have H' := Aside0.mk H; clear H; obtain ⟨Ao14, co14, eo14⟩ := Kd.R_slice HO_7.out; subst eo14
       go_wp2
       repeat (go_quiet (fail); try go_wp2)
       go_loopg [6, 9] k2 (fun kq v6 v9 w' => ∃ (x6_3 : List Int) (x9_3 : Int), v9 = .int .i64 x9_3 ∧ Aside0 (spec_ParseRanking.l1 kq l0 a1 x6_3 t148 x8_2 x9_3 = some (r1, r2)) ∧ Aside0 (kq ≤ k2) ∧ Aside0 (Kd.R (Kd.int .i64) 3 w' w.heap.size (fun _ => True) v6 x6_3) ∧ Aside0 (Kd.R Kd.string 9 w' w.heap.size (fun _ => True) (.slice Ao14 t148.length co14) t148) ∧ Aside0 (Below w.heap.size w w'))
       case atStart => exact ⟨(x6_2), (0), rdT, H', ⟨Nat.le_refl _⟩, ⟨by (with_reducible repeat (first | apply Kd.R_alloc | apply Kd.R_drewN | apply Kd.R_drew)); exact HO_6.out⟩, ⟨by (with_reducible repeat (first | apply Kd.R_alloc | apply Kd.R_drewN | apply Kd.R_drew)); exact HO_7.out⟩, ⟨hbT HB.out⟩⟩
       case round =>
        clear H'; (try clear c1 p2 c7 c10 c11 c13 c13b0 p2); obtain ⟨x6_3, x9_3, rfl, HA, HK3, HO_6, HO_7, HB⟩ := hrel
        cases gk with
        | zero => exact absurd HA.out (by simp [spec_ParseRanking.l1])
        | succ k3 =>
         have H := HA.out; clear HA
         simp only [spec_ParseRanking.l1] at H
         by_cases c15 : x9_3 < (l0.length : Int)
         ·rw [if_pos c15] at H
          have c15b0 : decide (x9_3 < (l0.length : Int)) = true := decide_eq_true c15
          clear c15
          by_cases c16 : 0 ≤ x9_3
          ·rw [if_pos c16] at H
           have c16b0 : decide (0 ≤ x9_3) = true := decide_eq_true c16
           clear c16
           by_cases c17 : 0 ≤ x8_2
           ·rw [if_pos c17] at H
            have c17b0 : decide (0 ≤ x8_2) = true := decide_eq_true c17
            clear c17
            by_cases c18 : x8_2 < (t148.length : Int)
            ·rw [if_pos c18] at H
             have c18b0 : decide (x8_2 < (t148.length : Int)) = true := decide_eq_true c18
             clear c18
             by_cases c19 : (rdOf ByteArray.empty l0 x9_3).toList = (rdOf ByteArray.empty t148 x8_2).toList
             ·rw [if_pos c19] at H
              have c19b0 : ((rdOf ByteArray.empty l0 x9_3).toList == (rdOf ByteArray.empty t148 x8_2).toList) = true := beq_iff_eq.mpr c19
              have c19b1 : ((rdOf ByteArray.empty l0 x9_3).toList != (rdOf ByteArray.empty t148 x8_2).toList) = false := bne_eq_false_iff_eq.mpr c19
              clear c19
              by_cases c20 : x6_3.length < 17592186044416
              ·rw [if_pos c20] at H
               have LMc20 := Aside0.mk c20; clear c20; obtain ⟨y160, hy160⟩ : ∃ y_ : List Int, y_ = (x6_3 ++ [x9_3]) := ⟨_, rfl⟩
               replace H : (spec_ParseRanking.l1 k3 l0 a1 y160 t148 x8_2 (wrap64 (x9_3 + 1))) = some (r1, r2) := by first | (rw [hy160]; with_reducible exact H) | (have H2_ := (Option.bind_some _ _).symm.trans H; rw [hy160]; with_reducible exact H2_) | (have H2_ := (Option.bind_some _ _).symm.trans H; with_reducible exact H2_) | with_reducible exact H | (rw [hy160]; exact H) | exact H
               have Ny160 := Aside0.mk hy160; clear hy160; have H' := Aside0.mk H; clear H
               have p158 : 0 ≤ (x9_3 : Int) := of_decide_eq_true asmT
               have q158 : x9_3 < (l0.length : Int) := of_decide_eq_true asmT
               obtain ⟨ad158, e158, hx158_0⟩ := Kd.at_string HR0.out x9_3 p158 q158
               cases e158
               replace hx158_0 := hbc HB.out hx158_0; replace p158 := eq_true p158; replace q158 := eq_true q158
               have p159 : 0 ≤ (x8_2 : Int) := of_decide_eq_true asmT
               have q159 : x8_2 < (t148.length : Int) := of_decide_eq_true asmT
               obtain ⟨ad159, e159, hx159_0⟩ := Kd.at_string (Kd.R_reads' HO_7.out).2.2 x8_2 p159 q159
               cases e159
               replace p159 := eq_true p159; replace q159 := eq_true q159
               go_wp2_with (first | ((with_reducible refine gate_builtin (b := .append) (xs := #[.tmp 43, .tmp 45]) rfl ?_); (try (refine gate_guard (by rfl) ?_; dsimp only)); at_builtin; refine Kd.R_append (Kd.int .i64) (w0 := w) w.heap.size rfl (.tmp 43) (.tmp 45) 28 3 (.int .i64 0) 8 rfl Tryd.underlying28 info3 rfl (by decide) (by omega) u6 x6_3 x9_3 [.int .i64 x9_3] (fun _ => True) (fun _ => False) rfl rfl ?aP (fun _ hk => hk.elim) ?aF ?aO ?aB ?aS ?aL ?_; (case aP => exact rfl); (case aB => exact (hbT HB.out)); (case aF => exact (fun _ _ => trivial)); (case aO => exact (roT HO_6.out)); (case aS => exact (below_size (hbT HB.out))); (case aL => have := LMc20.out; omega); intro v161 w21 ho hb hg hat; rw [← Ny160.out] at ho; replace HO_7 := asT (Kd.R_over' (roT HO_7.out) (Kd.R_typed (roT HO_6.out)) (by decide) hg); replace HB := asT (hb); have HO162 := asT (ho); clear HO_6 ho hb hg hat))
               repeat (go_quiet (first | ((with_reducible refine gate_builtin (b := .append) (xs := #[.tmp 43, .tmp 45]) rfl ?_); (try (refine gate_guard (by rfl) ?_; dsimp only)); at_builtin; refine Kd.R_append (Kd.int .i64) (w0 := w) w.heap.size rfl (.tmp 43) (.tmp 45) 28 3 (.int .i64 0) 8 rfl Tryd.underlying28 info3 rfl (by decide) (by omega) u6 x6_3 x9_3 [.int .i64 x9_3] (fun _ => True) (fun _ => False) rfl rfl ?aP (fun _ hk => hk.elim) ?aF ?aO ?aB ?aS ?aL ?_; (case aP => exact rfl); (case aB => exact (hbT HB.out)); (case aF => exact (fun _ _ => trivial)); (case aO => exact (roT HO_6.out)); (case aS => exact (below_size (hbT HB.out))); (case aL => have := LMc20.out; omega); intro v161 w21 ho hb hg hat; rw [← Ny160.out] at ho; replace HO_7 := asT (Kd.R_over' (roT HO_7.out) (Kd.R_typed (roT HO_6.out)) (by decide) hg); replace HB := asT (hb); have HO162 := asT (ho); clear HO_6 ho hb hg hat)); try go_wp2_with (first | ((with_reducible refine gate_builtin (b := .append) (xs := #[.tmp 43, .tmp 45]) rfl ?_); (try (refine gate_guard (by rfl) ?_; dsimp only)); at_builtin; refine Kd.R_append (Kd.int .i64) (w0 := w) w.heap.size rfl (.tmp 43) (.tmp 45) 28 3 (.int .i64 0) 8 rfl Tryd.underlying28 info3 rfl (by decide) (by omega) u6 x6_3 x9_3 [.int .i64 x9_3] (fun _ => True) (fun _ => False) rfl rfl ?aP (fun _ hk => hk.elim) ?aF ?aO ?aB ?aS ?aL ?_; (case aP => exact rfl); (case aB => exact (hbT HB.out)); (case aF => exact (fun _ _ => trivial)); (case aO => exact (roT HO_6.out)); (case aS => exact (below_size (hbT HB.out))); (case aL => have := LMc20.out; omega); intro v161 w21 ho hb hg hat; rw [← Ny160.out] at ho; replace HO_7 := asT (Kd.R_over' (roT HO_7.out) (Kd.R_typed (roT HO_6.out)) (by decide) hg); replace HB := asT (hb); have HO162 := asT (ho); clear HO_6 ho hb hg hat)))
               go_roundg k3
               case measure => have := HJ2.out; have := HK2.out; have := HK3.out; omega
               case rel => exact ⟨(y160), (wrap64 (x9_3 + 1)), rdT, H', ⟨by have := HJ2.out; have := HK2.out; have := HK3.out; omega⟩, ⟨by (with_reducible repeat (first | apply Kd.R_alloc | apply Kd.R_drewN | apply Kd.R_drew)); exact HO162.out⟩, ⟨by (with_reducible repeat (first | apply Kd.R_alloc | apply Kd.R_drewN | apply Kd.R_drew)); exact HO_7.out⟩, ⟨hbT HB.out⟩⟩
              ·rw [if_neg c20] at H
               exact absurd H (by simp)
             ·rw [if_neg c19] at H
              have c19b0 : ((rdOf ByteArray.empty l0 x9_3).toList == (rdOf ByteArray.empty t148 x8_2).toList) = false := beq_eq_false_iff_ne.mpr c19
              have c19b1 : ((rdOf ByteArray.empty l0 x9_3).toList != (rdOf ByteArray.empty t148 x8_2).toList) = true := bne_iff_ne.mpr c19
              have H' := Aside0.mk H; clear H
              have p158 : 0 ≤ (x9_3 : Int) := of_decide_eq_true asmT
              have q158 : x9_3 < (l0.length : Int) := of_decide_eq_true asmT
              obtain ⟨ad158, e158, hx158_0⟩ := Kd.at_string HR0.out x9_3 p158 q158
              cases e158
              replace hx158_0 := hbc HB.out hx158_0; replace p158 := eq_true p158; replace q158 := eq_true q158
              have p159 : 0 ≤ (x8_2 : Int) := of_decide_eq_true asmT
              have q159 : x8_2 < (t148.length : Int) := of_decide_eq_true asmT
              obtain ⟨ad159, e159, hx159_0⟩ := Kd.at_string (Kd.R_reads' HO_7.out).2.2 x8_2 p159 q159
              cases e159
              replace p159 := eq_true p159; replace q159 := eq_true q159
              go_wp2
              repeat (go_quiet (fail); try go_wp2)
              go_roundg k3
              case measure => have := HJ2.out; have := HK2.out; have := HK3.out; omega
              case rel => exact ⟨(x6_3), (wrap64 (x9_3 + 1)), rdT, H', ⟨by have := HJ2.out; have := HK2.out; have := HK3.out; omega⟩, ⟨by (with_reducible repeat (first | apply Kd.R_alloc | apply Kd.R_drewN | apply Kd.R_drew)); exact HO_6.out⟩, ⟨by (with_reducible repeat (first | apply Kd.R_alloc | apply Kd.R_drewN | apply Kd.R_drew)); exact HO_7.out⟩, ⟨hbT HB.out⟩⟩
            ·rw [if_neg c18] at H
             exact absurd H (by simp)
           ·rw [if_neg c17] at H
            exact absurd H (by simp)
          ·rw [if_neg c16] at H
           exact absurd H (by simp)
         ·rw [if_neg c15] at H
          have c15b0 : decide (x9_3 < (l0.length : Int)) = false := decide_eq_false c15
          clear c15; have H' := Aside0.mk H; clear H
          go_wp2
          repeat (go_quiet (fail); try go_wp2)
          go_roundg k3
          case measure => have := HJ2.out; have := HK2.out; have := HK3.out; omega
          case rel => exact ⟨(x6_3), (wrap64 (x8_2 + 1)), rdT, H', ⟨by have := HJ2.out; have := HK2.out; have := HK3.out; omega⟩, ⟨by (with_reducible repeat (first | apply Kd.R_alloc | apply Kd.R_drewN | apply Kd.R_drew)); exact HO_6.out⟩, ⟨by (with_reducible repeat (first | apply Kd.R_alloc | apply Kd.R_drewN | apply Kd.R_drew)); exact HO_7.out⟩, ⟨hbT HB.out⟩⟩
      ·rw [if_neg c13] at H
       have c13b0 : decide (x8_2 < (t148.length : Int)) = false := decide_eq_false c13
       clear c13; obtain ⟨t151, A22, H⟩ := be H
       by_cases c23 : t151.toList = a1.toList
       ·rw [if_pos c23] at H
        have c23b0 : (t151.toList == a1.toList) = true := beq_iff_eq.mpr c23
        have c23b1 : (t151.toList != a1.toList) = false := bne_eq_false_iff_eq.mpr c23
        clear c23
        by_cases c24 : a1.toList = ([] : List UInt8)
        ·rw [if_pos c24] at H
         have c24b0 : (a1.toList == ([] : List UInt8)) = true := beq_iff_eq.mpr c24
         have c24b1 : (a1.toList != ([] : List UInt8)) = false := bne_eq_false_iff_eq.mpr c24
         clear c24; obtain ⟨y152, hy152⟩ : ∃ y_ : List Int, y_ = (([] : List Int)) := ⟨_, rfl⟩
         replace H : (some (y152, false)) = some (r1, r2) := by first | (rw [hy152]; with_reducible exact H) | (have H2_ := (Option.bind_some _ _).symm.trans H; rw [hy152]; with_reducible exact H2_) | (have H2_ := (Option.bind_some _ _).symm.trans H; with_reducible exact H2_) | with_reducible exact H | (rw [hy152]; exact H) | exact H
         have Ny152 := Aside0.mk hy152; clear hy152
         simp only [Option.some.injEq, Prod.mk.injEq] at H
         obtain ⟨rfl, rfl⟩ := H; obtain ⟨Ao25, co25, eo25⟩ := Kd.R_slice HO_7.out; subst eo25; obtain ⟨Ao26, co26, eo26⟩ := Kd.R_slice HO_6.out; subst eo26
         go_wp2_with (first | (go_at_call 22; (with_reducible refine (spec_FormatRanking.calls k2 _ _ l0 _ _ x6_2 t151 _ ?side1 ?side2 ?side3 ?side4 A22.out).mono ?_); (case side1 => exact crT HR0.out HB.out); (case side2 => exact HC0.out); (case side3 => repeat (first | exact (Kd.R_reads' HO_6.out).2.2 | (with_reducible refine Kd.C_alloc ?_ _) | (with_reducible refine Kd.C_drewN ?_ _) | (with_reducible refine Kd.C_drew ?_))); (case side4 => exact (Kd.R_reads' HO_6.out).2.1); rintro e w27 ⟨rfl, hb⟩; replace HO_6 := asT (Kd.R_below (roT HO_6.out) hb); replace HO_7 := asT (Kd.R_below (roT HO_7.out) hb); replace HB := hS HB hb; (try clear hb hb2 hk hi)) | ((with_reducible refine gate_dst (N := 56) rfl ?_); (try (refine gate_guard (by rfl) ?_; dsimp only)); refine Kd.R_lit (Kd.int .i64) _ 3 ?hg (N := 56) ?hd (xs := ([] : List Int)) (inner := []) (ok := fun _ => True) (okp := fun _ => True) ?hr ?hp (fun _ hk => hk) trivial (Below.refl _ _) (Nat.le_refl _) (by simp) ?_; (case hd => rfl); (case hg => rfl); (case hr => first | (go_simp; done) | (go_simp; rfl)); (case hp => exact (Reps.none _ _)); intro v153 w28 ho29 hb hg_ hnew_; clear hg_ hnew_; (first | rw [← Ny152.out] at ho29 | (simp only [Int.reduceToNat] at ho29; rw [← Ny152.out] at ho29)); replace HO_7 := asT (Kd.R_below (roT HO_7.out) hb); have HO154 := asT (Kd.R_lower (Kd.R_new' ho29 (Kd.R_lt (roT HO_6.out))) (below_size (hbT HB.out))); replace HO_6 := asT (Kd.R_elder' (roT HO_6.out) (Kd.R_base ho29) hb); replace HB := hS HB hb; clear hb ho29))
         repeat (go_quiet (first | (go_at_call 22; (with_reducible refine (spec_FormatRanking.calls k2 _ _ l0 _ _ x6_2 t151 _ ?side1 ?side2 ?side3 ?side4 A22.out).mono ?_); (case side1 => exact crT HR0.out HB.out); (case side2 => exact HC0.out); (case side3 => repeat (first | exact (Kd.R_reads' HO_6.out).2.2 | (with_reducible refine Kd.C_alloc ?_ _) | (with_reducible refine Kd.C_drewN ?_ _) | (with_reducible refine Kd.C_drew ?_))); (case side4 => exact (Kd.R_reads' HO_6.out).2.1); rintro e w27 ⟨rfl, hb⟩; replace HO_6 := asT (Kd.R_below (roT HO_6.out) hb); replace HO_7 := asT (Kd.R_below (roT HO_7.out) hb); replace HB := hS HB hb; (try clear hb hb2 hk hi)) | ((with_reducible refine gate_dst (N := 56) rfl ?_); (try (refine gate_guard (by rfl) ?_; dsimp only)); refine Kd.R_lit (Kd.int .i64) _ 3 ?hg (N := 56) ?hd (xs := ([] : List Int)) (inner := []) (ok := fun _ => True) (okp := fun _ => True) ?hr ?hp (fun _ hk => hk) trivial (Below.refl _ _) (Nat.le_refl _) (by simp) ?_; (case hd => rfl); (case hg => rfl); (case hr => first | (go_simp; done) | (go_simp; rfl)); (case hp => exact (Reps.none _ _)); intro v153 w28 ho29 hb hg_ hnew_; clear hg_ hnew_; (first | rw [← Ny152.out] at ho29 | (simp only [Int.reduceToNat] at ho29; rw [← Ny152.out] at ho29)); replace HO_7 := asT (Kd.R_below (roT HO_7.out) hb); have HO154 := asT (Kd.R_lower (Kd.R_new' ho29 (Kd.R_lt (roT HO_6.out))) (below_size (hbT HB.out))); replace HO_6 := asT (Kd.R_elder' (roT HO_6.out) (Kd.R_base ho29) hb); replace HB := hS HB hb; clear hb ho29)); try go_wp2_with (first | (go_at_call 22; (with_reducible refine (spec_FormatRanking.calls k2 _ _ l0 _ _ x6_2 t151 _ ?side1 ?side2 ?side3 ?side4 A22.out).mono ?_); (case side1 => exact crT HR0.out HB.out); (case side2 => exact HC0.out); (case side3 => repeat (first | exact (Kd.R_reads' HO_6.out).2.2 | (with_reducible refine Kd.C_alloc ?_ _) | (with_reducible refine Kd.C_drewN ?_ _) | (with_reducible refine Kd.C_drew ?_))); (case side4 => exact (Kd.R_reads' HO_6.out).2.1); rintro e w27 ⟨rfl, hb⟩; replace HO_6 := asT (Kd.R_below (roT HO_6.out) hb); replace HO_7 := asT (Kd.R_below (roT HO_7.out) hb); replace HB := hS HB hb; (try clear hb hb2 hk hi)) | ((with_reducible refine gate_dst (N := 56) rfl ?_); (try (refine gate_guard (by rfl) ?_; dsimp only)); refine Kd.R_lit (Kd.int .i64) _ 3 ?hg (N := 56) ?hd (xs := ([] : List Int)) (inner := []) (ok := fun _ => True) (okp := fun _ => True) ?hr ?hp (fun _ hk => hk) trivial (Below.refl _ _) (Nat.le_refl _) (by simp) ?_; (case hd => rfl); (case hg => rfl); (case hr => first | (go_simp; done) | (go_simp; rfl)); (case hp => exact (Reps.none _ _)); intro v153 w28 ho29 hb hg_ hnew_; clear hg_ hnew_; (first | rw [← Ny152.out] at ho29 | (simp only [Int.reduceToNat] at ho29; rw [← Ny152.out] at ho29)); replace HO_7 := asT (Kd.R_below (roT HO_7.out) hb); have HO154 := asT (Kd.R_lower (Kd.R_new' ho29 (Kd.R_lt (roT HO_6.out))) (below_size (hbT HB.out))); replace HO_6 := asT (Kd.R_elder' (roT HO_6.out) (Kd.R_base ho29) hb); replace HB := hS HB hb; clear hb ho29)))
         go_ret2
         exact ⟨_, rlT, by (with_reducible repeat (first | apply Kd.R_alloc | apply Kd.R_drewN | apply Kd.R_drew)); exact Kd.R_mono HO154.out (fun _ hk => trivial), hbT HB.out⟩
        ·rw [if_neg c24] at H
         have c24b0 : (a1.toList == ([] : List UInt8)) = false := beq_eq_false_iff_ne.mpr c24
         have c24b1 : (a1.toList != ([] : List UInt8)) = true := bne_iff_ne.mpr c24
         simp only [Option.some.injEq, Prod.mk.injEq] at H
         obtain ⟨rfl, rfl⟩ := H; obtain ⟨Ao30, co30, eo30⟩ := Kd.R_slice HO_7.out; subst eo30; obtain ⟨Ao31, co31, eo31⟩ := Kd.R_slice HO_6.out; subst eo31
         go_wp2_with (first | (go_at_call 22; (with_reducible refine (spec_FormatRanking.calls k2 _ _ l0 _ _ x6_2 t151 _ ?side1 ?side2 ?side3 ?side4 A22.out).mono ?_); (case side1 => exact crT HR0.out HB.out); (case side2 => exact HC0.out); (case side3 => repeat (first | exact (Kd.R_reads' HO_6.out).2.2 | (with_reducible refine Kd.C_alloc ?_ _) | (with_reducible refine Kd.C_drewN ?_ _) | (with_reducible refine Kd.C_drew ?_))); (case side4 => exact (Kd.R_reads' HO_6.out).2.1); rintro e w32 ⟨rfl, hb⟩; replace HO_6 := asT (Kd.R_below (roT HO_6.out) hb); replace HO_7 := asT (Kd.R_below (roT HO_7.out) hb); replace HB := hS HB hb; (try clear hb hb2 hk hi)))
         repeat (go_quiet (first | (go_at_call 22; (with_reducible refine (spec_FormatRanking.calls k2 _ _ l0 _ _ x6_2 t151 _ ?side1 ?side2 ?side3 ?side4 A22.out).mono ?_); (case side1 => exact crT HR0.out HB.out); (case side2 => exact HC0.out); (case side3 => repeat (first | exact (Kd.R_reads' HO_6.out).2.2 | (with_reducible refine Kd.C_alloc ?_ _) | (with_reducible refine Kd.C_drewN ?_ _) | (with_reducible refine Kd.C_drew ?_))); (case side4 => exact (Kd.R_reads' HO_6.out).2.1); rintro e w32 ⟨rfl, hb⟩; replace HO_6 := asT (Kd.R_below (roT HO_6.out) hb); replace HO_7 := asT (Kd.R_below (roT HO_7.out) hb); replace HB := hS HB hb; (try clear hb hb2 hk hi))); try go_wp2_with (first | (go_at_call 22; (with_reducible refine (spec_FormatRanking.calls k2 _ _ l0 _ _ x6_2 t151 _ ?side1 ?side2 ?side3 ?side4 A22.out).mono ?_); (case side1 => exact crT HR0.out HB.out); (case side2 => exact HC0.out); (case side3 => repeat (first | exact (Kd.R_reads' HO_6.out).2.2 | (with_reducible refine Kd.C_alloc ?_ _) | (with_reducible refine Kd.C_drewN ?_ _) | (with_reducible refine Kd.C_drew ?_))); (case side4 => exact (Kd.R_reads' HO_6.out).2.1); rintro e w32 ⟨rfl, hb⟩; replace HO_6 := asT (Kd.R_below (roT HO_6.out) hb); replace HO_7 := asT (Kd.R_below (roT HO_7.out) hb); replace HB := hS HB hb; (try clear hb hb2 hk hi))))
         go_ret2
         exact ⟨_, rlT, by (with_reducible repeat (first | apply Kd.R_alloc | apply Kd.R_drewN | apply Kd.R_drew)); exact HO_6.out, hbT HB.out⟩
       ·rw [if_neg c23] at H
        have c23b0 : (t151.toList == a1.toList) = false := beq_eq_false_iff_ne.mpr c23
        have c23b1 : (t151.toList != a1.toList) = true := bne_iff_ne.mpr c23
        obtain ⟨y155, hy155⟩ : ∃ y_ : List Int, y_ = (([] : List Int)) := ⟨_, rfl⟩
        replace H : (some (y155, false)) = some (r1, r2) := by first | (rw [hy155]; with_reducible exact H) | (have H2_ := (Option.bind_some _ _).symm.trans H; rw [hy155]; with_reducible exact H2_) | (have H2_ := (Option.bind_some _ _).symm.trans H; with_reducible exact H2_) | with_reducible exact H | (rw [hy155]; exact H) | exact H
        have Ny155 := Aside0.mk hy155; clear hy155
        simp only [Option.some.injEq, Prod.mk.injEq] at H
        obtain ⟨rfl, rfl⟩ := H; obtain ⟨Ao33, co33, eo33⟩ := Kd.R_slice HO_7.out; subst eo33; obtain ⟨Ao34, co34, eo34⟩ := Kd.R_slice HO_6.out; subst eo34
        go_wp2_with (first | (go_at_call 22; (with_reducible refine (spec_FormatRanking.calls k2 _ _ l0 _ _ x6_2 t151 _ ?side1 ?side2 ?side3 ?side4 A22.out).mono ?_); (case side1 => exact crT HR0.out HB.out); (case side2 => exact HC0.out); (case side3 => repeat (first | exact (Kd.R_reads' HO_6.out).2.2 | (with_reducible refine Kd.C_alloc ?_ _) | (with_reducible refine Kd.C_drewN ?_ _) | (with_reducible refine Kd.C_drew ?_))); (case side4 => exact (Kd.R_reads' HO_6.out).2.1); rintro e w35 ⟨rfl, hb⟩; replace HO_6 := asT (Kd.R_below (roT HO_6.out) hb); replace HO_7 := asT (Kd.R_below (roT HO_7.out) hb); replace HB := hS HB hb; (try clear hb hb2 hk hi)) | ((with_reducible refine gate_dst (N := 56) rfl ?_); (try (refine gate_guard (by rfl) ?_; dsimp only)); refine Kd.R_lit (Kd.int .i64) _ 3 ?hg (N := 56) ?hd (xs := ([] : List Int)) (inner := []) (ok := fun _ => True) (okp := fun _ => True) ?hr ?hp (fun _ hk => hk) trivial (Below.refl _ _) (Nat.le_refl _) (by simp) ?_; (case hd => rfl); (case hg => rfl); (case hr => first | (go_simp; done) | (go_simp; rfl)); (case hp => exact (Reps.none _ _)); intro v156 w36 ho37 hb hg_ hnew_; clear hg_ hnew_; (first | rw [← Ny155.out] at ho37 | (simp only [Int.reduceToNat] at ho37; rw [← Ny155.out] at ho37)); replace HO_7 := asT (Kd.R_below (roT HO_7.out) hb); have HO157 := asT (Kd.R_lower (Kd.R_new' ho37 (Kd.R_lt (roT HO_6.out))) (below_size (hbT HB.out))); replace HO_6 := asT (Kd.R_elder' (roT HO_6.out) (Kd.R_base ho37) hb); replace HB := hS HB hb; clear hb ho37))
        repeat (go_quiet (first | (go_at_call 22; (with_reducible refine (spec_FormatRanking.calls k2 _ _ l0 _ _ x6_2 t151 _ ?side1 ?side2 ?side3 ?side4 A22.out).mono ?_); (case side1 => exact crT HR0.out HB.out); (case side2 => exact HC0.out); (case side3 => repeat (first | exact (Kd.R_reads' HO_6.out).2.2 | (with_reducible refine Kd.C_alloc ?_ _) | (with_reducible refine Kd.C_drewN ?_ _) | (with_reducible refine Kd.C_drew ?_))); (case side4 => exact (Kd.R_reads' HO_6.out).2.1); rintro e w35 ⟨rfl, hb⟩; replace HO_6 := asT (Kd.R_below (roT HO_6.out) hb); replace HO_7 := asT (Kd.R_below (roT HO_7.out) hb); replace HB := hS HB hb; (try clear hb hb2 hk hi)) | ((with_reducible refine gate_dst (N := 56) rfl ?_); (try (refine gate_guard (by rfl) ?_; dsimp only)); refine Kd.R_lit (Kd.int .i64) _ 3 ?hg (N := 56) ?hd (xs := ([] : List Int)) (inner := []) (ok := fun _ => True) (okp := fun _ => True) ?hr ?hp (fun _ hk => hk) trivial (Below.refl _ _) (Nat.le_refl _) (by simp) ?_; (case hd => rfl); (case hg => rfl); (case hr => first | (go_simp; done) | (go_simp; rfl)); (case hp => exact (Reps.none _ _)); intro v156 w36 ho37 hb hg_ hnew_; clear hg_ hnew_; (first | rw [← Ny155.out] at ho37 | (simp only [Int.reduceToNat] at ho37; rw [← Ny155.out] at ho37)); replace HO_7 := asT (Kd.R_below (roT HO_7.out) hb); have HO157 := asT (Kd.R_lower (Kd.R_new' ho37 (Kd.R_lt (roT HO_6.out))) (below_size (hbT HB.out))); replace HO_6 := asT (Kd.R_elder' (roT HO_6.out) (Kd.R_base ho37) hb); replace HB := hS HB hb; clear hb ho37)); try go_wp2_with (first | (go_at_call 22; (with_reducible refine (spec_FormatRanking.calls k2 _ _ l0 _ _ x6_2 t151 _ ?side1 ?side2 ?side3 ?side4 A22.out).mono ?_); (case side1 => exact crT HR0.out HB.out); (case side2 => exact HC0.out); (case side3 => repeat (first | exact (Kd.R_reads' HO_6.out).2.2 | (with_reducible refine Kd.C_alloc ?_ _) | (with_reducible refine Kd.C_drewN ?_ _) | (with_reducible refine Kd.C_drew ?_))); (case side4 => exact (Kd.R_reads' HO_6.out).2.1); rintro e w35 ⟨rfl, hb⟩; replace HO_6 := asT (Kd.R_below (roT HO_6.out) hb); replace HO_7 := asT (Kd.R_below (roT HO_7.out) hb); replace HB := hS HB hb; (try clear hb hb2 hk hi)) | ((with_reducible refine gate_dst (N := 56) rfl ?_); (try (refine gate_guard (by rfl) ?_; dsimp only)); refine Kd.R_lit (Kd.int .i64) _ 3 ?hg (N := 56) ?hd (xs := ([] : List Int)) (inner := []) (ok := fun _ => True) (okp := fun _ => True) ?hr ?hp (fun _ hk => hk) trivial (Below.refl _ _) (Nat.le_refl _) (by simp) ?_; (case hd => rfl); (case hg => rfl); (case hr => first | (go_simp; done) | (go_simp; rfl)); (case hp => exact (Reps.none _ _)); intro v156 w36 ho37 hb hg_ hnew_; clear hg_ hnew_; (first | rw [← Ny155.out] at ho37 | (simp only [Int.reduceToNat] at ho37; rw [← Ny155.out] at ho37)); replace HO_7 := asT (Kd.R_below (roT HO_7.out) hb); have HO157 := asT (Kd.R_lower (Kd.R_new' ho37 (Kd.R_lt (roT HO_6.out))) (below_size (hbT HB.out))); replace HO_6 := asT (Kd.R_elder' (roT HO_6.out) (Kd.R_base ho37) hb); replace HB := hS HB hb; clear hb ho37)))
        go_ret2
        exact ⟨_, rlT, by (with_reducible repeat (first | apply Kd.R_alloc | apply Kd.R_drewN | apply Kd.R_drew)); exact Kd.R_mono HO157.out (fun _ hk => trivial), hbT HB.out⟩

/-! ### laws_toStringS: function 12 -/
def laws_toStringS.l0 : Nat → List ByteArray → List ByteArray → Int → Option (List ByteArray)
 | 0, _, _, _ => none
 | k + 1, x0, x3, x4 => if x4 < (x0.length : Int) then (if 0 ≤ x4 then (if x4 < (x3.length : Int) then (laws_toStringS.l0 k x0 (x3.set (x4 : Int).toNat (rdOf ByteArray.empty x0 x4)) (wrap64 (x4 + 1))) else (none)) else (none)) else (some x3)
def laws_toStringS.f (k : Nat) (l0 : List ByteArray) : Option (List ByteArray) := if 0 ≤ (l0.length : Int) then (if ((l0.length : Int) : Int).toNat ≤ 17592186044416 then (laws_toStringS.l0 k l0 (List.replicate ((l0.length : Int) : Int).toNat (⟨#[]⟩ : ByteArray)) 0) else (none)) else (none)
theorem laws_toStringS.mono_l : ∀ k, (∀ y0 y1 y2, LeO (laws_toStringS.l0 k y0 y1 y2) (laws_toStringS.l0 (k + 1) y0 y1 y2))
 | 0 => fun _ _ _ r h => by simp [laws_toStringS.l0] at h
 | k + 1 => by
  have ih0 := laws_toStringS.mono_l k
  ·intro y0 y1 y2
   unfold laws_toStringS.l0
   with_reducible repeat' first | exact ih0 _ _ _ | exact LeO.refl _ | exact LeO.none _ | refine LeO.ite ?_ ?_ | refine LeO.bind ?_ (fun _ => ?_)
theorem laws_toStringS.mono : ∀ a0 k, LeO (laws_toStringS.f k a0) (laws_toStringS.f (k + 1) a0) := by
 intro a0 k
 have ih0 := laws_toStringS.mono_l k
 unfold laws_toStringS.f
 with_reducible repeat' first | exact ih0 _ _ _ | exact LeO.refl _ | exact LeO.none _ | refine LeO.ite ?_ ?_ | refine LeO.bind ?_ (fun _ => ?_)
set_option maxHeartbeats 8000000 in
set_option maxRecDepth 100000 in
theorem laws_toStringS.calls (k : Nat) (A0 : Option Addr) (c0 : Nat) (l0 : List ByteArray) (r : List ByteArray) (w : World) (hr0 : Kd.C Kd.string w A0 l0.length l0) (hc0 : l0.length ≤ c0) (h : laws_toStringS.f k l0 = some r) :
  Calls Tryd.prog 12 #[.slice A0 l0.length c0] w fun e w' => ∃ v0_ : Value, e = .returned (v0_) ∧ Kd.R Kd.string 9 w' w.heap.size (fun _ => True) v0_ r ∧ Below w.heap.size w w' := by
 have HR0 := Aside0.mk hr0; have HC0 := Aside0.mk hc0; clear hr0 hc0; have HB := asT (Below.refl w.heap.size w); have H := h; unfold laws_toStringS.f at H; clear h
 by_cases c2 : 0 ≤ (l0.length : Int)
 ·rw [if_pos c2] at H
  have c2b0 := eq_true c2
  have c2b1 : decide (0 ≤ (l0.length : Int)) = true := decide_eq_true c2
  clear c2
  by_cases c3 : ((l0.length : Int) : Int).toNat ≤ 17592186044416
  ·rw [if_pos c3] at H
   have c3b0 := eq_true c3
   have c3b1 : decide (((l0.length : Int) : Int).toNat ≤ 17592186044416) = true := decide_eq_true c3
   clear c3; obtain ⟨y163, hy163⟩ : ∃ y_ : List ByteArray, y_ = (List.replicate ((l0.length : Int) : Int).toNat (⟨#[]⟩ : ByteArray)) := ⟨_, rfl⟩
   replace H : (laws_toStringS.l0 k l0 y163 0) = some r := by first | (rw [hy163]; with_reducible exact H) | (have H2_ := (Option.bind_some _ _).symm.trans H; rw [hy163]; with_reducible exact H2_) | (have H2_ := (Option.bind_some _ _).symm.trans H; with_reducible exact H2_) | with_reducible exact H | (rw [hy163]; exact H) | exact H
   have Ny163 := Aside0.mk hy163; clear hy163; have H' := Aside0.mk H; clear H
   go_enter Tryd.func12, Tryd.ntmps12
   go_wp2_with (first | ((with_reducible refine gate_dst (N := 7) rfl ?_); refine Kd.R_make Kd.string _ 9 rfl (N := 7) rfl 22 _ _ rfl (l0.length : Int) rfl rfl Tryd.underlying22 (.string ⟨#[]⟩) 16 info9 rfl (by decide) (by omega) (⟨#[]⟩ : ByteArray) (ok := fun _ => True) (okp := fun _ => True) rfl (fun _ hk => hk) trivial (of_decide_eq_true asmT) (Nat.le_trans (Nat.mul_le_mul_right _ (of_decide_eq_true asmT : (l0.length : Int).toNat ≤ 17592186044416)) (by omega)) (Below.refl _ _) (Nat.le_refl _) ?_; intro v164 w4 ho5 hb hg_ hnew_; clear hg_ hnew_; (first | rw [← Ny163.out] at ho5 | (simp only [Int.reduceToNat] at ho5; rw [← Ny163.out] at ho5)); have HO165 := asT (Kd.R_lower ho5 (below_size (hbT HB.out))); replace HB := hS HB hb; clear hb ho5))
   go_loopg [4] k (fun kq v4 w' => ∃ (x3_1 : List ByteArray) (x4_1 : Int), v4 = .int .i64 x4_1 ∧ Aside0 (laws_toStringS.l0 kq l0 x3_1 x4_1 = some r) ∧ Aside0 (kq ≤ k) ∧ Aside0 (Kd.R Kd.string 9 w' w.heap.size (fun _ => True) v164 x3_1) ∧ Aside0 (Below w.heap.size w w'))
   case atStart => exact ⟨(y163), (0), rdT, H', ⟨Nat.le_refl _⟩, ⟨by (with_reducible repeat (first | apply Kd.R_alloc | apply Kd.R_drewN | apply Kd.R_drew)); exact HO165.out⟩, ⟨hbT HB.out⟩⟩
   case round =>
    clear H'; (try clear c1 c2 c2b0 c2b1 p2 c3 c3b0 c3b1); obtain ⟨x3_1, x4_1, rfl, HA, HK1, HO_3, HB⟩ := hrel
    cases gk with
    | zero => exact absurd HA.out (by simp [laws_toStringS.l0])
    | succ k1 =>
     have H := HA.out; clear HA
     simp only [laws_toStringS.l0] at H
     by_cases c6 : x4_1 < (l0.length : Int)
     ·rw [if_pos c6] at H
      have c6b0 : decide (x4_1 < (l0.length : Int)) = true := decide_eq_true c6
      clear c6
      by_cases c7 : 0 ≤ x4_1
      ·rw [if_pos c7] at H
       have c7b0 : decide (0 ≤ x4_1) = true := decide_eq_true c7
       clear c7
       by_cases c8 : x4_1 < (x3_1.length : Int)
       ·rw [if_pos c8] at H
        have c8b0 : decide (x4_1 < (x3_1.length : Int)) = true := decide_eq_true c8
        clear c8; obtain ⟨y167, hy167⟩ : ∃ y_ : List ByteArray, y_ = (x3_1.set (x4_1 : Int).toNat (rdOf ByteArray.empty l0 x4_1)) := ⟨_, rfl⟩
        replace H : (laws_toStringS.l0 k1 l0 y167 (wrap64 (x4_1 + 1))) = some r := by first | (rw [hy167]; with_reducible exact H) | (have H2_ := (Option.bind_some _ _).symm.trans H; rw [hy167]; with_reducible exact H2_) | (have H2_ := (Option.bind_some _ _).symm.trans H; with_reducible exact H2_) | with_reducible exact H | (rw [hy167]; exact H) | exact H
        have Ny167 := Aside0.mk hy167; clear hy167; have H' := Aside0.mk H; clear H
        have p166 : 0 ≤ (x4_1 : Int) := of_decide_eq_true asmT
        have q166 : x4_1 < (l0.length : Int) := of_decide_eq_true asmT
        obtain ⟨ad166, e166, hx166_0⟩ := Kd.at_string HR0.out x4_1 p166 q166
        cases e166
        replace hx166_0 := hbc HB.out hx166_0; replace p166 := eq_true p166; replace q166 := eq_true q166
        have p9 : 0 ≤ (x4_1 : Int) := of_decide_eq_true asmT
        have q9 : (x4_1 : Int) < ((x3_1.length : Int) : Int) := of_decide_eq_true asmT
        obtain ⟨go9, co9, eo9, gb9, gl9, cl9, HG9⟩ := Kd.R_form HO_3.out (by omega)
        (first | cases eo9 | (injection eo9 with ea_ en_ ec_; (first | subst ea_ | (injection ea_ with ea_; subst ea_)); subst ec_; clear en_))
        have GB9 := Aside0.mk gb9; have GG9 := Aside0.mk HG9; clear gb9 gl9 HG9; obtain ⟨hx9_0, hf9_0⟩ := Kd.R_celln (⟨#[]⟩ : ByteArray) HO_3.out (x4_1 : Int) p9 q9; replace p9 := eq_true p9; replace q9 := eq_true q9; have HP10 := Kd.R_putg HO_3.out (x4_1 : Int) (rdOf ByteArray.empty l0 x4_1)
        go_wp2_with (first | ((with_reducible refine gate_store (t := 9) (p := 20) rfl ?_); refine store_event (t := 9) (p := 20) (v := ?vo_w11) (w1 := (wr.setCell ⟨go9, (x4_1 : Int).toNat, none⟩ (.string (rdOf ByteArray.empty l0 x4_1)))) ?hg ?ho ?hn ?hr ?_; (case ho => rfl); (case hg => rfl); (case hn => rfl); (case hr => first | (go_simp; done) | (go_simp; rfl)); intro w11 hw; have hg : wr.grownBy w11 (some go9) := (by rw [hw]; exact HP10.2); have hp_ : Kd.R Kd.string 9 w11 w.heap.size (fun _ => True) (.slice (some ⟨go9, 0, none⟩) x3_1.length co9) y167 := (by rw [hw, Ny167.out]; exact HP10.1); clear HP10; replace HO_3 := asT (hp_); replace HB := asT ((by rw [hw]; exact below_set (HB.out) GB9.out : Below w.heap.size w w11)); clear hg hw hp_))
        go_roundg k1
        case measure => have := HK1.out; omega
        case rel => exact ⟨(y167), (wrap64 (x4_1 + 1)), rdT, H', ⟨by have := HK1.out; omega⟩, ⟨by (with_reducible repeat (first | apply Kd.R_alloc | apply Kd.R_drewN | apply Kd.R_drew)); exact HO_3.out⟩, ⟨hbT HB.out⟩⟩
       ·rw [if_neg c8] at H
        exact absurd H (by simp)
      ·rw [if_neg c7] at H
       exact absurd H (by simp)
     ·rw [if_neg c6] at H
      have c6b0 : decide (x4_1 < (l0.length : Int)) = false := decide_eq_false c6
      clear c6
      obtain rfl := Option.some.inj H
      go_wp2
      go_ret
      exact ⟨_, rlT, by (with_reducible repeat (first | apply Kd.R_alloc | apply Kd.R_drewN | apply Kd.R_drew)); exact HO_3.out, hbT HB.out⟩
  ·rw [if_neg c3] at H
   exact absurd H (by simp)
 ·rw [if_neg c2] at H
  exact absurd H (by simp)

/-! ### strings_Split: function 19 -/
def MaxL (w : World) : Prop := ∃ m : Int, w.cell? ⟨0, 0, none⟩ = some (.int .i64 m)
theorem MaxL.below {w W : World} (h : MaxL w) (hb : Below w.heap.size w W) : MaxL W := by
  obtain ⟨m, hm⟩ := h
  exact ⟨m, hbc hb hm⟩
def strings_Split.f (a0 a1 : ByteArray) : Option (List ByteArray) := if a0.size ≤ 1048576 ∧ 1 ≤ a1.size then some (Lib.splitB a1 0 (Lib.countB a0 a1) a0) else none
theorem strings_Split.calls (a0 a1 : ByteArray) (r : List ByteArray) (w : World) (hM : MaxL w) (h : strings_Split.f a0 a1 = some r) :
    Calls Tryd.prog 19 #[.string a0, .string a1] w fun e w' => ∃ v0_ : Value, e = .returned (v0_) ∧ Kd.R Kd.string 9 w' w.heap.size (fun _ => True) v0_ r ∧ Below w.heap.size w w' := by
  unfold strings_Split.f at h
  split at h
  · rename_i hl
    obtain rfl := Option.some.inj h
    obtain ⟨m, hm⟩ := hM
    refine (Tryd.strings_Split a0 a1 m w (by omega) hm hl.2).mono ?_
    rintro e w' ⟨rfl, rfl⟩
    have hlen := Lib.splitB_all a1 hl.2 0 _ a0 rfl
    have hcl := Lib.countB_le a1 hl.2 _ a0 (Nat.le_refl _)
    rw [← hlen]
    generalize hX : Lib.splitB a1 0 (Lib.countB a0 a1) a0 = X at hlen
    refine ⟨_, rfl, ⟨fun _ _ => trivial, encs Value.string X, ?_, Kd.reps_scalar X⟩, below_alloc (Below.refl _ _) _⟩
    have h2 := World.ownsRow_lit (base := w.heap.size) (e := 9) (size := 1) w (encs Value.string X).toArray X.length (Nat.le_refl _) (by show X.length ≤ 9223372036854775807; omega) (by simp [encs])
    show World.ownsRow _ _ _ 1 _ _ _
    simpa [encs] using h2
  · cases h

/-! ### slices_Index_string_string: function 23 -/
def slices_Index_string_string.l0 : Nat → List ByteArray → ByteArray → Int → Int → Option (Int)
 | 0, _, _, _, _ => none
 | k + 1, x0, x1, x7, x8 => if x8 < x7 then (if 0 ≤ x8 then (if x8 < (x0.length : Int) then (if x1.toList = (rdOf ByteArray.empty x0 x8).toList then (some x8) else (slices_Index_string_string.l0 k x0 x1 x7 (wrap64 (x8 + 1)))) else (none)) else (none)) else (some (-1))
def slices_Index_string_string.f (k : Nat) (l0 : List ByteArray) (a1 : ByteArray) : Option (Int) := slices_Index_string_string.l0 k l0 a1 (l0.length : Int) 0
theorem slices_Index_string_string.mono_l : ∀ k, (∀ y0 y1 y2 y3, LeO (slices_Index_string_string.l0 k y0 y1 y2 y3) (slices_Index_string_string.l0 (k + 1) y0 y1 y2 y3))
 | 0 => fun _ _ _ _ r h => by simp [slices_Index_string_string.l0] at h
 | k + 1 => by
  have ih0 := slices_Index_string_string.mono_l k
  ·intro y0 y1 y2 y3
   unfold slices_Index_string_string.l0
   with_reducible repeat' first | exact ih0 _ _ _ _ | exact LeO.refl _ | exact LeO.none _ | refine LeO.ite ?_ ?_ | refine LeO.bind ?_ (fun _ => ?_)
theorem slices_Index_string_string.mono : ∀ a0 a1 k, LeO (slices_Index_string_string.f k a0 a1) (slices_Index_string_string.f (k + 1) a0 a1) := by
 intro a0 a1 k
 have ih0 := slices_Index_string_string.mono_l k
 unfold slices_Index_string_string.f
 with_reducible repeat' first | exact ih0 _ _ _ _ | exact LeO.refl _ | exact LeO.none _ | refine LeO.ite ?_ ?_ | refine LeO.bind ?_ (fun _ => ?_)
set_option maxHeartbeats 8000000 in
set_option maxRecDepth 100000 in
theorem slices_Index_string_string.calls (k : Nat) (A0 : Option Addr) (c0 : Nat) (l0 : List ByteArray) (a1 : ByteArray) (r : Int) (w : World) (hr0 : Kd.C Kd.string w A0 l0.length l0) (hc0 : l0.length ≤ c0) (h : slices_Index_string_string.f k l0 a1 = some r) :
  Calls Tryd.prog 23 #[.slice A0 l0.length c0, .string a1] w fun e w' => e = .returned (.int .i64 r) ∧ Drawn0 w w' := by
 have HR0 := Aside0.mk hr0; have HC0 := Aside0.mk hc0; clear hr0 hc0; have H := h; unfold slices_Index_string_string.f at H; clear h; have H' := Aside0.mk H; clear H
 go_enter Tryd.func23, Tryd.ntmps23
 go_wp2
 go_loopg [8] k (fun kq v8 w' => ∃ (x8_1 : Int), v8 = .int .i64 x8_1 ∧ Aside0 (slices_Index_string_string.l0 kq l0 a1 (l0.length : Int) x8_1 = some r) ∧ Aside0 (kq ≤ k) ∧ Drawn0 w w')
 case atStart => exact ⟨(0), rdT, H', ⟨Nat.le_refl _⟩, drT⟩
 case round =>
  clear H'; (try clear c2 p2); obtain ⟨x8_1, rfl, HA, HK1, ⟨m1, rfl⟩⟩ := hrel
  cases gk with
  | zero => exact absurd HA.out (by simp [slices_Index_string_string.l0])
  | succ k1 =>
   have H := HA.out; clear HA
   simp only [slices_Index_string_string.l0] at H
   by_cases c3 : x8_1 < (l0.length : Int)
   ·rw [if_pos c3] at H
    have c3b0 : decide (x8_1 < (l0.length : Int)) = true := decide_eq_true c3
    clear c3
    by_cases c4 : 0 ≤ x8_1
    ·rw [if_pos c4] at H
     have c4b0 : decide (0 ≤ x8_1) = true := decide_eq_true c4
     clear c4
     by_cases c5 : x8_1 < (l0.length : Int)
     ·rw [if_pos c5] at H
      have c5b0 : decide (x8_1 < (l0.length : Int)) = true := decide_eq_true c5
      clear c5
      by_cases c6 : a1.toList = (rdOf ByteArray.empty l0 x8_1).toList
      ·rw [if_pos c6] at H
       have c6b0 : (a1.toList == (rdOf ByteArray.empty l0 x8_1).toList) = true := beq_iff_eq.mpr c6
       have c6b1 : (a1.toList != (rdOf ByteArray.empty l0 x8_1).toList) = false := bne_eq_false_iff_eq.mpr c6
       clear c6
       obtain rfl := Option.some.inj H
       have p168 : 0 ≤ (x8_1 : Int) := of_decide_eq_true asmT
       have q168 : x8_1 < (l0.length : Int) := of_decide_eq_true asmT
       obtain ⟨ad168, e168, hx168_0⟩ := Kd.at_string HR0.out x8_1 p168 q168
       cases e168
       replace p168 := eq_true p168; replace q168 := eq_true q168
       go_wp2
       go_ret
       exact ⟨rdT, drT⟩
      ·rw [if_neg c6] at H
       have c6b0 : (a1.toList == (rdOf ByteArray.empty l0 x8_1).toList) = false := beq_eq_false_iff_ne.mpr c6
       have c6b1 : (a1.toList != (rdOf ByteArray.empty l0 x8_1).toList) = true := bne_iff_ne.mpr c6
       have H' := Aside0.mk H; clear H
       have p168 : 0 ≤ (x8_1 : Int) := of_decide_eq_true asmT
       have q168 : x8_1 < (l0.length : Int) := of_decide_eq_true asmT
       obtain ⟨ad168, e168, hx168_0⟩ := Kd.at_string HR0.out x8_1 p168 q168
       cases e168
       replace p168 := eq_true p168; replace q168 := eq_true q168
       go_wp2
       go_roundg k1
       case measure => have := HK1.out; omega
       case rel => exact ⟨(wrap64 (x8_1 + 1)), rdT, H', ⟨by have := HK1.out; omega⟩, drT⟩
     ·rw [if_neg c5] at H
      exact absurd H (by simp)
    ·rw [if_neg c4] at H
     exact absurd H (by simp)
   ·rw [if_neg c3] at H
    have c3b0 : decide (x8_1 < (l0.length : Int)) = false := decide_eq_false c3
    clear c3
    obtain rfl := Option.some.inj H
    go_wp2
    go_ret
    exact ⟨rdT, drT⟩

/-! ### slices_Contains_string_string: function 29 -/
def slices_Contains_string_string.f (k : Nat) (l0 : List ByteArray) (a1 : ByteArray) : Option (Bool) := (slices_Index_string_string.f k l0 a1).bind fun t169 => (some (decide (t169 ≥ 0)))
theorem slices_Contains_string_string.mono : ∀ a0 a1 k, LeO (slices_Contains_string_string.f k a0 a1) (slices_Contains_string_string.f (k + 1) a0 a1) := by
 intro a0 a1 k
 unfold slices_Contains_string_string.f
 with_reducible repeat' first | exact slices_Index_string_string.mono _ _ _ | exact LeO.refl _ | exact LeO.none _ | refine LeO.ite ?_ ?_ | refine LeO.bind ?_ (fun _ => ?_)
set_option maxHeartbeats 8000000 in
set_option maxRecDepth 100000 in
theorem slices_Contains_string_string.calls (k : Nat) (A0 : Option Addr) (c0 : Nat) (l0 : List ByteArray) (a1 : ByteArray) (r : Bool) (w : World) (hr0 : Kd.C Kd.string w A0 l0.length l0) (hc0 : l0.length ≤ c0) (h : slices_Contains_string_string.f k l0 a1 = some r) :
  Calls Tryd.prog 29 #[.slice A0 l0.length c0, .string a1] w fun e w' => e = .returned (.bool r) ∧ Drawn0 w w' := by
 have HR0 := Aside0.mk hr0; have HC0 := Aside0.mk hc0; clear hr0 hc0; have H := h; unfold slices_Contains_string_string.f at H; clear h; obtain ⟨t169, A3, H⟩ := be H
 obtain rfl := Option.some.inj H
 go_enter Tryd.func29, Tryd.ntmps29
 go_wp2_with (first | ((with_reducible refine gate_callee (f := 23) rfl ?_); refine goesL_ (some 7) rfl rfl Tryd.func23 (by kernel_rfl) rfl #[.slice A0 l0.length c0, .string a1] rfl eqT ?_; (with_reducible refine (slices_Index_string_string.calls k _ _ l0 a1 t169 _ ?side1 ?side2 A3.out).mono ?_); (case side1 => repeat (first | exact HR0.out | (with_reducible refine Kd.C_alloc ?_ _) | (with_reducible refine Kd.C_drewN ?_ _) | (with_reducible refine Kd.C_drew ?_))); (case side2 => exact HC0.out); rintro e w' ⟨rfl, ⟨nd, rfl⟩⟩; refine ⟨_, rfl, ?_⟩))
 go_ret
 exact ⟨rdT, drT⟩

/-! ### impl_ConstraintNames: function 30 -/
def impl_ConstraintNames.f  : Option (List ByteArray) := some (([(⟨#[111, 110, 115, 101, 116]⟩ : ByteArray), (⟨#[110, 111, 99, 111, 100, 97]⟩ : ByteArray), (⟨#[99, 108, 117, 115, 116, 101, 114]⟩ : ByteArray), (⟨#[118, 111, 105, 99, 101]⟩ : ByteArray), (⟨#[102, 105, 110, 97, 108]⟩ : ByteArray), (⟨#[110, 97, 115, 97, 108]⟩ : ByteArray), (⟨#[109, 97, 120]⟩ : ByteArray), (⟨#[100, 101, 112]⟩ : ByteArray), (⟨#[105, 100, 101, 110, 116]⟩ : ByteArray), (⟨#[99, 111, 110, 116, 105, 103]⟩ : ByteArray)] : List ByteArray))
set_option maxHeartbeats 8000000 in
set_option maxRecDepth 100000 in
theorem impl_ConstraintNames.calls  (r : List ByteArray) (w : World) (h : impl_ConstraintNames.f  = some r) :
  Calls Tryd.prog 30 #[] w fun e w' => ∃ v0_ : Value, e = .returned (v0_) ∧ Kd.R Kd.string 9 w' w.heap.size (fun _ => True) v0_ r ∧ Below w.heap.size w w' := by
 have HB := asT (Below.refl w.heap.size w); have H := h; unfold impl_ConstraintNames.f at H; clear h; obtain ⟨y170, hy170⟩ : ∃ y_ : List ByteArray, y_ = (([(⟨#[111, 110, 115, 101, 116]⟩ : ByteArray), (⟨#[110, 111, 99, 111, 100, 97]⟩ : ByteArray), (⟨#[99, 108, 117, 115, 116, 101, 114]⟩ : ByteArray), (⟨#[118, 111, 105, 99, 101]⟩ : ByteArray), (⟨#[102, 105, 110, 97, 108]⟩ : ByteArray), (⟨#[110, 97, 115, 97, 108]⟩ : ByteArray), (⟨#[109, 97, 120]⟩ : ByteArray), (⟨#[100, 101, 112]⟩ : ByteArray), (⟨#[105, 100, 101, 110, 116]⟩ : ByteArray), (⟨#[99, 111, 110, 116, 105, 103]⟩ : ByteArray)] : List ByteArray)) := ⟨_, rfl⟩
 replace H : (some y170) = some r := by first | (rw [hy170]; with_reducible exact H) | (have H2_ := (Option.bind_some _ _).symm.trans H; rw [hy170]; with_reducible exact H2_) | (have H2_ := (Option.bind_some _ _).symm.trans H; with_reducible exact H2_) | with_reducible exact H | (rw [hy170]; exact H) | exact H
 have Ny170 := Aside0.mk hy170; clear hy170
 obtain rfl := Option.some.inj H
 go_enter Tryd.func30, Tryd.ntmps30
 go_wp2_with (first | ((with_reducible refine gate_dst (N := 1) rfl ?_); refine Kd.R_lit Kd.string _ 9 ?hg (N := 1) ?hd (xs := ([(⟨#[111, 110, 115, 101, 116]⟩ : ByteArray), (⟨#[110, 111, 99, 111, 100, 97]⟩ : ByteArray), (⟨#[99, 108, 117, 115, 116, 101, 114]⟩ : ByteArray), (⟨#[118, 111, 105, 99, 101]⟩ : ByteArray), (⟨#[102, 105, 110, 97, 108]⟩ : ByteArray), (⟨#[110, 97, 115, 97, 108]⟩ : ByteArray), (⟨#[109, 97, 120]⟩ : ByteArray), (⟨#[100, 101, 112]⟩ : ByteArray), (⟨#[105, 100, 101, 110, 116]⟩ : ByteArray), (⟨#[99, 111, 110, 116, 105, 103]⟩ : ByteArray)] : List ByteArray)) (inner := [.string (⟨#[111, 110, 115, 101, 116]⟩ : ByteArray), .string (⟨#[110, 111, 99, 111, 100, 97]⟩ : ByteArray), .string (⟨#[99, 108, 117, 115, 116, 101, 114]⟩ : ByteArray), .string (⟨#[118, 111, 105, 99, 101]⟩ : ByteArray), .string (⟨#[102, 105, 110, 97, 108]⟩ : ByteArray), .string (⟨#[110, 97, 115, 97, 108]⟩ : ByteArray), .string (⟨#[109, 97, 120]⟩ : ByteArray), .string (⟨#[100, 101, 112]⟩ : ByteArray), .string (⟨#[105, 100, 101, 110, 116]⟩ : ByteArray), .string (⟨#[99, 111, 110, 116, 105, 103]⟩ : ByteArray)]) (ok := fun _ => True) (okp := fun _ => True) ?hr ?hp (fun _ hk => hk) trivial (Below.refl _ _) (Nat.le_refl _) (by simp) ?_; (case hd => rfl); (case hg => rfl); (case hr => first | (go_simp; done) | (go_simp; rfl)); (case hp => exact (Reps.one (show Kd.M Kd.string _ _ _ (⟨#[111, 110, 115, 101, 116]⟩ : ByteArray) [.string (⟨#[111, 110, 115, 101, 116]⟩ : ByteArray)] from rfl) (Reps.one (show Kd.M Kd.string _ _ _ (⟨#[110, 111, 99, 111, 100, 97]⟩ : ByteArray) [.string (⟨#[110, 111, 99, 111, 100, 97]⟩ : ByteArray)] from rfl) (Reps.one (show Kd.M Kd.string _ _ _ (⟨#[99, 108, 117, 115, 116, 101, 114]⟩ : ByteArray) [.string (⟨#[99, 108, 117, 115, 116, 101, 114]⟩ : ByteArray)] from rfl) (Reps.one (show Kd.M Kd.string _ _ _ (⟨#[118, 111, 105, 99, 101]⟩ : ByteArray) [.string (⟨#[118, 111, 105, 99, 101]⟩ : ByteArray)] from rfl) (Reps.one (show Kd.M Kd.string _ _ _ (⟨#[102, 105, 110, 97, 108]⟩ : ByteArray) [.string (⟨#[102, 105, 110, 97, 108]⟩ : ByteArray)] from rfl) (Reps.one (show Kd.M Kd.string _ _ _ (⟨#[110, 97, 115, 97, 108]⟩ : ByteArray) [.string (⟨#[110, 97, 115, 97, 108]⟩ : ByteArray)] from rfl) (Reps.one (show Kd.M Kd.string _ _ _ (⟨#[109, 97, 120]⟩ : ByteArray) [.string (⟨#[109, 97, 120]⟩ : ByteArray)] from rfl) (Reps.one (show Kd.M Kd.string _ _ _ (⟨#[100, 101, 112]⟩ : ByteArray) [.string (⟨#[100, 101, 112]⟩ : ByteArray)] from rfl) (Reps.one (show Kd.M Kd.string _ _ _ (⟨#[105, 100, 101, 110, 116]⟩ : ByteArray) [.string (⟨#[105, 100, 101, 110, 116]⟩ : ByteArray)] from rfl) (Reps.one (show Kd.M Kd.string _ _ _ (⟨#[99, 111, 110, 116, 105, 103]⟩ : ByteArray) [.string (⟨#[99, 111, 110, 116, 105, 103]⟩ : ByteArray)] from rfl) (Reps.none _ _)))))))))))); intro v171 w1 ho2 hb hg_ hnew_; clear hg_ hnew_; (first | rw [← Ny170.out] at ho2 | (simp only [Int.reduceToNat] at ho2; rw [← Ny170.out] at ho2)); have HO172 := asT (Kd.R_lower ho2 (below_size (hbT HB.out))); replace HB := hS HB hb; clear hb ho2))
 go_ret
 exact ⟨_, rlT, by (with_reducible repeat (first | apply Kd.R_alloc | apply Kd.R_drewN | apply Kd.R_drew)); exact HO172.out, hbT HB.out⟩

/-! ### impl_within: function 31 -/
def impl_within.f (a0 : Int) (a1 : Int) (a2 : Int) : Option (Bool) := if a1 ≤ a0 then (some (decide (a0 ≤ a2))) else (some false)
set_option maxHeartbeats 8000000 in
set_option maxRecDepth 100000 in
theorem impl_within.calls (a0 : Int) (a1 : Int) (a2 : Int) (r : Bool) (w : World) (h : impl_within.f a0 a1 a2 = some r) :
  Calls Tryd.prog 31 #[.int .i64 a0, .int .i64 a1, .int .i64 a2] w fun e w' => e = .returned (.bool r) ∧ Drawn0 w w' := by
 have H := h; unfold impl_within.f at H; clear h
 by_cases c4 : a1 ≤ a0
 ·rw [if_pos c4] at H
  have c4b0 : decide (a1 ≤ a0) = true := decide_eq_true c4
  clear c4
  obtain rfl := Option.some.inj H
  go_enter Tryd.func31, Tryd.ntmps31
  go_wp2
  go_ret
  exact ⟨rdT, drT⟩
 ·rw [if_neg c4] at H
  have c4b0 : decide (a1 ≤ a0) = false := decide_eq_false c4
  clear c4
  obtain rfl := Option.some.inj H
  go_enter Tryd.func31, Tryd.ntmps31
  go_wp2
  go_ret
  exact ⟨rdT, drT⟩

/-! ### impl_AreConstraints: function 20 -/
def impl_AreConstraints.l0 : Nat → List ByteArray → List ByteArray → Int → Int → Option (Bool)
 | 0, _, _, _, _ => none
 | k + 1, x0, x5, x6, x7 => if x7 < x6 then (if 0 ≤ x7 then (if x7 < (x5.length : Int) then ((impl_ConstraintNames.f).bind fun t175 => ((slices_Contains_string_string.f k t175 (rdOf ByteArray.empty x5 x7)).bind fun t178 => (if t178 = true then (if x7 ≤ (x0.length : Int) then ((slices_Contains_string_string.f k (x0.take (x7 : Int).toNat) (rdOf ByteArray.empty x5 x7)).bind fun t180 => (if t180 = true then (some false) else (impl_AreConstraints.l0 k x0 x5 x6 (wrap64 (x7 + 1))))) else (none)) else (some false)))) else (none)) else (none)) else ((impl_within.f (x0.length : Int) 1 5).bind fun t173 => (some t173))
def impl_AreConstraints.f (k : Nat) (l0 : List ByteArray) : Option (Bool) := impl_AreConstraints.l0 k l0 l0 (l0.length : Int) 0
theorem impl_AreConstraints.mono_l : ∀ k, (∀ y0 y1 y2 y3, LeO (impl_AreConstraints.l0 k y0 y1 y2 y3) (impl_AreConstraints.l0 (k + 1) y0 y1 y2 y3))
 | 0 => fun _ _ _ _ r h => by simp [impl_AreConstraints.l0] at h
 | k + 1 => by
  have ih0 := impl_AreConstraints.mono_l k
  ·intro y0 y1 y2 y3
   unfold impl_AreConstraints.l0
   with_reducible repeat' first | exact ih0 _ _ _ _ | exact slices_Contains_string_string.mono _ _ _ | exact LeO.refl _ | exact LeO.none _ | refine LeO.ite ?_ ?_ | refine LeO.bind ?_ (fun _ => ?_)
theorem impl_AreConstraints.mono : ∀ a0 k, LeO (impl_AreConstraints.f k a0) (impl_AreConstraints.f (k + 1) a0) := by
 intro a0 k
 have ih0 := impl_AreConstraints.mono_l k
 unfold impl_AreConstraints.f
 with_reducible repeat' first | exact ih0 _ _ _ _ | exact slices_Contains_string_string.mono _ _ _ | exact LeO.refl _ | exact LeO.none _ | refine LeO.ite ?_ ?_ | refine LeO.bind ?_ (fun _ => ?_)
set_option maxHeartbeats 8000000 in
set_option maxRecDepth 100000 in
theorem impl_AreConstraints.calls (k : Nat) (A0 : Option Addr) (c0 : Nat) (l0 : List ByteArray) (r : Bool) (w : World) (hr0 : Kd.C Kd.string w A0 l0.length l0) (hc0 : l0.length ≤ c0) (h : impl_AreConstraints.f k l0 = some r) :
  Calls Tryd.prog 20 #[.slice A0 l0.length c0] w fun e w' => e = .returned (.bool r) ∧ Below w.heap.size w w' := by
 have HR0 := Aside0.mk hr0; have HC0 := Aside0.mk hc0; clear hr0 hc0; have HB := asT (Below.refl w.heap.size w); have H := h; unfold impl_AreConstraints.f at H; clear h; have H' := Aside0.mk H; clear H
 go_enter Tryd.func20, Tryd.ntmps20
 go_wp2
 go_loopg [7] k (fun kq v7 w' => ∃ (x7_1 : Int), v7 = .int .i64 x7_1 ∧ Aside0 (impl_AreConstraints.l0 kq l0 l0 (l0.length : Int) x7_1 = some r) ∧ Aside0 (kq ≤ k) ∧ Aside0 (Below w.heap.size w w'))
 case atStart => exact ⟨(0), rdT, H', ⟨Nat.le_refl _⟩, ⟨hbT HB.out⟩⟩
 case round =>
  clear H'; obtain ⟨x7_1, rfl, HA, HK1, HB⟩ := hrel
  cases gk with
  | zero => exact absurd HA.out (by simp [impl_AreConstraints.l0])
  | succ k1 =>
   have H := HA.out; clear HA
   simp only [impl_AreConstraints.l0] at H
   by_cases c2 : x7_1 < (l0.length : Int)
   ·rw [if_pos c2] at H
    have c2b0 : decide (x7_1 < (l0.length : Int)) = true := decide_eq_true c2
    clear c2
    by_cases c3 : 0 ≤ x7_1
    ·rw [if_pos c3] at H
     have c3b0 : decide (0 ≤ x7_1) = true := decide_eq_true c3
     clear c3
     by_cases c4 : x7_1 < (l0.length : Int)
     ·rw [if_pos c4] at H
      have c4b0 : decide (x7_1 < (l0.length : Int)) = true := decide_eq_true c4
      clear c4; obtain ⟨t175, A5, H⟩ := be H; obtain ⟨t178, A6, H⟩ := be H
      by_cases c7 : t178 = true
      ·subst c7
       rw [if_pos rfl] at H; have c8b0 := eq_true (of_decide_eq_true asmT : 0 ≤ x7_1)
       by_cases c9 : x7_1 ≤ (l0.length : Int)
       ·rw [if_pos c9] at H
        have c9b0 := eq_true c9
        have c9b1 : decide (x7_1 ≤ (l0.length : Int)) = true := decide_eq_true c9
        clear c9; obtain ⟨t180, A10, H⟩ := be H
        by_cases c11 : t180 = true
        ·subst c11
         rw [if_pos rfl] at H; have H1 := H; clear H; have H := H1; clear H1
         obtain rfl := Option.some.inj H
         have p174 : 0 ≤ (x7_1 : Int) := of_decide_eq_true asmT
         have q174 : x7_1 < (l0.length : Int) := of_decide_eq_true asmT
         obtain ⟨ad174, e174, hx174_0⟩ := Kd.at_string HR0.out x7_1 p174 q174
         cases e174
         replace hx174_0 := hbc HB.out hx174_0; replace p174 := eq_true p174; replace q174 := eq_true q174
         go_wp2_with (first | ((with_reducible refine gate_callee (f := 30) rfl ?_); refine goesL_ (some 12) rfl rfl Tryd.func30 (by kernel_rfl) rfl #[] rfl eqT ?_; (with_reducible refine (impl_ConstraintNames.calls  t175 _ A5.out).mono ?_); rintro e w12 ⟨v176, rfl, ho0, hb⟩; refine ⟨_, rfl, ?_⟩; have HO177 := asT (Kd.R_lower ho0 (below_size (hbT HB.out))); replace HB := hS HB hb; (try clear hb hb2 hk hi ho0); obtain ⟨Ao13, co13, eo13⟩ := Kd.R_slice HO177.out; subst eo13) | ((with_reducible refine gate_callee (f := 29) rfl ?_); refine goesL_ (some 14) rfl rfl Tryd.func29 (by kernel_rfl) rfl #[.slice Ao13 t175.length co13, .string (rdOf ByteArray.empty l0 x7_1)] rfl eqT ?_; (with_reducible refine (slices_Contains_string_string.calls k1 _ _ t175 (rdOf ByteArray.empty l0 x7_1) true _ ?side1 ?side2 A6.out).mono ?_); (case side1 => repeat (first | exact (Kd.R_reads' HO177.out).2.2 | (with_reducible refine Kd.C_alloc ?_ _) | (with_reducible refine Kd.C_drewN ?_ _) | (with_reducible refine Kd.C_drew ?_))); (case side2 => exact (Kd.R_reads' HO177.out).2.1); rintro e w' ⟨rfl, ⟨nd, rfl⟩⟩; refine ⟨_, rfl, ?_⟩; obtain ⟨i014, hi014, _, hsz14, _⟩ := info_parts info9; obtain ⟨hcut14, hA14, hC14⟩ := print_take_of (P := Tryd.prog) Value.string (⟨#[]⟩ : ByteArray) 22 9 .i64 Tryd.underlying22 hi014 hsz14 (some ad174) c0 l0 x7_1 (of_decide_eq_true asmT) (of_decide_eq_true asmT) HC0.out; have HR179 := asT (Kd.C_of_reads (h1 := fun _ => rfl) (hA14 _ (Kd.reads_of_C HR0.out))); have HC179 := Aside0.mk hC14; clear hA14 hC14 hi014 hsz14) | (go_at_call 29; refine calls_of_args (args' := #[.slice _ (l0.take (x7_1 : Int).toNat).length _, .string (rdOf ByteArray.empty l0 x7_1)]) (by first | (rw [show (l0.take (x7_1 : Int).toNat).length = x7_1.toNat from (by rw [List.length_take]; have h_ : (x7_1 : Int) ≤ (l0.length : Int) := of_decide_eq_true asmT; omega)] <;> rfl) | rfl) ?_; (with_reducible refine (slices_Contains_string_string.calls k1 _ _ (l0.take (x7_1 : Int).toNat) (rdOf ByteArray.empty l0 x7_1) true _ ?side1 ?side2 A10.out).mono ?_); (case side1 => exact crT HR179.out (hbT HB.out)); (case side2 => exact HC179.out); rintro e w' ⟨rfl, ⟨nd, rfl⟩⟩))
         go_ret
         exact ⟨rlT, hbT HB.out⟩
        ·replace c11 := Bool.eq_false_iff.mpr c11
         subst c11; rw [if_neg nF] at H; have H' := Aside0.mk H; clear H
         have p174 : 0 ≤ (x7_1 : Int) := of_decide_eq_true asmT
         have q174 : x7_1 < (l0.length : Int) := of_decide_eq_true asmT
         obtain ⟨ad174, e174, hx174_0⟩ := Kd.at_string HR0.out x7_1 p174 q174
         cases e174
         replace hx174_0 := hbc HB.out hx174_0; replace p174 := eq_true p174; replace q174 := eq_true q174
         go_wp2_with (first | ((with_reducible refine gate_callee (f := 30) rfl ?_); refine goesL_ (some 12) rfl rfl Tryd.func30 (by kernel_rfl) rfl #[] rfl eqT ?_; (with_reducible refine (impl_ConstraintNames.calls  t175 _ A5.out).mono ?_); rintro e w15 ⟨v176, rfl, ho0, hb⟩; refine ⟨_, rfl, ?_⟩; have HO177 := asT (Kd.R_lower ho0 (below_size (hbT HB.out))); replace HB := hS HB hb; (try clear hb hb2 hk hi ho0); obtain ⟨Ao16, co16, eo16⟩ := Kd.R_slice HO177.out; subst eo16) | ((with_reducible refine gate_callee (f := 29) rfl ?_); refine goesL_ (some 14) rfl rfl Tryd.func29 (by kernel_rfl) rfl #[.slice Ao16 t175.length co16, .string (rdOf ByteArray.empty l0 x7_1)] rfl eqT ?_; (with_reducible refine (slices_Contains_string_string.calls k1 _ _ t175 (rdOf ByteArray.empty l0 x7_1) true _ ?side1 ?side2 A6.out).mono ?_); (case side1 => repeat (first | exact (Kd.R_reads' HO177.out).2.2 | (with_reducible refine Kd.C_alloc ?_ _) | (with_reducible refine Kd.C_drewN ?_ _) | (with_reducible refine Kd.C_drew ?_))); (case side2 => exact (Kd.R_reads' HO177.out).2.1); rintro e w' ⟨rfl, ⟨nd, rfl⟩⟩; refine ⟨_, rfl, ?_⟩; obtain ⟨i017, hi017, _, hsz17, _⟩ := info_parts info9; obtain ⟨hcut17, hA17, hC17⟩ := print_take_of (P := Tryd.prog) Value.string (⟨#[]⟩ : ByteArray) 22 9 .i64 Tryd.underlying22 hi017 hsz17 (some ad174) c0 l0 x7_1 (of_decide_eq_true asmT) (of_decide_eq_true asmT) HC0.out; have HR179 := asT (Kd.C_of_reads (h1 := fun _ => rfl) (hA17 _ (Kd.reads_of_C HR0.out))); have HC179 := Aside0.mk hC17; clear hA17 hC17 hi017 hsz17) | (go_at_call 29; refine calls_of_args (args' := #[.slice _ (l0.take (x7_1 : Int).toNat).length _, .string (rdOf ByteArray.empty l0 x7_1)]) (by first | (rw [show (l0.take (x7_1 : Int).toNat).length = x7_1.toNat from (by rw [List.length_take]; have h_ : (x7_1 : Int) ≤ (l0.length : Int) := of_decide_eq_true asmT; omega)] <;> rfl) | rfl) ?_; (with_reducible refine (slices_Contains_string_string.calls k1 _ _ (l0.take (x7_1 : Int).toNat) (rdOf ByteArray.empty l0 x7_1) false _ ?side1 ?side2 A10.out).mono ?_); (case side1 => exact crT HR179.out (hbT HB.out)); (case side2 => exact HC179.out); rintro e w' ⟨rfl, ⟨nd, rfl⟩⟩))
         go_roundg k1
         case measure => have := HK1.out; omega
         case rel => exact ⟨(wrap64 (x7_1 + 1)), rdT, H', ⟨by have := HK1.out; omega⟩, ⟨hbT HB.out⟩⟩
       ·rw [if_neg c9] at H
        exact absurd H (by simp)
      ·replace c7 := Bool.eq_false_iff.mpr c7
       subst c7; rw [if_neg nF] at H; have H1 := H; clear H; have H := H1; clear H1
       obtain rfl := Option.some.inj H
       have p174 : 0 ≤ (x7_1 : Int) := of_decide_eq_true asmT
       have q174 : x7_1 < (l0.length : Int) := of_decide_eq_true asmT
       obtain ⟨ad174, e174, hx174_0⟩ := Kd.at_string HR0.out x7_1 p174 q174
       cases e174
       replace hx174_0 := hbc HB.out hx174_0; replace p174 := eq_true p174; replace q174 := eq_true q174
       go_wp2_with (first | ((with_reducible refine gate_callee (f := 30) rfl ?_); refine goesL_ (some 12) rfl rfl Tryd.func30 (by kernel_rfl) rfl #[] rfl eqT ?_; (with_reducible refine (impl_ConstraintNames.calls  t175 _ A5.out).mono ?_); rintro e w18 ⟨v176, rfl, ho0, hb⟩; refine ⟨_, rfl, ?_⟩; have HO177 := asT (Kd.R_lower ho0 (below_size (hbT HB.out))); replace HB := hS HB hb; (try clear hb hb2 hk hi ho0); obtain ⟨Ao19, co19, eo19⟩ := Kd.R_slice HO177.out; subst eo19) | ((with_reducible refine gate_callee (f := 29) rfl ?_); refine goesL_ (some 14) rfl rfl Tryd.func29 (by kernel_rfl) rfl #[.slice Ao19 t175.length co19, .string (rdOf ByteArray.empty l0 x7_1)] rfl eqT ?_; (with_reducible refine (slices_Contains_string_string.calls k1 _ _ t175 (rdOf ByteArray.empty l0 x7_1) false _ ?side1 ?side2 A6.out).mono ?_); (case side1 => repeat (first | exact (Kd.R_reads' HO177.out).2.2 | (with_reducible refine Kd.C_alloc ?_ _) | (with_reducible refine Kd.C_drewN ?_ _) | (with_reducible refine Kd.C_drew ?_))); (case side2 => exact (Kd.R_reads' HO177.out).2.1); rintro e w' ⟨rfl, ⟨nd, rfl⟩⟩; refine ⟨_, rfl, ?_⟩))
       go_ret
       exact ⟨rlT, hbT HB.out⟩
     ·rw [if_neg c4] at H
      exact absurd H (by simp)
    ·rw [if_neg c3] at H
     exact absurd H (by simp)
   ·rw [if_neg c2] at H
    have c2b0 : decide (x7_1 < (l0.length : Int)) = false := decide_eq_false c2
    clear c2; obtain ⟨t173, A20, H⟩ := be H
    obtain rfl := Option.some.inj H
    go_wp2_with (first | ((with_reducible refine gate_callee (f := 31) rfl ?_); refine goesL_ (some 26) rfl rfl Tryd.func31 (by kernel_rfl) rfl #[.int .i64 (l0.length : Int), .int .i64 1, .int .i64 5] rfl eqT ?_; (with_reducible refine (impl_within.calls (l0.length : Int) 1 5 t173 _ A20.out).mono ?_); rintro e w' ⟨rfl, ⟨nd, rfl⟩⟩; refine ⟨_, rfl, ?_⟩))
    go_ret
    exact ⟨rlT, hbT HB.out⟩

end Go.Proofs.YtlmfpkiaikjlbaaDoor.PFnExactParseRanking
