-- Made by gen.py (a program of this session) out of the translation; Lean checks it.
import Derived.Test.YtmfhaplhgaehhaaPFnExactFuseAllx0
namespace Go.Proofs.Ytmfhaplhgaehhaa.PFnExactFuseAll
open Go.RowKit Go.Proofs.YtmfhaplhgaehhaaB Go.Proofs.YtmfhaplhgaehhaaW.PrintWords Go.Proofs.YtmfhaplhgaehhaaW.PrintLast Go.Proofs.YtmfhaplhgaehhaaW.PrintMore
attribute [local go_sem] max2_int min2_int max_two min_two max_three min_three max_four min_four   -- for this text's walks alone
set_option linter.unusedVariables false
set_option linter.unusedSimpArgs false

/-! ### laws_szIntS: function 139 -/
def laws_szIntS.f (l0 : List Int) (a1 : Int) : Option (Int) := if (wrap64 (a1 - (l0.length : Int))) < 0 then (some (-1)) else (some (wrap64 (a1 - (l0.length : Int))))
set_option maxHeartbeats 8000000 in
set_option maxRecDepth 100000 in
theorem laws_szIntS.calls (A0 : Option Addr) (c0 : Nat) (l0 : List Int) (a1 : Int) (r : Int) (w : World) (hr0 : Kd.C (Kd.int .i64) w A0 l0.length l0) (hc0 : l0.length ≤ c0) (h : laws_szIntS.f l0 a1 = some r) :
  Calls Try.prog 139 #[.slice A0 l0.length c0, .int .i64 a1] w fun e w' => e = .returned (.int .i64 r) ∧ Drawn0 w w' := by
 have HR0 := Aside0.mk hr0; have HC0 := Aside0.mk hc0; clear hr0 hc0; have H := h; unfold laws_szIntS.f at H; clear h
 by_cases c3 : (wrap64 (a1 - (l0.length : Int))) < 0
 ·rw [if_pos c3] at H
  have c3b0 : decide ((wrap64 (a1 - (l0.length : Int))) < 0) = true := decide_eq_true c3
  clear c3
  obtain rfl := Option.some.inj H
  go_enter Try.func139, Try.ntmps139
  go_wp2
  go_ret
  exact ⟨rdT, drT⟩
 ·rw [if_neg c3] at H
  have c3b0 : decide ((wrap64 (a1 - (l0.length : Int))) < 0) = false := decide_eq_false c3
  clear c3
  obtain rfl := Option.some.inj H
  go_enter Try.func139, Try.ntmps139
  go_wp2
  go_ret
  exact ⟨rdT, drT⟩

/-! ### laws_szRow: function 112 -/
def laws_szRow.f (l0_0 : List Int) (a1 : Int) : Option (Int) := (laws_szIntS.f l0_0 a1).bind fun t102 => (if t102 < 0 then (some (-1)) else (some t102))
set_option maxHeartbeats 8000000 in
set_option maxRecDepth 100000 in
theorem laws_szRow.calls (A0_0 : Option Addr) (c0_0 : Nat) (l0_0 : List Int) (a1 : Int) (r : Int) (w : World) (hr0_0 : Kd.C (Kd.int .i64) w A0_0 l0_0.length l0_0) (hc0_0 : l0_0.length ≤ c0_0) (h : laws_szRow.f l0_0 a1 = some r) :
  Calls Try.prog 112 #[.agg #[.slice A0_0 l0_0.length c0_0], .int .i64 a1] w fun e w' => e = .returned (.int .i64 r) ∧ Below w.heap.size w w' := by
 have hu110 := Try.underlying110; have HR0_0 := Aside0.mk hr0_0; have HC0_0 := Aside0.mk hc0_0; clear hr0_0 hc0_0; have HB := asT (Below.refl w.heap.size w); have H := h; unfold laws_szRow.f at H; clear h; obtain ⟨t102, A3, H⟩ := be H
 by_cases c4 : t102 < 0
 ·rw [if_pos c4] at H
  have c4b0 : decide (t102 < 0) = true := decide_eq_true c4
  clear c4
  obtain rfl := Option.some.inj H
  go_enter Try.func112, Try.ntmps112
  go_wp2_with (first | ((with_reducible refine gate_dst (N := 2) rfl ?_); refine boxT (N := 2) (cs := #[.slice A0_0 l0_0.length c0_0]) (t := 110) ?_; intro gb101 hg w5 hbox hb; have BK101 := asT hbox; have GW101 := asT (geT hg HB.out); have GE101 := GW101; replace HB := hS HB hb; clear hb hbox hg; obtain ⟨hcz6_0, hfz6_0⟩ := bx1 BK101.out) | ((with_reducible refine gate_callee (f := 139) rfl ?_); refine goesL_ (some 8) rfl rfl Try.func139 (by kernel_rfl) rfl #[.slice A0_0 l0_0.length c0_0, .int .i64 a1] rfl eqT ?_; (with_reducible refine (laws_szIntS.calls _ _ l0_0 a1 t102 _ ?side1 ?side2 A3.out).mono ?_); (case side1 => exact crT HR0_0.out HB.out); (case side2 => exact HC0_0.out); rintro e w' ⟨rfl, ⟨nd, rfl⟩⟩; refine ⟨_, rfl, ?_⟩))
  go_ret
  exact ⟨rlT, hbT HB.out⟩
 ·rw [if_neg c4] at H
  have c4b0 : decide (t102 < 0) = false := decide_eq_false c4
  clear c4
  obtain rfl := Option.some.inj H
  go_enter Try.func112, Try.ntmps112
  go_wp2_with (first | ((with_reducible refine gate_dst (N := 2) rfl ?_); refine boxT (N := 2) (cs := #[.slice A0_0 l0_0.length c0_0]) (t := 110) ?_; intro gb101 hg w7 hbox hb; have BK101 := asT hbox; have GW101 := asT (geT hg HB.out); have GE101 := GW101; replace HB := hS HB hb; clear hb hbox hg; obtain ⟨hcz8_0, hfz8_0⟩ := bx1 BK101.out) | ((with_reducible refine gate_callee (f := 139) rfl ?_); refine goesL_ (some 8) rfl rfl Try.func139 (by kernel_rfl) rfl #[.slice A0_0 l0_0.length c0_0, .int .i64 a1] rfl eqT ?_; (with_reducible refine (laws_szIntS.calls _ _ l0_0 a1 t102 _ ?side1 ?side2 A3.out).mono ?_); (case side1 => exact crT HR0_0.out HB.out); (case side2 => exact HC0_0.out); rintro e w' ⟨rfl, ⟨nd, rfl⟩⟩; refine ⟨_, rfl, ?_⟩))
  go_ret
  exact ⟨rlT, hbT HB.out⟩

/-! ### laws_szRowS: function 55 -/
def laws_szRowS.l0 : Nat → List (S110) → Int → Int → Option (Int)
 | 0, _, _, _ => none
 | k + 1, x0, x1, x5 => if x5 < (x0.length : Int) then (if 0 ≤ x5 then ((laws_szRow.f ((rd_T110 x0 x5).f0) x1).bind fun t104 => (if t104 < 0 then (some (-1)) else (laws_szRowS.l0 k x0 t104 (wrap64 (x5 + 1))))) else (none)) else (some x1)
def laws_szRowS.f (k : Nat) (l0 : List (S110)) (a1 : Int) : Option (Int) := if (wrap64 (a1 - (l0.length : Int))) < 0 then (some (-1)) else (laws_szRowS.l0 k l0 (wrap64 (a1 - (l0.length : Int))) 0)
theorem laws_szRowS.mono_l : ∀ k, (∀ y0 y1 y2, LeO (laws_szRowS.l0 k y0 y1 y2) (laws_szRowS.l0 (k + 1) y0 y1 y2))
 | 0 => fun _ _ _ r h => by simp [laws_szRowS.l0] at h
 | k + 1 => by
  have ih0 := laws_szRowS.mono_l k
  ·intro y0 y1 y2
   unfold laws_szRowS.l0
   with_reducible repeat' first | exact ih0 _ _ _ | exact LeO.refl _ | exact LeO.none _ | refine LeO.ite ?_ ?_ | refine LeO.bind ?_ (fun _ => ?_)
theorem laws_szRowS.mono : ∀ a0 a1 k, LeO (laws_szRowS.f k a0 a1) (laws_szRowS.f (k + 1) a0 a1) := by
 intro a0 a1 k
 have ih0 := laws_szRowS.mono_l k
 unfold laws_szRowS.f
 with_reducible repeat' first | exact ih0 _ _ _ | exact LeO.refl _ | exact LeO.none _ | refine LeO.ite ?_ ?_ | refine LeO.bind ?_ (fun _ => ?_)
set_option maxHeartbeats 8000000 in
set_option maxRecDepth 100000 in
theorem laws_szRowS.calls (k : Nat) (A0 : Option Addr) (c0 : Nat) (l0 : List (S110)) (a1 : Int) (r : Int) (w : World) (hr0 : Kd.C k110 w A0 l0.length l0) (hc0 : l0.length ≤ c0) (h : laws_szRowS.f k l0 a1 = some r) :
  Calls Try.prog 55 #[.slice A0 l0.length c0, .int .i64 a1] w fun e w' => e = .returned (.int .i64 r) ∧ Below w.heap.size w w' := by
 have hu110 := Try.underlying110; have HR0 := Aside0.mk hr0; have HC0 := Aside0.mk hc0; clear hr0 hc0; have HB := asT (Below.refl w.heap.size w); have H := h; unfold laws_szRowS.f at H; clear h
 by_cases c3 : (wrap64 (a1 - (l0.length : Int))) < 0
 ·rw [if_pos c3] at H
  have c3b0 : decide ((wrap64 (a1 - (l0.length : Int))) < 0) = true := decide_eq_true c3
  clear c3
  obtain rfl := Option.some.inj H
  go_enter Try.func55, Try.ntmps55
  go_wp2
  go_ret
  exact ⟨rlT, hbT HB.out⟩
 ·rw [if_neg c3] at H
  have c3b0 : decide ((wrap64 (a1 - (l0.length : Int))) < 0) = false := decide_eq_false c3
  clear c3; have H' := Aside0.mk H; clear H
  go_enter Try.func55, Try.ntmps55
  go_wp2
  go_loopg [1, 5] k (fun kq v1 v5 w' => ∃ (x1_1 : Int) (x5_1 : Int), v1 = .int .i64 x1_1 ∧ v5 = .int .i64 x5_1 ∧ Aside0 (laws_szRowS.l0 kq l0 x1_1 x5_1 = some r) ∧ Aside0 (kq ≤ k) ∧ Aside0 (Below w.heap.size w w'))
  case atStart => exact ⟨(wrap64 (a1 - (l0.length : Int))), (0), rdT, rdT, H', ⟨Nat.le_refl _⟩, ⟨hbT HB.out⟩⟩
  case round =>
   clear H'; (try clear p2 c3 c3b0); obtain ⟨x1_1, x5_1, rfl, rfl, HA, HK1, HB⟩ := hrel
   cases gk with
   | zero => exact absurd HA.out (by simp [laws_szRowS.l0])
   | succ k1 =>
    have H := HA.out; clear HA
    simp only [laws_szRowS.l0] at H
    by_cases c4 : x5_1 < (l0.length : Int)
    ·rw [if_pos c4] at H
     have c4b0 : decide (x5_1 < (l0.length : Int)) = true := decide_eq_true c4
     clear c4
     by_cases c5 : 0 ≤ x5_1
     ·rw [if_pos c5] at H
      have c5b0 : decide (0 ≤ x5_1) = true := decide_eq_true c5
      clear c5; obtain ⟨t104, A6, H⟩ := be H
      by_cases c7 : t104 < 0
      ·rw [if_pos c7] at H
       have c7b0 : decide (t104 < 0) = true := decide_eq_true c7
       clear c7
       obtain rfl := Option.some.inj H
       have p103 : 0 ≤ (x5_1 : Int) := of_decide_eq_true asmT
       have q103 : x5_1 < (l0.length : Int) := of_decide_eq_true asmT
       obtain ⟨ad103, A103_0, c103_0, e103, hx103_0, hl103_0, hi103_0⟩ := at_T110 HR0.out x5_1 p103 q103
       cases e103
       replace hx103_0 := hbc HB.out hx103_0; have HR103_0 := Aside0.mk hi103_0; have HC103_0 := Aside0.mk hl103_0; clear hi103_0 hl103_0; replace p103 := eq_true p103; replace q103 := eq_true q103
       go_wp2_with (first | ((with_reducible refine gate_callee (f := 112) rfl ?_); refine goesL_ (some 23) rfl rfl Try.func112 (by kernel_rfl) rfl #[.agg #[.slice A103_0 ((rd_T110 l0 x5_1).f0).length c103_0], .int .i64 x1_1] rfl eqT ?_; (with_reducible refine (laws_szRow.calls _ _ ((rd_T110 l0 x5_1).f0) x1_1 t104 _ ?side1 ?side2 A6.out).mono ?_); (case side1 => exact crT HR103_0.out HB.out); (case side2 => exact HC103_0.out); rintro e w8 ⟨rfl, hb⟩; refine ⟨_, rfl, ?_⟩; replace HB := hS HB hb; (try clear hb hb2 hk hi)))
       go_ret
       exact ⟨rlT, hbT HB.out⟩
      ·rw [if_neg c7] at H
       have c7b0 : decide (t104 < 0) = false := decide_eq_false c7
       clear c7; have H' := Aside0.mk H; clear H
       have p103 : 0 ≤ (x5_1 : Int) := of_decide_eq_true asmT
       have q103 : x5_1 < (l0.length : Int) := of_decide_eq_true asmT
       obtain ⟨ad103, A103_0, c103_0, e103, hx103_0, hl103_0, hi103_0⟩ := at_T110 HR0.out x5_1 p103 q103
       cases e103
       replace hx103_0 := hbc HB.out hx103_0; have HR103_0 := Aside0.mk hi103_0; have HC103_0 := Aside0.mk hl103_0; clear hi103_0 hl103_0; replace p103 := eq_true p103; replace q103 := eq_true q103
       go_wp2_with (first | ((with_reducible refine gate_callee (f := 112) rfl ?_); refine goesL_ (some 23) rfl rfl Try.func112 (by kernel_rfl) rfl #[.agg #[.slice A103_0 ((rd_T110 l0 x5_1).f0).length c103_0], .int .i64 x1_1] rfl eqT ?_; (with_reducible refine (laws_szRow.calls _ _ ((rd_T110 l0 x5_1).f0) x1_1 t104 _ ?side1 ?side2 A6.out).mono ?_); (case side1 => exact crT HR103_0.out HB.out); (case side2 => exact HC103_0.out); rintro e w9 ⟨rfl, hb⟩; refine ⟨_, rfl, ?_⟩; replace HB := hS HB hb; (try clear hb hb2 hk hi)))
       go_roundg k1
       case measure => have := HK1.out; omega
       case rel => exact ⟨(t104), (wrap64 (x5_1 + 1)), rdT, rdT, H', ⟨by have := HK1.out; omega⟩, ⟨hbT HB.out⟩⟩
     ·rw [if_neg c5] at H
      exact absurd H (by simp)
    ·rw [if_neg c4] at H
     have c4b0 : decide (x5_1 < (l0.length : Int)) = false := decide_eq_false c4
     clear c4
     obtain rfl := Option.some.inj H
     go_wp2
     go_ret
     exact ⟨rlT, hbT HB.out⟩

/-! ### spec_l1In: function 103 -/
def spec_l1In.f (a0 : Int) (a1 : Int) (a2 : Int) : Option (Bool) := if a0 ≥ a1 then (some (decide (a0 ≤ a2))) else (some false)
set_option maxHeartbeats 8000000 in
set_option maxRecDepth 100000 in
theorem spec_l1In.calls (a0 : Int) (a1 : Int) (a2 : Int) (r : Bool) (w : World) (h : spec_l1In.f a0 a1 a2 = some r) :
  Calls Try.prog 103 #[.int .i64 a0, .int .i64 a1, .int .i64 a2] w fun e w' => e = .returned (.bool r) ∧ Drawn0 w w' := by
 have H := h; unfold spec_l1In.f at H; clear h
 by_cases c4 : a0 ≥ a1
 ·rw [if_pos c4] at H
  have c4b0 : decide (a1 ≤ a0) = true := decide_eq_true c4
  clear c4
  obtain rfl := Option.some.inj H
  go_enter Try.func103, Try.ntmps103
  go_wp2
  go_ret
  exact ⟨rdT, drT⟩
 ·rw [if_neg c4] at H
  have c4b0 : decide (a1 ≤ a0) = false := decide_eq_false c4
  clear c4
  obtain rfl := Option.some.inj H
  go_enter Try.func103, Try.ntmps103
  go_wp2
  go_ret
  exact ⟨rdT, drT⟩

/-! ### spec_IsRow: function 113 -/
def spec_IsRow.l0 : Nat → Int → Int → List Int → Option (Bool)
 | 0, _, _, _ => none
 | k + 1, x1, x5, x106000 => if x5 < (x106000.length : Int) then (if 0 ≤ x5 then ((spec_l1In.f (rd x106000 x5) (-1) 1).bind fun t107 => (if t107 = true then (spec_IsRow.l0 k x1 (wrap64 (x5 + 1)) x106000) else (some false))) else (none)) else ((spec_l1In.f x1 1 5).bind fun t108 => (if t108 = true then (some ((x106000.length : Int) == x1)) else (some false)))
def spec_IsRow.f (k : Nat) (l0_0 : List Int) (a1 : Int) : Option (Bool) := spec_IsRow.l0 k a1 0 l0_0
theorem spec_IsRow.mono_l : ∀ k, (∀ y0 y1 y2, LeO (spec_IsRow.l0 k y0 y1 y2) (spec_IsRow.l0 (k + 1) y0 y1 y2))
 | 0 => fun _ _ _ r h => by simp [spec_IsRow.l0] at h
 | k + 1 => by
  have ih0 := spec_IsRow.mono_l k
  ·intro y0 y1 y2
   unfold spec_IsRow.l0
   with_reducible repeat' first | exact ih0 _ _ _ | exact LeO.refl _ | exact LeO.none _ | refine LeO.ite ?_ ?_ | refine LeO.bind ?_ (fun _ => ?_)
theorem spec_IsRow.mono : ∀ a0 a1 k, LeO (spec_IsRow.f k a0 a1) (spec_IsRow.f (k + 1) a0 a1) := by
 intro a0 a1 k
 have ih0 := spec_IsRow.mono_l k
 unfold spec_IsRow.f
 with_reducible repeat' first | exact ih0 _ _ _ | exact LeO.refl _ | exact LeO.none _ | refine LeO.ite ?_ ?_ | refine LeO.bind ?_ (fun _ => ?_)
set_option maxHeartbeats 8000000 in
set_option maxRecDepth 100000 in
theorem spec_IsRow.calls (k : Nat) (A0_0 : Option Addr) (c0_0 : Nat) (l0_0 : List Int) (a1 : Int) (r : Bool) (w : World) (hr0_0 : Kd.C (Kd.int .i64) w A0_0 l0_0.length l0_0) (hc0_0 : l0_0.length ≤ c0_0) (h : spec_IsRow.f k l0_0 a1 = some r) :
  Calls Try.prog 113 #[.agg #[.slice A0_0 l0_0.length c0_0], .int .i64 a1] w fun e w' => e = .returned (.bool r) ∧ Below w.heap.size w w' := by
 have hu60 := Try.underlying60; have HR0_0 := Aside0.mk hr0_0; have HC0_0 := Aside0.mk hc0_0; clear hr0_0 hc0_0; have HB := asT (Below.refl w.heap.size w); have H := h; unfold spec_IsRow.f at H; clear h; have H' := Aside0.mk H; clear H
 go_enter Try.func113, Try.ntmps113
 go_wp2_with (first | ((with_reducible refine gate_dst (N := 2) rfl ?_); (try (refine gate_guard (by rfl) ?_; dsimp only)); refine boxT (N := 2) (cs := #[.slice A0_0 l0_0.length c0_0]) (t := 60) ?_; intro gb105 hg w3 hbox hb; have BK105 := asT hbox; have GW105 := asT (geT hg HB.out); have GE105 := GW105; replace HB := hS HB hb; clear hb hbox hg))
 go_loopg [5] k (fun kq v5 w' => ∃ (x5_1 : Int), v5 = .int .i64 x5_1 ∧ Aside0 (spec_IsRow.l0 kq a1 x5_1 l0_0 = some r) ∧ Aside0 (kq ≤ k) ∧ Aside0 (w'.heap[gb105]? = some (.cells #[(.slice A0_0 l0_0.length c0_0)] 60 (0, 0))) ∧ Aside0 (Below w.heap.size w w'))
 case atStart => exact ⟨(0), rdT, H', ⟨Nat.le_refl _⟩, ⟨by (with_reducible repeat (first | refine blk_drewN ?_ _ | refine blk_drew ?_ | refine blk_alloc ?_ _)); exact BK105.out⟩, ⟨hbT HB.out⟩⟩
 case round =>
  clear H'; (try clear c1 p2); obtain ⟨x5_1, rfl, HA, HK1, BK105, HB⟩ := hrel
  cases gk with
  | zero => exact absurd HA.out (by simp [spec_IsRow.l0])
  | succ k1 =>
   have H := HA.out; clear HA
   simp only [spec_IsRow.l0] at H
   by_cases c4 : x5_1 < (l0_0.length : Int)
   ·rw [if_pos c4] at H
    have c4b0 : decide (x5_1 < (l0_0.length : Int)) = true := decide_eq_true c4
    clear c4
    by_cases c5 : 0 ≤ x5_1
    ·rw [if_pos c5] at H
     have c5b0 : decide (0 ≤ x5_1) = true := decide_eq_true c5
     clear c5; obtain ⟨t107, A6, H⟩ := be H
     by_cases c7 : t107 = true
     ·subst c7
      rw [if_pos rfl] at H; have H' := Aside0.mk H; clear H
      have hcz8_0 := bc0 BK105.out
      have hfz8_0 := blk_frozen BK105.out 0
      have p106 : 0 ≤ (x5_1 : Int) := of_decide_eq_true asmT
      have q106 : x5_1 < (l0_0.length : Int) := of_decide_eq_true asmT
      obtain ⟨ad106, e106, hx106_0⟩ := Kd.at_int HR0_0.out x5_1 p106 q106
      cases e106
      replace hx106_0 := hbc HB.out hx106_0; replace p106 := eq_true p106; replace q106 := eq_true q106
      go_wp2_with (first | ((with_reducible refine gate_callee (f := 103) rfl ?_); refine goesL_ (some 18) rfl rfl Try.func103 (by kernel_rfl) rfl #[.int .i64 (rd l0_0 x5_1), .int .i64 (-1), .int .i64 1] rfl eqT ?_; (with_reducible refine (spec_l1In.calls (rd l0_0 x5_1) (-1) 1 true _ A6.out).mono ?_); rintro e w' ⟨rfl, ⟨nd, rfl⟩⟩; refine ⟨_, rfl, ?_⟩))
      go_roundg k1
      case measure => have := HK1.out; omega
      case rel => exact ⟨(wrap64 (x5_1 + 1)), rdT, H', ⟨by have := HK1.out; omega⟩, ⟨by (with_reducible repeat (first | refine blk_drewN ?_ _ | refine blk_drew ?_ | refine blk_alloc ?_ _)); exact BK105.out⟩, ⟨hbT HB.out⟩⟩
     ·replace c7 := Bool.eq_false_iff.mpr c7
      subst c7; rw [if_neg nF] at H; have H1 := H; clear H; have H := H1; clear H1
      obtain rfl := Option.some.inj H
      have hcz9_0 := bc0 BK105.out
      have hfz9_0 := blk_frozen BK105.out 0
      have p106 : 0 ≤ (x5_1 : Int) := of_decide_eq_true asmT
      have q106 : x5_1 < (l0_0.length : Int) := of_decide_eq_true asmT
      obtain ⟨ad106, e106, hx106_0⟩ := Kd.at_int HR0_0.out x5_1 p106 q106
      cases e106
      replace hx106_0 := hbc HB.out hx106_0; replace p106 := eq_true p106; replace q106 := eq_true q106
      go_wp2_with (first | ((with_reducible refine gate_callee (f := 103) rfl ?_); refine goesL_ (some 18) rfl rfl Try.func103 (by kernel_rfl) rfl #[.int .i64 (rd l0_0 x5_1), .int .i64 (-1), .int .i64 1] rfl eqT ?_; (with_reducible refine (spec_l1In.calls (rd l0_0 x5_1) (-1) 1 false _ A6.out).mono ?_); rintro e w' ⟨rfl, ⟨nd, rfl⟩⟩; refine ⟨_, rfl, ?_⟩))
      go_ret
      exact ⟨rlT, hbT HB.out⟩
    ·rw [if_neg c5] at H
     exact absurd H (by simp)
   ·rw [if_neg c4] at H
    have c4b0 : decide (x5_1 < (l0_0.length : Int)) = false := decide_eq_false c4
    clear c4; obtain ⟨t108, A10, H⟩ := be H
    by_cases c11 : t108 = true
    ·subst c11
     rw [if_pos rfl] at H; have H1 := H; clear H; have H := H1; clear H1
     obtain rfl := Option.some.inj H
     have hcz12_0 := bc0 BK105.out
     have hfz12_0 := blk_frozen BK105.out 0
     go_wp2_with (first | ((with_reducible refine gate_callee (f := 103) rfl ?_); refine goesL_ (some 21) rfl rfl Try.func103 (by kernel_rfl) rfl #[.int .i64 a1, .int .i64 1, .int .i64 5] rfl eqT ?_; (with_reducible refine (spec_l1In.calls a1 1 5 true _ A10.out).mono ?_); rintro e w' ⟨rfl, ⟨nd, rfl⟩⟩; refine ⟨_, rfl, ?_⟩))
     go_ret
     exact ⟨rlT, hbT HB.out⟩
    ·replace c11 := Bool.eq_false_iff.mpr c11
     subst c11; rw [if_neg nF] at H; have H1 := H; clear H; have H := H1; clear H1
     obtain rfl := Option.some.inj H
     have hcz13_0 := bc0 BK105.out
     have hfz13_0 := blk_frozen BK105.out 0
     go_wp2_with (first | ((with_reducible refine gate_callee (f := 103) rfl ?_); refine goesL_ (some 21) rfl rfl Try.func103 (by kernel_rfl) rfl #[.int .i64 a1, .int .i64 1, .int .i64 5] rfl eqT ?_; (with_reducible refine (spec_l1In.calls a1 1 5 false _ A10.out).mono ?_); rintro e w' ⟨rfl, ⟨nd, rfl⟩⟩; refine ⟨_, rfl, ?_⟩))
     go_ret
     exact ⟨rlT, hbT HB.out⟩

/-! ### spec_FuseRows: function 114 -/
mutual
def spec_FuseRows.j0 : Nat → Bool → List Int → List Int → Option (List Int × Bool)
 | 0, _, _, _ => none
 | k + 1, x22, x110000, x111000 => if x22 = true then (some (([] : List Int), false)) else (spec_FuseRows.l0 k 0 x110000 x111000 ([] : List Int))
def spec_FuseRows.l0 : Nat → Int → List Int → List Int → List Int → Option (List Int × Bool)
 | 0, _, _, _, _ => none
 | k + 1, x7, x110000, x111000, x113000 => if x7 < (x110000.length : Int) then (if 0 ≤ x7 then (if (rd x110000 x7) = (-1) then (if x113000.length < 17592186044416 then (spec_FuseRows.l0 k (wrap64 (x7 + 1)) x110000 x111000 (x113000 ++ [(-1)])) else (none)) else (if x7 < (x111000.length : Int) then (if (rd x111000 x7) = (-1) then (if x113000.length < 17592186044416 then (spec_FuseRows.l0 k (wrap64 (x7 + 1)) x110000 x111000 (x113000 ++ [(-1)])) else (none)) else (if x113000.length < 17592186044416 then (spec_FuseRows.l0 k (wrap64 (x7 + 1)) x110000 x111000 (x113000 ++ [mx (rd x110000 x7) (rd x111000 x7)])) else (none))) else (none))) else (none)) else (some (x113000, true))
end
def spec_FuseRows.f (k : Nat) (l0_0 : List Int) (l1_0 : List Int) : Option (List Int × Bool) := (spec_IsRow.f k l0_0 (l0_0.length : Int)).bind fun t113 => (if t113 = true then ((spec_IsRow.f k l1_0 (l0_0.length : Int)).bind fun t114 => (spec_FuseRows.j0 k (!t114) l0_0 l1_0)) else (spec_FuseRows.j0 k true l0_0 l1_0))
theorem spec_FuseRows.mono_l : ∀ k, (∀ y0 y1 y2, LeO (spec_FuseRows.j0 k y0 y1 y2) (spec_FuseRows.j0 (k + 1) y0 y1 y2)) ∧ (∀ y0 y1 y2 y3, LeO (spec_FuseRows.l0 k y0 y1 y2 y3) (spec_FuseRows.l0 (k + 1) y0 y1 y2 y3))
 | 0 => ⟨fun _ _ _ r h => by simp [spec_FuseRows.j0] at h, fun _ _ _ _ r h => by simp [spec_FuseRows.l0] at h⟩
 | k + 1 => by
  obtain ⟨ih0, ih1⟩ := spec_FuseRows.mono_l k; refine ⟨?_, ?_⟩
  ·intro y0 y1 y2
   unfold spec_FuseRows.j0
   with_reducible repeat' first | exact ih0 _ _ _ | exact ih1 _ _ _ _ | exact spec_IsRow.mono _ _ _ | exact LeO.refl _ | exact LeO.none _ | refine LeO.ite ?_ ?_ | refine LeO.bind ?_ (fun _ => ?_)
  ·intro y0 y1 y2 y3
   unfold spec_FuseRows.l0
   with_reducible repeat' first | exact ih0 _ _ _ | exact ih1 _ _ _ _ | exact spec_IsRow.mono _ _ _ | exact LeO.refl _ | exact LeO.none _ | refine LeO.ite ?_ ?_ | refine LeO.bind ?_ (fun _ => ?_)
theorem spec_FuseRows.mono : ∀ a0 a1 k, LeO (spec_FuseRows.f k a0 a1) (spec_FuseRows.f (k + 1) a0 a1) := by
 intro a0 a1 k
 obtain ⟨ih0, ih1⟩ := spec_FuseRows.mono_l k
 unfold spec_FuseRows.f
 with_reducible repeat' first | exact ih0 _ _ _ | exact ih1 _ _ _ _ | exact spec_IsRow.mono _ _ _ | exact LeO.refl _ | exact LeO.none _ | refine LeO.ite ?_ ?_ | refine LeO.bind ?_ (fun _ => ?_)
def spec_FuseRows.T7 : Bool × List (List Nat × List Nat) := (true, [([], []), ([0], [0]), ([], []), ([2], [2]), ([], []), ([3, 4], [3, 4]), ([5], [5]), ([], []), ([7], [7]), ([], []), ([8, 9], [8, 9]), ([10], [10]), ([6, 11], [6, 11]), ([12], [12]), ([1, 13], [1, 13]), ([0, 1, 2, 3, 4, 5, 6, 7, 8, 9, 10, 11, 12, 13, 14], []), ([15, 14, 14, 0, 1, 2, 3, 4, 5, 6, 7, 8, 9, 10, 11, 12, 13, 14], [14, 15])])
def spec_FuseRows.B7 : List Nat := [0, 1, 0, 4, 0, 28, 60, 0, 128, 0, 896, 1920, 4092, 8188, 16383, 32767, 65535]
theorem spec_FuseRows.tab7 : rtab .any (opsOf Try.f114 7) = spec_FuseRows.T7 := by kernel_rfl
theorem spec_FuseRows.bits7 : waitsOk spec_FuseRows.T7.2 spec_FuseRows.B7 = true := by kernel_rfl
set_option maxHeartbeats 8000000 in
set_option maxRecDepth 100000 in
theorem spec_FuseRows.calls (k : Nat) (A0_0 : Option Addr) (c0_0 : Nat) (l0_0 : List Int) (A1_0 : Option Addr) (c1_0 : Nat) (l1_0 : List Int) (r1 : List Int) (r2 : Bool) (w : World) (hr0_0 : Kd.C (Kd.int .i64) w A0_0 l0_0.length l0_0) (hc0_0 : l0_0.length ≤ c0_0) (hr1_0 : Kd.C (Kd.int .i64) w A1_0 l1_0.length l1_0) (hc1_0 : l1_0.length ≤ c1_0) (h : spec_FuseRows.f k l0_0 l1_0 = some (r1, r2)) :
  Calls Try.prog 114 #[.agg #[.slice A0_0 l0_0.length c0_0], .agg #[.slice A1_0 l1_0.length c1_0]] w fun e w' => ∃ v0_ : Value, e = .returned (.tuple #[.agg #[v0_], .bool r2]) ∧ Kd.R (Kd.int .i64) 3 w' w.heap.size (fun _ => True) v0_ r1 ∧ Below w.heap.size w w' := by
 have hu60 := Try.underlying60; have HR0_0 := Aside0.mk hr0_0; have HC0_0 := Aside0.mk hc0_0; clear hr0_0 hc0_0; have HR1_0 := Aside0.mk hr1_0; have HC1_0 := Aside0.mk hc1_0; clear hr1_0 hc1_0; have HB := asT (Below.refl w.heap.size w); have H := h; unfold spec_FuseRows.f at H; clear h; have HC3 := Aside0.mk H; clear H
 go_enter Try.func114, Try.ntmps114
 go_upto_region 2 with (first | ((with_reducible refine gate_dst (N := 2) rfl ?_); (try (refine gate_guard (by rfl) ?_; dsimp only)); refine boxT (N := 2) (cs := #[.slice A0_0 l0_0.length c0_0]) (t := 60) ?_; intro gb109 hg w4 hbox hb; have BK109 := asT hbox; have GW109 := asT (geT hg HB.out); have GE109 := GW109; replace HB := hS HB hb; clear hb hbox hg) | ((with_reducible refine gate_dst (N := 3) rfl ?_); (try (refine gate_guard (by rfl) ?_; dsimp only)); refine boxT (N := 3) (cs := #[.slice A1_0 l1_0.length c1_0]) (t := 60) ?_; intro gb110 hg w5 hbox hb; have BK110 := asT (hbox); have GW110 := asT (geT hg HB.out); have GE110 := asT (geT hg HB.out); replace HB := hS HB hb; have NB109_110 := asT ((by rw [hg]; exact Nat.ne_of_lt (blk_lt (bkT BK109.out)) : gb109 ≠ gb110)); have NB110_109 := asT ((by rw [hg]; exact Nat.ne_of_gt (blk_lt (bkT BK109.out)) : gb110 ≠ gb109)); replace BK109 := bS BK109 hb; clear hb hbox hg) | ((with_reducible refine gate_dst (N := 4) rfl ?_); (try (refine gate_guard (by rfl) ?_; dsimp only)); refine boxT (N := 4) (cs := #[.slice none 0 0]) (t := 60) ?_; intro gb111 hg w6 hbox hb; have BK111 := asT (hbox); have GW111 := asT (geT hg HB.out); have GE111 := asT (geT hg HB.out); replace HB := hS HB hb; have NB109_111 := asT ((by rw [hg]; exact Nat.ne_of_lt (blk_lt (bkT BK109.out)) : gb109 ≠ gb111)); have NB111_109 := asT ((by rw [hg]; exact Nat.ne_of_gt (blk_lt (bkT BK109.out)) : gb111 ≠ gb109)); replace BK109 := bS BK109 hb; have NB110_111 := asT ((by rw [hg]; exact Nat.ne_of_lt (blk_lt (bkT BK110.out)) : gb110 ≠ gb111)); have NB111_110 := asT ((by rw [hg]; exact Nat.ne_of_gt (blk_lt (bkT BK110.out)) : gb111 ≠ gb110)); replace BK110 := bS BK110 hb; clear hb hbox hg) | ((with_reducible refine gate_dst (N := 6) rfl ?_); (try (refine gate_guard (by rfl) ?_; dsimp only)); refine boxT (N := 6) (cs := #[.slice none 0 0]) (t := 60) ?_; intro gb112 hg w7 hbox hb; have BK112 := asT (hbox); have GW112 := asT (geT hg HB.out); have GE112 := asT (geT hg HB.out); replace HB := hS HB hb; have NB109_112 := asT ((by rw [hg]; exact Nat.ne_of_lt (blk_lt (bkT BK109.out)) : gb109 ≠ gb112)); have NB112_109 := asT ((by rw [hg]; exact Nat.ne_of_gt (blk_lt (bkT BK109.out)) : gb112 ≠ gb109)); replace BK109 := bS BK109 hb; have NB110_112 := asT ((by rw [hg]; exact Nat.ne_of_lt (blk_lt (bkT BK110.out)) : gb110 ≠ gb112)); have NB112_110 := asT ((by rw [hg]; exact Nat.ne_of_gt (blk_lt (bkT BK110.out)) : gb112 ≠ gb110)); replace BK110 := bS BK110 hb; have NB111_112 := asT ((by rw [hg]; exact Nat.ne_of_lt (blk_lt (bkT BK111.out)) : gb111 ≠ gb112)); have NB112_111 := asT ((by rw [hg]; exact Nat.ne_of_gt (blk_lt (bkT BK111.out)) : gb112 ≠ gb111)); replace BK111 := bS BK111 hb; clear hb hbox hg; have hnb8 := NB112_109.out; have hnc8 := NB109_112.out; have hnb9 := NB112_110.out; have hnc9 := NB110_112.out; have hnb10 := NB112_111.out; have hnc10 := NB111_112.out; obtain ⟨hcz11_0, hfz11_0⟩ := bx1 BK112.out))
 (try simp only [Act.put, sA, sZ, sS])
 go_cut [22] (fun v22 wc => ∃ (kq : Nat) (x22_2 : Bool), v22 = .bool x22_2 ∧ Aside0 (spec_FuseRows.j0 kq x22_2 l0_0 l1_0 = some (r1, r2)) ∧ Aside0 (kq ≤ k) ∧ Aside0 (wc.heap[gb109]? = some (.cells #[(.slice A0_0 l0_0.length c0_0)] 60 (0, 0))) ∧ Aside0 (wc.heap[gb110]? = some (.cells #[(.slice A1_0 l1_0.length c1_0)] 60 (0, 0))) ∧ Aside0 (wc.heap[gb111]? = some (.cells #[(.slice none 0 0)] 60 (0, 0))) ∧ Aside0 (wc.heap[gb112]? = some (.cells #[(.slice none 0 0)] 60 (0, 0))) ∧ Aside0 (Below w.heap.size w wc))
 case first =>
  have H := HC3.out; clear HC3; obtain ⟨t113, A12, H⟩ := be H
  by_cases c13 : t113 = true
  ·subst c13
   rw [if_pos rfl] at H; obtain ⟨t114, A14, H⟩ := be H; have H' := Aside0.mk H; clear H; have hnb15 := NB109_110.out; have hnc15 := NB110_109.out; have hnb16 := NB109_111.out; have hnc16 := NB111_109.out; have hnb17 := NB109_112.out; have hnc17 := NB112_109.out
   have hcz18_0 := bc0 BK109.out
   have hfz18_0 := blk_frozen BK109.out 0
   go_wp2_with (first | ((with_reducible refine gate_callee (f := 113) rfl ?_); refine goesL_ (some 13) rfl rfl Try.func113 (by kernel_rfl) rfl #[.agg #[.slice A0_0 l0_0.length c0_0], .int .i64 (l0_0.length : Int)] rfl eqT ?_; (with_reducible refine (spec_IsRow.calls k _ _ l0_0 (l0_0.length : Int) true _ ?side1 ?side2 A12.out).mono ?_); (case side1 => exact Kd.C_below HR0_0.out (hbT HB.out)); (case side2 => exact HC0_0.out); rintro e w19 ⟨rfl, hb⟩; refine ⟨_, rfl, ?_⟩; replace BK109 := asT (blk_below (g := gb109) (o := .cells #[.slice A0_0 l0_0.length c0_0] 60 (0, 0)) (by (with_reducible repeat (first | refine blk_drewN ?_ _ | refine blk_drew ?_ | refine blk_alloc ?_ _)); refine blk_far ?_ NB109_112.out _; (with_reducible repeat (first | refine blk_drewN ?_ _ | refine blk_drew ?_ | refine blk_alloc ?_ _)); exact BK109.out) hb); replace BK110 := asT (blk_below (g := gb110) (o := .cells #[.slice A1_0 l1_0.length c1_0] 60 (0, 0)) (by (with_reducible repeat (first | refine blk_drewN ?_ _ | refine blk_drew ?_ | refine blk_alloc ?_ _)); refine blk_far ?_ NB110_112.out _; (with_reducible repeat (first | refine blk_drewN ?_ _ | refine blk_drew ?_ | refine blk_alloc ?_ _)); exact BK110.out) hb); replace BK111 := asT (blk_below (g := gb111) (o := .cells #[.slice none 0 0] 60 (0, 0)) (by (with_reducible repeat (first | refine blk_drewN ?_ _ | refine blk_drew ?_ | refine blk_alloc ?_ _)); refine blk_far ?_ NB111_112.out _; (with_reducible repeat (first | refine blk_drewN ?_ _ | refine blk_drew ?_ | refine blk_alloc ?_ _)); exact BK111.out) hb); replace BK112 := asT (blk_below (g := gb112) (o := .cells #[.slice none 0 0] 60 (0, 0)) (by (with_reducible repeat (first | refine blk_drewN ?_ _ | refine blk_drew ?_ | refine blk_alloc ?_ _)); refine blk_put (cs := #[.slice none 0 0]) ?_ 0 _ rfl; (with_reducible repeat (first | refine blk_drewN ?_ _ | refine blk_drew ?_ | refine blk_alloc ?_ _)); exact BK112.out) hb); replace HB := hS HB hb; (try clear hb hb2 hk hi); have hnb20 := NB110_111.out; have hnc20 := NB111_110.out; have hnb21 := NB110_112.out; have hnc21 := NB112_110.out; obtain ⟨hcz22_0, hfz22_0⟩ := bx1 BK110.out; obtain ⟨hcz23_0, hfz23_0⟩ := bx1 BK109.out) | (go_at_call 113; (with_reducible refine (spec_IsRow.calls k _ _ l1_0 (l0_0.length : Int) t114 _ ?side1 ?side2 A14.out).mono ?_); (case side1 => exact crT HR1_0.out HB.out); (case side2 => exact HC1_0.out); rintro e w24 ⟨rfl, hb⟩; replace BK109 := bS BK109 hb; replace BK110 := bS BK110 hb; replace BK111 := bS BK111 hb; replace BK112 := bS BK112 hb; replace HB := hS HB hb; (try clear hb hb2 hk hi)))
   go_meet
   case rel => exact ⟨_, (!t114), rdT, H', ⟨by first | omega | exact Nat.le_refl _⟩, ⟨by (with_reducible repeat (first | refine blk_drewN ?_ _ | refine blk_drew ?_ | refine blk_alloc ?_ _)); exact BK109.out⟩, ⟨by (with_reducible repeat (first | refine blk_drewN ?_ _ | refine blk_drew ?_ | refine blk_alloc ?_ _)); exact BK110.out⟩, ⟨by (with_reducible repeat (first | refine blk_drewN ?_ _ | refine blk_drew ?_ | refine blk_alloc ?_ _)); exact BK111.out⟩, ⟨by (with_reducible repeat (first | refine blk_drewN ?_ _ | refine blk_drew ?_ | refine blk_alloc ?_ _)); exact BK112.out⟩, ⟨hbT HB.out⟩⟩
  ·replace c13 := Bool.eq_false_iff.mpr c13
   subst c13; rw [if_neg nF] at H; have H' := Aside0.mk H; clear H; have hnb25 := NB109_110.out; have hnc25 := NB110_109.out; have hnb26 := NB109_111.out; have hnc26 := NB111_109.out; have hnb27 := NB109_112.out; have hnc27 := NB112_109.out
   have hcz28_0 := bc0 BK109.out
   have hfz28_0 := blk_frozen BK109.out 0
   go_wp2_with (first | ((with_reducible refine gate_callee (f := 113) rfl ?_); refine goesL_ (some 13) rfl rfl Try.func113 (by kernel_rfl) rfl #[.agg #[.slice A0_0 l0_0.length c0_0], .int .i64 (l0_0.length : Int)] rfl eqT ?_; (with_reducible refine (spec_IsRow.calls k _ _ l0_0 (l0_0.length : Int) false _ ?side1 ?side2 A12.out).mono ?_); (case side1 => exact Kd.C_below HR0_0.out (hbT HB.out)); (case side2 => exact HC0_0.out); rintro e w29 ⟨rfl, hb⟩; refine ⟨_, rfl, ?_⟩; replace BK109 := asT (blk_below (g := gb109) (o := .cells #[.slice A0_0 l0_0.length c0_0] 60 (0, 0)) (by (with_reducible repeat (first | refine blk_drewN ?_ _ | refine blk_drew ?_ | refine blk_alloc ?_ _)); refine blk_far ?_ NB109_112.out _; (with_reducible repeat (first | refine blk_drewN ?_ _ | refine blk_drew ?_ | refine blk_alloc ?_ _)); exact BK109.out) hb); replace BK110 := asT (blk_below (g := gb110) (o := .cells #[.slice A1_0 l1_0.length c1_0] 60 (0, 0)) (by (with_reducible repeat (first | refine blk_drewN ?_ _ | refine blk_drew ?_ | refine blk_alloc ?_ _)); refine blk_far ?_ NB110_112.out _; (with_reducible repeat (first | refine blk_drewN ?_ _ | refine blk_drew ?_ | refine blk_alloc ?_ _)); exact BK110.out) hb); replace BK111 := asT (blk_below (g := gb111) (o := .cells #[.slice none 0 0] 60 (0, 0)) (by (with_reducible repeat (first | refine blk_drewN ?_ _ | refine blk_drew ?_ | refine blk_alloc ?_ _)); refine blk_far ?_ NB111_112.out _; (with_reducible repeat (first | refine blk_drewN ?_ _ | refine blk_drew ?_ | refine blk_alloc ?_ _)); exact BK111.out) hb); replace BK112 := asT (blk_below (g := gb112) (o := .cells #[.slice none 0 0] 60 (0, 0)) (by (with_reducible repeat (first | refine blk_drewN ?_ _ | refine blk_drew ?_ | refine blk_alloc ?_ _)); refine blk_put (cs := #[.slice none 0 0]) ?_ 0 _ rfl; (with_reducible repeat (first | refine blk_drewN ?_ _ | refine blk_drew ?_ | refine blk_alloc ?_ _)); exact BK112.out) hb); replace HB := hS HB hb; (try clear hb hb2 hk hi)))
   go_meet
   case rel => exact ⟨_, (true), rdT, H', ⟨by first | omega | exact Nat.le_refl _⟩, ⟨by (with_reducible repeat (first | refine blk_drewN ?_ _ | refine blk_drew ?_ | refine blk_alloc ?_ _)); exact BK109.out⟩, ⟨by (with_reducible repeat (first | refine blk_drewN ?_ _ | refine blk_drew ?_ | refine blk_alloc ?_ _)); exact BK110.out⟩, ⟨by (with_reducible repeat (first | refine blk_drewN ?_ _ | refine blk_drew ?_ | refine blk_alloc ?_ _)); exact BK111.out⟩, ⟨by (with_reducible repeat (first | refine blk_drewN ?_ _ | refine blk_drew ?_ | refine blk_alloc ?_ _)); exact BK112.out⟩, ⟨hbT HB.out⟩⟩
 case rest =>
  clear HC3; (try clear c1 c2 p2 c8 c9 c10 c11 c13 c15 c16 c17 c20 c21 c25 c26 c27 hcz11_0 hcz18_0 hcz22_0 hcz23_0 hcz28_0 hfz11_0 hfz18_0 hfz22_0 hfz23_0 hfz28_0); obtain ⟨kq, x22_2, rfl, HA, HJ2, BK109, BK110, BK111, BK112, HB⟩ := hcut
  cases kq with
  | zero => exact absurd HA.out (by simp [spec_FuseRows.j0])
  | succ kj2 =>
   have H := HA.out; clear HA
   simp only [spec_FuseRows.j0] at H
   by_cases c30 : x22_2 = true
   ·subst c30
    rw [if_pos rfl] at H; have H1 := H; clear H; have H := H1; clear H1
    simp only [Option.some.injEq, Prod.mk.injEq] at H
    obtain ⟨rfl, rfl⟩ := H; have hnb31 := NB112_109.out; have hnc31 := NB109_112.out; have hnb32 := NB112_110.out; have hnc32 := NB110_112.out; have hnb33 := NB112_111.out; have hnc33 := NB111_112.out
    have hcz34_0 := bc0 BK112.out
    have hfz34_0 := blk_frozen BK112.out 0; have hnb35 := NB111_109.out; have hnc35 := NB109_111.out; have hnb36 := NB111_110.out; have hnc36 := NB110_111.out
    have hcz37_0 := bc0 BK111.out
    have hfz37_0 := blk_frozen BK111.out 0
    go_wp2
    refine bodyPost_ret (results_ct rfl _ _ gb111 60 #[.slice none 0 0] (0, 0) _ rfl (by (with_reducible repeat (first | refine blk_drewN ?_ _ | refine blk_drew ?_ | refine blk_alloc ?_ _)); refine blk_put (cs := #[.slice none 0 0]) ?_ 0 _ rfl; (with_reducible repeat (first | refine blk_drewN ?_ _ | refine blk_drew ?_ | refine blk_alloc ?_ _)); exact BK111.out) Try.underlying60 rfl (by kernel_rfl)) rfl ?_
    exact ⟨_, rlT, by first | exact Kd.R_nil _ _ _ _ _ | exact Kd.N_nil _ _ _ _ _ | exact Kd.V_nil _ _ _ _ _ | exact Kd.Q_nil _ _ _ _ _ | exact Kd.S_nil _ _ _ _ _, hbT HB.out⟩
   ·replace c30 := Bool.eq_false_iff.mpr c30
    subst c30; rw [if_neg nF] at H; have H' := Aside0.mk H; clear H
    go_wp2
    go_loopg [7] kj2 (fun kq v7 w' => ∃ (x7_2 : Int) (x113000_2 : List Int) (u113000 : Value), v7 = .int .i64 x7_2 ∧ Aside0 (spec_FuseRows.l0 kq x7_2 l0_0 l1_0 x113000_2 = some (r1, r2)) ∧ Aside0 (kq ≤ kj2) ∧ Aside0 (Kd.R (Kd.int .i64) 3 w' w.heap.size (fun _ => True) u113000 x113000_2) ∧ Aside0 (w'.heap[gb109]? = some (.cells #[(.slice A0_0 l0_0.length c0_0)] 60 (0, 0))) ∧ Aside0 (w'.heap[gb110]? = some (.cells #[(.slice A1_0 l1_0.length c1_0)] 60 (0, 0))) ∧ Aside0 (w'.heap[gb111]? = some (.cells #[(.slice none 0 0)] 60 (0, 0))) ∧ Aside0 (w'.heap[gb112]? = some (.cells #[u113000] 60 (0, 0))) ∧ Aside0 (Below w.heap.size w w'))
    case atStart => exact ⟨(0), (([] : List Int)), (.slice none 0 0), rdT, H', ⟨Nat.le_refl _⟩, ⟨by first | exact Kd.R_nil _ _ _ _ _ | exact Kd.N_nil _ _ _ _ _ | exact Kd.V_nil _ _ _ _ _ | exact Kd.Q_nil _ _ _ _ _ | exact Kd.S_nil _ _ _ _ _⟩, ⟨by (with_reducible repeat (first | refine blk_drewN ?_ _ | refine blk_drew ?_ | refine blk_alloc ?_ _)); exact BK109.out⟩, ⟨by (with_reducible repeat (first | refine blk_drewN ?_ _ | refine blk_drew ?_ | refine blk_alloc ?_ _)); exact BK110.out⟩, ⟨by (with_reducible repeat (first | refine blk_drewN ?_ _ | refine blk_drew ?_ | refine blk_alloc ?_ _)); exact BK111.out⟩, ⟨by (with_reducible repeat (first | refine blk_drewN ?_ _ | refine blk_drew ?_ | refine blk_alloc ?_ _)); exact BK112.out⟩, ⟨hbT HB.out⟩⟩
    case round =>
     clear H'; (try clear c1 c2 p2 c3 c8 c9 c10 c11 c13 c15 c16 c17 c20 c21 c25 c26 c27 c30 c31 c32 c33 c35 c36 hcz11_0 hcz18_0 hcz22_0 hcz23_0 hcz28_0 hcz34_0 hcz37_0 hfz11_0 hfz18_0 hfz22_0 hfz23_0 hfz28_0 hfz34_0 hfz37_0 p2); obtain ⟨x7_2, x113000_2, u113000, rfl, HA, HK2, HO_113000, BK109, BK110, BK111, BK112, HB⟩ := hrel
     cases gk with
     | zero => exact absurd HA.out (by simp [spec_FuseRows.l0])
     | succ k2 =>
      have H := HA.out; clear HA
      simp only [spec_FuseRows.l0] at H
      by_cases c38 : x7_2 < (l0_0.length : Int)
      ·rw [if_pos c38] at H
       have c38b0 : decide (x7_2 < (l0_0.length : Int)) = true := decide_eq_true c38
       clear c38
       by_cases c39 : 0 ≤ x7_2
       ·rw [if_pos c39] at H
        have c39b0 : decide (0 ≤ x7_2) = true := decide_eq_true c39
        clear c39
        by_cases c40 : (rd l0_0 x7_2) = (-1)
        ·rw [if_pos c40] at H
         have c40b0 : ((rd l0_0 x7_2) == (-1)) = true := beq_iff_eq.mpr c40
         have c40b1 : ((rd l0_0 x7_2) != (-1)) = false := bne_eq_false_iff_eq.mpr c40
         clear c40
         by_cases c41 : x113000_2.length < 17592186044416
         ·rw [if_pos c41] at H
          have LMc41 := Aside0.mk c41; clear c41; obtain ⟨y116, hy116⟩ : ∃ y_ : List Int, y_ = (x113000_2 ++ [(-1)]) := ⟨_, rfl⟩
          replace H : (spec_FuseRows.l0 k2 (wrap64 (x7_2 + 1)) l0_0 l1_0 y116) = some (r1, r2) := by first | (rw [hy116]; with_reducible exact H) | (have H2_ := (Option.bind_some _ _).symm.trans H; rw [hy116]; with_reducible exact H2_) | (have H2_ := (Option.bind_some _ _).symm.trans H; with_reducible exact H2_) | with_reducible exact H | (rw [hy116]; exact H) | exact H
          have Ny116 := Aside0.mk hy116; clear hy116; have H' := Aside0.mk H; clear H; have hnb42 := NB109_110.out; have hnc42 := NB110_109.out; have hnb43 := NB109_111.out; have hnc43 := NB111_109.out; have hnb44 := NB109_112.out; have hnc44 := NB112_109.out
          have hcz45_0 := bc0 BK109.out
          have hfz45_0 := blk_frozen BK109.out 0
          have p115 : 0 ≤ (x7_2 : Int) := of_decide_eq_true asmT
          have q115 : x7_2 < (l0_0.length : Int) := of_decide_eq_true asmT
          obtain ⟨ad115, e115, hx115_0⟩ := Kd.at_int HR0_0.out x7_2 p115 q115
          cases e115
          replace hx115_0 := hbc HB.out hx115_0; replace p115 := eq_true p115; replace q115 := eq_true q115; have hnb46 := NB112_110.out; have hnc46 := NB110_112.out; have hnb47 := NB112_111.out; have hnc47 := NB111_112.out
          have hcz48_0 := bc0 BK112.out
          have hfz48_0 := blk_frozen BK112.out 0
          go_wp2_with (first | ((with_reducible refine gate_builtin (b := .append) (xs := #[.tmp 63, .tmp 64]) rfl ?_); (try (refine gate_guard (by rfl) ?_; dsimp only)); at_builtin; refine Kd.R_append (Kd.int .i64) (w0 := w) w.heap.size rfl (.tmp 63) (.tmp 64) 58 3 (.int .i64 0) 8 rfl Try.underlying58 info3 rfl (by decide) (by omega) u113000 x113000_2 (-1) [.int .i64 (-1)] (fun _ => True) (fun _ => False) rfl rfl ?aP (fun _ hk => hk.elim) ?aF ?aO ?aB ?aS ?aL ?_; (case aP => exact rfl); (case aB => exact (hbT HB.out)); (case aF => exact (fun _ _ => trivial)); (case aO => exact (roT HO_113000.out)); (case aS => exact (below_size (hbT HB.out))); (case aL => have := LMc41.out; omega); intro v117 w49 ho hb hg hat; rw [← Ny116.out] at ho; replace BK109 := asT (blk_grown (g := gb109) (o := .cells #[.slice (some ad115) l0_0.length c0_0] 60 (0, 0)) (bkT BK109.out) hg (Kd.R_ne HO_113000.out BK109.out (by decide))); replace BK110 := asT (blk_grown (g := gb110) (o := .cells #[.slice A1_0 l1_0.length c1_0] 60 (0, 0)) (bkT BK110.out) hg (Kd.R_ne HO_113000.out BK110.out (by decide))); replace BK111 := asT (blk_grown (g := gb111) (o := .cells #[.slice none 0 0] 60 (0, 0)) (bkT BK111.out) hg (Kd.R_ne HO_113000.out BK111.out (by decide))); replace BK112 := asT (blk_grown (g := gb112) (o := .cells #[u113000] 60 (0, 0)) (bkT BK112.out) hg (Kd.R_ne HO_113000.out BK112.out (by decide))); replace HB := asT (hb); have HO118 := asT (ho); clear HO_113000 ho hb hg hat; obtain ⟨Ao50, co50, eo50⟩ := Kd.R_slice HO118.out; subst eo50; obtain ⟨hcz51_0, hfz51_0⟩ := bx1 BK112.out))
          go_roundg k2
          case measure => have := HJ2.out; have := HK2.out; omega
          case rel => exact ⟨(wrap64 (x7_2 + 1)), (y116), (.slice Ao50 y116.length co50), rdT, H', ⟨by have := HJ2.out; have := HK2.out; omega⟩, ⟨by (with_reducible repeat (first | apply Kd.R_alloc | apply Kd.R_drewN | apply Kd.R_drew)); exact Kd.R_mono (Kd.R_far (p := ⟨gb112, 0, none⟩) (Kd.R_types HO118.out BK112.out (by decide)) (fun _ hk => hk.2) (.slice Ao50 y116.length co50)) (fun _ hk => trivial)⟩, ⟨by (with_reducible repeat (first | refine blk_drewN ?_ _ | refine blk_drew ?_ | refine blk_alloc ?_ _)); refine blk_far ?_ NB109_112.out _; (with_reducible repeat (first | refine blk_drewN ?_ _ | refine blk_drew ?_ | refine blk_alloc ?_ _)); exact BK109.out⟩, ⟨by (with_reducible repeat (first | refine blk_drewN ?_ _ | refine blk_drew ?_ | refine blk_alloc ?_ _)); refine blk_far ?_ NB110_112.out _; (with_reducible repeat (first | refine blk_drewN ?_ _ | refine blk_drew ?_ | refine blk_alloc ?_ _)); exact BK110.out⟩, ⟨by (with_reducible repeat (first | refine blk_drewN ?_ _ | refine blk_drew ?_ | refine blk_alloc ?_ _)); refine blk_far ?_ NB111_112.out _; (with_reducible repeat (first | refine blk_drewN ?_ _ | refine blk_drew ?_ | refine blk_alloc ?_ _)); exact BK111.out⟩, ⟨by (with_reducible repeat (first | refine blk_drewN ?_ _ | refine blk_drew ?_ | refine blk_alloc ?_ _)); refine blk_put (cs := #[u113000]) ?_ 0 _ rfl; (with_reducible repeat (first | refine blk_drewN ?_ _ | refine blk_drew ?_ | refine blk_alloc ?_ _)); exact BK112.out⟩, ⟨hbT HB.out⟩⟩
         ·rw [if_neg c41] at H
          exact absurd H (by simp)
        ·rw [if_neg c40] at H
         have c40b0 : ((rd l0_0 x7_2) == (-1)) = false := beq_eq_false_iff_ne.mpr c40
         have c40b1 : ((rd l0_0 x7_2) != (-1)) = true := bne_iff_ne.mpr c40
         by_cases c52 : x7_2 < (l1_0.length : Int)
         ·rw [if_pos c52] at H
          have c52b0 : decide (x7_2 < (l1_0.length : Int)) = true := decide_eq_true c52
          clear c52
          by_cases c53 : (rd l1_0 x7_2) = (-1)
          ·rw [if_pos c53] at H
           have c53b0 : ((rd l1_0 x7_2) == (-1)) = true := beq_iff_eq.mpr c53
           have c53b1 : ((rd l1_0 x7_2) != (-1)) = false := bne_eq_false_iff_eq.mpr c53
           clear c53
           by_cases c54 : x113000_2.length < 17592186044416
           ·rw [if_pos c54] at H
            have LMc54 := Aside0.mk c54; clear c54; obtain ⟨y120, hy120⟩ : ∃ y_ : List Int, y_ = (x113000_2 ++ [(-1)]) := ⟨_, rfl⟩
            replace H : (spec_FuseRows.l0 k2 (wrap64 (x7_2 + 1)) l0_0 l1_0 y120) = some (r1, r2) := by first | (rw [hy120]; with_reducible exact H) | (have H2_ := (Option.bind_some _ _).symm.trans H; rw [hy120]; with_reducible exact H2_) | (have H2_ := (Option.bind_some _ _).symm.trans H; with_reducible exact H2_) | with_reducible exact H | (rw [hy120]; exact H) | exact H
            have Ny120 := Aside0.mk hy120; clear hy120; have H' := Aside0.mk H; clear H; have hnb55 := NB109_110.out; have hnc55 := NB110_109.out; have hnb56 := NB109_111.out; have hnc56 := NB111_109.out; have hnb57 := NB109_112.out; have hnc57 := NB112_109.out
            have hcz58_0 := bc0 BK109.out
            have hfz58_0 := blk_frozen BK109.out 0
            have p115 : 0 ≤ (x7_2 : Int) := of_decide_eq_true asmT
            have q115 : x7_2 < (l0_0.length : Int) := of_decide_eq_true asmT
            obtain ⟨ad115, e115, hx115_0⟩ := Kd.at_int HR0_0.out x7_2 p115 q115
            cases e115
            replace hx115_0 := hbc HB.out hx115_0; replace p115 := eq_true p115; replace q115 := eq_true q115; have hnb59 := NB110_111.out; have hnc59 := NB111_110.out; have hnb60 := NB110_112.out; have hnc60 := NB112_110.out
            have hcz61_0 := bc0 BK110.out
            have hfz61_0 := blk_frozen BK110.out 0
            have p119 : 0 ≤ (x7_2 : Int) := of_decide_eq_true asmT
            have q119 : x7_2 < (l1_0.length : Int) := of_decide_eq_true asmT
            obtain ⟨ad119, e119, hx119_0⟩ := Kd.at_int HR1_0.out x7_2 p119 q119
            cases e119
            replace hx119_0 := hbc HB.out hx119_0; replace p119 := eq_true p119; replace q119 := eq_true q119; have hnb62 := NB112_111.out; have hnc62 := NB111_112.out
            have hcz63_0 := bc0 BK112.out
            have hfz63_0 := blk_frozen BK112.out 0
            go_wp2_with (first | ((with_reducible refine gate_builtin (b := .append) (xs := #[.tmp 63, .tmp 64]) rfl ?_); (try (refine gate_guard (by rfl) ?_; dsimp only)); at_builtin; refine Kd.R_append (Kd.int .i64) (w0 := w) w.heap.size rfl (.tmp 63) (.tmp 64) 58 3 (.int .i64 0) 8 rfl Try.underlying58 info3 rfl (by decide) (by omega) u113000 x113000_2 (-1) [.int .i64 (-1)] (fun _ => True) (fun _ => False) rfl rfl ?aP (fun _ hk => hk.elim) ?aF ?aO ?aB ?aS ?aL ?_; (case aP => exact rfl); (case aB => exact (hbT HB.out)); (case aF => exact (fun _ _ => trivial)); (case aO => exact (roT HO_113000.out)); (case aS => exact (below_size (hbT HB.out))); (case aL => have := LMc54.out; omega); intro v121 w64 ho hb hg hat; rw [← Ny120.out] at ho; replace BK109 := asT (blk_grown (g := gb109) (o := .cells #[.slice (some ad115) l0_0.length c0_0] 60 (0, 0)) (bkT BK109.out) hg (Kd.R_ne HO_113000.out BK109.out (by decide))); replace BK110 := asT (blk_grown (g := gb110) (o := .cells #[.slice (some ad119) l1_0.length c1_0] 60 (0, 0)) (bkT BK110.out) hg (Kd.R_ne HO_113000.out BK110.out (by decide))); replace BK111 := asT (blk_grown (g := gb111) (o := .cells #[.slice none 0 0] 60 (0, 0)) (bkT BK111.out) hg (Kd.R_ne HO_113000.out BK111.out (by decide))); replace BK112 := asT (blk_grown (g := gb112) (o := .cells #[u113000] 60 (0, 0)) (bkT BK112.out) hg (Kd.R_ne HO_113000.out BK112.out (by decide))); replace HB := asT (hb); have HO122 := asT (ho); clear HO_113000 ho hb hg hat; obtain ⟨Ao65, co65, eo65⟩ := Kd.R_slice HO122.out; subst eo65; obtain ⟨hcz66_0, hfz66_0⟩ := bx1 BK112.out))
            go_roundg k2
            case measure => have := HJ2.out; have := HK2.out; omega
            case rel => exact ⟨(wrap64 (x7_2 + 1)), (y120), (.slice Ao65 y120.length co65), rdT, H', ⟨by have := HJ2.out; have := HK2.out; omega⟩, ⟨by (with_reducible repeat (first | apply Kd.R_alloc | apply Kd.R_drewN | apply Kd.R_drew)); exact Kd.R_mono (Kd.R_far (p := ⟨gb112, 0, none⟩) (Kd.R_types HO122.out BK112.out (by decide)) (fun _ hk => hk.2) (.slice Ao65 y120.length co65)) (fun _ hk => trivial)⟩, ⟨by (with_reducible repeat (first | refine blk_drewN ?_ _ | refine blk_drew ?_ | refine blk_alloc ?_ _)); refine blk_far ?_ NB109_112.out _; (with_reducible repeat (first | refine blk_drewN ?_ _ | refine blk_drew ?_ | refine blk_alloc ?_ _)); exact BK109.out⟩, ⟨by (with_reducible repeat (first | refine blk_drewN ?_ _ | refine blk_drew ?_ | refine blk_alloc ?_ _)); refine blk_far ?_ NB110_112.out _; (with_reducible repeat (first | refine blk_drewN ?_ _ | refine blk_drew ?_ | refine blk_alloc ?_ _)); exact BK110.out⟩, ⟨by (with_reducible repeat (first | refine blk_drewN ?_ _ | refine blk_drew ?_ | refine blk_alloc ?_ _)); refine blk_far ?_ NB111_112.out _; (with_reducible repeat (first | refine blk_drewN ?_ _ | refine blk_drew ?_ | refine blk_alloc ?_ _)); exact BK111.out⟩, ⟨by (with_reducible repeat (first | refine blk_drewN ?_ _ | refine blk_drew ?_ | refine blk_alloc ?_ _)); refine blk_put (cs := #[u113000]) ?_ 0 _ rfl; (with_reducible repeat (first | refine blk_drewN ?_ _ | refine blk_drew ?_ | refine blk_alloc ?_ _)); exact BK112.out⟩, ⟨hbT HB.out⟩⟩
           ·rw [if_neg c54] at H
            exact absurd H (by simp)
          ·rw [if_neg c53] at H
           have c53b0 : ((rd l1_0 x7_2) == (-1)) = false := beq_eq_false_iff_ne.mpr c53
           have c53b1 : ((rd l1_0 x7_2) != (-1)) = true := bne_iff_ne.mpr c53
           obtain ⟨ji67, hji67⟩ : ∃ j_ : Int, (mx (rd l0_0 x7_2) (rd l1_0 x7_2)) = j_ := ⟨_, rfl⟩
           replace H : (if x113000_2.length < 17592186044416 then (spec_FuseRows.l0 k2 (wrap64 (x7_2 + 1)) l0_0 l1_0 (x113000_2 ++ [ji67])) else (none)) = some (r1, r2) := by first | (rw [hji67] at H; exact H) | (simp only [hji67] at H ⊢; exact H)
           have hji67_ : (if (rd l0_0 x7_2) < (rd l1_0 x7_2) then (rd l1_0 x7_2) else (rd l0_0 x7_2)) = ji67 := hji67
           by_cases c68 : x113000_2.length < 17592186044416
           ·rw [if_pos c68] at H
            have LMc68 := Aside0.mk c68; clear c68; obtain ⟨y125, hy125⟩ : ∃ y_ : List Int, y_ = (x113000_2 ++ [ji67]) := ⟨_, rfl⟩
            replace H : (spec_FuseRows.l0 k2 (wrap64 (x7_2 + 1)) l0_0 l1_0 y125) = some (r1, r2) := by first | (rw [hy125]; with_reducible exact H) | (have H2_ := (Option.bind_some _ _).symm.trans H; rw [hy125]; with_reducible exact H2_) | (have H2_ := (Option.bind_some _ _).symm.trans H; with_reducible exact H2_) | with_reducible exact H | (rw [hy125]; exact H) | exact H
            have Ny125 := Aside0.mk hy125; clear hy125; have H' := Aside0.mk H; clear H; have hnb69 := NB109_110.out; have hnc69 := NB110_109.out; have hnb70 := NB109_111.out; have hnc70 := NB111_109.out; have hnb71 := NB109_112.out; have hnc71 := NB112_109.out
            have hcz72_0 := bc0 BK109.out
            have hfz72_0 := blk_frozen BK109.out 0
            have p115 : 0 ≤ (x7_2 : Int) := of_decide_eq_true asmT
            have q115 : x7_2 < (l0_0.length : Int) := of_decide_eq_true asmT
            obtain ⟨ad115, e115, hx115_0⟩ := Kd.at_int HR0_0.out x7_2 p115 q115
            cases e115
            replace hx115_0 := hbc HB.out hx115_0; replace p115 := eq_true p115; replace q115 := eq_true q115; have hnb73 := NB110_111.out; have hnc73 := NB111_110.out; have hnb74 := NB110_112.out; have hnc74 := NB112_110.out
            have hcz75_0 := bc0 BK110.out
            have hfz75_0 := blk_frozen BK110.out 0
            have p119 : 0 ≤ (x7_2 : Int) := of_decide_eq_true asmT
            have q119 : x7_2 < (l1_0.length : Int) := of_decide_eq_true asmT
            obtain ⟨ad119, e119, hx119_0⟩ := Kd.at_int HR1_0.out x7_2 p119 q119
            cases e119
            replace hx119_0 := hbc HB.out hx119_0; replace p119 := eq_true p119; replace q119 := eq_true q119
            try go_wp2
            replace HO_113000 := asT (Kd.R_drew HO_113000.out); replace BK109 := asT (blk_drew BK109.out); replace BK110 := asT (blk_drew BK110.out); replace BK111 := asT (blk_drew BK111.out); replace BK112 := asT (blk_drew BK112.out); replace HB := asT (below_drew1 HB.out)
            have p123 : 0 ≤ (x7_2 : Int) := of_decide_eq_true asmT
            have q123 : x7_2 < (l0_0.length : Int) := of_decide_eq_true asmT
            obtain ⟨ad123, e123, hx123_0⟩ := Kd.at_int HR0_0.out x7_2 p123 q123; have hw123_0 := hx123_0
            obtain rfl : ad115 = ad123 := (by injection e123)
            replace hx123_0 := hbc HB.out hx123_0; replace p123 := eq_true p123; replace q123 := eq_true q123
            have p124 : 0 ≤ (x7_2 : Int) := of_decide_eq_true asmT
            have q124 : x7_2 < (l1_0.length : Int) := of_decide_eq_true asmT
            obtain ⟨ad124, e124, hx124_0⟩ := Kd.at_int HR1_0.out x7_2 p124 q124; have hw124_0 := hx124_0
            obtain rfl : ad119 = ad124 := (by injection e124)
            replace hx124_0 := hbc HB.out hx124_0; replace p124 := eq_true p124; replace q124 := eq_true q124
            refine start_ (n := 17) (S := fun w' => w'.cell? ⟨gb112, 0, none⟩ = some (u113000) ∧ w'.cell? ⟨gb109, 0, none⟩ = some (.slice (some ad115) l0_0.length c0_0) ∧ w'.cell? ⟨gb110, 0, none⟩ = some (.slice (some ad119) l1_0.length c1_0) ∧ w'.cell? (ad115.add (x7_2).toNat) = some (.int .i64 (rd l0_0 x7_2)) ∧ w'.cell? (ad119.add (x7_2).toNat) = some (.int .i64 (rd l1_0 x7_2))) (ds := [16]) (bA 17 0) (by kernel_rfl) rfl rfl ⟨bc0 BK112.out, bc0 BK109.out, bc0 BK110.out, (hbc HB.out hw123_0 :), (hbc HB.out hw124_0 :)⟩ (fun hHeld => ?_); refine with_tabW spec_FuseRows.tab7 spec_FuseRows.bits7 (fun HT_ HW_ => ?_)
            generalize wr.drew = w76 at HO_113000 BK109 BK110 BK111 BK112 HB hx123_0 hx124_0 hHeld ⊢
            refine pA 0 31 17 1 HT_.out ?_ rfl rfl; refine pA 2 33 17 5 HT_.out ?_ rfl rfl; refine pA 4 35 17 21 HT_.out ?_ rfl rfl; refine pA 7 38 17 149 HT_.out ?_ rfl rfl; refine pA 9 40 17 661 HT_.out ?_ rfl rfl; refine tA 1 32 17 663 HT_.out HW_.out hHeld ?_ rfl rfl; refine tA 3 34 17 671 HT_.out HW_.out hHeld ?_ rfl rfl; refine pA 5 36 17 703 HT_.out ?_ rfl rfl; refine tA 6 37 17 767 HT_.out HW_.out hHeld ?_ rfl rfl; refine tA 8 39 17 1023 HT_.out HW_.out hHeld ?_ rfl rfl; refine pA 10 41 17 2047 HT_.out ?_ rfl rfl; refine tA 11 42 17 4095 HT_.out HW_.out hHeld ?_ rfl rfl; refine pA 12 43 17 8191 HT_.out ?_ rfl rfl
            refine oA 13 44 17 16383 HT_.out (fun K hK => ?_) rfl rfl
            refine value_ (w1 := ?_) (v := ?_) (by rfl) rfl ?_ ?_
            rotate_left 2
            ·go_simp
             constructor
             ·rfl
             ·rfl
            refine hK.out _ _ ⟨(blk_cell (blk_alloc BK112.out _) 0).trans rfl, (blk_cell (blk_alloc BK109.out _) 0).trans rfl, (blk_cell (blk_alloc BK110.out _) 0).trans rfl, (World.cell?_alloc_lt _ _ _ (World.block_lt_of_cell? _ _ (((HB.out.cell (World.block_lt_of_cell? w _ hw123_0)).trans hw123_0)))).trans (((HB.out.cell (World.block_lt_of_cell? w _ hw123_0)).trans hw123_0)), (World.cell?_alloc_lt _ _ _ (World.block_lt_of_cell? _ _ (((HB.out.cell (World.block_lt_of_cell? w _ hw124_0)).trans hw124_0)))).trans (((HB.out.cell (World.block_lt_of_cell? w _ hw124_0)).trans hw124_0))⟩ (fun hHeld => ?_)
            clear hK K
            refine nB 44 ?_ rfl
            refine oA 14 45 17 32767 HT_.out (fun K hK => ?_) rfl rfl
            refine Kd.R_append_step (Kd.int .i64) (w0 := w) w.heap.size (by rfl) (.tmp 32) (.tmp 44) 58 3 (.int .i64 0) 8 rfl Try.underlying58 info3 rfl (by decide) (by omega) u113000 x113000_2 ji67 [.int .i64 ji67] (fun _ => True) (fun _ => False) rfl rfl ?aP (fun _ hk => hk.elim) ?aF ?aO ?aB ?aS ?aL ?_
            (case aP => exact rfl)
            (case aB => exact (hbT HB.out))
            (case aF => exact (fun _ _ => trivial))
            (case aO => exact (roT HO_113000.out))
            (case aS => exact (below_size (hbT HB.out)))
            (case aL => have := LMc68.out; omega)
            intro v126 w77 ho hb hg hat
            rw [← Ny125.out] at ho; replace BK109 := asT (blk_grown (g := gb109) (o := .cells #[.slice (some ad115) l0_0.length c0_0] 60 (0, 0)) (bkT BK109.out) hg (Kd.R_ne HO_113000.out BK109.out (by decide))); replace BK110 := asT (blk_grown (g := gb110) (o := .cells #[.slice (some ad119) l1_0.length c1_0] 60 (0, 0)) (bkT BK110.out) hg (Kd.R_ne HO_113000.out BK110.out (by decide))); replace BK111 := asT (blk_grown (g := gb111) (o := .cells #[.slice none 0 0] 60 (0, 0)) (bkT BK111.out) hg (Kd.R_ne HO_113000.out BK111.out (by decide))); replace BK112 := asT (blk_grown (g := gb112) (o := .cells #[u113000] 60 (0, 0)) (bkT BK112.out) hg (Kd.R_ne HO_113000.out BK112.out (by decide))); replace HB := asT (hb); have HO127 := asT (ho); clear HO_113000 ho hb hg hat; obtain ⟨Ao78, co78, eo78⟩ := Kd.R_slice HO127.out; (first | subst eo78 | (injection eo78 with f1_ f2_ f3_; have f4_ := f1_.symm; have f5_ := f3_.symm; clear f1_ f2_ f3_; subst f4_; subst f5_))
            refine hK.out _ _ ⟨bc0 BK112.out, bc0 BK109.out, bc0 BK110.out, (hbc HB.out hw123_0 :), (hbc HB.out hw124_0 :)⟩ (fun hHeld => ?_)
            clear hK K
            refine nB 45 ?_ rfl; refine pA 15 46 17 65535 HT_.out ?_ rfl rfl
            refine last_ (i := 16) (N := none) (bA 17 131071) rfl rfl (one_of HT_.out (by kernel_rfl)) (by decide) (fun K hK => ?_)
            have hs79 : w77.cell? ⟨gb112, 0, none⟩ = some (u113000) := (blk_cell BK112.out 0).trans rfl
            have hfs79 := blk_frozen BK112.out 0; have hns79_0 := NB109_112.out; have hns79_1 := NB110_112.out; have hns79_2 := NB111_112.out; have hms79_0 := NB112_109.out; have hms79_1 := NB112_110.out; have hms79_2 := NB112_111.out
            refine skip_ (w1 := ?_) (by rfl) rfl ?_ ?_
            rotate_left
            ·go_simp
             rfl
            refine hK.out _ _ ?_
            clear hK K
            refine done_ (done_of HT_.out (by kernel_rfl)) ?_
            try go_wp2
            go_roundg k2
            case measure => have := HJ2.out; have := HK2.out; omega
            case rel => exact ⟨(wrap64 (x7_2 + 1)), (y125), (.slice Ao78 y125.length co78), rdT, H', ⟨by have := HJ2.out; have := HK2.out; omega⟩, ⟨by (with_reducible repeat (first | apply Kd.R_alloc | apply Kd.R_drewN | apply Kd.R_drew)); exact Kd.R_mono (Kd.R_far (p := ⟨gb112, 0, none⟩) (Kd.R_types HO127.out BK112.out (by decide)) (fun _ hk => hk.2) (.slice Ao78 y125.length co78)) (fun _ hk => trivial)⟩, ⟨by (with_reducible repeat (first | refine blk_drewN ?_ _ | refine blk_drew ?_ | refine blk_alloc ?_ _)); refine blk_far ?_ NB109_112.out _; (with_reducible repeat (first | refine blk_drewN ?_ _ | refine blk_drew ?_ | refine blk_alloc ?_ _)); exact BK109.out⟩, ⟨by (with_reducible repeat (first | refine blk_drewN ?_ _ | refine blk_drew ?_ | refine blk_alloc ?_ _)); refine blk_far ?_ NB110_112.out _; (with_reducible repeat (first | refine blk_drewN ?_ _ | refine blk_drew ?_ | refine blk_alloc ?_ _)); exact BK110.out⟩, ⟨by (with_reducible repeat (first | refine blk_drewN ?_ _ | refine blk_drew ?_ | refine blk_alloc ?_ _)); refine blk_far ?_ NB111_112.out _; (with_reducible repeat (first | refine blk_drewN ?_ _ | refine blk_drew ?_ | refine blk_alloc ?_ _)); exact BK111.out⟩, ⟨by (with_reducible repeat (first | refine blk_drewN ?_ _ | refine blk_drew ?_ | refine blk_alloc ?_ _)); refine blk_put (cs := #[u113000]) ?_ 0 _ rfl; (with_reducible repeat (first | refine blk_drewN ?_ _ | refine blk_drew ?_ | refine blk_alloc ?_ _)); exact BK112.out⟩, ⟨hbT HB.out⟩⟩
           ·rw [if_neg c68] at H
            exact absurd H (by simp)
         ·rw [if_neg c52] at H
          exact absurd H (by simp)
       ·rw [if_neg c39] at H
        exact absurd H (by simp)
      ·rw [if_neg c38] at H
       have c38b0 : decide (x7_2 < (l0_0.length : Int)) = false := decide_eq_false c38
       clear c38
       simp only [Option.some.injEq, Prod.mk.injEq] at H
       obtain ⟨rfl, rfl⟩ := H; have hnb80 := NB109_110.out; have hnc80 := NB110_109.out; have hnb81 := NB109_111.out; have hnc81 := NB111_109.out; have hnb82 := NB109_112.out; have hnc82 := NB112_109.out
       have hcz83_0 := bc0 BK109.out
       have hfz83_0 := blk_frozen BK109.out 0; have hnb84 := NB112_110.out; have hnc84 := NB110_112.out; have hnb85 := NB112_111.out; have hnc85 := NB111_112.out
       have hcz86_0 := bc0 BK112.out
       have hfz86_0 := blk_frozen BK112.out 0; obtain ⟨Ao87, co87, eo87⟩ := Kd.R_slice HO_113000.out; subst eo87; have hnb88 := NB111_110.out; have hnc88 := NB110_111.out
       have hcz89_0 := bc0 BK111.out
       have hfz89_0 := blk_frozen BK111.out 0
       go_wp2
       refine bodyPost_ret (results_ct rfl _ _ gb111 60 #[.slice Ao87 x113000_2.length co87] (0, 0) _ rfl (by (with_reducible repeat (first | refine blk_drewN ?_ _ | refine blk_drew ?_ | refine blk_alloc ?_ _)); refine blk_put (cs := #[.slice none 0 0]) ?_ 0 _ rfl; (with_reducible repeat (first | refine blk_drewN ?_ _ | refine blk_drew ?_ | refine blk_alloc ?_ _)); exact BK111.out) Try.underlying60 rfl (by kernel_rfl)) rfl ?_
       exact ⟨_, rlT, by (with_reducible repeat (first | apply Kd.R_alloc | apply Kd.R_drewN | apply Kd.R_drew)); exact Kd.R_mono (Kd.R_far (p := ⟨gb111, 0, none⟩) (Kd.R_types HO_113000.out BK111.out (by decide)) (fun _ hk => hk.2) (.slice Ao87 x113000_2.length co87)) (fun _ hk => trivial), hbT HB.out⟩

/-! ### spec_FuseAll: function 56 -/
mutual
def spec_FuseAll.j0 : Nat → List (S60) → Bool → Option (List Int × Bool)
 | 0, _, _ => none
 | k + 1, x0, x27 => if x27 = true then (some (([] : List Int), false)) else ((some (([] : List Int) : List Int)).bind fun y132 => (if 0 < (x0.length : Int) then (if y132.length + ((rd_T60 x0 0).f0).length < 17592186044416 then (spec_FuseAll.l0 k x0 1 (y132 ++ ((rd_T60 x0 0).f0))) else (none)) else (none)))
def spec_FuseAll.l0 : Nat → List (S60) → Int → List Int → Option (List Int × Bool)
 | 0, _, _, _ => none
 | k + 1, x0, x5, x140000 => if x5 < (x0.length : Int) then (if 0 ≤ x5 then ((spec_FuseRows.f k x140000 ((rd_T60 x0 x5).f0)).bind fun bt141 => (if bt141.2 = true then (spec_FuseAll.l0 k x0 (wrap64 (x5 + 1)) bt141.1) else (some (([] : List Int), false)))) else (none)) else (some (x140000, true))
end
def spec_FuseAll.f (k : Nat) (l0 : List (S60)) : Option (List Int × Bool) := if (l0.length : Int) = 0 then (spec_FuseAll.j0 k l0 true) else (if (l0.length : Int) > 20 then (spec_FuseAll.j0 k l0 true) else (if 0 < (l0.length : Int) then ((spec_IsRow.f k ((rd_T60 l0 0).f0) (((rd_T60 l0 0).f0).length : Int)).bind fun t131 => (spec_FuseAll.j0 k l0 (!t131))) else (none)))
theorem spec_FuseAll.mono_l : ∀ k, (∀ y0 y1, LeO (spec_FuseAll.j0 k y0 y1) (spec_FuseAll.j0 (k + 1) y0 y1)) ∧ (∀ y0 y1 y2, LeO (spec_FuseAll.l0 k y0 y1 y2) (spec_FuseAll.l0 (k + 1) y0 y1 y2))
 | 0 => ⟨fun _ _ r h => by simp [spec_FuseAll.j0] at h, fun _ _ _ r h => by simp [spec_FuseAll.l0] at h⟩
 | k + 1 => by
  obtain ⟨ih0, ih1⟩ := spec_FuseAll.mono_l k; refine ⟨?_, ?_⟩
  ·intro y0 y1
   unfold spec_FuseAll.j0
   with_reducible repeat' first | exact ih0 _ _ | exact ih1 _ _ _ | exact spec_FuseRows.mono _ _ _ | exact spec_IsRow.mono _ _ _ | exact LeO.refl _ | exact LeO.none _ | refine LeO.ite ?_ ?_ | refine LeO.bind ?_ (fun _ => ?_)
  ·intro y0 y1 y2
   unfold spec_FuseAll.l0
   with_reducible repeat' first | exact ih0 _ _ | exact ih1 _ _ _ | exact spec_FuseRows.mono _ _ _ | exact spec_IsRow.mono _ _ _ | exact LeO.refl _ | exact LeO.none _ | refine LeO.ite ?_ ?_ | refine LeO.bind ?_ (fun _ => ?_)
theorem spec_FuseAll.mono : ∀ a0 k, LeO (spec_FuseAll.f k a0) (spec_FuseAll.f (k + 1) a0) := by
 intro a0 k
 obtain ⟨ih0, ih1⟩ := spec_FuseAll.mono_l k
 unfold spec_FuseAll.f
 with_reducible repeat' first | exact ih0 _ _ | exact ih1 _ _ _ | exact spec_FuseRows.mono _ _ _ | exact spec_IsRow.mono _ _ _ | exact LeO.refl _ | exact LeO.none _ | refine LeO.ite ?_ ?_ | refine LeO.bind ?_ (fun _ => ?_)
def spec_FuseAll.T1 : Bool × List (List Nat × List Nat) := (true, [([], []), ([0], [0]), ([1], [1]), ([2], [2]), ([3], [3]), ([4, 3], [3, 4]), ([5, 3], [3, 5]), ([3, 6], [3, 6]), ([7, 3], [7]), ([8], [8]), ([9, 8], [8, 9]), ([10, 8], [8, 10]), ([8], [8]), ([12, 8], [8, 12]), ([13, 8], [8, 13]), ([14, 8], [8, 14]), ([15, 8], [8, 15]), ([11, 16, 8, 8], [8, 11, 16]), ([17, 8], [8, 17]), ([8, 18], [8, 18])])
def spec_FuseAll.B1 : List Nat := [0, 1, 3, 7, 15, 31, 63, 127, 255, 511, 1023, 2047, 511, 4607, 12799, 29183, 61951, 131071, 262143, 524287]
theorem spec_FuseAll.tab1 : rtab .any (opsOf Try.f56 1) = spec_FuseAll.T1 := by kernel_rfl
theorem spec_FuseAll.bits1 : waitsOk spec_FuseAll.T1.2 spec_FuseAll.B1 = true := by kernel_rfl
def spec_FuseAll.T7 : Bool × List (List Nat × List Nat) := (true, [([], []), ([], []), ([], []), ([1, 2], [1, 2]), ([3], [3]), ([0, 4], [0, 4]), ([5], [5]), ([6], [6]), ([6], [6]), ([], []), ([9, 7, 5, 0, 1, 2, 3, 4, 5, 6, 7, 9], [7, 9]), ([8, 10, 0, 1, 2, 3, 4, 5, 6, 7, 8, 9, 10], [8])])
def spec_FuseAll.B7 : List Nat := [0, 0, 0, 6, 14, 31, 63, 127, 127, 0, 767, 2047]
theorem spec_FuseAll.tab7 : rtab .any (opsOf Try.f56 7) = spec_FuseAll.T7 := by kernel_rfl
theorem spec_FuseAll.bits7 : waitsOk spec_FuseAll.T7.2 spec_FuseAll.B7 = true := by kernel_rfl
set_option maxHeartbeats 8000000 in
set_option maxRecDepth 100000 in
theorem spec_FuseAll.calls (k : Nat) (A0 : Option Addr) (c0 : Nat) (l0 : List (S60)) (r1 : List Int) (r2 : Bool) (w : World) (hr0 : Kd.C k60 w A0 l0.length l0) (hc0 : l0.length ≤ c0) (h : spec_FuseAll.f k l0 = some (r1, r2)) :
  Calls Try.prog 56 #[.slice A0 l0.length c0] w fun e w' => ∃ v0_ : Value, e = .returned (.tuple #[.agg #[v0_], .bool r2]) ∧ Kd.R (Kd.int .i64) 3 w' w.heap.size (fun _ => True) v0_ r1 ∧ Below w.heap.size w w' := by
 have hu60 := Try.underlying60; have HR0 := Aside0.mk hr0; have HC0 := Aside0.mk hc0; clear hr0 hc0; have HB := asT (Below.refl w.heap.size w); have H := h; unfold spec_FuseAll.f at H; clear h; have HC2 := Aside0.mk H; clear H
 go_enter Try.func56, Try.ntmps56
 go_upto_region 1 with (first | ((with_reducible refine gate_dst (N := 2) rfl ?_); (try (refine gate_guard (by rfl) ?_; dsimp only)); refine boxT (N := 2) (cs := #[.slice none 0 0]) (t := 60) ?_; intro gb128 hg w3 hbox hb; have BK128 := asT hbox; have GW128 := asT (geT hg HB.out); have GE128 := GW128; replace HB := hS HB hb; clear hb hbox hg))
 (try simp only [Act.put, sA, sZ, sS])
 go_cut [27] (fun v27 wc => ∃ (kq : Nat) (x27_1 : Bool), v27 = .bool x27_1 ∧ Aside0 (spec_FuseAll.j0 kq l0 x27_1 = some (r1, r2)) ∧ Aside0 (kq ≤ k) ∧ Aside0 (wc.heap[gb128]? = some (.cells #[(.slice none 0 0)] 60 (0, 0))) ∧ Aside0 (Below w.heap.size w wc))
 case first =>
  have H := HC2.out; clear HC2
  by_cases c4 : (l0.length : Int) = 0
  ·rw [if_pos c4] at H
   have c4b0 : ((l0.length : Int) == 0) = true := beq_iff_eq.mpr c4
   have c4b1 : ((l0.length : Int) != 0) = false := bne_eq_false_iff_eq.mpr c4
   clear c4
   (first | rw [c4b0] | (simp only [i64_w, i32_w]; rw [c4b0]) | skip)
   have H' := Aside0.mk H; clear H
   try go_wp2
   replace BK128 := asT (blk_drew BK128.out); replace HB := asT (below_drew1 HB.out)
   refine start_ (n := 20) (S := fun w' => True) (ds := []) (bA 20 0) (by kernel_rfl) rfl rfl trivial (fun hHeld => ?_); refine with_tabW spec_FuseAll.tab1 spec_FuseAll.bits1 (fun HT_ HW_ => ?_)
   generalize w3.drew = w5 at BK128 HB hHeld ⊢
   refine pA 0 8 20 1 HT_.out ?_ rfl rfl; refine pA 1 9 20 3 HT_.out ?_ rfl rfl; refine pA 2 10 20 7 HT_.out ?_ rfl rfl; refine pA 3 11 20 15 HT_.out ?_ rfl rfl; refine uA 4 12 20 31 HT_.out ?_ rfl rfl; refine uA 5 13 20 63 HT_.out ?_ rfl rfl; refine uA 6 14 20 127 HT_.out ?_ rfl rfl; refine pA 7 15 20 255 HT_.out ?_ rfl rfl; refine pA 8 16 20 511 HT_.out ?_ rfl rfl; refine uA 9 17 20 1023 HT_.out ?_ rfl rfl; refine uA 10 18 20 2047 HT_.out ?_ rfl rfl; refine uA 11 19 20 4095 HT_.out ?_ rfl rfl; refine uA 12 20 20 8191 HT_.out ?_ rfl rfl; refine uA 13 21 20 16383 HT_.out ?_ rfl rfl; refine uA 14 22 20 32767 HT_.out ?_ rfl rfl; refine uA 15 23 20 65535 HT_.out ?_ rfl rfl; refine uA 16 24 20 131071 HT_.out ?_ rfl rfl; refine uA 17 25 20 262143 HT_.out ?_ rfl rfl; refine uA 18 26 20 524287 HT_.out ?_ rfl rfl; refine pA 19 27 20 1048575 HT_.out ?_ rfl rfl
   refine done_ (done_of HT_.out (by kernel_rfl)) ?_
   try go_wp2
   go_meet
   case rel => exact ⟨_, (true), rdT, H', ⟨by first | omega | exact Nat.le_refl _⟩, ⟨by (with_reducible repeat (first | refine blk_drewN ?_ _ | refine blk_drew ?_ | refine blk_alloc ?_ _)); exact BK128.out⟩, ⟨hbT HB.out⟩⟩
  ·rw [if_neg c4] at H
   have c4b0 : ((l0.length : Int) == 0) = false := beq_eq_false_iff_ne.mpr c4
   have c4b1 : ((l0.length : Int) != 0) = true := bne_iff_ne.mpr c4
   have c4b2 : ¬ (l0 = []) := fun h_ => c4 (by rw [h_]; rfl)
   (first | rw [c4b0] | (simp only [i64_w, i32_w]; rw [c4b0]) | skip)
   by_cases c6 : (l0.length : Int) > 20
   ·rw [if_pos c6] at H
    have c6b0 : decide (20 < (l0.length : Int)) = true := decide_eq_true c6
    have c6b1 : decide (20 < l0.length) = true := decide_eq_true (by omega)
    clear c6; have H' := Aside0.mk H; clear H
    try go_wp2
    replace BK128 := asT (blk_drew BK128.out); replace HB := asT (below_drew1 HB.out)
    refine start_ (n := 20) (S := fun w' => True) (ds := []) (bA 20 0) (by kernel_rfl) rfl rfl trivial (fun hHeld => ?_); refine with_tabW spec_FuseAll.tab1 spec_FuseAll.bits1 (fun HT_ HW_ => ?_)
    generalize w3.drew = w7 at BK128 HB hHeld ⊢
    refine pA 0 8 20 1 HT_.out ?_ rfl rfl; refine pA 1 9 20 3 HT_.out ?_ rfl rfl; refine pA 2 10 20 7 HT_.out ?_ rfl rfl; refine pA 3 11 20 15 HT_.out ?_ rfl rfl; refine pA 4 12 20 31 HT_.out ?_ rfl rfl; refine pA 5 13 20 63 HT_.out ?_ rfl rfl; refine pA 6 14 20 127 HT_.out ?_ rfl rfl; refine pA 7 15 20 255 HT_.out ?_ rfl rfl; refine pA 8 16 20 511 HT_.out ?_ rfl rfl; refine uA 9 17 20 1023 HT_.out ?_ rfl rfl; refine uA 10 18 20 2047 HT_.out ?_ rfl rfl; refine uA 11 19 20 4095 HT_.out ?_ rfl rfl; refine uA 12 20 20 8191 HT_.out ?_ rfl rfl; refine uA 13 21 20 16383 HT_.out ?_ rfl rfl; refine uA 14 22 20 32767 HT_.out ?_ rfl rfl; refine uA 15 23 20 65535 HT_.out ?_ rfl rfl; refine uA 16 24 20 131071 HT_.out ?_ rfl rfl; refine uA 17 25 20 262143 HT_.out ?_ rfl rfl; refine uA 18 26 20 524287 HT_.out ?_ rfl rfl; refine pA 19 27 20 1048575 HT_.out ?_ rfl rfl
    refine done_ (done_of HT_.out (by kernel_rfl)) ?_
    try go_wp2
    go_meet
    case rel => exact ⟨_, (true), rdT, H', ⟨by first | omega | exact Nat.le_refl _⟩, ⟨by (with_reducible repeat (first | refine blk_drewN ?_ _ | refine blk_drew ?_ | refine blk_alloc ?_ _)); exact BK128.out⟩, ⟨hbT HB.out⟩⟩
   ·rw [if_neg c6] at H
    have c6b0 : decide (20 < (l0.length : Int)) = false := decide_eq_false c6
    have c6b1 : decide (20 < l0.length) = false := decide_eq_false (by omega)
    clear c6
    by_cases c8 : 0 < (l0.length : Int)
    ·rw [if_pos c8] at H
     have c8b0 : decide (0 < (l0.length : Int)) = true := decide_eq_true c8
     have c8b1 : decide (0 < l0.length) = true := decide_eq_true (by omega)
     clear c8; obtain ⟨t131, A9, H⟩ := be H; have H' := Aside0.mk H; clear H
     try go_wp2
     replace BK128 := asT (blk_drew BK128.out); replace HB := asT (below_drew1 HB.out)
     have p129 : 0 ≤ (0 : Int) := (by omega)
     have q129 : 0 < (l0.length : Int) := of_decide_eq_true asmT
     obtain ⟨ad129, A129_0, c129_0, e129, hx129_0, hl129_0, hi129_0⟩ := at_T60 HR0.out 0 p129 q129; have hw129_0 := hx129_0
     (try rw [show ((0 : Int)).toNat = 0 from rfl] at hw129_0)
     (try rw [show 0 * 1 = 0 from rfl] at hw129_0)
     (try rw [Addr.add_zero'] at hw129_0)
     cases e129
     have qi129 : (0 < l0.length) = True := eq_true (by omega)
     (try rw [show ((0 : Int)).toNat = 0 from rfl] at hx129_0)
     (try rw [Addr.add_zero'] at hx129_0)
     replace hx129_0 := hbc HB.out hx129_0; have HR129_0 := Aside0.mk hi129_0; have HC129_0 := Aside0.mk hl129_0; clear hi129_0 hl129_0; replace p129 := eq_true p129; replace q129 := eq_true q129
     have p130 : 0 ≤ (0 : Int) := (by omega)
     have q130 : 0 < (l0.length : Int) := of_decide_eq_true asmT
     obtain ⟨ad130, A130_0, c130_0, e130, hx130_0, hl130_0, hi130_0⟩ := at_T60 HR0.out 0 p130 q130; have hw130_0 := hx130_0
     (try rw [show ((0 : Int)).toNat = 0 from rfl] at hw130_0)
     (try rw [show 0 * 1 = 0 from rfl] at hw130_0)
     (try rw [Addr.add_zero'] at hw130_0)
     obtain rfl : ad129 = ad130 := (by injection e130)
     have qi130 : (0 < l0.length) = True := eq_true (by omega)
     (try rw [show ((0 : Int)).toNat = 0 from rfl] at hx130_0)
     (try rw [Addr.add_zero'] at hx130_0)
     replace hx130_0 := hbc HB.out hx130_0; have HR130_0 := Aside0.mk hi130_0; have HC130_0 := Aside0.mk hl130_0; clear hi130_0 hl130_0; replace p130 := eq_true p130; replace q130 := eq_true q130; have ea_ := Option.some.inj (hx129_0.symm.trans hx130_0)
     injection ea_ with ea_ en_ ec_
     subst ea_; subst ec_; clear en_
     refine start_ (n := 20) (S := fun w' => w'.cell? ad129 = some (.slice A129_0 ((rd_T60 l0 0).f0).length c129_0) ∧ w'.cell? ad129 = some (.slice A129_0 ((rd_T60 l0 0).f0).length c129_0)) (ds := []) (bA 20 0) (by kernel_rfl) rfl rfl ⟨(hbc HB.out hw129_0 :), (hbc HB.out hw130_0 :)⟩ (fun hHeld => ?_); refine with_tabW spec_FuseAll.tab1 spec_FuseAll.bits1 (fun HT_ HW_ => ?_)
     generalize w3.drew = w10 at BK128 HB HR129_0 HR130_0 hx129_0 hx130_0 hHeld ⊢
     refine pA 0 8 20 1 HT_.out ?_ rfl rfl; refine pA 1 9 20 3 HT_.out ?_ rfl rfl; refine pA 2 10 20 7 HT_.out ?_ rfl rfl; refine pA 3 11 20 15 HT_.out ?_ rfl rfl; refine pA 4 12 20 31 HT_.out ?_ rfl rfl; refine pA 5 13 20 63 HT_.out ?_ rfl rfl; refine pA 6 14 20 127 HT_.out ?_ rfl rfl; refine pA 7 15 20 255 HT_.out ?_ rfl rfl; refine pA 8 16 20 511 HT_.out ?_ rfl rfl; refine pA 9 17 20 1023 HT_.out ?_ rfl rfl; refine pA 10 18 20 2047 HT_.out ?_ rfl rfl; refine pA 12 20 20 6143 HT_.out ?_ rfl rfl; refine pA 13 21 20 14335 HT_.out ?_ rfl rfl; refine pA 14 22 20 30719 HT_.out ?_ rfl rfl; refine tA 11 19 20 32767 HT_.out HW_.out hHeld ?_ rfl rfl; refine tA 15 23 20 65535 HT_.out HW_.out hHeld ?_ rfl rfl; refine pA 16 24 20 131071 HT_.out ?_ rfl rfl
     refine oA 17 25 20 262143 HT_.out (fun K hK => ?_) rfl rfl
     refine goes_ Try.func113 (by kernel_rfl) rfl #[.agg #[.slice A129_0 ((rd_T60 l0 0).f0).length c129_0], .int .i64 (((rd_T60 l0 0).f0).length : Int)] (by rfl) rfl rfl eqT ?_
     (with_reducible refine (spec_IsRow.calls k _ _ ((rd_T60 l0 0).f0) (((rd_T60 l0 0).f0).length : Int) t131 _ ?side1 ?side2 A9.out).mono ?_); (case side1 => exact crT HR129_0.out HB.out); (case side2 => exact HC129_0.out); rintro e w11 ⟨rfl, hb⟩; refine ⟨_, rfl, ?_⟩; replace BK128 := bS BK128 hb; replace HB := hS HB hb; (try clear hb hb2 hk hi)
     refine hK.out _ _ ⟨(hbc HB.out hw129_0 :), (hbc HB.out hw130_0 :)⟩ (fun hHeld => ?_)
     clear hK K
     refine nB 25 ?_ rfl; refine pA 18 26 20 524287 HT_.out ?_ rfl rfl; refine pA 19 27 20 1048575 HT_.out ?_ rfl rfl
     refine done_ (done_of HT_.out (by kernel_rfl)) ?_
     try go_wp2
     go_meet
     case rel => exact ⟨_, (!t131), rdT, H', ⟨by first | omega | exact Nat.le_refl _⟩, ⟨by (with_reducible repeat (first | refine blk_drewN ?_ _ | refine blk_drew ?_ | refine blk_alloc ?_ _)); exact BK128.out⟩, ⟨hbT HB.out⟩⟩
    ·rw [if_neg c8] at H
     exact absurd H (by simp)
 case rest =>
  clear HC2; (try clear c1 p1 q1 hx1 qi1 p2 c4 c4b0 c4b1 c4b2 c5 c6 c6b0 c6b1 c8 c8b0 c8b1 c11 hx129_0 hx130_0 p129 p130 q129 q130); obtain ⟨kq, x27_1, rfl, HA, HJ1, BK128, HB⟩ := hcut
  cases kq with
  | zero => exact absurd HA.out (by simp [spec_FuseAll.j0])
  | succ kj1 =>
   have H := HA.out; clear HA
   simp only [spec_FuseAll.j0] at H
   by_cases c12 : x27_1 = true
   ·subst c12
    rw [if_pos rfl] at H; have H1 := H; clear H; have H := H1; clear H1
    simp only [Option.some.injEq, Prod.mk.injEq] at H
    obtain ⟨rfl, rfl⟩ := H
    have hcz13_0 := bc0 BK128.out
    have hfz13_0 := blk_frozen BK128.out 0
    go_wp2
    refine bodyPost_ret (results_ct rfl _ _ gb128 60 #[.slice none 0 0] (0, 0) _ rfl (by (with_reducible repeat (first | refine blk_drewN ?_ _ | refine blk_drew ?_ | refine blk_alloc ?_ _)); refine blk_put (cs := #[.slice none 0 0]) ?_ 0 _ rfl; (with_reducible repeat (first | refine blk_drewN ?_ _ | refine blk_drew ?_ | refine blk_alloc ?_ _)); exact BK128.out) Try.underlying60 rfl (by kernel_rfl)) rfl ?_
    exact ⟨_, rlT, by first | exact Kd.R_nil _ _ _ _ _ | exact Kd.N_nil _ _ _ _ _ | exact Kd.V_nil _ _ _ _ _ | exact Kd.Q_nil _ _ _ _ _ | exact Kd.S_nil _ _ _ _ _, hbT HB.out⟩
   ·replace c12 := Bool.eq_false_iff.mpr c12
    subst c12; rw [if_neg nF] at H; obtain ⟨y132, hy132⟩ : ∃ y_ : List Int, y_ = (([] : List Int)) := ⟨_, rfl⟩
    replace H : (if 0 < (l0.length : Int) then (if y132.length + ((rd_T60 l0 0).f0).length < 17592186044416 then (spec_FuseAll.l0 kj1 l0 1 (y132 ++ ((rd_T60 l0 0).f0))) else (none)) else (none)) = some (r1, r2) := by first | (rw [hy132]; with_reducible exact H) | (have H2_ := (Option.bind_some _ _).symm.trans H; rw [hy132]; with_reducible exact H2_) | (have H2_ := (Option.bind_some _ _).symm.trans H; with_reducible exact H2_) | with_reducible exact H | (rw [hy132]; exact H) | exact H
    have Ny132 := Aside0.mk hy132; clear hy132
    by_cases c14 : 0 < (l0.length : Int)
    ·rw [if_pos c14] at H
     have c14b0 : decide (0 < (l0.length : Int)) = true := decide_eq_true c14
     have c14b1 : decide (0 < l0.length) = true := decide_eq_true (by omega)
     clear c14
     by_cases c15 : y132.length + ((rd_T60 l0 0).f0).length < 17592186044416
     ·rw [if_pos c15] at H
      have LMc15 := Aside0.mk c15; clear c15; obtain ⟨y136, hy136⟩ : ∃ y_ : List Int, y_ = (y132 ++ ((rd_T60 l0 0).f0)) := ⟨_, rfl⟩
      replace H : (spec_FuseAll.l0 kj1 l0 1 y136) = some (r1, r2) := by first | (rw [hy136]; with_reducible exact H) | (have H2_ := (Option.bind_some _ _).symm.trans H; rw [hy136]; with_reducible exact H2_) | (have H2_ := (Option.bind_some _ _).symm.trans H; with_reducible exact H2_) | with_reducible exact H | (rw [hy136]; exact H) | exact H
      have Ny136 := Aside0.mk hy136; clear hy136; have H' := Aside0.mk H; clear H
      go_wp2_with (first | ((with_reducible refine gate_dst (N := 29) rfl ?_); (try (refine gate_guard (by rfl) ?_; dsimp only)); refine Kd.R_lit (Kd.int .i64) _ 3 ?hg (N := 29) ?hd (xs := ([] : List Int)) (inner := []) (ok := fun _ => True) (okp := fun _ => True) ?hr ?hp (fun _ hk => hk) trivial (Below.refl _ _) (Nat.le_refl _) (by simp) ?_; (case hd => rfl); (case hg => rfl); (case hr => first | (go_simp; done) | (go_simp; rfl)); (case hp => exact (Reps.none _ _)); intro v133 w16 ho17 hb hg_ hnew_; clear hg_ hnew_; (first | rw [← Ny132.out] at ho17 | (simp only [Int.reduceToNat] at ho17; rw [← Ny132.out] at ho17)); have HO134 := asT (Kd.R_lower ho17 (below_size (hbT HB.out))); replace BK128 := bS BK128 hb; replace HB := hS HB hb; clear hb ho17; have p135 : 0 ≤ (0 : Int) := (by omega); have q135 : 0 < (l0.length : Int) := of_decide_eq_true asmT; obtain ⟨ad135, A135_0, c135_0, e135, hx135_0, hl135_0, hi135_0⟩ := at_T60 HR0.out 0 p135 q135; cases e135; have qi135 : (0 < l0.length) = True := eq_true (by omega); (try rw [show ((0 : Int)).toNat = 0 from rfl] at hx135_0); (try rw [Addr.add_zero'] at hx135_0); replace hx135_0 := hbc HB.out hx135_0; have HR135_0 := Aside0.mk hi135_0; have HC135_0 := Aside0.mk hl135_0; clear hi135_0 hl135_0; replace p135 := eq_true p135; replace q135 := eq_true q135) | ((with_reducible refine gate_builtin (b := .append) (xs := #[.tmp 29, .tmp 33]) rfl ?_); (try (refine gate_guard (by rfl) ?_; dsimp only)); at_builtin; refine Kd.R_append_rows (Kd.int .i64) (w0 := w) w.heap.size rfl (.tmp 29) (.tmp 33) 58 3 (.int .i64 0) 8 rfl Try.underlying58 info3 rfl (by decide) (by omega) v133 y132 ((rd_T60 l0 0).f0) _ _ _ (fun _ => True) (fun _ => False) rfl rfl ?aO ?aR (fun _ _ h => h) (fun _ h => h.elim) ?aF ?aB ?aS ?aL ?_; (case aR => repeat (first | exact (Kd.C_below HR135_0.out HB.out) | (with_reducible refine Kd.C_alloc ?_ _) | (with_reducible refine Kd.C_drewN ?_ _) | (with_reducible refine Kd.C_drew ?_))); (case aB => exact (hbT HB.out)); (case aF => exact (fun _ _ => trivial)); (case aO => exact (roT HO134.out)); (case aS => exact (below_size (hbT HB.out))); (case aL => have := LMc15.out; omega); intro v137 w18 ho hb hg hat; rw [← Ny136.out] at ho; replace BK128 := asT (blk_grown (g := gb128) (o := .cells #[.slice none 0 0] 60 (0, 0)) (bkT BK128.out) hg (Kd.R_ne HO134.out BK128.out (by decide))); replace HB := asT (hb); have HO138 := asT (ho); clear HO134 ho hb hg hat; obtain ⟨Ao19, co19, eo19⟩ := Kd.R_slice HO138.out; subst eo19) | ((with_reducible refine gate_dst (N := 4) rfl ?_); (try (refine gate_guard (by rfl) ?_; dsimp only)); refine boxT (N := 4) (cs := #[.slice none 0 0]) (t := 60) ?_; intro gb139 hg w20 hbox hb; replace HO138 := asT (Kd.R_below (roT HO138.out) hb); have BK139 := asT (hbox); have GW139 := asT (geT hg HB.out); have GE139 := asT (geT hg HB.out); replace HB := hS HB hb; have NB128_139 := asT ((by rw [hg]; exact Nat.ne_of_lt (blk_lt (bkT BK128.out)) : gb128 ≠ gb139)); have NB139_128 := asT ((by rw [hg]; exact Nat.ne_of_gt (blk_lt (bkT BK128.out)) : gb139 ≠ gb128)); replace BK128 := bS BK128 hb; clear hb hbox hg; have hnb21 := NB139_128.out; have hnc21 := NB128_139.out; obtain ⟨hcz22_0, hfz22_0⟩ := bx1 BK139.out))
      go_loopg [5] kj1 (fun kq v5 w' => ∃ (x5_2 : Int) (x140000_2 : List Int) (u140000 : Value), v5 = .int .i64 x5_2 ∧ Aside0 (spec_FuseAll.l0 kq l0 x5_2 x140000_2 = some (r1, r2)) ∧ Aside0 (kq ≤ kj1) ∧ Aside0 (Kd.R (Kd.int .i64) 3 w' w.heap.size (fun _ => True) u140000 x140000_2) ∧ Aside0 (w'.heap[gb128]? = some (.cells #[(.slice none 0 0)] 60 (0, 0))) ∧ Aside0 (w'.heap[gb139]? = some (.cells #[u140000] 60 (0, 0))) ∧ Aside0 (Below w.heap.size w w'))
      case atStart => exact ⟨(1), (y136), (.slice Ao19 y136.length co19), rdT, H', ⟨Nat.le_refl _⟩, ⟨by (with_reducible repeat (first | apply Kd.R_alloc | apply Kd.R_drewN | apply Kd.R_drew)); exact Kd.R_mono (Kd.R_far (p := ⟨gb139, 0, none⟩) (Kd.R_types HO138.out BK139.out (by decide)) (fun _ hk => hk.2) (.slice Ao19 y136.length co19)) (fun _ hk => trivial)⟩, ⟨by (with_reducible repeat (first | refine blk_drewN ?_ _ | refine blk_drew ?_ | refine blk_alloc ?_ _)); refine blk_far ?_ NB128_139.out _; (with_reducible repeat (first | refine blk_drewN ?_ _ | refine blk_drew ?_ | refine blk_alloc ?_ _)); exact BK128.out⟩, ⟨by (with_reducible repeat (first | refine blk_drewN ?_ _ | refine blk_drew ?_ | refine blk_alloc ?_ _)); refine blk_put (cs := #[.slice none 0 0]) ?_ 0 _ rfl; (with_reducible repeat (first | refine blk_drewN ?_ _ | refine blk_drew ?_ | refine blk_alloc ?_ _)); exact BK139.out⟩, ⟨hbT HB.out⟩⟩
      case round =>
       clear H'; (try clear c1 p1 q1 hx1 qi1 c2 p2 c4 c4b0 c4b1 c4b2 c5 c6 c6b0 c6b1 c8 c8b0 c8b1 c11 c12 p12 q12 hx12 qi12 c13 p13 q13 hx13 qi13 c14 c14b0 c14b1 c15 c21 hcz13_0 hcz22_0 hfz13_0 hfz22_0 hx129_0 hx130_0 hx135_0 p1 p129 p130 p135 p2 q1 q129 q130 q135); obtain ⟨x5_2, x140000_2, u140000, rfl, HA, HK2, HO_140000, BK128, BK139, HB⟩ := hrel
       cases gk with
       | zero => exact absurd HA.out (by simp [spec_FuseAll.l0])
       | succ k2 =>
        have H := HA.out; clear HA
        simp only [spec_FuseAll.l0] at H
        by_cases c23 : x5_2 < (l0.length : Int)
        ·rw [if_pos c23] at H
         have c23b0 : decide (x5_2 < (l0.length : Int)) = true := decide_eq_true c23
         clear c23
         by_cases c24 : 0 ≤ x5_2
         ·rw [if_pos c24] at H
          have c24b0 : decide (0 ≤ x5_2) = true := decide_eq_true c24
          clear c24; replace H := Option.bind_eq_some_iff.mp H; obtain ⟨⟨t141, t144⟩, A250, H⟩ := H; replace H : (if t144 = true then (spec_FuseAll.l0 k2 l0 (wrap64 (x5_2 + 1)) t141) else (some (([] : List Int), false))) = some (r1, r2) := H; have A25 := Aside0.mk A250; clear A250
          by_cases c26 : t144 = true
          ·subst c26
           rw [if_pos rfl] at H; have H' := Aside0.mk H; clear H; obtain ⟨Ao27, co27, eo27⟩ := Kd.R_slice HO_140000.out; subst eo27
           try go_wp2
           replace HO_140000 := asT (Kd.R_drew HO_140000.out); replace BK128 := asT (blk_drew BK128.out); replace BK139 := asT (blk_drew BK139.out); replace HB := asT (below_drew1 HB.out)
           have p140 : 0 ≤ (x5_2 : Int) := of_decide_eq_true asmT
           have q140 : x5_2 < (l0.length : Int) := of_decide_eq_true asmT
           obtain ⟨ad140, A140_0, c140_0, e140, hx140_0, hl140_0, hi140_0⟩ := at_T60 HR0.out x5_2 p140 q140; have hw140_0 := hx140_0
           obtain rfl : ad135 = ad140 := (by injection e140)
           replace hx140_0 := hbc HB.out hx140_0; have HR140_0 := Aside0.mk hi140_0; have HC140_0 := Aside0.mk hl140_0; clear hi140_0 hl140_0; replace p140 := eq_true p140; replace q140 := eq_true q140
           refine start_ (n := 12) (S := fun w' => w'.cell? ⟨gb139, 0, none⟩ = some (.slice Ao27 x140000_2.length co27) ∧ w'.cell? (ad135.add (x5_2).toNat) = some (.slice A140_0 ((rd_T60 l0 x5_2).f0).length c140_0)) (ds := []) (bA 12 0) (by kernel_rfl) rfl rfl ⟨bc0 BK139.out, (hbc HB.out hw140_0 :)⟩ (fun hHeld => ?_); refine with_tabW spec_FuseAll.tab7 spec_FuseAll.bits7 (fun HT_ HW_ => ?_)
           generalize wr.drew = w28 at HO_140000 BK128 BK139 HB HR140_0 hx140_0 hHeld ⊢
           refine pA 1 44 12 2 HT_.out ?_ rfl rfl; refine pA 2 45 12 6 HT_.out ?_ rfl rfl; refine pA 3 46 12 14 HT_.out ?_ rfl rfl; refine tA 0 43 12 15 HT_.out HW_.out hHeld ?_ rfl rfl; refine tA 4 47 12 31 HT_.out HW_.out hHeld ?_ rfl rfl
           refine join_ (σ := Value × Nat) 2 (bA 12 1023) (fun s_ => [(48, .tuple #[.agg #[s_.1], .bool true]), (6, .pointer (some ⟨s_.2, 0, none⟩)), (42, .tuple #[.agg #[s_.1], .bool true]), (49, .agg #[s_.1]), (50, .bool true)]) (fun s_ w' => (w'.cell? ⟨gb139, 0, none⟩ = some (.slice Ao27 x140000_2.length co27) ∧ w'.cell? (ad135.add (x5_2).toNat) = some (.slice A140_0 ((rd_T60 l0 x5_2).f0).length c140_0)) ∧ (Kd.R (Kd.int .i64) 3 w' w.heap.size (fun k_ => some k_ ≠ (.slice Ao27 x140000_2.length co27 : Value).ownBlock) s_.1 t141) ∧ (Kd.R (Kd.int .i64) 3 w' w.heap.size (fun k_ => some k_ ≠ (s_.1 : Value).ownBlock) (.slice Ao27 x140000_2.length co27) x140000_2) ∧ (w'.heap[gb128]? = some (.cells #[.slice none 0 0] 60 (0, 0))) ∧ (w'.heap[gb139]? = some (.cells #[.slice Ao27 x140000_2.length co27] 60 (0, 0))) ∧ (w'.heap[s_.2]? = some (.cells #[.slice none 0 0] 60 (0, 0))) ∧ (w.heap.size ≤ s_.2) ∧ (w.heap.size ≤ s_.2) ∧ (gb128 ≠ s_.2) ∧ (s_.2 ≠ gb128) ∧ (gb139 ≠ s_.2) ∧ (s_.2 ≠ gb139) ∧ (Below w.heap.size w w')) ?_ ?_
           rotate_left
           ·intro hCont
            refine two_ (i := 5) (j := 9) (Ni := some 48) (Nj := some 6) (bA 12 63) (bA 12 543) rfl rfl rfl rfl (two_of HT_.out (by kernel_rfl)) (by decide) (by decide) (fun K hK => ?_) (fun K hK => ?_)
            ·skip
             refine goes_ Try.func114 (by kernel_rfl) rfl #[.agg #[.slice Ao27 x140000_2.length co27], .agg #[.slice A140_0 ((rd_T60 l0 x5_2).f0).length c140_0]] (by rfl) rfl rfl eqT ?_
             (with_reducible refine (spec_FuseRows.calls k2 _ _ x140000_2 _ _ ((rd_T60 l0 x5_2).f0) t141 true _ ?side1 ?side2 ?side3 ?side4 A25.out).mono ?_); (case side1 => repeat (first | exact (Kd.R_reads' HO_140000.out).2.2 | (with_reducible refine Kd.C_alloc ?_ _) | (with_reducible refine Kd.C_drewN ?_ _) | (with_reducible refine Kd.C_drew ?_))); (case side2 => exact (Kd.R_reads' HO_140000.out).2.1); (case side3 => exact crT HR140_0.out HB.out); (case side4 => exact HC140_0.out); rintro e w29 ⟨v142, rfl, ho0, hb⟩; refine ⟨_, rfl, ?_⟩; have HO143 := asT (Kd.R_lower (Kd.R_new' ho0 (Kd.R_lt (roT HO_140000.out))) (below_size (hbT HB.out))); replace HO_140000 := asT (Kd.R_elder' (roT HO_140000.out) (Kd.R_base ho0) hb); replace BK128 := bS BK128 hb; replace BK139 := bS BK139 hb; replace HB := hS HB hb; (try clear hb hb2 hk hi ho0)
             refine hK.out _ _ ⟨bc0 BK139.out, (hbc HB.out hw140_0 :)⟩ (fun hHeld => ?_)
             clear hK K
             refine nB 48 ?_ rfl; refine pA 6 42 12 127 HT_.out ?_ rfl rfl; refine pA 7 49 12 255 HT_.out ?_ rfl rfl; refine pA 8 50 12 511 HT_.out ?_ rfl rfl
             refine oA 9 6 12 1023 HT_.out (fun K hK => ?_) rfl rfl
             refine box_step ?hg (N := 6) ?hd (cs := #[.slice none 0 0]) (t := 60) ?hr ?_; (case hd => rfl); (case hg => rfl); (case hr => first | (go_simp; done) | (go_simp; rfl))
             intro gb145 hg w30 hbox hb
             replace HO_140000 := asT (Kd.R_below (roT HO_140000.out) hb); replace HO143 := asT (Kd.R_below (roT HO143.out) hb); have BK145 := asT (hbox); have GW145 := asT (geT hg HB.out); have GE145 := asT (geT hg HB.out); replace HB := hS HB hb; have NB128_145 := asT ((by rw [hg]; exact Nat.ne_of_lt (blk_lt (bkT BK128.out)) : gb128 ≠ gb145)); have NB145_128 := asT ((by rw [hg]; exact Nat.ne_of_gt (blk_lt (bkT BK128.out)) : gb145 ≠ gb128)); replace BK128 := bS BK128 hb; have NB139_145 := asT ((by rw [hg]; exact Nat.ne_of_lt (blk_lt (bkT BK139.out)) : gb139 ≠ gb145)); have NB145_139 := asT ((by rw [hg]; exact Nat.ne_of_gt (blk_lt (bkT BK139.out)) : gb145 ≠ gb139)); replace BK139 := bS BK139 hb; clear hb hbox hg
             refine hK.out _ _ ⟨bc0 BK139.out, (hbc HB.out hw140_0 :)⟩ (fun hHeld => ?_)
             clear hK K
             refine nB 6 ?_ rfl
             exact norm_ (by simp only [putAll, Act.put, sA, sZ, sS]) (hCont (v142, gb145) _ ⟨hHeld, (by (with_reducible repeat (first | apply Kd.R_alloc | apply Kd.R_drewN | apply Kd.R_drew)); exact Kd.R_mono HO143.out (fun _ hk => hk.2)), (by (with_reducible repeat (first | apply Kd.R_alloc | apply Kd.R_drewN | apply Kd.R_drew)); exact Kd.R_mono HO_140000.out (fun _ hk => hk.2)), (bkT BK128.out), (bkT BK139.out), (bkT BK145.out), GW145.out, GE145.out, NB128_145.out, NB145_128.out, NB139_145.out, NB145_139.out, (hbT HB.out)⟩)
            ·skip
             refine box_step ?hg (N := 6) ?hd (cs := #[.slice none 0 0]) (t := 60) ?hr ?_; (case hd => rfl); (case hg => rfl); (case hr => first | (go_simp; done) | (go_simp; rfl))
             intro gb145 hg w29 hbox hb
             replace HO_140000 := asT (Kd.R_below (roT HO_140000.out) hb); have BK145 := asT (hbox); have GW145 := asT (geT hg HB.out); have GE145 := asT (geT hg HB.out); replace HB := hS HB hb; have NB128_145 := asT ((by rw [hg]; exact Nat.ne_of_lt (blk_lt (bkT BK128.out)) : gb128 ≠ gb145)); have NB145_128 := asT ((by rw [hg]; exact Nat.ne_of_gt (blk_lt (bkT BK128.out)) : gb145 ≠ gb128)); replace BK128 := bS BK128 hb; have NB139_145 := asT ((by rw [hg]; exact Nat.ne_of_lt (blk_lt (bkT BK139.out)) : gb139 ≠ gb145)); have NB145_139 := asT ((by rw [hg]; exact Nat.ne_of_gt (blk_lt (bkT BK139.out)) : gb145 ≠ gb139)); replace BK139 := bS BK139 hb; clear hb hbox hg
             refine hK.out _ _ ⟨bc0 BK139.out, (hbc HB.out hw140_0 :)⟩ (fun hHeld => ?_)
             clear hK K
             refine nB 6 ?_ rfl
             refine oA 5 48 12 575 HT_.out (fun K hK => ?_) rfl rfl
             refine goes_ Try.func114 (by kernel_rfl) rfl #[.agg #[.slice Ao27 x140000_2.length co27], .agg #[.slice A140_0 ((rd_T60 l0 x5_2).f0).length c140_0]] (by rfl) rfl rfl eqT ?_
             (with_reducible refine (spec_FuseRows.calls k2 _ _ x140000_2 _ _ ((rd_T60 l0 x5_2).f0) t141 true _ ?side1 ?side2 ?side3 ?side4 A25.out).mono ?_); (case side1 => repeat (first | exact (Kd.R_reads' HO_140000.out).2.2 | (with_reducible refine Kd.C_alloc ?_ _) | (with_reducible refine Kd.C_drewN ?_ _) | (with_reducible refine Kd.C_drew ?_))); (case side2 => exact (Kd.R_reads' HO_140000.out).2.1); (case side3 => exact crT HR140_0.out HB.out); (case side4 => exact HC140_0.out); rintro e w30 ⟨v142, rfl, ho0, hb⟩; refine ⟨_, rfl, ?_⟩; have HO143 := asT (Kd.R_lower (Kd.R_new' ho0 (Kd.R_lt (roT HO_140000.out))) (below_size (hbT HB.out))); replace HO_140000 := asT (Kd.R_elder' (roT HO_140000.out) (Kd.R_base ho0) hb); replace BK128 := bS BK128 hb; replace BK139 := bS BK139 hb; replace BK145 := bS BK145 hb; replace HB := hS HB hb; (try clear hb hb2 hk hi ho0)
             refine hK.out _ _ ⟨bc0 BK139.out, (hbc HB.out hw140_0 :)⟩ (fun hHeld => ?_)
             clear hK K
             refine nB 48 ?_ rfl; refine pA 6 42 12 639 HT_.out ?_ rfl rfl; refine pA 7 49 12 767 HT_.out ?_ rfl rfl; refine pA 8 50 12 1023 HT_.out ?_ rfl rfl
             exact norm_ (by simp only [putAll, Act.put, sA, sZ, sS]) (hCont (v142, gb145) _ ⟨hHeld, (by (with_reducible repeat (first | apply Kd.R_alloc | apply Kd.R_drewN | apply Kd.R_drew)); exact Kd.R_mono HO143.out (fun _ hk => hk.2)), (by (with_reducible repeat (first | apply Kd.R_alloc | apply Kd.R_drewN | apply Kd.R_drew)); exact Kd.R_mono HO_140000.out (fun _ hk => hk.2)), (bkT BK128.out), (bkT BK139.out), (bkT BK145.out), GW145.out, GE145.out, NB128_145.out, NB145_128.out, NB139_145.out, NB145_139.out, (hbT HB.out)⟩)
           rintro ⟨v142, gb145⟩ w31 ⟨hS_, h0_, h1_, h2_, h3_, h4_, h5_, h6_, h7_, h8_, h9_, h10_, h11_⟩
           have n0_ : Aside0 (Kd.R (Kd.int .i64) 3 w31 w.heap.size (fun k_ => some k_ ≠ (.slice Ao27 x140000_2.length co27 : Value).ownBlock) v142 t141) := ⟨h0_⟩
           have n1_ : Aside0 (Kd.R (Kd.int .i64) 3 w31 w.heap.size (fun k_ => some k_ ≠ (v142 : Value).ownBlock) (.slice Ao27 x140000_2.length co27) x140000_2) := ⟨h1_⟩
           have n2_ : Aside0 (w31.heap[gb128]? = some (.cells #[.slice none 0 0] 60 (0, 0))) := ⟨h2_⟩
           have n3_ : Aside0 (w31.heap[gb139]? = some (.cells #[.slice Ao27 x140000_2.length co27] 60 (0, 0))) := ⟨h3_⟩
           have n4_ : Aside0 (w31.heap[gb145]? = some (.cells #[.slice none 0 0] 60 (0, 0))) := ⟨h4_⟩
           have n5_ : Aside0 (w.heap.size ≤ gb145) := ⟨h5_⟩
           have n6_ : Aside0 (w.heap.size ≤ gb145) := ⟨h6_⟩
           have n7_ : Aside0 (gb128 ≠ gb145) := ⟨h7_⟩
           have n8_ : Aside0 (gb145 ≠ gb128) := ⟨h8_⟩
           have n9_ : Aside0 (gb139 ≠ gb145) := ⟨h9_⟩
           have n10_ : Aside0 (gb145 ≠ gb139) := ⟨h10_⟩
           have n11_ : Aside0 (Below w.heap.size w w31) := ⟨h11_⟩
           clear HO_140000 BK128 BK139 HB h0_ h1_ h2_ h3_ h4_ h5_ h6_ h7_ h8_ h9_ h10_ h11_; have HO143 := n0_; have HO_140000 := n1_; have BK128 := n2_; have BK139 := n3_; have BK145 := n4_; have GW145 := n5_; have GE145 := n6_; have NB128_145 := n7_; have NB145_128 := n8_; have NB139_145 := n9_; have NB145_139 := n10_; have HB := n11_; clear n0_ n1_ n2_ n3_ n4_ n5_ n6_ n7_ n8_ n9_ n10_ n11_
           have hHeld : w31.cell? ⟨gb139, 0, none⟩ = some (.slice Ao27 x140000_2.length co27) ∧ w31.cell? (ad135.add (x5_2).toNat) = some (.slice A140_0 ((rd_T60 l0 x5_2).f0).length c140_0) := hS_
           obtain ⟨Ao32, co32, eo32⟩ := Kd.R_slice HO143.out; (first | subst eo32 | (injection eo32 with f1_ f2_ f3_; have f4_ := f1_.symm; have f5_ := f3_.symm; clear f1_ f2_ f3_; subst f4_; subst f5_))
           refine norm_ (a' := ?_) ?_ ?_
           rotate_left
           ·simp only [putAll, Act.put, sA, sZ, sS]
            rfl
           refine one_ (i := 10) (N := none) (bA 12 2047) rfl rfl (one_of HT_.out (by kernel_rfl)) (by decide) (fun K hK => ?_)
           have hs33 : w31.cell? ⟨gb145, 0, none⟩ = some (.slice none 0 0) := (blk_cell BK145.out 0).trans rfl
           have hfs33 := blk_frozen BK145.out 0; have hns33_0 := NB128_145.out; have hns33_1 := NB139_145.out; have hms33_0 := NB145_128.out; have hms33_1 := NB145_139.out
           refine skip_ (w1 := ?_) (by rfl) rfl ?_ ?_
           rotate_left
           ·go_simp
            rfl
           refine hK.out _ _ ⟨((cell_far (p := ⟨gb145, _, none⟩) NB139_145.out _).trans (hHeld.1)), ((cell_far (p := ⟨gb145, _, none⟩) (by first | exact Nat.ne_of_lt (Nat.lt_of_lt_of_le (by have := World.block_lt_of_cell? _ _ hw140_0; first | rwa [add_block] at this | exact this) GW145.out) | (rw [add_block]; exact Nat.ne_of_lt (Nat.lt_of_lt_of_le (by have := World.block_lt_of_cell? _ _ hw140_0; first | rwa [add_block] at this | exact this) GW145.out)) | (show (Addr.add _ _).block ≠ _; rw [add_block]; exact Nat.ne_of_lt (Nat.lt_of_lt_of_le (by have := World.block_lt_of_cell? _ _ hw140_0; first | rwa [add_block] at this | exact this) GW145.out)) | (dsimp only; exact Nat.ne_of_lt (Nat.lt_of_lt_of_le (by have := World.block_lt_of_cell? _ _ hw140_0; first | rwa [add_block] at this | exact this) GW145.out))) _).trans (hHeld.2))⟩ (fun hHeld => ?_)
           clear hK K
           refine pA 11 7 12 4095 HT_.out ?_ rfl rfl
           refine done_ (done_of HT_.out (by kernel_rfl)) ?_
           have hnb34 := NB145_128.out; have hnc34 := NB128_145.out; have hnb35 := NB145_139.out; have hnc35 := NB139_145.out
           have hcz36_0 := bc0 BK145.out
           have hfz36_0 := blk_frozen BK145.out 0; have hnb37 := NB139_128.out; have hnc37 := NB128_139.out
           have hcz38_0 := bc0 BK139.out
           have hfz38_0 := blk_frozen BK139.out 0
           try go_wp2
           go_roundg k2
           case measure => have := HJ1.out; have := HK2.out; omega
           case rel => exact ⟨(wrap64 (x5_2 + 1)), (t141), (.slice Ao32 t141.length co32), rdT, H', ⟨by have := HJ1.out; have := HK2.out; omega⟩, ⟨by (with_reducible repeat (first | apply Kd.R_alloc | apply Kd.R_drewN | apply Kd.R_drew)); exact Kd.R_mono (Kd.R_far (p := ⟨gb139, 0, none⟩) (Kd.R_far (p := ⟨gb145, 0, none⟩) (Kd.R_types (Kd.R_types HO143.out BK145.out (by decide)) BK139.out (by decide)) (fun _ hk => hk.1.2) (.slice Ao32 t141.length co32)) (fun _ hk => hk.2) (.slice Ao32 t141.length co32)) (fun _ hk => trivial)⟩, ⟨by (with_reducible repeat (first | refine blk_drewN ?_ _ | refine blk_drew ?_ | refine blk_alloc ?_ _)); refine blk_far ?_ NB128_139.out _; (with_reducible repeat (first | refine blk_drewN ?_ _ | refine blk_drew ?_ | refine blk_alloc ?_ _)); refine blk_far ?_ NB128_145.out _; (with_reducible repeat (first | refine blk_drewN ?_ _ | refine blk_drew ?_ | refine blk_alloc ?_ _)); exact BK128.out⟩, ⟨by (with_reducible repeat (first | refine blk_drewN ?_ _ | refine blk_drew ?_ | refine blk_alloc ?_ _)); refine blk_put (cs := #[.slice Ao27 x140000_2.length co27]) ?_ 0 _ rfl; (with_reducible repeat (first | refine blk_drewN ?_ _ | refine blk_drew ?_ | refine blk_alloc ?_ _)); refine blk_far ?_ NB139_145.out _; (with_reducible repeat (first | refine blk_drewN ?_ _ | refine blk_drew ?_ | refine blk_alloc ?_ _)); exact BK139.out⟩, ⟨hbT HB.out⟩⟩
          ·replace c26 := Bool.eq_false_iff.mpr c26
           subst c26; rw [if_neg nF] at H; have H1 := H; clear H; have H := H1; clear H1
           simp only [Option.some.injEq, Prod.mk.injEq] at H
           obtain ⟨rfl, rfl⟩ := H; obtain ⟨Ao39, co39, eo39⟩ := Kd.R_slice HO_140000.out; subst eo39
           try go_wp2
           replace HO_140000 := asT (Kd.R_drew HO_140000.out); replace BK128 := asT (blk_drew BK128.out); replace BK139 := asT (blk_drew BK139.out); replace HB := asT (below_drew1 HB.out)
           have p140 : 0 ≤ (x5_2 : Int) := of_decide_eq_true asmT
           have q140 : x5_2 < (l0.length : Int) := of_decide_eq_true asmT
           obtain ⟨ad140, A140_0, c140_0, e140, hx140_0, hl140_0, hi140_0⟩ := at_T60 HR0.out x5_2 p140 q140; have hw140_0 := hx140_0
           obtain rfl : ad135 = ad140 := (by injection e140)
           replace hx140_0 := hbc HB.out hx140_0; have HR140_0 := Aside0.mk hi140_0; have HC140_0 := Aside0.mk hl140_0; clear hi140_0 hl140_0; replace p140 := eq_true p140; replace q140 := eq_true q140
           refine start_ (n := 12) (S := fun w' => w'.cell? ⟨gb139, 0, none⟩ = some (.slice Ao39 x140000_2.length co39) ∧ w'.cell? (ad135.add (x5_2).toNat) = some (.slice A140_0 ((rd_T60 l0 x5_2).f0).length c140_0)) (ds := []) (bA 12 0) (by kernel_rfl) rfl rfl ⟨bc0 BK139.out, (hbc HB.out hw140_0 :)⟩ (fun hHeld => ?_); refine with_tabW spec_FuseAll.tab7 spec_FuseAll.bits7 (fun HT_ HW_ => ?_)
           generalize wr.drew = w40 at HO_140000 BK128 BK139 HB HR140_0 hx140_0 hHeld ⊢
           refine pA 1 44 12 2 HT_.out ?_ rfl rfl; refine pA 2 45 12 6 HT_.out ?_ rfl rfl; refine pA 3 46 12 14 HT_.out ?_ rfl rfl; refine tA 0 43 12 15 HT_.out HW_.out hHeld ?_ rfl rfl; refine tA 4 47 12 31 HT_.out HW_.out hHeld ?_ rfl rfl
           refine join_ (σ := Value × Nat) 2 (bA 12 1023) (fun s_ => [(48, .tuple #[.agg #[s_.1], .bool false]), (6, .pointer (some ⟨s_.2, 0, none⟩)), (42, .tuple #[.agg #[s_.1], .bool false]), (49, .agg #[s_.1]), (50, .bool false)]) (fun s_ w' => (w'.cell? ⟨gb139, 0, none⟩ = some (.slice Ao39 x140000_2.length co39) ∧ w'.cell? (ad135.add (x5_2).toNat) = some (.slice A140_0 ((rd_T60 l0 x5_2).f0).length c140_0)) ∧ (Kd.R (Kd.int .i64) 3 w' w.heap.size (fun k_ => some k_ ≠ (.slice Ao39 x140000_2.length co39 : Value).ownBlock) s_.1 t141) ∧ (Kd.R (Kd.int .i64) 3 w' w.heap.size (fun k_ => some k_ ≠ (s_.1 : Value).ownBlock) (.slice Ao39 x140000_2.length co39) x140000_2) ∧ (w'.heap[gb128]? = some (.cells #[.slice none 0 0] 60 (0, 0))) ∧ (w'.heap[gb139]? = some (.cells #[.slice Ao39 x140000_2.length co39] 60 (0, 0))) ∧ (w'.heap[s_.2]? = some (.cells #[.slice none 0 0] 60 (0, 0))) ∧ (w.heap.size ≤ s_.2) ∧ (w.heap.size ≤ s_.2) ∧ (gb128 ≠ s_.2) ∧ (s_.2 ≠ gb128) ∧ (gb139 ≠ s_.2) ∧ (s_.2 ≠ gb139) ∧ (Below w.heap.size w w')) ?_ ?_
           rotate_left
           ·intro hCont
            refine two_ (i := 5) (j := 9) (Ni := some 48) (Nj := some 6) (bA 12 63) (bA 12 543) rfl rfl rfl rfl (two_of HT_.out (by kernel_rfl)) (by decide) (by decide) (fun K hK => ?_) (fun K hK => ?_)
            ·skip
             refine goes_ Try.func114 (by kernel_rfl) rfl #[.agg #[.slice Ao39 x140000_2.length co39], .agg #[.slice A140_0 ((rd_T60 l0 x5_2).f0).length c140_0]] (by rfl) rfl rfl eqT ?_
             (with_reducible refine (spec_FuseRows.calls k2 _ _ x140000_2 _ _ ((rd_T60 l0 x5_2).f0) t141 false _ ?side1 ?side2 ?side3 ?side4 A25.out).mono ?_); (case side1 => repeat (first | exact (Kd.R_reads' HO_140000.out).2.2 | (with_reducible refine Kd.C_alloc ?_ _) | (with_reducible refine Kd.C_drewN ?_ _) | (with_reducible refine Kd.C_drew ?_))); (case side2 => exact (Kd.R_reads' HO_140000.out).2.1); (case side3 => exact crT HR140_0.out HB.out); (case side4 => exact HC140_0.out); rintro e w41 ⟨v142, rfl, ho0, hb⟩; refine ⟨_, rfl, ?_⟩; have HO143 := asT (Kd.R_lower (Kd.R_new' ho0 (Kd.R_lt (roT HO_140000.out))) (below_size (hbT HB.out))); replace HO_140000 := asT (Kd.R_elder' (roT HO_140000.out) (Kd.R_base ho0) hb); replace BK128 := bS BK128 hb; replace BK139 := bS BK139 hb; replace HB := hS HB hb; (try clear hb hb2 hk hi ho0)
             refine hK.out _ _ ⟨bc0 BK139.out, (hbc HB.out hw140_0 :)⟩ (fun hHeld => ?_)
             clear hK K
             refine nB 48 ?_ rfl; refine pA 6 42 12 127 HT_.out ?_ rfl rfl; refine pA 7 49 12 255 HT_.out ?_ rfl rfl; refine pA 8 50 12 511 HT_.out ?_ rfl rfl
             refine oA 9 6 12 1023 HT_.out (fun K hK => ?_) rfl rfl
             refine box_step ?hg (N := 6) ?hd (cs := #[.slice none 0 0]) (t := 60) ?hr ?_; (case hd => rfl); (case hg => rfl); (case hr => first | (go_simp; done) | (go_simp; rfl))
             intro gb145 hg w42 hbox hb
             replace HO_140000 := asT (Kd.R_below (roT HO_140000.out) hb); replace HO143 := asT (Kd.R_below (roT HO143.out) hb); have BK145 := asT (hbox); have GW145 := asT (geT hg HB.out); have GE145 := asT (geT hg HB.out); replace HB := hS HB hb; have NB128_145 := asT ((by rw [hg]; exact Nat.ne_of_lt (blk_lt (bkT BK128.out)) : gb128 ≠ gb145)); have NB145_128 := asT ((by rw [hg]; exact Nat.ne_of_gt (blk_lt (bkT BK128.out)) : gb145 ≠ gb128)); replace BK128 := bS BK128 hb; have NB139_145 := asT ((by rw [hg]; exact Nat.ne_of_lt (blk_lt (bkT BK139.out)) : gb139 ≠ gb145)); have NB145_139 := asT ((by rw [hg]; exact Nat.ne_of_gt (blk_lt (bkT BK139.out)) : gb145 ≠ gb139)); replace BK139 := bS BK139 hb; clear hb hbox hg
             refine hK.out _ _ ⟨bc0 BK139.out, (hbc HB.out hw140_0 :)⟩ (fun hHeld => ?_)
             clear hK K
             refine nB 6 ?_ rfl
             exact norm_ (by simp only [putAll, Act.put, sA, sZ, sS]) (hCont (v142, gb145) _ ⟨hHeld, (by (with_reducible repeat (first | apply Kd.R_alloc | apply Kd.R_drewN | apply Kd.R_drew)); exact Kd.R_mono HO143.out (fun _ hk => hk.2)), (by (with_reducible repeat (first | apply Kd.R_alloc | apply Kd.R_drewN | apply Kd.R_drew)); exact Kd.R_mono HO_140000.out (fun _ hk => hk.2)), (bkT BK128.out), (bkT BK139.out), (bkT BK145.out), GW145.out, GE145.out, NB128_145.out, NB145_128.out, NB139_145.out, NB145_139.out, (hbT HB.out)⟩)
            ·skip
             refine box_step ?hg (N := 6) ?hd (cs := #[.slice none 0 0]) (t := 60) ?hr ?_; (case hd => rfl); (case hg => rfl); (case hr => first | (go_simp; done) | (go_simp; rfl))
             intro gb145 hg w41 hbox hb
             replace HO_140000 := asT (Kd.R_below (roT HO_140000.out) hb); have BK145 := asT (hbox); have GW145 := asT (geT hg HB.out); have GE145 := asT (geT hg HB.out); replace HB := hS HB hb; have NB128_145 := asT ((by rw [hg]; exact Nat.ne_of_lt (blk_lt (bkT BK128.out)) : gb128 ≠ gb145)); have NB145_128 := asT ((by rw [hg]; exact Nat.ne_of_gt (blk_lt (bkT BK128.out)) : gb145 ≠ gb128)); replace BK128 := bS BK128 hb; have NB139_145 := asT ((by rw [hg]; exact Nat.ne_of_lt (blk_lt (bkT BK139.out)) : gb139 ≠ gb145)); have NB145_139 := asT ((by rw [hg]; exact Nat.ne_of_gt (blk_lt (bkT BK139.out)) : gb145 ≠ gb139)); replace BK139 := bS BK139 hb; clear hb hbox hg
             refine hK.out _ _ ⟨bc0 BK139.out, (hbc HB.out hw140_0 :)⟩ (fun hHeld => ?_)
             clear hK K
             refine nB 6 ?_ rfl
             refine oA 5 48 12 575 HT_.out (fun K hK => ?_) rfl rfl
             refine goes_ Try.func114 (by kernel_rfl) rfl #[.agg #[.slice Ao39 x140000_2.length co39], .agg #[.slice A140_0 ((rd_T60 l0 x5_2).f0).length c140_0]] (by rfl) rfl rfl eqT ?_
             (with_reducible refine (spec_FuseRows.calls k2 _ _ x140000_2 _ _ ((rd_T60 l0 x5_2).f0) t141 false _ ?side1 ?side2 ?side3 ?side4 A25.out).mono ?_); (case side1 => repeat (first | exact (Kd.R_reads' HO_140000.out).2.2 | (with_reducible refine Kd.C_alloc ?_ _) | (with_reducible refine Kd.C_drewN ?_ _) | (with_reducible refine Kd.C_drew ?_))); (case side2 => exact (Kd.R_reads' HO_140000.out).2.1); (case side3 => exact crT HR140_0.out HB.out); (case side4 => exact HC140_0.out); rintro e w42 ⟨v142, rfl, ho0, hb⟩; refine ⟨_, rfl, ?_⟩; have HO143 := asT (Kd.R_lower (Kd.R_new' ho0 (Kd.R_lt (roT HO_140000.out))) (below_size (hbT HB.out))); replace HO_140000 := asT (Kd.R_elder' (roT HO_140000.out) (Kd.R_base ho0) hb); replace BK128 := bS BK128 hb; replace BK139 := bS BK139 hb; replace BK145 := bS BK145 hb; replace HB := hS HB hb; (try clear hb hb2 hk hi ho0)
             refine hK.out _ _ ⟨bc0 BK139.out, (hbc HB.out hw140_0 :)⟩ (fun hHeld => ?_)
             clear hK K
             refine nB 48 ?_ rfl; refine pA 6 42 12 639 HT_.out ?_ rfl rfl; refine pA 7 49 12 767 HT_.out ?_ rfl rfl; refine pA 8 50 12 1023 HT_.out ?_ rfl rfl
             exact norm_ (by simp only [putAll, Act.put, sA, sZ, sS]) (hCont (v142, gb145) _ ⟨hHeld, (by (with_reducible repeat (first | apply Kd.R_alloc | apply Kd.R_drewN | apply Kd.R_drew)); exact Kd.R_mono HO143.out (fun _ hk => hk.2)), (by (with_reducible repeat (first | apply Kd.R_alloc | apply Kd.R_drewN | apply Kd.R_drew)); exact Kd.R_mono HO_140000.out (fun _ hk => hk.2)), (bkT BK128.out), (bkT BK139.out), (bkT BK145.out), GW145.out, GE145.out, NB128_145.out, NB145_128.out, NB139_145.out, NB145_139.out, (hbT HB.out)⟩)
           rintro ⟨v142, gb145⟩ w43 ⟨hS_, h0_, h1_, h2_, h3_, h4_, h5_, h6_, h7_, h8_, h9_, h10_, h11_⟩
           have n0_ : Aside0 (Kd.R (Kd.int .i64) 3 w43 w.heap.size (fun k_ => some k_ ≠ (.slice Ao39 x140000_2.length co39 : Value).ownBlock) v142 t141) := ⟨h0_⟩
           have n1_ : Aside0 (Kd.R (Kd.int .i64) 3 w43 w.heap.size (fun k_ => some k_ ≠ (v142 : Value).ownBlock) (.slice Ao39 x140000_2.length co39) x140000_2) := ⟨h1_⟩
           have n2_ : Aside0 (w43.heap[gb128]? = some (.cells #[.slice none 0 0] 60 (0, 0))) := ⟨h2_⟩
           have n3_ : Aside0 (w43.heap[gb139]? = some (.cells #[.slice Ao39 x140000_2.length co39] 60 (0, 0))) := ⟨h3_⟩
           have n4_ : Aside0 (w43.heap[gb145]? = some (.cells #[.slice none 0 0] 60 (0, 0))) := ⟨h4_⟩
           have n5_ : Aside0 (w.heap.size ≤ gb145) := ⟨h5_⟩
           have n6_ : Aside0 (w.heap.size ≤ gb145) := ⟨h6_⟩
           have n7_ : Aside0 (gb128 ≠ gb145) := ⟨h7_⟩
           have n8_ : Aside0 (gb145 ≠ gb128) := ⟨h8_⟩
           have n9_ : Aside0 (gb139 ≠ gb145) := ⟨h9_⟩
           have n10_ : Aside0 (gb145 ≠ gb139) := ⟨h10_⟩
           have n11_ : Aside0 (Below w.heap.size w w43) := ⟨h11_⟩
           clear HO_140000 BK128 BK139 HB h0_ h1_ h2_ h3_ h4_ h5_ h6_ h7_ h8_ h9_ h10_ h11_; have HO143 := n0_; have HO_140000 := n1_; have BK128 := n2_; have BK139 := n3_; have BK145 := n4_; have GW145 := n5_; have GE145 := n6_; have NB128_145 := n7_; have NB145_128 := n8_; have NB139_145 := n9_; have NB145_139 := n10_; have HB := n11_; clear n0_ n1_ n2_ n3_ n4_ n5_ n6_ n7_ n8_ n9_ n10_ n11_
           have hHeld : w43.cell? ⟨gb139, 0, none⟩ = some (.slice Ao39 x140000_2.length co39) ∧ w43.cell? (ad135.add (x5_2).toNat) = some (.slice A140_0 ((rd_T60 l0 x5_2).f0).length c140_0) := hS_
           obtain ⟨Ao44, co44, eo44⟩ := Kd.R_slice HO143.out; (first | subst eo44 | (injection eo44 with f1_ f2_ f3_; have f4_ := f1_.symm; have f5_ := f3_.symm; clear f1_ f2_ f3_; subst f4_; subst f5_))
           refine norm_ (a' := ?_) ?_ ?_
           rotate_left
           ·simp only [putAll, Act.put, sA, sZ, sS]
            rfl
           refine one_ (i := 10) (N := none) (bA 12 2047) rfl rfl (one_of HT_.out (by kernel_rfl)) (by decide) (fun K hK => ?_)
           have hs45 : w43.cell? ⟨gb145, 0, none⟩ = some (.slice none 0 0) := (blk_cell BK145.out 0).trans rfl
           have hfs45 := blk_frozen BK145.out 0; have hns45_0 := NB128_145.out; have hns45_1 := NB139_145.out; have hms45_0 := NB145_128.out; have hms45_1 := NB145_139.out
           refine skip_ (w1 := ?_) (by rfl) rfl ?_ ?_
           rotate_left
           ·go_simp
            rfl
           refine hK.out _ _ ⟨((cell_far (p := ⟨gb145, _, none⟩) NB139_145.out _).trans (hHeld.1)), ((cell_far (p := ⟨gb145, _, none⟩) (by first | exact Nat.ne_of_lt (Nat.lt_of_lt_of_le (by have := World.block_lt_of_cell? _ _ hw140_0; first | rwa [add_block] at this | exact this) GW145.out) | (rw [add_block]; exact Nat.ne_of_lt (Nat.lt_of_lt_of_le (by have := World.block_lt_of_cell? _ _ hw140_0; first | rwa [add_block] at this | exact this) GW145.out)) | (show (Addr.add _ _).block ≠ _; rw [add_block]; exact Nat.ne_of_lt (Nat.lt_of_lt_of_le (by have := World.block_lt_of_cell? _ _ hw140_0; first | rwa [add_block] at this | exact this) GW145.out)) | (dsimp only; exact Nat.ne_of_lt (Nat.lt_of_lt_of_le (by have := World.block_lt_of_cell? _ _ hw140_0; first | rwa [add_block] at this | exact this) GW145.out))) _).trans (hHeld.2))⟩ (fun hHeld => ?_)
           clear hK K
           refine pA 11 7 12 4095 HT_.out ?_ rfl rfl
           refine done_ (done_of HT_.out (by kernel_rfl)) ?_
           have hnb46 := NB128_139.out; have hnc46 := NB139_128.out; have hnb47 := NB128_145.out; have hnc47 := NB145_128.out
           have hcz48_0 := bc0 BK128.out
           have hfz48_0 := blk_frozen BK128.out 0
           try go_wp2
           refine bodyPost_ret (results_ct rfl _ _ gb128 60 #[.slice none 0 0] (0, 0) _ rfl (by (with_reducible repeat (first | refine blk_drewN ?_ _ | refine blk_drew ?_ | refine blk_alloc ?_ _)); refine blk_put (cs := #[.slice none 0 0]) ?_ 0 _ rfl; (with_reducible repeat (first | refine blk_drewN ?_ _ | refine blk_drew ?_ | refine blk_alloc ?_ _)); refine blk_far ?_ NB128_145.out _; (with_reducible repeat (first | refine blk_drewN ?_ _ | refine blk_drew ?_ | refine blk_alloc ?_ _)); exact BK128.out) Try.underlying60 rfl (by kernel_rfl)) rfl ?_
           exact ⟨_, rlT, by first | exact Kd.R_nil _ _ _ _ _ | exact Kd.N_nil _ _ _ _ _ | exact Kd.V_nil _ _ _ _ _ | exact Kd.Q_nil _ _ _ _ _ | exact Kd.S_nil _ _ _ _ _, hbT HB.out⟩
         ·rw [if_neg c24] at H
          exact absurd H (by simp)
        ·rw [if_neg c23] at H
         have c23b0 : decide (x5_2 < (l0.length : Int)) = false := decide_eq_false c23
         clear c23
         simp only [Option.some.injEq, Prod.mk.injEq] at H
         obtain ⟨rfl, rfl⟩ := H; have hnb49 := NB139_128.out; have hnc49 := NB128_139.out
         have hcz50_0 := bc0 BK139.out
         have hfz50_0 := blk_frozen BK139.out 0; obtain ⟨Ao51, co51, eo51⟩ := Kd.R_slice HO_140000.out; subst eo51
         have hcz52_0 := bc0 BK128.out
         have hfz52_0 := blk_frozen BK128.out 0
         go_wp2
         refine bodyPost_ret (results_ct rfl _ _ gb128 60 #[.slice Ao51 x140000_2.length co51] (0, 0) _ rfl (by (with_reducible repeat (first | refine blk_drewN ?_ _ | refine blk_drew ?_ | refine blk_alloc ?_ _)); refine blk_put (cs := #[.slice none 0 0]) ?_ 0 _ rfl; (with_reducible repeat (first | refine blk_drewN ?_ _ | refine blk_drew ?_ | refine blk_alloc ?_ _)); exact BK128.out) Try.underlying60 rfl (by kernel_rfl)) rfl ?_
         exact ⟨_, rlT, by (with_reducible repeat (first | apply Kd.R_alloc | apply Kd.R_drewN | apply Kd.R_drew)); exact Kd.R_mono (Kd.R_far (p := ⟨gb128, 0, none⟩) (Kd.R_types HO_140000.out BK128.out (by decide)) (fun _ hk => hk.2) (.slice Ao51 x140000_2.length co51)) (fun _ hk => trivial), hbT HB.out⟩
     ·rw [if_neg c15] at H
      exact absurd H (by simp)
    ·rw [if_neg c14] at H
     exact absurd H (by simp)

end Go.Proofs.Ytmfhaplhgaehhaa.PFnExactFuseAll
