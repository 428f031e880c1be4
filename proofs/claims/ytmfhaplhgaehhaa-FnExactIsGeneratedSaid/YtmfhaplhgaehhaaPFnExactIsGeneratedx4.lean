-- Made by gen.py (a program of this session) out of the translation; Lean checks it.
import Derived.Test.YtmfhaplhgaehhaaPFnExactIsGeneratedx0
import Derived.Test.YtmfhaplhgaehhaaPFnExactIsGeneratedx3
namespace Go.Proofs.Ytmfhaplhgaehhaa.PFnExactIsGenerated
open Go.RowKit Go.Proofs.YtmfhaplhgaehhaaB Go.Proofs.YtmfhaplhgaehhaaW.PrintWords Go.Proofs.YtmfhaplhgaehhaaW.PrintLast Go.Proofs.YtmfhaplhgaehhaaW.PrintMore
attribute [local go_sem] max2_int min2_int max_two min_two max_three min_three max_four min_four   -- for this text's walks alone
set_option linter.unusedVariables false
set_option linter.unusedSimpArgs false

/-! ### spec_CountEdits: function 25 -/
def spec_CountEdits.l0 : Nat → Int → Int → List (S87) → Option (Int)
 | 0, _, _, _ => none
 | k + 1, x3, x4, x151000 => if x4 < (x151000.length : Int) then (if 0 ≤ x4 then (if ((rd_T87 x151000 x4).f0) = ((rd_T87 x151000 x4).f1) then (spec_CountEdits.l0 k x3 (wrap64 (x4 + 1)) x151000) else (spec_CountEdits.l0 k (wrap64 (x3 + 1)) (wrap64 (x4 + 1)) x151000)) else (none)) else (some x3)
def spec_CountEdits.f (k : Nat) (l0_0 : List (S87)) : Option (Int) := spec_CountEdits.l0 k 0 0 l0_0
theorem spec_CountEdits.mono_l : ∀ k, (∀ y0 y1 y2, LeO (spec_CountEdits.l0 k y0 y1 y2) (spec_CountEdits.l0 (k + 1) y0 y1 y2))
 | 0 => fun _ _ _ r h => by simp [spec_CountEdits.l0] at h
 | k + 1 => by
  have ih0 := spec_CountEdits.mono_l k
  ·intro y0 y1 y2
   unfold spec_CountEdits.l0
   with_reducible repeat' first | exact ih0 _ _ _ | exact LeO.refl _ | exact LeO.none _ | refine LeO.ite ?_ ?_ | refine LeO.bind ?_ (fun _ => ?_)
theorem spec_CountEdits.mono : ∀ a0 k, LeO (spec_CountEdits.f k a0) (spec_CountEdits.f (k + 1) a0) := by
 intro a0 k
 have ih0 := spec_CountEdits.mono_l k
 unfold spec_CountEdits.f
 with_reducible repeat' first | exact ih0 _ _ _ | exact LeO.refl _ | exact LeO.none _ | refine LeO.ite ?_ ?_ | refine LeO.bind ?_ (fun _ => ?_)
set_option maxHeartbeats 8000000 in
set_option maxRecDepth 100000 in
theorem spec_CountEdits.calls (k : Nat) (A0_0 : Option Addr) (c0_0 : Nat) (l0_0 : List (S87)) (r : Int) (w : World) (hr0_0 : Kd.C k87 w A0_0 l0_0.length l0_0) (hc0_0 : l0_0.length ≤ c0_0) (h : spec_CountEdits.f k l0_0 = some r) :
  Calls Try.prog 25 #[.agg #[.slice A0_0 l0_0.length c0_0]] w fun e w' => e = .returned (.int .i64 r) ∧ Below w.heap.size w w' := by
 have hu26 := Try.underlying26; have HR0_0 := Aside0.mk hr0_0; have HC0_0 := Aside0.mk hc0_0; clear hr0_0 hc0_0; have HB := asT (Below.refl w.heap.size w); have H := h; unfold spec_CountEdits.f at H; clear h; have H' := Aside0.mk H; clear H
 go_enter Try.func25, Try.ntmps25
 go_wp2_with (first | ((with_reducible refine gate_dst (N := 1) rfl ?_); refine boxT (N := 1) (cs := #[.slice A0_0 l0_0.length c0_0]) (t := 26) ?_; intro gb150 hg w2 hbox hb; have BK150 := asT hbox; have GW150 := asT (geT hg HB.out); have GE150 := GW150; replace HB := hS HB hb; clear hb hbox hg))
 repeat (go_quiet (first | ((with_reducible refine gate_dst (N := 1) rfl ?_); refine boxT (N := 1) (cs := #[.slice A0_0 l0_0.length c0_0]) (t := 26) ?_; intro gb150 hg w2 hbox hb; have BK150 := asT hbox; have GW150 := asT (geT hg HB.out); have GE150 := GW150; replace HB := hS HB hb; clear hb hbox hg)); try go_wp2_with (first | ((with_reducible refine gate_dst (N := 1) rfl ?_); refine boxT (N := 1) (cs := #[.slice A0_0 l0_0.length c0_0]) (t := 26) ?_; intro gb150 hg w2 hbox hb; have BK150 := asT hbox; have GW150 := asT (geT hg HB.out); have GE150 := GW150; replace HB := hS HB hb; clear hb hbox hg)))
 go_loopg [3, 4] k (fun kq v3 v4 w' => ∃ (x3_1 : Int) (x4_1 : Int), v3 = .int .i64 x3_1 ∧ v4 = .int .i64 x4_1 ∧ Aside0 (spec_CountEdits.l0 kq x3_1 x4_1 l0_0 = some r) ∧ Aside0 (kq ≤ k) ∧ Aside0 (w'.heap[gb150]? = some (.cells #[(.slice A0_0 l0_0.length c0_0)] 26 (0, 0))) ∧ Aside0 (Below w.heap.size w w'))
 case atStart => exact ⟨(0), (0), rdT, rdT, H', ⟨Nat.le_refl _⟩, ⟨by (with_reducible repeat (first | refine blk_drewN ?_ _ | refine blk_drew ?_ | refine blk_alloc ?_ _)); exact BK150.out⟩, ⟨hbT HB.out⟩⟩
 case round =>
  clear H'; (try clear c2 p2); obtain ⟨x3_1, x4_1, rfl, rfl, HA, HK1, BK150, HB⟩ := hrel
  cases gk with
  | zero => exact absurd HA.out (by simp [spec_CountEdits.l0])
  | succ k1 =>
   have H := HA.out; clear HA
   simp only [spec_CountEdits.l0] at H
   by_cases c3 : x4_1 < (l0_0.length : Int)
   ·rw [if_pos c3] at H
    have c3b0 : decide (x4_1 < (l0_0.length : Int)) = true := decide_eq_true c3
    clear c3
    by_cases c4 : 0 ≤ x4_1
    ·rw [if_pos c4] at H
     have c4b0 : decide (0 ≤ x4_1) = true := decide_eq_true c4
     clear c4
     by_cases c5 : ((rd_T87 l0_0 x4_1).f0) = ((rd_T87 l0_0 x4_1).f1)
     ·rw [if_pos c5] at H
      have c5b0 : (((rd_T87 l0_0 x4_1).f0) == ((rd_T87 l0_0 x4_1).f1)) = true := beq_iff_eq.mpr c5
      have c5b1 : (((rd_T87 l0_0 x4_1).f0) != ((rd_T87 l0_0 x4_1).f1)) = false := bne_eq_false_iff_eq.mpr c5
      clear c5; have H' := Aside0.mk H; clear H
      have hcz6_0 := bc0 BK150.out
      have hfz6_0 := blk_frozen BK150.out 0
      have p151 : 0 ≤ (x4_1 : Int) := of_decide_eq_true asmT
      have q151 : x4_1 < (l0_0.length : Int) := of_decide_eq_true asmT
      obtain ⟨ad151, e151, hx151_0, hx151_1⟩ := at_T87 HR0_0.out x4_1 p151 q151
      cases e151
      replace hx151_0 := hbc HB.out hx151_0; replace hx151_1 := hbc HB.out hx151_1; replace p151 := eq_true p151; replace q151 := eq_true q151
      have p152 : 0 ≤ (x4_1 : Int) := of_decide_eq_true asmT
      have q152 : x4_1 < (l0_0.length : Int) := of_decide_eq_true asmT
      obtain ⟨ad152, e152, hx152_0, hx152_1⟩ := at_T87 HR0_0.out x4_1 p152 q152
      obtain rfl : ad151 = ad152 := (by injection e152)
      replace hx152_0 := hbc HB.out hx152_0; replace hx152_1 := hbc HB.out hx152_1; replace p152 := eq_true p152; replace q152 := eq_true q152
      go_wp2
      repeat (go_quiet (fail); try go_wp2)
      go_roundg k1
      case measure => have := HK1.out; omega
      case rel => exact ⟨(x3_1), (wrap64 (x4_1 + 1)), rdT, rdT, H', ⟨by have := HK1.out; omega⟩, ⟨by (with_reducible repeat (first | refine blk_drewN ?_ _ | refine blk_drew ?_ | refine blk_alloc ?_ _)); exact BK150.out⟩, ⟨hbT HB.out⟩⟩
     ·rw [if_neg c5] at H
      have c5b0 : (((rd_T87 l0_0 x4_1).f0) == ((rd_T87 l0_0 x4_1).f1)) = false := beq_eq_false_iff_ne.mpr c5
      have c5b1 : (((rd_T87 l0_0 x4_1).f0) != ((rd_T87 l0_0 x4_1).f1)) = true := bne_iff_ne.mpr c5
      have H' := Aside0.mk H; clear H
      have hcz7_0 := bc0 BK150.out
      have hfz7_0 := blk_frozen BK150.out 0
      have p151 : 0 ≤ (x4_1 : Int) := of_decide_eq_true asmT
      have q151 : x4_1 < (l0_0.length : Int) := of_decide_eq_true asmT
      obtain ⟨ad151, e151, hx151_0, hx151_1⟩ := at_T87 HR0_0.out x4_1 p151 q151
      cases e151
      replace hx151_0 := hbc HB.out hx151_0; replace hx151_1 := hbc HB.out hx151_1; replace p151 := eq_true p151; replace q151 := eq_true q151
      have p152 : 0 ≤ (x4_1 : Int) := of_decide_eq_true asmT
      have q152 : x4_1 < (l0_0.length : Int) := of_decide_eq_true asmT
      obtain ⟨ad152, e152, hx152_0, hx152_1⟩ := at_T87 HR0_0.out x4_1 p152 q152
      obtain rfl : ad151 = ad152 := (by injection e152)
      replace hx152_0 := hbc HB.out hx152_0; replace hx152_1 := hbc HB.out hx152_1; replace p152 := eq_true p152; replace q152 := eq_true q152
      go_wp2
      repeat (go_quiet (fail); try go_wp2)
      go_roundg k1
      case measure => have := HK1.out; omega
      case rel => exact ⟨(wrap64 (x3_1 + 1)), (wrap64 (x4_1 + 1)), rdT, rdT, H', ⟨by have := HK1.out; omega⟩, ⟨by (with_reducible repeat (first | refine blk_drewN ?_ _ | refine blk_drew ?_ | refine blk_alloc ?_ _)); exact BK150.out⟩, ⟨hbT HB.out⟩⟩
    ·rw [if_neg c4] at H
     exact absurd H (by simp)
   ·rw [if_neg c3] at H
    have c3b0 : decide (x4_1 < (l0_0.length : Int)) = false := decide_eq_false c3
    clear c3
    obtain rfl := Option.some.inj H
    have hcz8_0 := bc0 BK150.out
    have hfz8_0 := blk_frozen BK150.out 0
    go_wp2
    repeat (go_quiet (fail); try go_wp2)
    go_ret
    exact ⟨rlT, hbT HB.out⟩

/-! ### spec_l7Inserts: function 99 -/
def spec_l7Inserts.l0 : Nat → Int → List (S87) → Option (Bool)
 | 0, _, _ => none
 | k + 1, x3, x154000 => if x3 < (x154000.length : Int) then (if 0 ≤ x3 then (if ((rd_T87 x154000 x3).f0) = 0 then (if 0 < 2 then (if ((rd_T87 x154000 x3).f1) = (bt (⟨#[116, 105]⟩ : ByteArray) 0) then (spec_l7Inserts.l0 k (wrap64 (x3 + 1)) x154000) else (if 1 < 2 then (if ((rd_T87 x154000 x3).f1) = (bt (⟨#[116, 105]⟩ : ByteArray) 1) then (spec_l7Inserts.l0 k (wrap64 (x3 + 1)) x154000) else (some false)) else (none))) else (none)) else (spec_l7Inserts.l0 k (wrap64 (x3 + 1)) x154000)) else (none)) else (some true)
def spec_l7Inserts.f (k : Nat) (l0_0 : List (S87)) : Option (Bool) := spec_l7Inserts.l0 k 0 l0_0
theorem spec_l7Inserts.mono_l : ∀ k, (∀ y0 y1, LeO (spec_l7Inserts.l0 k y0 y1) (spec_l7Inserts.l0 (k + 1) y0 y1))
 | 0 => fun _ _ r h => by simp [spec_l7Inserts.l0] at h
 | k + 1 => by
  have ih0 := spec_l7Inserts.mono_l k
  ·intro y0 y1
   unfold spec_l7Inserts.l0
   with_reducible repeat' first | exact ih0 _ _ | exact LeO.refl _ | exact LeO.none _ | refine LeO.ite ?_ ?_ | refine LeO.bind ?_ (fun _ => ?_)
theorem spec_l7Inserts.mono : ∀ a0 k, LeO (spec_l7Inserts.f k a0) (spec_l7Inserts.f (k + 1) a0) := by
 intro a0 k
 have ih0 := spec_l7Inserts.mono_l k
 unfold spec_l7Inserts.f
 with_reducible repeat' first | exact ih0 _ _ | exact LeO.refl _ | exact LeO.none _ | refine LeO.ite ?_ ?_ | refine LeO.bind ?_ (fun _ => ?_)
set_option maxHeartbeats 8000000 in
set_option maxRecDepth 100000 in
theorem spec_l7Inserts.calls (k : Nat) (A0_0 : Option Addr) (c0_0 : Nat) (l0_0 : List (S87)) (r : Bool) (w : World) (hr0_0 : Kd.C k87 w A0_0 l0_0.length l0_0) (hc0_0 : l0_0.length ≤ c0_0) (h : spec_l7Inserts.f k l0_0 = some r) :
  Calls Try.prog 99 #[.agg #[.slice A0_0 l0_0.length c0_0]] w fun e w' => e = .returned (.bool r) ∧ Below w.heap.size w w' := by
 have hu26 := Try.underlying26; have HR0_0 := Aside0.mk hr0_0; have HC0_0 := Aside0.mk hc0_0; clear hr0_0 hc0_0; have HB := asT (Below.refl w.heap.size w); have H := h; unfold spec_l7Inserts.f at H; clear h; have H' := Aside0.mk H; clear H
 go_enter Try.func99, Try.ntmps99
 go_wp2_with (first | ((with_reducible refine gate_dst (N := 1) rfl ?_); refine boxT (N := 1) (cs := #[.slice A0_0 l0_0.length c0_0]) (t := 26) ?_; intro gb153 hg w2 hbox hb; have BK153 := asT hbox; have GW153 := asT (geT hg HB.out); have GE153 := GW153; replace HB := hS HB hb; clear hb hbox hg))
 repeat (go_quiet (first | ((with_reducible refine gate_dst (N := 1) rfl ?_); refine boxT (N := 1) (cs := #[.slice A0_0 l0_0.length c0_0]) (t := 26) ?_; intro gb153 hg w2 hbox hb; have BK153 := asT hbox; have GW153 := asT (geT hg HB.out); have GE153 := GW153; replace HB := hS HB hb; clear hb hbox hg)); try go_wp2_with (first | ((with_reducible refine gate_dst (N := 1) rfl ?_); refine boxT (N := 1) (cs := #[.slice A0_0 l0_0.length c0_0]) (t := 26) ?_; intro gb153 hg w2 hbox hb; have BK153 := asT hbox; have GW153 := asT (geT hg HB.out); have GE153 := GW153; replace HB := hS HB hb; clear hb hbox hg)))
 go_loopg [3] k (fun kq v3 w' => ∃ (x3_1 : Int), v3 = .int .i64 x3_1 ∧ Aside0 (spec_l7Inserts.l0 kq x3_1 l0_0 = some r) ∧ Aside0 (kq ≤ k) ∧ Aside0 (w'.heap[gb153]? = some (.cells #[(.slice A0_0 l0_0.length c0_0)] 26 (0, 0))) ∧ Aside0 (Below w.heap.size w w'))
 case atStart => exact ⟨(0), rdT, H', ⟨Nat.le_refl _⟩, ⟨by (with_reducible repeat (first | refine blk_drewN ?_ _ | refine blk_drew ?_ | refine blk_alloc ?_ _)); exact BK153.out⟩, ⟨hbT HB.out⟩⟩
 case round =>
  clear H'; (try clear p2); obtain ⟨x3_1, rfl, HA, HK1, BK153, HB⟩ := hrel
  cases gk with
  | zero => exact absurd HA.out (by simp [spec_l7Inserts.l0])
  | succ k1 =>
   have H := HA.out; clear HA
   simp only [spec_l7Inserts.l0] at H
   by_cases c3 : x3_1 < (l0_0.length : Int)
   ·rw [if_pos c3] at H
    have c3b0 : decide (x3_1 < (l0_0.length : Int)) = true := decide_eq_true c3
    clear c3
    by_cases c4 : 0 ≤ x3_1
    ·rw [if_pos c4] at H
     have c4b0 : decide (0 ≤ x3_1) = true := decide_eq_true c4
     clear c4
     by_cases c5 : ((rd_T87 l0_0 x3_1).f0) = 0
     ·rw [if_pos c5] at H
      have c5b0 : (((rd_T87 l0_0 x3_1).f0) == 0) = true := beq_iff_eq.mpr c5
      have c5b1 : (((rd_T87 l0_0 x3_1).f0) != 0) = false := bne_eq_false_iff_eq.mpr c5
      clear c5
      by_cases c6 : 0 < 2
      ·rw [if_pos c6] at H
       have c6b0 : decide (0 < 2) = true := decide_eq_true c6
       clear c6
       by_cases c8 : ((rd_T87 l0_0 x3_1).f1) = (bt (⟨#[116, 105]⟩ : ByteArray) 0)
       ·rw [if_pos c8] at H
        have c8b0 : (((rd_T87 l0_0 x3_1).f1) == (bt (⟨#[116, 105]⟩ : ByteArray) 0)) = true := beq_iff_eq.mpr c8
        have c8b1 : (((rd_T87 l0_0 x3_1).f1) != (bt (⟨#[116, 105]⟩ : ByteArray) 0)) = false := bne_eq_false_iff_eq.mpr c8
        clear c8; have H' := Aside0.mk H; clear H
        have hcz9_0 := bc0 BK153.out
        have hfz9_0 := blk_frozen BK153.out 0
        have p154 : 0 ≤ (x3_1 : Int) := of_decide_eq_true asmT
        have q154 : x3_1 < (l0_0.length : Int) := of_decide_eq_true asmT
        obtain ⟨ad154, e154, hx154_0, hx154_1⟩ := at_T87 HR0_0.out x3_1 p154 q154
        cases e154
        replace hx154_0 := hbc HB.out hx154_0; replace hx154_1 := hbc HB.out hx154_1; replace p154 := eq_true p154; replace q154 := eq_true q154
        have p155 : 0 ≤ (x3_1 : Int) := of_decide_eq_true asmT
        have q155 : x3_1 < (l0_0.length : Int) := of_decide_eq_true asmT
        obtain ⟨ad155, e155, hx155_0, hx155_1⟩ := at_T87 HR0_0.out x3_1 p155 q155
        obtain rfl : ad154 = ad155 := (by injection e155)
        replace hx155_0 := hbc HB.out hx155_0; replace hx155_1 := hbc HB.out hx155_1; replace p155 := eq_true p155; replace q155 := eq_true q155
        have p7 : 0 ≤ (0 : Int) := (by omega)
        have q7 : 0 < (2 : Int) := (by omega)
        have hx7 : ((((⟨#[116, 105]⟩ : ByteArray))[0]'(by decide)).toNat : Int) = bt (⟨#[116, 105]⟩ : ByteArray) 0 := bt_at (⟨#[116, 105]⟩ : ByteArray) 0 (by decide)
        replace p7 := eq_true p7; replace q7 := eq_true q7
        go_wp2
        repeat (go_quiet (fail); try go_wp2)
        go_roundg k1
        case measure => have := HK1.out; omega
        case rel => exact ⟨(wrap64 (x3_1 + 1)), rdT, H', ⟨by have := HK1.out; omega⟩, ⟨by (with_reducible repeat (first | refine blk_drewN ?_ _ | refine blk_drew ?_ | refine blk_alloc ?_ _)); exact BK153.out⟩, ⟨hbT HB.out⟩⟩
       ·rw [if_neg c8] at H
        have c8b0 : (((rd_T87 l0_0 x3_1).f1) == (bt (⟨#[116, 105]⟩ : ByteArray) 0)) = false := beq_eq_false_iff_ne.mpr c8
        have c8b1 : (((rd_T87 l0_0 x3_1).f1) != (bt (⟨#[116, 105]⟩ : ByteArray) 0)) = true := bne_iff_ne.mpr c8
        by_cases c10 : 1 < 2
        ·rw [if_pos c10] at H
         have c10b0 : decide (1 < 2) = true := decide_eq_true c10
         clear c10
         by_cases c12 : ((rd_T87 l0_0 x3_1).f1) = (bt (⟨#[116, 105]⟩ : ByteArray) 1)
         ·rw [if_pos c12] at H
          have c12b0 : (((rd_T87 l0_0 x3_1).f1) == (bt (⟨#[116, 105]⟩ : ByteArray) 1)) = true := beq_iff_eq.mpr c12
          have c12b1 : (((rd_T87 l0_0 x3_1).f1) != (bt (⟨#[116, 105]⟩ : ByteArray) 1)) = false := bne_eq_false_iff_eq.mpr c12
          clear c12; have H' := Aside0.mk H; clear H
          have hcz13_0 := bc0 BK153.out
          have hfz13_0 := blk_frozen BK153.out 0
          have p154 : 0 ≤ (x3_1 : Int) := of_decide_eq_true asmT
          have q154 : x3_1 < (l0_0.length : Int) := of_decide_eq_true asmT
          obtain ⟨ad154, e154, hx154_0, hx154_1⟩ := at_T87 HR0_0.out x3_1 p154 q154
          cases e154
          replace hx154_0 := hbc HB.out hx154_0; replace hx154_1 := hbc HB.out hx154_1; replace p154 := eq_true p154; replace q154 := eq_true q154
          have p155 : 0 ≤ (x3_1 : Int) := of_decide_eq_true asmT
          have q155 : x3_1 < (l0_0.length : Int) := of_decide_eq_true asmT
          obtain ⟨ad155, e155, hx155_0, hx155_1⟩ := at_T87 HR0_0.out x3_1 p155 q155
          obtain rfl : ad154 = ad155 := (by injection e155)
          replace hx155_0 := hbc HB.out hx155_0; replace hx155_1 := hbc HB.out hx155_1; replace p155 := eq_true p155; replace q155 := eq_true q155
          have p7 : 0 ≤ (0 : Int) := (by omega)
          have q7 : 0 < (2 : Int) := (by omega)
          have hx7 : ((((⟨#[116, 105]⟩ : ByteArray))[0]'(by decide)).toNat : Int) = bt (⟨#[116, 105]⟩ : ByteArray) 0 := bt_at (⟨#[116, 105]⟩ : ByteArray) 0 (by decide)
          replace p7 := eq_true p7; replace q7 := eq_true q7
          have p156 : 0 ≤ (x3_1 : Int) := of_decide_eq_true asmT
          have q156 : x3_1 < (l0_0.length : Int) := of_decide_eq_true asmT
          obtain ⟨ad156, e156, hx156_0, hx156_1⟩ := at_T87 HR0_0.out x3_1 p156 q156
          obtain rfl : ad154 = ad156 := (by injection e156)
          replace hx156_0 := hbc HB.out hx156_0; replace hx156_1 := hbc HB.out hx156_1; replace p156 := eq_true p156; replace q156 := eq_true q156
          have p11 : 0 ≤ (1 : Int) := (by omega)
          have q11 : 1 < (2 : Int) := (by omega)
          have hx11 : ((((⟨#[116, 105]⟩ : ByteArray))[1]'(by decide)).toNat : Int) = bt (⟨#[116, 105]⟩ : ByteArray) 1 := bt_at (⟨#[116, 105]⟩ : ByteArray) 1 (by decide)
          replace p11 := eq_true p11; replace q11 := eq_true q11
          go_wp2
          repeat (go_quiet (fail); try go_wp2)
          go_roundg k1
          case measure => have := HK1.out; omega
          case rel => exact ⟨(wrap64 (x3_1 + 1)), rdT, H', ⟨by have := HK1.out; omega⟩, ⟨by (with_reducible repeat (first | refine blk_drewN ?_ _ | refine blk_drew ?_ | refine blk_alloc ?_ _)); exact BK153.out⟩, ⟨hbT HB.out⟩⟩
         ·rw [if_neg c12] at H
          have c12b0 : (((rd_T87 l0_0 x3_1).f1) == (bt (⟨#[116, 105]⟩ : ByteArray) 1)) = false := beq_eq_false_iff_ne.mpr c12
          have c12b1 : (((rd_T87 l0_0 x3_1).f1) != (bt (⟨#[116, 105]⟩ : ByteArray) 1)) = true := bne_iff_ne.mpr c12
          obtain rfl := Option.some.inj H
          have hcz14_0 := bc0 BK153.out
          have hfz14_0 := blk_frozen BK153.out 0
          have p154 : 0 ≤ (x3_1 : Int) := of_decide_eq_true asmT
          have q154 : x3_1 < (l0_0.length : Int) := of_decide_eq_true asmT
          obtain ⟨ad154, e154, hx154_0, hx154_1⟩ := at_T87 HR0_0.out x3_1 p154 q154
          cases e154
          replace hx154_0 := hbc HB.out hx154_0; replace hx154_1 := hbc HB.out hx154_1; replace p154 := eq_true p154; replace q154 := eq_true q154
          have p155 : 0 ≤ (x3_1 : Int) := of_decide_eq_true asmT
          have q155 : x3_1 < (l0_0.length : Int) := of_decide_eq_true asmT
          obtain ⟨ad155, e155, hx155_0, hx155_1⟩ := at_T87 HR0_0.out x3_1 p155 q155
          obtain rfl : ad154 = ad155 := (by injection e155)
          replace hx155_0 := hbc HB.out hx155_0; replace hx155_1 := hbc HB.out hx155_1; replace p155 := eq_true p155; replace q155 := eq_true q155
          have p7 : 0 ≤ (0 : Int) := (by omega)
          have q7 : 0 < (2 : Int) := (by omega)
          have hx7 : ((((⟨#[116, 105]⟩ : ByteArray))[0]'(by decide)).toNat : Int) = bt (⟨#[116, 105]⟩ : ByteArray) 0 := bt_at (⟨#[116, 105]⟩ : ByteArray) 0 (by decide)
          replace p7 := eq_true p7; replace q7 := eq_true q7
          have p156 : 0 ≤ (x3_1 : Int) := of_decide_eq_true asmT
          have q156 : x3_1 < (l0_0.length : Int) := of_decide_eq_true asmT
          obtain ⟨ad156, e156, hx156_0, hx156_1⟩ := at_T87 HR0_0.out x3_1 p156 q156
          obtain rfl : ad154 = ad156 := (by injection e156)
          replace hx156_0 := hbc HB.out hx156_0; replace hx156_1 := hbc HB.out hx156_1; replace p156 := eq_true p156; replace q156 := eq_true q156
          have p11 : 0 ≤ (1 : Int) := (by omega)
          have q11 : 1 < (2 : Int) := (by omega)
          have hx11 : ((((⟨#[116, 105]⟩ : ByteArray))[1]'(by decide)).toNat : Int) = bt (⟨#[116, 105]⟩ : ByteArray) 1 := bt_at (⟨#[116, 105]⟩ : ByteArray) 1 (by decide)
          replace p11 := eq_true p11; replace q11 := eq_true q11
          go_wp2
          repeat (go_quiet (fail); try go_wp2)
          go_ret
          exact ⟨rlT, hbT HB.out⟩
        ·rw [if_neg c10] at H
         exact absurd H (by simp)
      ·rw [if_neg c6] at H
       exact absurd H (by simp)
     ·rw [if_neg c5] at H
      have c5b0 : (((rd_T87 l0_0 x3_1).f0) == 0) = false := beq_eq_false_iff_ne.mpr c5
      have c5b1 : (((rd_T87 l0_0 x3_1).f0) != 0) = true := bne_iff_ne.mpr c5
      have H' := Aside0.mk H; clear H
      have hcz15_0 := bc0 BK153.out
      have hfz15_0 := blk_frozen BK153.out 0
      have p154 : 0 ≤ (x3_1 : Int) := of_decide_eq_true asmT
      have q154 : x3_1 < (l0_0.length : Int) := of_decide_eq_true asmT
      obtain ⟨ad154, e154, hx154_0, hx154_1⟩ := at_T87 HR0_0.out x3_1 p154 q154
      cases e154
      replace hx154_0 := hbc HB.out hx154_0; replace hx154_1 := hbc HB.out hx154_1; replace p154 := eq_true p154; replace q154 := eq_true q154
      go_wp2
      repeat (go_quiet (fail); try go_wp2)
      go_roundg k1
      case measure => have := HK1.out; omega
      case rel => exact ⟨(wrap64 (x3_1 + 1)), rdT, H', ⟨by have := HK1.out; omega⟩, ⟨by (with_reducible repeat (first | refine blk_drewN ?_ _ | refine blk_drew ?_ | refine blk_alloc ?_ _)); exact BK153.out⟩, ⟨hbT HB.out⟩⟩
    ·rw [if_neg c4] at H
     exact absurd H (by simp)
   ·rw [if_neg c3] at H
    have c3b0 : decide (x3_1 < (l0_0.length : Int)) = false := decide_eq_false c3
    clear c3
    obtain rfl := Option.some.inj H
    have hcz16_0 := bc0 BK153.out
    have hfz16_0 := blk_frozen BK153.out 0
    go_wp2
    repeat (go_quiet (fail); try go_wp2)
    go_ret
    exact ⟨rlT, hbT HB.out⟩

/-! ### spec_IsGenerated: function 37 -/
def spec_IsGenerated.f (k : Nat) (a0 : ByteArray) (l1_0 : List (S87)) : Option (Bool) := (spec_IsForm.f k a0).bind fun t158 => (if t158 = true then (if (a0.size : Int) ≤ 4 then ((spec_IsCandidate.f k l1_0).bind fun t159 => (if t159 = true then ((spec_InputOf.f k l1_0).bind fun t160 => (if t160.toList = a0.toList then ((spec_CountEdits.f k l1_0).bind fun t161 => (if t161 ≤ 2 then ((spec_l7Inserts.f k l1_0).bind fun t162 => (some t162)) else (some false))) else (some false))) else (some false))) else (some false)) else (some false))
theorem spec_IsGenerated.mono : ∀ a0 a1 k, LeO (spec_IsGenerated.f k a0 a1) (spec_IsGenerated.f (k + 1) a0 a1) := by
 intro a0 a1 k
 unfold spec_IsGenerated.f
 with_reducible repeat' first | exact spec_CountEdits.mono _ _ | exact spec_InputOf.mono _ _ | exact spec_IsCandidate.mono _ _ | exact spec_IsForm.mono _ _ | exact spec_l7Inserts.mono _ _ | exact LeO.refl _ | exact LeO.none _ | refine LeO.ite ?_ ?_ | refine LeO.bind ?_ (fun _ => ?_)
set_option maxHeartbeats 8000000 in
set_option maxRecDepth 100000 in
theorem spec_IsGenerated.calls (k : Nat) (a0 : ByteArray) (A1_0 : Option Addr) (c1_0 : Nat) (l1_0 : List (S87)) (r : Bool) (w : World) (hr1_0 : Kd.C k87 w A1_0 l1_0.length l1_0) (hc1_0 : l1_0.length ≤ c1_0) (h : spec_IsGenerated.f k a0 l1_0 = some r) :
  Calls Try.prog 37 #[.string a0, .agg #[.slice A1_0 l1_0.length c1_0]] w fun e w' => e = .returned (.bool r) ∧ Below w.heap.size w w' := by
 have hu26 := Try.underlying26; have HR1_0 := Aside0.mk hr1_0; have HC1_0 := Aside0.mk hc1_0; clear hr1_0 hc1_0; have HB := asT (Below.refl w.heap.size w); have H := h; unfold spec_IsGenerated.f at H; clear h; obtain ⟨t158, A3, H⟩ := be H
 by_cases c4 : t158 = true
 ·subst c4
  rw [if_pos rfl] at H; have H1 := H; clear H; have H := H1; clear H1
  by_cases c5 : (a0.size : Int) ≤ 4
  ·rw [if_pos c5] at H
   have c5b0 : decide ((a0.size : Int) ≤ 4) = true := decide_eq_true c5
   have c5b1 : decide (a0.size ≤ 4) = true := decide_eq_true (by omega)
   clear c5; obtain ⟨t159, A6, H⟩ := be H
   by_cases c7 : t159 = true
   ·subst c7
    rw [if_pos rfl] at H; obtain ⟨t160, A8, H⟩ := be H
    by_cases c9 : t160.toList = a0.toList
    ·rw [if_pos c9] at H
     have c9b0 : (t160.toList == a0.toList) = true := beq_iff_eq.mpr c9
     have c9b1 : (t160.toList != a0.toList) = false := bne_eq_false_iff_eq.mpr c9
     clear c9; obtain ⟨t161, A10, H⟩ := be H
     by_cases c11 : t161 ≤ 2
     ·rw [if_pos c11] at H
      have c11b0 : decide (t161 ≤ 2) = true := decide_eq_true c11
      clear c11; obtain ⟨t162, A12, H⟩ := be H
      obtain rfl := Option.some.inj H
      go_enter Try.func37, Try.ntmps37
      go_wp2_with (first | ((with_reducible refine gate_dst (N := 3) rfl ?_); (try (refine gate_guard (by rfl) ?_; dsimp only)); refine boxT (N := 3) (cs := #[.slice A1_0 l1_0.length c1_0]) (t := 26) ?_; intro gb157 hg w13 hbox hb; have BK157 := asT hbox; have GW157 := asT (geT hg HB.out); have GE157 := GW157; replace HB := hS HB hb; clear hb hbox hg) | ((with_reducible refine gate_callee (f := 86) rfl ?_); refine goesL_ (some 6) rfl rfl Try.func86 (by kernel_rfl) rfl #[.string a0] rfl eqT ?_; (with_reducible refine (spec_IsForm.calls k a0 true _ A3.out).mono ?_); rintro e w' ⟨rfl, ⟨nd, rfl⟩⟩; refine ⟨_, rfl, ?_⟩; obtain ⟨hcz14_0, hfz14_0⟩ := bx1 BK157.out) | (go_at_call 18; (with_reducible refine (spec_IsCandidate.calls k _ _ l1_0 true _ ?side1 ?side2 A6.out).mono ?_); (case side1 => exact crT HR1_0.out (hbT HB.out)); (case side2 => exact HC1_0.out); rintro e w15 ⟨rfl, hb⟩; replace BK157 := bS BK157 hb; replace HB := hS HB hb; (try clear hb hb2 hk hi); obtain ⟨hcz16_0, hfz16_0⟩ := bx1 BK157.out) | (go_at_call 21; (with_reducible refine (spec_InputOf.calls k _ _ l1_0 t160 _ ?side1 ?side2 A8.out).mono ?_); (case side1 => exact crT HR1_0.out HB.out); (case side2 => exact HC1_0.out); rintro e w17 ⟨rfl, hb⟩; replace BK157 := bS BK157 hb; replace HB := hS HB hb; (try clear hb hb2 hk hi); obtain ⟨hcz18_0, hfz18_0⟩ := bx1 BK157.out) | (go_at_call 25; (with_reducible refine (spec_CountEdits.calls k _ _ l1_0 t161 _ ?side1 ?side2 A10.out).mono ?_); (case side1 => exact crT HR1_0.out HB.out); (case side2 => exact HC1_0.out); rintro e w19 ⟨rfl, hb⟩; replace BK157 := bS BK157 hb; replace HB := hS HB hb; (try clear hb hb2 hk hi); obtain ⟨hcz20_0, hfz20_0⟩ := bx1 BK157.out) | (go_at_call 99; (with_reducible refine (spec_l7Inserts.calls k _ _ l1_0 t162 _ ?side1 ?side2 A12.out).mono ?_); (case side1 => exact crT HR1_0.out HB.out); (case side2 => exact HC1_0.out); rintro e w21 ⟨rfl, hb⟩; replace BK157 := bS BK157 hb; replace HB := hS HB hb; (try clear hb hb2 hk hi)))
      go_ret
      exact ⟨rlT, hbT HB.out⟩
     ·rw [if_neg c11] at H
      have c11b0 : decide (t161 ≤ 2) = false := decide_eq_false c11
      clear c11
      obtain rfl := Option.some.inj H
      go_enter Try.func37, Try.ntmps37
      go_wp2_with (first | ((with_reducible refine gate_dst (N := 3) rfl ?_); (try (refine gate_guard (by rfl) ?_; dsimp only)); refine boxT (N := 3) (cs := #[.slice A1_0 l1_0.length c1_0]) (t := 26) ?_; intro gb157 hg w22 hbox hb; have BK157 := asT hbox; have GW157 := asT (geT hg HB.out); have GE157 := GW157; replace HB := hS HB hb; clear hb hbox hg) | ((with_reducible refine gate_callee (f := 86) rfl ?_); refine goesL_ (some 6) rfl rfl Try.func86 (by kernel_rfl) rfl #[.string a0] rfl eqT ?_; (with_reducible refine (spec_IsForm.calls k a0 true _ A3.out).mono ?_); rintro e w' ⟨rfl, ⟨nd, rfl⟩⟩; refine ⟨_, rfl, ?_⟩; obtain ⟨hcz23_0, hfz23_0⟩ := bx1 BK157.out) | (go_at_call 18; (with_reducible refine (spec_IsCandidate.calls k _ _ l1_0 true _ ?side1 ?side2 A6.out).mono ?_); (case side1 => exact crT HR1_0.out (hbT HB.out)); (case side2 => exact HC1_0.out); rintro e w24 ⟨rfl, hb⟩; replace BK157 := bS BK157 hb; replace HB := hS HB hb; (try clear hb hb2 hk hi); obtain ⟨hcz25_0, hfz25_0⟩ := bx1 BK157.out) | (go_at_call 21; (with_reducible refine (spec_InputOf.calls k _ _ l1_0 t160 _ ?side1 ?side2 A8.out).mono ?_); (case side1 => exact crT HR1_0.out HB.out); (case side2 => exact HC1_0.out); rintro e w26 ⟨rfl, hb⟩; replace BK157 := bS BK157 hb; replace HB := hS HB hb; (try clear hb hb2 hk hi); obtain ⟨hcz27_0, hfz27_0⟩ := bx1 BK157.out) | (go_at_call 25; (with_reducible refine (spec_CountEdits.calls k _ _ l1_0 t161 _ ?side1 ?side2 A10.out).mono ?_); (case side1 => exact crT HR1_0.out HB.out); (case side2 => exact HC1_0.out); rintro e w28 ⟨rfl, hb⟩; replace BK157 := bS BK157 hb; replace HB := hS HB hb; (try clear hb hb2 hk hi)))
      go_ret
      exact ⟨rlT, hbT HB.out⟩
    ·rw [if_neg c9] at H
     have c9b0 : (t160.toList == a0.toList) = false := beq_eq_false_iff_ne.mpr c9
     have c9b1 : (t160.toList != a0.toList) = true := bne_iff_ne.mpr c9
     obtain rfl := Option.some.inj H
     go_enter Try.func37, Try.ntmps37
     go_wp2_with (first | ((with_reducible refine gate_dst (N := 3) rfl ?_); (try (refine gate_guard (by rfl) ?_; dsimp only)); refine boxT (N := 3) (cs := #[.slice A1_0 l1_0.length c1_0]) (t := 26) ?_; intro gb157 hg w29 hbox hb; have BK157 := asT hbox; have GW157 := asT (geT hg HB.out); have GE157 := GW157; replace HB := hS HB hb; clear hb hbox hg) | ((with_reducible refine gate_callee (f := 86) rfl ?_); refine goesL_ (some 6) rfl rfl Try.func86 (by kernel_rfl) rfl #[.string a0] rfl eqT ?_; (with_reducible refine (spec_IsForm.calls k a0 true _ A3.out).mono ?_); rintro e w' ⟨rfl, ⟨nd, rfl⟩⟩; refine ⟨_, rfl, ?_⟩; obtain ⟨hcz30_0, hfz30_0⟩ := bx1 BK157.out) | (go_at_call 18; (with_reducible refine (spec_IsCandidate.calls k _ _ l1_0 true _ ?side1 ?side2 A6.out).mono ?_); (case side1 => exact crT HR1_0.out (hbT HB.out)); (case side2 => exact HC1_0.out); rintro e w31 ⟨rfl, hb⟩; replace BK157 := bS BK157 hb; replace HB := hS HB hb; (try clear hb hb2 hk hi); obtain ⟨hcz32_0, hfz32_0⟩ := bx1 BK157.out) | (go_at_call 21; (with_reducible refine (spec_InputOf.calls k _ _ l1_0 t160 _ ?side1 ?side2 A8.out).mono ?_); (case side1 => exact crT HR1_0.out HB.out); (case side2 => exact HC1_0.out); rintro e w33 ⟨rfl, hb⟩; replace BK157 := bS BK157 hb; replace HB := hS HB hb; (try clear hb hb2 hk hi)))
     go_ret
     exact ⟨rlT, hbT HB.out⟩
   ·replace c7 := Bool.eq_false_iff.mpr c7
    subst c7; rw [if_neg nF] at H; have H1 := H; clear H; have H := H1; clear H1
    obtain rfl := Option.some.inj H
    go_enter Try.func37, Try.ntmps37
    go_wp2_with (first | ((with_reducible refine gate_dst (N := 3) rfl ?_); (try (refine gate_guard (by rfl) ?_; dsimp only)); refine boxT (N := 3) (cs := #[.slice A1_0 l1_0.length c1_0]) (t := 26) ?_; intro gb157 hg w34 hbox hb; have BK157 := asT hbox; have GW157 := asT (geT hg HB.out); have GE157 := GW157; replace HB := hS HB hb; clear hb hbox hg) | ((with_reducible refine gate_callee (f := 86) rfl ?_); refine goesL_ (some 6) rfl rfl Try.func86 (by kernel_rfl) rfl #[.string a0] rfl eqT ?_; (with_reducible refine (spec_IsForm.calls k a0 true _ A3.out).mono ?_); rintro e w' ⟨rfl, ⟨nd, rfl⟩⟩; refine ⟨_, rfl, ?_⟩; obtain ⟨hcz35_0, hfz35_0⟩ := bx1 BK157.out) | (go_at_call 18; (with_reducible refine (spec_IsCandidate.calls k _ _ l1_0 false _ ?side1 ?side2 A6.out).mono ?_); (case side1 => exact crT HR1_0.out (hbT HB.out)); (case side2 => exact HC1_0.out); rintro e w36 ⟨rfl, hb⟩; replace BK157 := bS BK157 hb; replace HB := hS HB hb; (try clear hb hb2 hk hi)))
    go_ret
    exact ⟨rlT, hbT HB.out⟩
  ·rw [if_neg c5] at H
   have c5b0 : decide ((a0.size : Int) ≤ 4) = false := decide_eq_false c5
   have c5b1 : decide (a0.size ≤ 4) = false := decide_eq_false (by omega)
   clear c5
   obtain rfl := Option.some.inj H
   go_enter Try.func37, Try.ntmps37
   go_wp2_with (first | ((with_reducible refine gate_dst (N := 3) rfl ?_); (try (refine gate_guard (by rfl) ?_; dsimp only)); refine boxT (N := 3) (cs := #[.slice A1_0 l1_0.length c1_0]) (t := 26) ?_; intro gb157 hg w37 hbox hb; have BK157 := asT hbox; have GW157 := asT (geT hg HB.out); have GE157 := GW157; replace HB := hS HB hb; clear hb hbox hg) | ((with_reducible refine gate_callee (f := 86) rfl ?_); refine goesL_ (some 6) rfl rfl Try.func86 (by kernel_rfl) rfl #[.string a0] rfl eqT ?_; (with_reducible refine (spec_IsForm.calls k a0 true _ A3.out).mono ?_); rintro e w' ⟨rfl, ⟨nd, rfl⟩⟩; refine ⟨_, rfl, ?_⟩))
   go_ret
   exact ⟨rlT, hbT HB.out⟩
 ·replace c4 := Bool.eq_false_iff.mpr c4
  subst c4; rw [if_neg nF] at H; have H1 := H; clear H; have H := H1; clear H1
  obtain rfl := Option.some.inj H
  go_enter Try.func37, Try.ntmps37
  go_wp2_with (first | ((with_reducible refine gate_dst (N := 3) rfl ?_); (try (refine gate_guard (by rfl) ?_; dsimp only)); refine boxT (N := 3) (cs := #[.slice A1_0 l1_0.length c1_0]) (t := 26) ?_; intro gb157 hg w38 hbox hb; have BK157 := asT hbox; have GW157 := asT (geT hg HB.out); have GE157 := GW157; replace HB := hS HB hb; clear hb hbox hg) | ((with_reducible refine gate_callee (f := 86) rfl ?_); refine goesL_ (some 6) rfl rfl Try.func86 (by kernel_rfl) rfl #[.string a0] rfl eqT ?_; (with_reducible refine (spec_IsForm.calls k a0 false _ A3.out).mono ?_); rintro e w' ⟨rfl, ⟨nd, rfl⟩⟩; refine ⟨_, rfl, ?_⟩))
  go_ret
  exact ⟨rlT, hbT HB.out⟩

/-! ### laws_szLinkS: function 119 -/
def laws_szLinkS.f (l0 : List (S131)) (a1 : Int) : Option (Int) := if (wrap64 (a1 - (l0.length : Int))) < 0 then (some (-1)) else (some (wrap64 (a1 - (l0.length : Int))))
set_option maxHeartbeats 8000000 in
set_option maxRecDepth 100000 in
theorem laws_szLinkS.calls (A0 : Option Addr) (c0 : Nat) (l0 : List (S131)) (a1 : Int) (r : Int) (w : World) (hr0 : Kd.C k131 w A0 l0.length l0) (hc0 : l0.length ≤ c0) (h : laws_szLinkS.f l0 a1 = some r) :
  Calls Try.prog 119 #[.slice A0 l0.length c0, .int .i64 a1] w fun e w' => e = .returned (.int .i64 r) ∧ Drawn0 w w' := by
 have HR0 := Aside0.mk hr0; have HC0 := Aside0.mk hc0; clear hr0 hc0; have H := h; unfold laws_szLinkS.f at H; clear h
 by_cases c3 : (wrap64 (a1 - (l0.length : Int))) < 0
 ·rw [if_pos c3] at H
  have c3b0 : decide ((wrap64 (a1 - (l0.length : Int))) < 0) = true := decide_eq_true c3
  clear c3
  obtain rfl := Option.some.inj H
  go_enter Try.func119, Try.ntmps119
  go_wp2
  go_ret
  exact ⟨rdT, drT⟩
 ·rw [if_neg c3] at H
  have c3b0 : decide ((wrap64 (a1 - (l0.length : Int))) < 0) = false := decide_eq_false c3
  clear c3
  obtain rfl := Option.some.inj H
  go_enter Try.func119, Try.ntmps119
  go_wp2
  go_ret
  exact ⟨rdT, drT⟩

/-! ### laws_szCandidate: function 67 -/
def laws_szCandidate.f (l0_0 : List (S131)) (a1 : Int) : Option (Int) := (laws_szLinkS.f l0_0 a1).bind fun t164 => (if t164 < 0 then (some (-1)) else (some t164))
set_option maxHeartbeats 8000000 in
set_option maxRecDepth 100000 in
theorem laws_szCandidate.calls (A0_0 : Option Addr) (c0_0 : Nat) (l0_0 : List (S131)) (a1 : Int) (r : Int) (w : World) (hr0_0 : Kd.C k131 w A0_0 l0_0.length l0_0) (hc0_0 : l0_0.length ≤ c0_0) (h : laws_szCandidate.f l0_0 a1 = some r) :
  Calls Try.prog 67 #[.agg #[.slice A0_0 l0_0.length c0_0], .int .i64 a1] w fun e w' => e = .returned (.int .i64 r) ∧ Below w.heap.size w w' := by
 have hu75 := Try.underlying75; have HR0_0 := Aside0.mk hr0_0; have HC0_0 := Aside0.mk hc0_0; clear hr0_0 hc0_0; have HB := asT (Below.refl w.heap.size w); have H := h; unfold laws_szCandidate.f at H; clear h; obtain ⟨t164, A3, H⟩ := be H
 by_cases c4 : t164 < 0
 ·rw [if_pos c4] at H
  have c4b0 : decide (t164 < 0) = true := decide_eq_true c4
  clear c4
  obtain rfl := Option.some.inj H
  go_enter Try.func67, Try.ntmps67
  go_wp2_with (first | ((with_reducible refine gate_dst (N := 2) rfl ?_); refine boxT (N := 2) (cs := #[.slice A0_0 l0_0.length c0_0]) (t := 75) ?_; intro gb163 hg w5 hbox hb; have BK163 := asT hbox; have GW163 := asT (geT hg HB.out); have GE163 := GW163; replace HB := hS HB hb; clear hb hbox hg; obtain ⟨hcz6_0, hfz6_0⟩ := bx1 BK163.out) | ((with_reducible refine gate_callee (f := 119) rfl ?_); refine goesL_ (some 8) rfl rfl Try.func119 (by kernel_rfl) rfl #[.slice A0_0 l0_0.length c0_0, .int .i64 a1] rfl eqT ?_; (with_reducible refine (laws_szLinkS.calls _ _ l0_0 a1 t164 _ ?side1 ?side2 A3.out).mono ?_); (case side1 => exact crT HR0_0.out HB.out); (case side2 => exact HC0_0.out); rintro e w' ⟨rfl, ⟨nd, rfl⟩⟩; refine ⟨_, rfl, ?_⟩))
  go_ret
  exact ⟨rlT, hbT HB.out⟩
 ·rw [if_neg c4] at H
  have c4b0 : decide (t164 < 0) = false := decide_eq_false c4
  clear c4
  obtain rfl := Option.some.inj H
  go_enter Try.func67, Try.ntmps67
  go_wp2_with (first | ((with_reducible refine gate_dst (N := 2) rfl ?_); refine boxT (N := 2) (cs := #[.slice A0_0 l0_0.length c0_0]) (t := 75) ?_; intro gb163 hg w7 hbox hb; have BK163 := asT hbox; have GW163 := asT (geT hg HB.out); have GE163 := GW163; replace HB := hS HB hb; clear hb hbox hg; obtain ⟨hcz8_0, hfz8_0⟩ := bx1 BK163.out) | ((with_reducible refine gate_callee (f := 119) rfl ?_); refine goesL_ (some 8) rfl rfl Try.func119 (by kernel_rfl) rfl #[.slice A0_0 l0_0.length c0_0, .int .i64 a1] rfl eqT ?_; (with_reducible refine (laws_szLinkS.calls _ _ l0_0 a1 t164 _ ?side1 ?side2 A3.out).mono ?_); (case side1 => exact crT HR0_0.out HB.out); (case side2 => exact HC0_0.out); rintro e w' ⟨rfl, ⟨nd, rfl⟩⟩; refine ⟨_, rfl, ?_⟩))
  go_ret
  exact ⟨rlT, hbT HB.out⟩

/-! ### laws_toLink: function 142 -/
def laws_toLink.f (a0_0 : Int) (a0_1 : Int) : Option (Int × Int) := some (a0_0, a0_1)
set_option maxHeartbeats 8000000 in
set_option maxRecDepth 100000 in
theorem laws_toLink.calls (a0_0 : Int) (a0_1 : Int) (r1 : Int) (r2 : Int) (w : World) (h : laws_toLink.f a0_0 a0_1 = some (r1, r2)) :
  Calls Try.prog 142 #[.agg #[.int .u8 a0_0, .int .u8 a0_1]] w fun e w' => e = .returned (.agg #[.int .u8 r1, .int .u8 r2]) ∧ Below w.heap.size w w' := by
 have hu131 := Try.underlying131; have hu87 := Try.underlying87; have HB := asT (Below.refl w.heap.size w); have H := h; unfold laws_toLink.f at H; clear h
 simp only [Option.some.injEq, Prod.mk.injEq] at H
 obtain ⟨rfl, rfl⟩ := H
 go_enter Try.func142, Try.ntmps142
 go_wp2_with (first | ((with_reducible refine gate_dst (N := 1) rfl ?_); refine boxT (N := 1) (cs := #[.int .u8 a0_0, .int .u8 a0_1]) (t := 131) ?_; intro gb165 hg w2 hbox hb; have BK165 := asT hbox; have GW165 := asT (geT hg HB.out); have GE165 := GW165; replace HB := hS HB hb; clear hb hbox hg) | ((with_reducible refine gate_dst (N := 2) rfl ?_); refine boxT (N := 2) (cs := #[.int .u8 0, .int .u8 0]) (t := 87) ?_; intro gb166 hg w3 hbox hb; have BK166 := asT (hbox); have GW166 := asT (geT hg HB.out); have GE166 := asT (geT hg HB.out); replace HB := hS HB hb; have NB165_166 := asT ((by rw [hg]; exact Nat.ne_of_lt (blk_lt (bkT BK165.out)) : gb165 ≠ gb166)); have NB166_165 := asT ((by rw [hg]; exact Nat.ne_of_gt (blk_lt (bkT BK165.out)) : gb166 ≠ gb165)); replace BK165 := bS BK165 hb; clear hb hbox hg) | ((with_reducible refine gate_dst (N := 3) rfl ?_); refine boxT (N := 3) (cs := #[.int .u8 0, .int .u8 0]) (t := 87) ?_; intro gb167 hg w4 hbox hb; have BK167 := asT (hbox); have GW167 := asT (geT hg HB.out); have GE167 := asT (geT hg HB.out); replace HB := hS HB hb; have NB165_167 := asT ((by rw [hg]; exact Nat.ne_of_lt (blk_lt (bkT BK165.out)) : gb165 ≠ gb167)); have NB167_165 := asT ((by rw [hg]; exact Nat.ne_of_gt (blk_lt (bkT BK165.out)) : gb167 ≠ gb165)); replace BK165 := bS BK165 hb; have NB166_167 := asT ((by rw [hg]; exact Nat.ne_of_lt (blk_lt (bkT BK166.out)) : gb166 ≠ gb167)); have NB167_166 := asT ((by rw [hg]; exact Nat.ne_of_gt (blk_lt (bkT BK166.out)) : gb167 ≠ gb166)); replace BK166 := bS BK166 hb; clear hb hbox hg; have hnb5 := NB165_166.out; have hnc5 := NB166_165.out; have hnb6 := NB165_167.out; have hnc6 := NB167_165.out; obtain ⟨hcz7_0, hcz7_1, hfz7_0, hfz7_1⟩ := bx2 BK165.out; have hnb8 := NB167_166.out; have hnc8 := NB166_167.out; obtain ⟨hcz9_0, hcz9_1, hfz9_0, hfz9_1⟩ := bx2 BK167.out; obtain ⟨hcz10_0, hcz10_1, hfz10_0, hfz10_1⟩ := bx2 BK166.out))
 refine bodyPost_ret (results_cell_row rfl _ _ gb166 87 #[.int .u8 a0_0, .int .u8 a0_1] (0, 0) _ rfl (by (with_reducible repeat (first | refine blk_drewN ?_ _ | refine blk_drew ?_ | refine blk_alloc ?_ _)); refine blk_put (cs := #[.int .u8 a0_0, .int .u8 0]) ?_ 1 _ rfl; (with_reducible repeat (first | refine blk_drewN ?_ _ | refine blk_drew ?_ | refine blk_alloc ?_ _)); refine blk_put (cs := #[.int .u8 0, .int .u8 0]) ?_ 0 _ rfl; (with_reducible repeat (first | refine blk_drewN ?_ _ | refine blk_drew ?_ | refine blk_alloc ?_ _)); refine blk_far ?_ NB166_167.out _; (with_reducible repeat (first | refine blk_drewN ?_ _ | refine blk_drew ?_ | refine blk_alloc ?_ _)); refine blk_far ?_ NB166_167.out _; (with_reducible repeat (first | refine blk_drewN ?_ _ | refine blk_drew ?_ | refine blk_alloc ?_ _)); exact BK166.out) Try.underlying87 rfl (by kernel_rfl)) rfl ?_
 exact ⟨rlT, hbT HB.out⟩

/-! ### laws_toLinkS: function 120 -/
def laws_toLinkS.l0 : Nat → List (S131) → List (S87) → Int → Option ((List (S87)))
 | 0, _, _, _ => none
 | k + 1, x0, x3, x4 => if x4 < (x0.length : Int) then (if 0 ≤ x4 then ((laws_toLink.f ((rd_T131 x0 x4).f0) ((rd_T131 x0 x4).f1)).bind fun bt172 => (if x4 < (x3.length : Int) then (laws_toLinkS.l0 k x0 (x3.set (x4 : Int).toNat (⟨bt172.1, bt172.2⟩ : S87)) (wrap64 (x4 + 1))) else (none))) else (none)) else (some x3)
def laws_toLinkS.f (k : Nat) (l0 : List (S131)) : Option ((List (S87))) := if 0 ≤ (l0.length : Int) then (if ((l0.length : Int) : Int).toNat ≤ 140737488355328 then (laws_toLinkS.l0 k l0 (List.replicate ((l0.length : Int) : Int).toNat z87) 0) else (none)) else (none)
theorem laws_toLinkS.mono_l : ∀ k, (∀ y0 y1 y2, LeO (laws_toLinkS.l0 k y0 y1 y2) (laws_toLinkS.l0 (k + 1) y0 y1 y2))
 | 0 => fun _ _ _ r h => by simp [laws_toLinkS.l0] at h
 | k + 1 => by
  have ih0 := laws_toLinkS.mono_l k
  ·intro y0 y1 y2
   unfold laws_toLinkS.l0
   with_reducible repeat' first | exact ih0 _ _ _ | exact LeO.refl _ | exact LeO.none _ | refine LeO.ite ?_ ?_ | refine LeO.bind ?_ (fun _ => ?_)
theorem laws_toLinkS.mono : ∀ a0 k, LeO (laws_toLinkS.f k a0) (laws_toLinkS.f (k + 1) a0) := by
 intro a0 k
 have ih0 := laws_toLinkS.mono_l k
 unfold laws_toLinkS.f
 with_reducible repeat' first | exact ih0 _ _ _ | exact LeO.refl _ | exact LeO.none _ | refine LeO.ite ?_ ?_ | refine LeO.bind ?_ (fun _ => ?_)
set_option maxHeartbeats 8000000 in
set_option maxRecDepth 100000 in
theorem laws_toLinkS.calls (k : Nat) (A0 : Option Addr) (c0 : Nat) (l0 : List (S131)) (r : List (S87)) (w : World) (hr0 : Kd.C k131 w A0 l0.length l0) (hc0 : l0.length ≤ c0) (h : laws_toLinkS.f k l0 = some r) :
  Calls Try.prog 120 #[.slice A0 l0.length c0] w fun e w' => ∃ v0_ : Value, e = .returned (v0_) ∧ Kd.R k87 87 w' w.heap.size (fun _ => True) v0_ r ∧ Below w.heap.size w w' := by
 have hu131 := Try.underlying131; have hu87 := Try.underlying87; have HR0 := Aside0.mk hr0; have HC0 := Aside0.mk hc0; clear hr0 hc0; have HB := asT (Below.refl w.heap.size w); have H := h; unfold laws_toLinkS.f at H; clear h
 by_cases c2 : 0 ≤ (l0.length : Int)
 ·rw [if_pos c2] at H
  have c2b0 := eq_true c2
  have c2b1 : decide (0 ≤ (l0.length : Int)) = true := decide_eq_true c2
  clear c2
  by_cases c3 : ((l0.length : Int) : Int).toNat ≤ 140737488355328
  ·rw [if_pos c3] at H
   have c3b0 := eq_true c3
   have c3b1 : decide (((l0.length : Int) : Int).toNat ≤ 140737488355328) = true := decide_eq_true c3
   clear c3; obtain ⟨y168, hy168⟩ : ∃ y_ : List (S87), y_ = (List.replicate ((l0.length : Int) : Int).toNat z87) := ⟨_, rfl⟩
   replace H : (laws_toLinkS.l0 k l0 y168 0) = some r := by first | (rw [hy168]; with_reducible exact H) | (have H2_ := (Option.bind_some _ _).symm.trans H; rw [hy168]; with_reducible exact H2_) | (have H2_ := (Option.bind_some _ _).symm.trans H; with_reducible exact H2_) | with_reducible exact H | (rw [hy168]; exact H) | exact H
   have Ny168 := Aside0.mk hy168; clear hy168; have H' := Aside0.mk H; clear H
   go_enter Try.func120, Try.ntmps120
   go_wp2_with (first | ((with_reducible refine gate_dst (N := 7) rfl ?_); refine Kd.R_make k87 _ 87 rfl (N := 7) rfl 24 _ _ rfl (l0.length : Int) rfl rfl Try.underlying24 (.agg #[(.int .u8 0), (.int .u8 0)]) 2 info87 rfl (by decide) (by omega) z87 (ok := fun _ => True) (okp := fun _ => True) (k87_mkM _ _ _ z87 ) (fun _ hk => hk) trivial (of_decide_eq_true asmT) (Nat.le_trans (Nat.mul_le_mul_right _ (of_decide_eq_true asmT : (l0.length : Int).toNat ≤ 140737488355328)) (by omega)) (Below.refl _ _) (Nat.le_refl _) ?_; intro v169 w4 ho5 hb hg_ hnew_; clear hg_ hnew_; (first | rw [← Ny168.out] at ho5 | (simp only [Int.reduceToNat] at ho5; rw [← Ny168.out] at ho5)); have HO170 := asT (Kd.R_lower ho5 (below_size (hbT HB.out))); replace HB := hS HB hb; clear hb ho5))
   go_loopg [4] k (fun kq v4 w' => ∃ (x3_1 : List (S87)) (x4_1 : Int), v4 = .int .i64 x4_1 ∧ Aside0 (laws_toLinkS.l0 kq l0 x3_1 x4_1 = some r) ∧ Aside0 (kq ≤ k) ∧ Aside0 (Kd.R k87 87 w' w.heap.size (fun _ => True) v169 x3_1) ∧ Aside0 (Below w.heap.size w w'))
   case atStart => exact ⟨(y168), (0), rdT, H', ⟨Nat.le_refl _⟩, ⟨by (with_reducible repeat (first | apply Kd.R_alloc | apply Kd.R_drewN | apply Kd.R_drew)); exact HO170.out⟩, ⟨hbT HB.out⟩⟩
   case round =>
    clear H'; (try clear c1 c2 c2b0 c2b1 p2 c3 c3b0 c3b1); obtain ⟨x3_1, x4_1, rfl, HA, HK1, HO_3, HB⟩ := hrel
    cases gk with
    | zero => exact absurd HA.out (by simp [laws_toLinkS.l0])
    | succ k1 =>
     have H := HA.out; clear HA
     simp only [laws_toLinkS.l0] at H
     by_cases c6 : x4_1 < (l0.length : Int)
     ·rw [if_pos c6] at H
      have c6b0 : decide (x4_1 < (l0.length : Int)) = true := decide_eq_true c6
      clear c6
      by_cases c7 : 0 ≤ x4_1
      ·rw [if_pos c7] at H
       have c7b0 : decide (0 ≤ x4_1) = true := decide_eq_true c7
       clear c7; replace H := Option.bind_eq_some_iff.mp H; obtain ⟨⟨t172, t173⟩, A80, H⟩ := H; replace H : (if x4_1 < (x3_1.length : Int) then (laws_toLinkS.l0 k1 l0 (x3_1.set (x4_1 : Int).toNat (⟨t172, t173⟩ : S87)) (wrap64 (x4_1 + 1))) else (none)) = some r := H; have A8 := Aside0.mk A80; clear A80
       by_cases c9 : x4_1 < (x3_1.length : Int)
       ·rw [if_pos c9] at H
        have c9b0 : decide (x4_1 < (x3_1.length : Int)) = true := decide_eq_true c9
        clear c9; obtain ⟨y174, hy174⟩ : ∃ y_ : List (S87), y_ = (x3_1.set (x4_1 : Int).toNat (⟨t172, t173⟩ : S87)) := ⟨_, rfl⟩
        replace H : (laws_toLinkS.l0 k1 l0 y174 (wrap64 (x4_1 + 1))) = some r := by first | (rw [hy174]; with_reducible exact H) | (have H2_ := (Option.bind_some _ _).symm.trans H; rw [hy174]; with_reducible exact H2_) | (have H2_ := (Option.bind_some _ _).symm.trans H; with_reducible exact H2_) | with_reducible exact H | (rw [hy174]; exact H) | exact H
        have Ny174 := Aside0.mk hy174; clear hy174; have H' := Aside0.mk H; clear H
        have p171 : 0 ≤ (x4_1 : Int) := of_decide_eq_true asmT
        have q171 : x4_1 < (l0.length : Int) := of_decide_eq_true asmT
        obtain ⟨ad171, e171, hx171_0, hx171_1⟩ := at_T131 HR0.out x4_1 p171 q171
        cases e171
        replace hx171_0 := hbc HB.out hx171_0; replace hx171_1 := hbc HB.out hx171_1; replace p171 := eq_true p171; replace q171 := eq_true q171
        go_wp2_with (first | ((with_reducible refine gate_callee (f := 142) rfl ?_); refine goesL_ (some 20) rfl rfl Try.func142 (by kernel_rfl) rfl #[.agg #[.int .u8 ((rd_T131 l0 x4_1).f0), .int .u8 ((rd_T131 l0 x4_1).f1)]] rfl eqT ?_; (with_reducible refine (laws_toLink.calls ((rd_T131 l0 x4_1).f0) ((rd_T131 l0 x4_1).f1) t172 t173 _ A8.out).mono ?_); rintro e w11 ⟨rfl, hb⟩; refine ⟨_, rfl, ?_⟩; replace HO_3 := asT (Kd.R_below (roT HO_3.out) hb); replace HB := hS HB hb; (try clear hb hb2 hk hi); have p10 : 0 ≤ (x4_1 : Int) := of_decide_eq_true asmT; have q10 : (x4_1 : Int) < ((x3_1.length : Int) : Int) := of_decide_eq_true asmT; obtain ⟨go10, co10, eo10, gb10, gl10, cl10, HG10⟩ := Kd.R_form HO_3.out (by omega); (first | cases eo10 | (injection eo10 with ea_ en_ ec_; (first | subst ea_ | (injection ea_ with ea_; subst ea_)); subst ec_; clear en_)); have GB10 := Aside0.mk gb10; have GG10 := Aside0.mk HG10; clear gb10 gl10 HG10; obtain ⟨ce10, hcl10, hM10, hcc10, hfr10⟩ := Kd.R_elem HO_3.out z87 (x4_1 : Int) p10 q10; obtain rfl := k87_openM hM10; have hx10_0 : w11.cell? ⟨go10, (x4_1 : Int).toNat * 2, none⟩ = some (.int .u8 ((rd_T87 x3_1 x4_1).f0)) := hcc10 0 _ rfl; have hx10_1 : w11.cell? ⟨go10, (x4_1 : Int).toNat * 2 + 1, none⟩ = some (.int .u8 ((rd_T87 x3_1 x4_1).f1)) := hcc10 1 _ rfl; have hf10_0 : w11.frozen? ⟨go10, (x4_1 : Int).toNat * 2, none⟩ = false := hfr10 0; have hf10_1 : w11.frozen? ⟨go10, (x4_1 : Int).toNat * 2 + 1, none⟩ = false := hfr10 1; clear hcl10 hcc10 hfr10; (try clear hM10); replace p10 := eq_true p10; replace q10 := eq_true q10; have HX12 := asT (show Kd.R k87 87 w11 w.heap.size (fun _ => True) (.slice (some ⟨go10, 0, none⟩) x3_1.length co10) x3_1 from (roT HO_3.out)); obtain ⟨ce12, hcl12, hM12, hcc12, hfr12⟩ := Kd.R_elem HX12.out z87 (x4_1 : Int) (of_decide_eq_true asmT) (by have h_ : (x4_1 : Int) < ((x3_1.length : Int) : Int) := of_decide_eq_true asmT; first | exact h_ | (have e_ := (Kd.R_reads' HO_3.out).1; omega) | simpa using h_); obtain rfl := k87_openM hM12; have HP12 := Kd.R_seg HX12.out (x4_1 : Int) (of_decide_eq_true asmT) (by have h_ : (x4_1 : Int) < ((x3_1.length : Int) : Int) := of_decide_eq_true asmT; first | exact h_ | (have e_ := (Kd.R_reads' HO_3.out).1; omega) | simpa using h_) (seg := [.int .u8 t172, .int .u8 t173]) (j := 0) hcl12 hcc12 (show 2 ≤ 2 from by decide) (x' := (⟨t172, t173⟩ : S87)) (k87_mkM _ _ _ (⟨t172, t173⟩ : S87) ) (fun _ hk => hk); have hx12_0 := hcc12 0 _ rfl; (try simp only [show (k87).sz = 2 from rfl, Nat.mul_one, Nat.add_zero] at hx12_0); have hf12_0 := hfr12 0; (try simp only [show (k87).sz = 2 from rfl, Nat.mul_one, Nat.add_zero] at hf12_0); have hx12_1 := hcc12 1 _ rfl; (try simp only [show (k87).sz = 2 from rfl, Nat.mul_one, Nat.add_zero] at hx12_1); have hf12_1 := hfr12 1; (try simp only [show (k87).sz = 2 from rfl, Nat.mul_one, Nat.add_zero] at hf12_1); clear hcl12 hcc12 hfr12; (try clear hM12)) | ((with_reducible refine gate_store (t := 87) (p := 21) rfl ?_); refine store_event (t := 87) (p := 21) (v := ?vo_w13) (w1 := ((w11.setCell ⟨go10, (x4_1 : Int).toNat * 2, none⟩ (.int .u8 t172)).setCell ⟨go10, (x4_1 : Int).toNat * 2 + 1, none⟩ (.int .u8 t173))) ?hg ?ho ?hn ?hr ?_; (case ho => rfl); (case hg => rfl); (case hn => rfl); (case hr => first | (go_simp; done) | (go_simp; rfl)); intro w13 hw; have hg : w11.grownBy w13 (some go10) := (by rw [hw]; exact HP12.2); have hp_ : Kd.R k87 87 w13 w.heap.size (fun _ => True) (.slice (some ⟨go10, 0, none⟩) x3_1.length co10) y174 := (by rw [hw, Ny174.out]; exact HP12.1); clear HP12; replace HO_3 := asT (hp_); replace HB := asT ((by rw [hw]; exact below_set (below_set (HB.out) GB10.out) GB10.out : Below w.heap.size w w13)); clear hg hw hp_))
        go_roundg k1
        case measure => have := HK1.out; omega
        case rel => exact ⟨(y174), (wrap64 (x4_1 + 1)), rdT, H', ⟨by have := HK1.out; omega⟩, ⟨by (with_reducible repeat (first | apply Kd.R_alloc | apply Kd.R_drewN | apply Kd.R_drew)); exact HO_3.out⟩, ⟨hbT HB.out⟩⟩
       ·rw [if_neg c9] at H
        exact absurd H (by simp)
      ·rw [if_neg c7] at H
       exact absurd H (by simp)
     ·rw [if_neg c6] at H
      have c6b0 : decide (x4_1 < (l0.length : Int)) = false := decide_eq_false c6
      clear c6
      obtain rfl := Option.some.inj H
      go_wp2
      go_ret
      exact ⟨_, rlT, by (with_reducible repeat (first | apply Kd.R_alloc | apply Kd.R_drewN | apply Kd.R_drew)); exact HO_3.out, hbT HB.out⟩
  ·rw [if_neg c3] at H
   exact absurd H (by simp)
 ·rw [if_neg c2] at H
  exact absurd H (by simp)

/-! ### laws_toCandidate: function 68 -/
def laws_toCandidate.f (k : Nat) (l0_0 : List (S131)) : Option ((List (S87))) := (laws_toLinkS.f k l0_0).bind fun t178 => (some t178)
theorem laws_toCandidate.mono : ∀ a0 k, LeO (laws_toCandidate.f k a0) (laws_toCandidate.f (k + 1) a0) := by
 intro a0 k
 unfold laws_toCandidate.f
 with_reducible repeat' first | exact laws_toLinkS.mono _ _ | exact LeO.refl _ | exact LeO.none _ | refine LeO.ite ?_ ?_ | refine LeO.bind ?_ (fun _ => ?_)
set_option maxHeartbeats 8000000 in
set_option maxRecDepth 100000 in
theorem laws_toCandidate.calls (k : Nat) (A0_0 : Option Addr) (c0_0 : Nat) (l0_0 : List (S131)) (r : List (S87)) (w : World) (hr0_0 : Kd.C k131 w A0_0 l0_0.length l0_0) (hc0_0 : l0_0.length ≤ c0_0) (h : laws_toCandidate.f k l0_0 = some r) :
  Calls Try.prog 68 #[.agg #[.slice A0_0 l0_0.length c0_0]] w fun e w' => ∃ v0_ : Value, e = .returned (.agg #[v0_]) ∧ Kd.R k87 87 w' w.heap.size (fun _ => True) v0_ r ∧ Below w.heap.size w w' := by
 have hu75 := Try.underlying75; have hu26 := Try.underlying26; have HR0_0 := Aside0.mk hr0_0; have HC0_0 := Aside0.mk hc0_0; clear hr0_0 hc0_0; have HB := asT (Below.refl w.heap.size w); have H := h; unfold laws_toCandidate.f at H; clear h; obtain ⟨t178, A2, H⟩ := be H
 obtain rfl := Option.some.inj H
 go_enter Try.func68, Try.ntmps68
 go_wp2_with (first | ((with_reducible refine gate_dst (N := 1) rfl ?_); refine boxT (N := 1) (cs := #[.slice A0_0 l0_0.length c0_0]) (t := 75) ?_; intro gb175 hg w3 hbox hb; have BK175 := asT hbox; have GW175 := asT (geT hg HB.out); have GE175 := GW175; replace HB := hS HB hb; clear hb hbox hg) | ((with_reducible refine gate_dst (N := 2) rfl ?_); refine boxT (N := 2) (cs := #[.slice none 0 0]) (t := 26) ?_; intro gb176 hg w4 hbox hb; have BK176 := asT (hbox); have GW176 := asT (geT hg HB.out); have GE176 := asT (geT hg HB.out); replace HB := hS HB hb; have NB175_176 := asT ((by rw [hg]; exact Nat.ne_of_lt (blk_lt (bkT BK175.out)) : gb175 ≠ gb176)); have NB176_175 := asT ((by rw [hg]; exact Nat.ne_of_gt (blk_lt (bkT BK175.out)) : gb176 ≠ gb175)); replace BK175 := bS BK175 hb; clear hb hbox hg) | ((with_reducible refine gate_dst (N := 3) rfl ?_); refine boxT (N := 3) (cs := #[.slice none 0 0]) (t := 26) ?_; intro gb177 hg w5 hbox hb; have BK177 := asT (hbox); have GW177 := asT (geT hg HB.out); have GE177 := asT (geT hg HB.out); replace HB := hS HB hb; have NB175_177 := asT ((by rw [hg]; exact Nat.ne_of_lt (blk_lt (bkT BK175.out)) : gb175 ≠ gb177)); have NB177_175 := asT ((by rw [hg]; exact Nat.ne_of_gt (blk_lt (bkT BK175.out)) : gb177 ≠ gb175)); replace BK175 := bS BK175 hb; have NB176_177 := asT ((by rw [hg]; exact Nat.ne_of_lt (blk_lt (bkT BK176.out)) : gb176 ≠ gb177)); have NB177_176 := asT ((by rw [hg]; exact Nat.ne_of_gt (blk_lt (bkT BK176.out)) : gb177 ≠ gb176)); replace BK176 := bS BK176 hb; clear hb hbox hg; have hnb6 := NB175_176.out; have hnc6 := NB176_175.out; have hnb7 := NB175_177.out; have hnc7 := NB177_175.out; obtain ⟨hcz8_0, hfz8_0⟩ := bx1 BK175.out) | ((with_reducible refine gate_callee (f := 120) rfl ?_); refine goesL_ (some 6) rfl rfl Try.func120 (by kernel_rfl) rfl #[.slice A0_0 l0_0.length c0_0] rfl eqT ?_; (with_reducible refine (laws_toLinkS.calls k _ _ l0_0 t178 _ ?side1 ?side2 A2.out).mono ?_); (case side1 => exact crT HR0_0.out HB.out); (case side2 => exact HC0_0.out); rintro e w9 ⟨v179, rfl, ho0, hb⟩; refine ⟨_, rfl, ?_⟩; have HO180 := asT (Kd.R_lower ho0 (below_size (hbT HB.out))); replace BK175 := bS BK175 hb; replace BK176 := bS BK176 hb; replace BK177 := bS BK177 hb; replace HB := hS HB hb; (try clear hb hb2 hk hi ho0); obtain ⟨Ao10, co10, eo10⟩ := Kd.R_slice HO180.out; subst eo10; have hnb11 := NB177_176.out; have hnc11 := NB176_177.out; obtain ⟨hcz12_0, hfz12_0⟩ := bx1 BK177.out; obtain ⟨hcz13_0, hfz13_0⟩ := bx1 BK176.out))
 refine bodyPost_ret (results_cell_row rfl _ _ gb176 26 #[.slice Ao10 t178.length co10] (0, 0) _ rfl (by (with_reducible repeat (first | refine blk_drewN ?_ _ | refine blk_drew ?_ | refine blk_alloc ?_ _)); refine blk_put (cs := #[.slice none 0 0]) ?_ 0 _ rfl; (with_reducible repeat (first | refine blk_drewN ?_ _ | refine blk_drew ?_ | refine blk_alloc ?_ _)); refine blk_far ?_ NB176_177.out _; (with_reducible repeat (first | refine blk_drewN ?_ _ | refine blk_drew ?_ | refine blk_alloc ?_ _)); exact BK176.out) Try.underlying26 rfl (by kernel_rfl)) rfl ?_
 exact ⟨_, rlT, by (with_reducible repeat (first | apply Kd.R_alloc | apply Kd.R_drewN | apply Kd.R_drew)); exact Kd.R_mono (Kd.R_far (p := ⟨gb176, 0, none⟩) (Kd.R_far (p := ⟨gb177, 0, none⟩) (Kd.R_types (Kd.R_types HO180.out BK177.out (by decide)) BK176.out (by decide)) (fun _ hk => hk.1.2) (.slice Ao10 t178.length co10)) (fun _ hk => hk.2) (.slice Ao10 t178.length co10)) (fun _ hk => trivial), hbT HB.out⟩

/-! ### laws_eqLink: function 143 -/
def laws_eqLink.f (a0_0 : Int) (a0_1 : Int) (a1_0 : Int) (a1_1 : Int) : Option (Bool) := if a0_0 = a1_0 then (if a0_1 = a1_1 then (some true) else (some false)) else (some false)
set_option maxHeartbeats 8000000 in
set_option maxRecDepth 100000 in
theorem laws_eqLink.calls (a0_0 : Int) (a0_1 : Int) (a1_0 : Int) (a1_1 : Int) (r : Bool) (w : World) (h : laws_eqLink.f a0_0 a0_1 a1_0 a1_1 = some r) :
  Calls Try.prog 143 #[.agg #[.int .u8 a0_0, .int .u8 a0_1], .agg #[.int .u8 a1_0, .int .u8 a1_1]] w fun e w' => e = .returned (.bool r) ∧ Below w.heap.size w w' := by
 have hu87 := Try.underlying87; have HB := asT (Below.refl w.heap.size w); have H := h; unfold laws_eqLink.f at H; clear h
 by_cases c3 : a0_0 = a1_0
 ·rw [if_pos c3] at H
  have c3b0 : (a0_0 == a1_0) = true := beq_iff_eq.mpr c3
  have c3b1 : (a0_0 != a1_0) = false := bne_eq_false_iff_eq.mpr c3
  clear c3
  by_cases c4 : a0_1 = a1_1
  ·rw [if_pos c4] at H
   have c4b0 : (a0_1 == a1_1) = true := beq_iff_eq.mpr c4
   have c4b1 : (a0_1 != a1_1) = false := bne_eq_false_iff_eq.mpr c4
   clear c4
   obtain rfl := Option.some.inj H
   go_enter Try.func143, Try.ntmps143
   go_wp2_with (first | ((with_reducible refine gate_dst (N := 2) rfl ?_); refine boxT (N := 2) (cs := #[.int .u8 a0_0, .int .u8 a0_1]) (t := 87) ?_; intro gb181 hg w5 hbox hb; have BK181 := asT hbox; have GW181 := asT (geT hg HB.out); have GE181 := GW181; replace HB := hS HB hb; clear hb hbox hg) | ((with_reducible refine gate_dst (N := 3) rfl ?_); refine boxT (N := 3) (cs := #[.int .u8 a1_0, .int .u8 a1_1]) (t := 87) ?_; intro gb182 hg w6 hbox hb; have BK182 := asT (hbox); have GW182 := asT (geT hg HB.out); have GE182 := asT (geT hg HB.out); replace HB := hS HB hb; have NB181_182 := asT ((by rw [hg]; exact Nat.ne_of_lt (blk_lt (bkT BK181.out)) : gb181 ≠ gb182)); have NB182_181 := asT ((by rw [hg]; exact Nat.ne_of_gt (blk_lt (bkT BK181.out)) : gb182 ≠ gb181)); replace BK181 := bS BK181 hb; clear hb hbox hg; have hnb7 := NB181_182.out; have hnc7 := NB182_181.out; obtain ⟨hcz8_0, hcz8_1, hfz8_0, hfz8_1⟩ := bx2 BK181.out; obtain ⟨hcz9_0, hcz9_1, hfz9_0, hfz9_1⟩ := bx2 BK182.out))
   go_ret
   exact ⟨rlT, hbT HB.out⟩
  ·rw [if_neg c4] at H
   have c4b0 : (a0_1 == a1_1) = false := beq_eq_false_iff_ne.mpr c4
   have c4b1 : (a0_1 != a1_1) = true := bne_iff_ne.mpr c4
   obtain rfl := Option.some.inj H
   go_enter Try.func143, Try.ntmps143
   go_wp2_with (first | ((with_reducible refine gate_dst (N := 2) rfl ?_); refine boxT (N := 2) (cs := #[.int .u8 a0_0, .int .u8 a0_1]) (t := 87) ?_; intro gb181 hg w10 hbox hb; have BK181 := asT hbox; have GW181 := asT (geT hg HB.out); have GE181 := GW181; replace HB := hS HB hb; clear hb hbox hg) | ((with_reducible refine gate_dst (N := 3) rfl ?_); refine boxT (N := 3) (cs := #[.int .u8 a1_0, .int .u8 a1_1]) (t := 87) ?_; intro gb182 hg w11 hbox hb; have BK182 := asT (hbox); have GW182 := asT (geT hg HB.out); have GE182 := asT (geT hg HB.out); replace HB := hS HB hb; have NB181_182 := asT ((by rw [hg]; exact Nat.ne_of_lt (blk_lt (bkT BK181.out)) : gb181 ≠ gb182)); have NB182_181 := asT ((by rw [hg]; exact Nat.ne_of_gt (blk_lt (bkT BK181.out)) : gb182 ≠ gb181)); replace BK181 := bS BK181 hb; clear hb hbox hg; have hnb12 := NB181_182.out; have hnc12 := NB182_181.out; obtain ⟨hcz13_0, hcz13_1, hfz13_0, hfz13_1⟩ := bx2 BK181.out; obtain ⟨hcz14_0, hcz14_1, hfz14_0, hfz14_1⟩ := bx2 BK182.out))
   go_ret
   exact ⟨rlT, hbT HB.out⟩
 ·rw [if_neg c3] at H
  have c3b0 : (a0_0 == a1_0) = false := beq_eq_false_iff_ne.mpr c3
  have c3b1 : (a0_0 != a1_0) = true := bne_iff_ne.mpr c3
  obtain rfl := Option.some.inj H
  go_enter Try.func143, Try.ntmps143
  go_wp2_with (first | ((with_reducible refine gate_dst (N := 2) rfl ?_); refine boxT (N := 2) (cs := #[.int .u8 a0_0, .int .u8 a0_1]) (t := 87) ?_; intro gb181 hg w15 hbox hb; have BK181 := asT hbox; have GW181 := asT (geT hg HB.out); have GE181 := GW181; replace HB := hS HB hb; clear hb hbox hg) | ((with_reducible refine gate_dst (N := 3) rfl ?_); refine boxT (N := 3) (cs := #[.int .u8 a1_0, .int .u8 a1_1]) (t := 87) ?_; intro gb182 hg w16 hbox hb; have BK182 := asT (hbox); have GW182 := asT (geT hg HB.out); have GE182 := asT (geT hg HB.out); replace HB := hS HB hb; have NB181_182 := asT ((by rw [hg]; exact Nat.ne_of_lt (blk_lt (bkT BK181.out)) : gb181 ≠ gb182)); have NB182_181 := asT ((by rw [hg]; exact Nat.ne_of_gt (blk_lt (bkT BK181.out)) : gb182 ≠ gb181)); replace BK181 := bS BK181 hb; clear hb hbox hg; have hnb17 := NB181_182.out; have hnc17 := NB182_181.out; obtain ⟨hcz18_0, hcz18_1, hfz18_0, hfz18_1⟩ := bx2 BK181.out; obtain ⟨hcz19_0, hcz19_1, hfz19_0, hfz19_1⟩ := bx2 BK182.out))
  go_ret
  exact ⟨rlT, hbT HB.out⟩

/-! ### laws_eqLinkS: function 121 -/
def laws_eqLinkS.l0 : Nat → List (S87) → List (S87) → Int → Option (Bool)
 | 0, _, _, _ => none
 | k + 1, x0, x1, x5 => if x5 < (x0.length : Int) then (if 0 ≤ x5 then (if x5 < (x1.length : Int) then ((laws_eqLink.f ((rd_T87 x0 x5).f0) ((rd_T87 x0 x5).f1) ((rd_T87 x1 x5).f0) ((rd_T87 x1 x5).f1)).bind fun t185 => (if t185 = true then (laws_eqLinkS.l0 k x0 x1 (wrap64 (x5 + 1))) else (some false))) else (none)) else (none)) else (some true)
def laws_eqLinkS.f (k : Nat) (l0 : List (S87)) (l1 : List (S87)) : Option (Bool) := if (l0.length : Int) = (l1.length : Int) then (laws_eqLinkS.l0 k l0 l1 0) else (some false)
theorem laws_eqLinkS.mono_l : ∀ k, (∀ y0 y1 y2, LeO (laws_eqLinkS.l0 k y0 y1 y2) (laws_eqLinkS.l0 (k + 1) y0 y1 y2))
 | 0 => fun _ _ _ r h => by simp [laws_eqLinkS.l0] at h
 | k + 1 => by
  have ih0 := laws_eqLinkS.mono_l k
  ·intro y0 y1 y2
   unfold laws_eqLinkS.l0
   with_reducible repeat' first | exact ih0 _ _ _ | exact LeO.refl _ | exact LeO.none _ | refine LeO.ite ?_ ?_ | refine LeO.bind ?_ (fun _ => ?_)
theorem laws_eqLinkS.mono : ∀ a0 a1 k, LeO (laws_eqLinkS.f k a0 a1) (laws_eqLinkS.f (k + 1) a0 a1) := by
 intro a0 a1 k
 have ih0 := laws_eqLinkS.mono_l k
 unfold laws_eqLinkS.f
 with_reducible repeat' first | exact ih0 _ _ _ | exact LeO.refl _ | exact LeO.none _ | refine LeO.ite ?_ ?_ | refine LeO.bind ?_ (fun _ => ?_)
def laws_eqLinkS.T6 : Bool × List (List Nat × List Nat) := (true, [([], []), ([], []), ([0, 1], [0, 1]), ([2], [2]), ([], []), ([], []), ([4, 5], [4, 5]), ([6], [6]), ([3, 7], [3, 7]), ([8], [8])])
def laws_eqLinkS.B6 : List Nat := [0, 0, 3, 7, 0, 0, 48, 112, 255, 511]
theorem laws_eqLinkS.tab6 : rtab .any (opsOf Try.f121 6) = laws_eqLinkS.T6 := by kernel_rfl
theorem laws_eqLinkS.bits6 : waitsOk laws_eqLinkS.T6.2 laws_eqLinkS.B6 = true := by kernel_rfl
set_option maxHeartbeats 8000000 in
set_option maxRecDepth 100000 in
theorem laws_eqLinkS.calls (k : Nat) (A0 : Option Addr) (c0 : Nat) (l0 : List (S87)) (A1 : Option Addr) (c1 : Nat) (l1 : List (S87)) (r : Bool) (w : World) (hr0 : Kd.C k87 w A0 l0.length l0) (hc0 : l0.length ≤ c0) (hr1 : Kd.C k87 w A1 l1.length l1) (hc1 : l1.length ≤ c1) (h : laws_eqLinkS.f k l0 l1 = some r) :
  Calls Try.prog 121 #[.slice A0 l0.length c0, .slice A1 l1.length c1] w fun e w' => e = .returned (.bool r) ∧ Below w.heap.size w w' := by
 have hu87 := Try.underlying87; have HR0 := Aside0.mk hr0; have HC0 := Aside0.mk hc0; clear hr0 hc0; have HR1 := Aside0.mk hr1; have HC1 := Aside0.mk hc1; clear hr1 hc1; have HB := asT (Below.refl w.heap.size w); have H := h; unfold laws_eqLinkS.f at H; clear h
 by_cases c3 : (l0.length : Int) = (l1.length : Int)
 ·rw [if_pos c3] at H
  have c3b0 : ((l0.length : Int) == (l1.length : Int)) = true := beq_iff_eq.mpr c3
  have c3b1 : ((l0.length : Int) != (l1.length : Int)) = false := bne_eq_false_iff_eq.mpr c3
  have c3b2 : (l0.length == l1.length) = true := by first | simpa using c3 | (simp at c3 ⊢; omega)
  clear c3; have H' := Aside0.mk H; clear H
  go_enter Try.func121, Try.ntmps121
  go_wp2
  go_loopg [5] k (fun kq v5 w' => ∃ (x5_1 : Int), v5 = .int .i64 x5_1 ∧ Aside0 (laws_eqLinkS.l0 kq l0 l1 x5_1 = some r) ∧ Aside0 (kq ≤ k) ∧ Aside0 (Below w.heap.size w w'))
  case atStart => exact ⟨(0), rdT, H', ⟨Nat.le_refl _⟩, ⟨hbT HB.out⟩⟩
  case round =>
   clear H'; (try clear c1 p2 c3 c3b0 c3b1 c3b2); obtain ⟨x5_1, rfl, HA, HK1, HB⟩ := hrel
   cases gk with
   | zero => exact absurd HA.out (by simp [laws_eqLinkS.l0])
   | succ k1 =>
    have H := HA.out; clear HA
    simp only [laws_eqLinkS.l0] at H
    by_cases c4 : x5_1 < (l0.length : Int)
    ·rw [if_pos c4] at H
     have c4b0 : decide (x5_1 < (l0.length : Int)) = true := decide_eq_true c4
     clear c4
     by_cases c5 : 0 ≤ x5_1
     ·rw [if_pos c5] at H
      have c5b0 : decide (0 ≤ x5_1) = true := decide_eq_true c5
      clear c5
      by_cases c6 : x5_1 < (l1.length : Int)
      ·rw [if_pos c6] at H
       have c6b0 : decide (x5_1 < (l1.length : Int)) = true := decide_eq_true c6
       clear c6; obtain ⟨t185, A7, H⟩ := be H
       by_cases c8 : t185 = true
       ·subst c8
        rw [if_pos rfl] at H; have H' := Aside0.mk H; clear H
        try go_wp2
        replace HB := asT (below_drew1 HB.out)
        have p183 : 0 ≤ (x5_1 : Int) := of_decide_eq_true asmT
        have q183 : x5_1 < (l0.length : Int) := of_decide_eq_true asmT
        obtain ⟨ad183, e183, hx183_0, hx183_1⟩ := at_T87 HR0.out x5_1 p183 q183; have hw183_1 := hx183_1; have hw183_0 := hx183_0
        cases e183
        replace hx183_0 := hbc HB.out hx183_0; replace hx183_1 := hbc HB.out hx183_1; replace p183 := eq_true p183; replace q183 := eq_true q183
        have p184 : 0 ≤ (x5_1 : Int) := of_decide_eq_true asmT
        have q184 : x5_1 < (l1.length : Int) := of_decide_eq_true asmT
        obtain ⟨ad184, e184, hx184_0, hx184_1⟩ := at_T87 HR1.out x5_1 p184 q184; have hw184_1 := hx184_1; have hw184_0 := hx184_0
        cases e184
        replace hx184_0 := hbc HB.out hx184_0; replace hx184_1 := hbc HB.out hx184_1; replace p184 := eq_true p184; replace q184 := eq_true q184
        refine start_ (n := 10) (S := fun w' => w'.cell? (ad183.add ((x5_1).toNat * 2)) = some (.int .u8 ((rd_T87 l0 x5_1).f0)) ∧ w'.cell? ⟨(ad183.add ((x5_1).toNat * 2)).block, (ad183.add ((x5_1).toNat * 2)).off + 1, none⟩ = some (.int .u8 ((rd_T87 l0 x5_1).f1)) ∧ w'.cell? (ad184.add ((x5_1).toNat * 2)) = some (.int .u8 ((rd_T87 l1 x5_1).f0)) ∧ w'.cell? ⟨(ad184.add ((x5_1).toNat * 2)).block, (ad184.add ((x5_1).toNat * 2)).off + 1, none⟩ = some (.int .u8 ((rd_T87 l1 x5_1).f1))) (ds := []) (bA 10 0) (by kernel_rfl) rfl rfl ⟨(hbc HB.out hw183_0 :), (hbc HB.out hw183_1 :), (hbc HB.out hw184_0 :), (hbc HB.out hw184_1 :)⟩ (fun hHeld => ?_); refine with_tabW laws_eqLinkS.tab6 laws_eqLinkS.bits6 (fun HT_ HW_ => ?_)
        generalize wr.drew = w9 at HB hx183_0 hx183_1 hx184_0 hx184_1 hHeld ⊢
        refine pA 0 17 10 1 HT_.out ?_ rfl rfl; refine pA 1 18 10 3 HT_.out ?_ rfl rfl; refine pA 2 19 10 7 HT_.out ?_ rfl rfl; refine pA 4 21 10 23 HT_.out ?_ rfl rfl; refine pA 5 22 10 55 HT_.out ?_ rfl rfl; refine pA 6 23 10 119 HT_.out ?_ rfl rfl; refine tA 3 20 10 127 HT_.out HW_.out hHeld ?_ rfl rfl; refine tA 7 24 10 255 HT_.out HW_.out hHeld ?_ rfl rfl
        refine oA 8 25 10 511 HT_.out (fun K hK => ?_) rfl rfl
        refine goes_ Try.func143 (by kernel_rfl) rfl #[.agg #[.int .u8 ((rd_T87 l0 x5_1).f0), .int .u8 ((rd_T87 l0 x5_1).f1)], .agg #[.int .u8 ((rd_T87 l1 x5_1).f0), .int .u8 ((rd_T87 l1 x5_1).f1)]] (by rfl) rfl rfl eqT ?_
        (with_reducible refine (laws_eqLink.calls ((rd_T87 l0 x5_1).f0) ((rd_T87 l0 x5_1).f1) ((rd_T87 l1 x5_1).f0) ((rd_T87 l1 x5_1).f1) true _ A7.out).mono ?_); rintro e w10 ⟨rfl, hb⟩; refine ⟨_, rfl, ?_⟩; replace HB := hS HB hb; (try clear hb hb2 hk hi)
        refine hK.out _ _ ⟨(hbc HB.out hw183_0 :), (hbc HB.out hw183_1 :), (hbc HB.out hw184_0 :), (hbc HB.out hw184_1 :)⟩ (fun hHeld => ?_)
        clear hK K
        refine nB 25 ?_ rfl; refine pA 9 26 10 1023 HT_.out ?_ rfl rfl
        refine done_ (done_of HT_.out (by kernel_rfl)) ?_
        try go_wp2
        go_roundg k1
        case measure => have := HK1.out; omega
        case rel => exact ⟨(wrap64 (x5_1 + 1)), rdT, H', ⟨by have := HK1.out; omega⟩, ⟨hbT HB.out⟩⟩
       ·replace c8 := Bool.eq_false_iff.mpr c8
        subst c8; rw [if_neg nF] at H; have H1 := H; clear H; have H := H1; clear H1
        obtain rfl := Option.some.inj H
        try go_wp2
        replace HB := asT (below_drew1 HB.out)
        have p183 : 0 ≤ (x5_1 : Int) := of_decide_eq_true asmT
        have q183 : x5_1 < (l0.length : Int) := of_decide_eq_true asmT
        obtain ⟨ad183, e183, hx183_0, hx183_1⟩ := at_T87 HR0.out x5_1 p183 q183; have hw183_1 := hx183_1; have hw183_0 := hx183_0
        cases e183
        replace hx183_0 := hbc HB.out hx183_0; replace hx183_1 := hbc HB.out hx183_1; replace p183 := eq_true p183; replace q183 := eq_true q183
        have p184 : 0 ≤ (x5_1 : Int) := of_decide_eq_true asmT
        have q184 : x5_1 < (l1.length : Int) := of_decide_eq_true asmT
        obtain ⟨ad184, e184, hx184_0, hx184_1⟩ := at_T87 HR1.out x5_1 p184 q184; have hw184_1 := hx184_1; have hw184_0 := hx184_0
        cases e184
        replace hx184_0 := hbc HB.out hx184_0; replace hx184_1 := hbc HB.out hx184_1; replace p184 := eq_true p184; replace q184 := eq_true q184
        refine start_ (n := 10) (S := fun w' => w'.cell? (ad183.add ((x5_1).toNat * 2)) = some (.int .u8 ((rd_T87 l0 x5_1).f0)) ∧ w'.cell? ⟨(ad183.add ((x5_1).toNat * 2)).block, (ad183.add ((x5_1).toNat * 2)).off + 1, none⟩ = some (.int .u8 ((rd_T87 l0 x5_1).f1)) ∧ w'.cell? (ad184.add ((x5_1).toNat * 2)) = some (.int .u8 ((rd_T87 l1 x5_1).f0)) ∧ w'.cell? ⟨(ad184.add ((x5_1).toNat * 2)).block, (ad184.add ((x5_1).toNat * 2)).off + 1, none⟩ = some (.int .u8 ((rd_T87 l1 x5_1).f1))) (ds := []) (bA 10 0) (by kernel_rfl) rfl rfl ⟨(hbc HB.out hw183_0 :), (hbc HB.out hw183_1 :), (hbc HB.out hw184_0 :), (hbc HB.out hw184_1 :)⟩ (fun hHeld => ?_); refine with_tabW laws_eqLinkS.tab6 laws_eqLinkS.bits6 (fun HT_ HW_ => ?_)
        generalize wr.drew = w11 at HB hx183_0 hx183_1 hx184_0 hx184_1 hHeld ⊢
        refine pA 0 17 10 1 HT_.out ?_ rfl rfl; refine pA 1 18 10 3 HT_.out ?_ rfl rfl; refine pA 2 19 10 7 HT_.out ?_ rfl rfl; refine pA 4 21 10 23 HT_.out ?_ rfl rfl; refine pA 5 22 10 55 HT_.out ?_ rfl rfl; refine pA 6 23 10 119 HT_.out ?_ rfl rfl; refine tA 3 20 10 127 HT_.out HW_.out hHeld ?_ rfl rfl; refine tA 7 24 10 255 HT_.out HW_.out hHeld ?_ rfl rfl
        refine oA 8 25 10 511 HT_.out (fun K hK => ?_) rfl rfl
        refine goes_ Try.func143 (by kernel_rfl) rfl #[.agg #[.int .u8 ((rd_T87 l0 x5_1).f0), .int .u8 ((rd_T87 l0 x5_1).f1)], .agg #[.int .u8 ((rd_T87 l1 x5_1).f0), .int .u8 ((rd_T87 l1 x5_1).f1)]] (by rfl) rfl rfl eqT ?_
        (with_reducible refine (laws_eqLink.calls ((rd_T87 l0 x5_1).f0) ((rd_T87 l0 x5_1).f1) ((rd_T87 l1 x5_1).f0) ((rd_T87 l1 x5_1).f1) false _ A7.out).mono ?_); rintro e w12 ⟨rfl, hb⟩; refine ⟨_, rfl, ?_⟩; replace HB := hS HB hb; (try clear hb hb2 hk hi)
        refine hK.out _ _ ⟨(hbc HB.out hw183_0 :), (hbc HB.out hw183_1 :), (hbc HB.out hw184_0 :), (hbc HB.out hw184_1 :)⟩ (fun hHeld => ?_)
        clear hK K
        refine nB 25 ?_ rfl; refine pA 9 26 10 1023 HT_.out ?_ rfl rfl
        refine done_ (done_of HT_.out (by kernel_rfl)) ?_
        try go_wp2
        go_ret
        exact ⟨rlT, hbT HB.out⟩
      ·rw [if_neg c6] at H
       exact absurd H (by simp)
     ·rw [if_neg c5] at H
      exact absurd H (by simp)
    ·rw [if_neg c4] at H
     have c4b0 : decide (x5_1 < (l0.length : Int)) = false := decide_eq_false c4
     clear c4
     obtain rfl := Option.some.inj H
     go_wp2
     go_ret
     exact ⟨rlT, hbT HB.out⟩
 ·rw [if_neg c3] at H
  have c3b0 : ((l0.length : Int) == (l1.length : Int)) = false := beq_eq_false_iff_ne.mpr c3
  have c3b1 : ((l0.length : Int) != (l1.length : Int)) = true := bne_iff_ne.mpr c3
  have c3b2 : (l0.length == l1.length) = false := by first | simpa using c3 | (simp at c3 ⊢; omega)
  obtain rfl := Option.some.inj H
  go_enter Try.func121, Try.ntmps121
  go_wp2
  go_ret
  exact ⟨rlT, hbT HB.out⟩

/-! ### laws_eqCandidate: function 69 -/
def laws_eqCandidate.f (k : Nat) (l0_0 : List (S87)) (l1_0 : List (S87)) : Option (Bool) := (laws_eqLinkS.f k l0_0 l1_0).bind fun t188 => (if t188 = true then (some true) else (some false))
theorem laws_eqCandidate.mono : ∀ a0 a1 k, LeO (laws_eqCandidate.f k a0 a1) (laws_eqCandidate.f (k + 1) a0 a1) := by
 intro a0 a1 k
 unfold laws_eqCandidate.f
 with_reducible repeat' first | exact laws_eqLinkS.mono _ _ _ | exact LeO.refl _ | exact LeO.none _ | refine LeO.ite ?_ ?_ | refine LeO.bind ?_ (fun _ => ?_)
set_option maxHeartbeats 8000000 in
set_option maxRecDepth 100000 in
theorem laws_eqCandidate.calls (k : Nat) (A0_0 : Option Addr) (c0_0 : Nat) (l0_0 : List (S87)) (A1_0 : Option Addr) (c1_0 : Nat) (l1_0 : List (S87)) (r : Bool) (w : World) (hr0_0 : Kd.C k87 w A0_0 l0_0.length l0_0) (hc0_0 : l0_0.length ≤ c0_0) (hr1_0 : Kd.C k87 w A1_0 l1_0.length l1_0) (hc1_0 : l1_0.length ≤ c1_0) (h : laws_eqCandidate.f k l0_0 l1_0 = some r) :
  Calls Try.prog 69 #[.agg #[.slice A0_0 l0_0.length c0_0], .agg #[.slice A1_0 l1_0.length c1_0]] w fun e w' => e = .returned (.bool r) ∧ Below w.heap.size w w' := by
 have hu26 := Try.underlying26; have HR0_0 := Aside0.mk hr0_0; have HC0_0 := Aside0.mk hc0_0; clear hr0_0 hc0_0; have HR1_0 := Aside0.mk hr1_0; have HC1_0 := Aside0.mk hc1_0; clear hr1_0 hc1_0; have HB := asT (Below.refl w.heap.size w); have H := h; unfold laws_eqCandidate.f at H; clear h; obtain ⟨t188, A3, H⟩ := be H
 by_cases c4 : t188 = true
 ·subst c4
  rw [if_pos rfl] at H; have H1 := H; clear H; have H := H1; clear H1
  obtain rfl := Option.some.inj H
  go_enter Try.func69, Try.ntmps69
  go_wp2_with (first | ((with_reducible refine gate_dst (N := 2) rfl ?_); refine boxT (N := 2) (cs := #[.slice A0_0 l0_0.length c0_0]) (t := 26) ?_; intro gb186 hg w5 hbox hb; have BK186 := asT hbox; have GW186 := asT (geT hg HB.out); have GE186 := GW186; replace HB := hS HB hb; clear hb hbox hg) | ((with_reducible refine gate_dst (N := 3) rfl ?_); refine boxT (N := 3) (cs := #[.slice A1_0 l1_0.length c1_0]) (t := 26) ?_; intro gb187 hg w6 hbox hb; have BK187 := asT (hbox); have GW187 := asT (geT hg HB.out); have GE187 := asT (geT hg HB.out); replace HB := hS HB hb; have NB186_187 := asT ((by rw [hg]; exact Nat.ne_of_lt (blk_lt (bkT BK186.out)) : gb186 ≠ gb187)); have NB187_186 := asT ((by rw [hg]; exact Nat.ne_of_gt (blk_lt (bkT BK186.out)) : gb187 ≠ gb186)); replace BK186 := bS BK186 hb; clear hb hbox hg; have hnb7 := NB186_187.out; have hnc7 := NB187_186.out; obtain ⟨hcz8_0, hfz8_0⟩ := bx1 BK186.out; obtain ⟨hcz9_0, hfz9_0⟩ := bx1 BK187.out) | ((with_reducible refine gate_callee (f := 121) rfl ?_); refine goesL_ (some 9) rfl rfl Try.func121 (by kernel_rfl) rfl #[.slice A0_0 l0_0.length c0_0, .slice A1_0 l1_0.length c1_0] rfl eqT ?_; (with_reducible refine (laws_eqLinkS.calls k _ _ l0_0 _ _ l1_0 true _ ?side1 ?side2 ?side3 ?side4 A3.out).mono ?_); (case side1 => exact crT HR0_0.out HB.out); (case side2 => exact HC0_0.out); (case side3 => exact crT HR1_0.out HB.out); (case side4 => exact HC1_0.out); rintro e w10 ⟨rfl, hb⟩; refine ⟨_, rfl, ?_⟩; replace BK186 := bS BK186 hb; replace BK187 := bS BK187 hb; replace HB := hS HB hb; (try clear hb hb2 hk hi)))
  go_ret
  exact ⟨rlT, hbT HB.out⟩
 ·replace c4 := Bool.eq_false_iff.mpr c4
  subst c4; rw [if_neg nF] at H; have H1 := H; clear H; have H := H1; clear H1
  obtain rfl := Option.some.inj H
  go_enter Try.func69, Try.ntmps69
  go_wp2_with (first | ((with_reducible refine gate_dst (N := 2) rfl ?_); refine boxT (N := 2) (cs := #[.slice A0_0 l0_0.length c0_0]) (t := 26) ?_; intro gb186 hg w11 hbox hb; have BK186 := asT hbox; have GW186 := asT (geT hg HB.out); have GE186 := GW186; replace HB := hS HB hb; clear hb hbox hg) | ((with_reducible refine gate_dst (N := 3) rfl ?_); refine boxT (N := 3) (cs := #[.slice A1_0 l1_0.length c1_0]) (t := 26) ?_; intro gb187 hg w12 hbox hb; have BK187 := asT (hbox); have GW187 := asT (geT hg HB.out); have GE187 := asT (geT hg HB.out); replace HB := hS HB hb; have NB186_187 := asT ((by rw [hg]; exact Nat.ne_of_lt (blk_lt (bkT BK186.out)) : gb186 ≠ gb187)); have NB187_186 := asT ((by rw [hg]; exact Nat.ne_of_gt (blk_lt (bkT BK186.out)) : gb187 ≠ gb186)); replace BK186 := bS BK186 hb; clear hb hbox hg; have hnb13 := NB186_187.out; have hnc13 := NB187_186.out; obtain ⟨hcz14_0, hfz14_0⟩ := bx1 BK186.out; obtain ⟨hcz15_0, hfz15_0⟩ := bx1 BK187.out) | ((with_reducible refine gate_callee (f := 121) rfl ?_); refine goesL_ (some 9) rfl rfl Try.func121 (by kernel_rfl) rfl #[.slice A0_0 l0_0.length c0_0, .slice A1_0 l1_0.length c1_0] rfl eqT ?_; (with_reducible refine (laws_eqLinkS.calls k _ _ l0_0 _ _ l1_0 false _ ?side1 ?side2 ?side3 ?side4 A3.out).mono ?_); (case side1 => exact crT HR0_0.out HB.out); (case side2 => exact HC0_0.out); (case side3 => exact crT HR1_0.out HB.out); (case side4 => exact HC1_0.out); rintro e w16 ⟨rfl, hb⟩; refine ⟨_, rfl, ?_⟩; replace BK186 := bS BK186 hb; replace BK187 := bS BK187 hb; replace HB := hS HB hb; (try clear hb hb2 hk hi)))
  go_ret
  exact ⟨rlT, hbT HB.out⟩

/-! ### laws_FnExactIsGenerated: function 8 -/
def laws_FnExactIsGenerated.f (k : Nat) (a0 : ByteArray) (l1_0 : List (S131)) : Option (Bool) := if (a0.size : Int) > 1048576 then (some true) else ((laws_szCandidate.f l1_0 1048576).bind fun t190 => (if t190 < 0 then (some true) else ((laws_toCandidate.f k l1_0).bind fun t191 => ((spec_IsGenerated.f k a0 t191).bind fun t194 => ((laws_toCandidate.f k l1_0).bind fun t195 => ((impl_IsGenerated.f k a0 t195).bind fun t199 => (if (t199 != t194) = true then (none) else ((laws_toCandidate.f k l1_0).bind fun t200 => ((laws_eqCandidate.f k t195 t200).bind fun t203 => (if t203 = true then (some true) else (none)))))))))))
theorem laws_FnExactIsGenerated.mono : ∀ a0 a1 k, LeO (laws_FnExactIsGenerated.f k a0 a1) (laws_FnExactIsGenerated.f (k + 1) a0 a1) := by
 intro a0 a1 k
 unfold laws_FnExactIsGenerated.f
 with_reducible repeat' first | exact impl_IsGenerated.mono _ _ _ | exact laws_eqCandidate.mono _ _ _ | exact laws_toCandidate.mono _ _ | exact spec_IsGenerated.mono _ _ _ | exact LeO.refl _ | exact LeO.none _ | refine LeO.ite ?_ ?_ | refine LeO.bind ?_ (fun _ => ?_)
set_option maxHeartbeats 8000000 in
set_option maxRecDepth 100000 in
theorem laws_FnExactIsGenerated.calls (k : Nat) (a0 : ByteArray) (A1_0 : Option Addr) (c1_0 : Nat) (l1_0 : List (S131)) (r : Bool) (w : World) (hr1_0 : Kd.C k131 w A1_0 l1_0.length l1_0) (hc1_0 : l1_0.length ≤ c1_0) (h : laws_FnExactIsGenerated.f k a0 l1_0 = some r) :
  Calls Try.prog 8 #[.string a0, .agg #[.slice A1_0 l1_0.length c1_0]] w fun e w' => e = .returned (.bool r) ∧ Below w.heap.size w w' := by
 have hu75 := Try.underlying75; have hu26 := Try.underlying26; have HR1_0 := Aside0.mk hr1_0; have HC1_0 := Aside0.mk hc1_0; clear hr1_0 hc1_0; have HB := asT (Below.refl w.heap.size w); have H := h; unfold laws_FnExactIsGenerated.f at H; clear h
 by_cases c3 : (a0.size : Int) > 1048576
 ·rw [if_pos c3] at H
  have c3b0 : decide (1048576 < (a0.size : Int)) = true := decide_eq_true c3
  have c3b1 : decide (1048576 < a0.size) = true := decide_eq_true (by omega)
  clear c3
  obtain rfl := Option.some.inj H
  go_enter Try.func8, Try.ntmps8
  go_wp2_with (first | ((with_reducible refine gate_dst (N := 3) rfl ?_); refine boxT (N := 3) (cs := #[.slice A1_0 l1_0.length c1_0]) (t := 75) ?_; intro gb189 hg w4 hbox hb; have BK189 := asT hbox; have GW189 := asT (geT hg HB.out); have GE189 := GW189; replace HB := hS HB hb; clear hb hbox hg))
  go_ret
  exact ⟨rlT, hbT HB.out⟩
 ·rw [if_neg c3] at H
  have c3b0 : decide (1048576 < (a0.size : Int)) = false := decide_eq_false c3
  have c3b1 : decide (1048576 < a0.size) = false := decide_eq_false (by omega)
  clear c3; obtain ⟨t190, A5, H⟩ := be H
  by_cases c6 : t190 < 0
  ·rw [if_pos c6] at H
   have c6b0 : decide (t190 < 0) = true := decide_eq_true c6
   clear c6
   obtain rfl := Option.some.inj H
   go_enter Try.func8, Try.ntmps8
   go_wp2_with (first | ((with_reducible refine gate_dst (N := 3) rfl ?_); refine boxT (N := 3) (cs := #[.slice A1_0 l1_0.length c1_0]) (t := 75) ?_; intro gb189 hg w7 hbox hb; have BK189 := asT hbox; have GW189 := asT (geT hg HB.out); have GE189 := GW189; replace HB := hS HB hb; clear hb hbox hg; obtain ⟨hcz8_0, hfz8_0⟩ := bx1 BK189.out) | ((with_reducible refine gate_callee (f := 67) rfl ?_); refine goesL_ (some 14) rfl rfl Try.func67 (by kernel_rfl) rfl #[.agg #[.slice A1_0 l1_0.length c1_0], .int .i64 1048576] rfl eqT ?_; (with_reducible refine (laws_szCandidate.calls _ _ l1_0 1048576 t190 _ ?side1 ?side2 A5.out).mono ?_); (case side1 => exact crT HR1_0.out HB.out); (case side2 => exact HC1_0.out); rintro e w9 ⟨rfl, hb⟩; refine ⟨_, rfl, ?_⟩; replace BK189 := bS BK189 hb; replace HB := hS HB hb; (try clear hb hb2 hk hi)))
   go_ret
   exact ⟨rlT, hbT HB.out⟩
  ·rw [if_neg c6] at H
   have c6b0 : decide (t190 < 0) = false := decide_eq_false c6
   clear c6; obtain ⟨t191, A10, H⟩ := be H; obtain ⟨t194, A11, H⟩ := be H; obtain ⟨t195, A12, H⟩ := be H; obtain ⟨t199, A13, H⟩ := be H
   by_cases c14 : (t199 != t194) = true
   ·rw [if_pos c14] at H
    exact absurd H (by simp)
   ·rw [if_neg c14] at H
    have c14b0 : (t199 != t194) = false := by simpa using c14
    (try (have c14b1 : decide (t199 = t194) = true := by simpa using c14))
    (try (have c14b2 : (t199 == t194) = true := by simpa using c14))
    clear c14; obtain ⟨t200, A15, H⟩ := be H; obtain ⟨t203, A16, H⟩ := be H
    by_cases c17 : t203 = true
    ·subst c17
     rw [if_pos rfl] at H; have H1 := H; clear H; have H := H1; clear H1
     obtain rfl := Option.some.inj H
     go_enter Try.func8, Try.ntmps8
     try go_wp2_with (first | ((with_reducible refine gate_dst (N := 3) rfl ?_); refine boxT (N := 3) (cs := #[.slice A1_0 l1_0.length c1_0]) (t := 75) ?_; intro gb189 hg w18 hbox hb; have BK189 := asT hbox; have GW189 := asT (geT hg HB.out); have GE189 := GW189; replace HB := hS HB hb; clear hb hbox hg; obtain ⟨hcz19_0, hfz19_0⟩ := bx1 BK189.out) | ((with_reducible refine gate_callee (f := 67) rfl ?_); refine goesL_ (some 14) rfl rfl Try.func67 (by kernel_rfl) rfl #[.agg #[.slice A1_0 l1_0.length c1_0], .int .i64 1048576] rfl eqT ?_; (with_reducible refine (laws_szCandidate.calls _ _ l1_0 1048576 t190 _ ?side1 ?side2 A5.out).mono ?_); (case side1 => exact crT HR1_0.out HB.out); (case side2 => exact HC1_0.out); rintro e w20 ⟨rfl, hb⟩; refine ⟨_, rfl, ?_⟩; replace BK189 := bS BK189 hb; replace HB := hS HB hb; (try clear hb hb2 hk hi); obtain ⟨hcz21_0, hfz21_0⟩ := bx1 BK189.out) | ((with_reducible refine gate_callee (f := 68) rfl ?_); refine goesL_ (some 19) rfl rfl Try.func68 (by kernel_rfl) rfl #[.agg #[.slice A1_0 l1_0.length c1_0]] rfl eqT ?_; (with_reducible refine (laws_toCandidate.calls k _ _ l1_0 t191 _ ?side1 ?side2 A10.out).mono ?_); (case side1 => exact crT HR1_0.out HB.out); (case side2 => exact HC1_0.out); rintro e w22 ⟨v192, rfl, ho0, hb⟩; refine ⟨_, rfl, ?_⟩; have HO193 := asT (Kd.R_lower ho0 (below_size (hbT HB.out))); replace BK189 := bS BK189 hb; replace HB := hS HB hb; (try clear hb hb2 hk hi ho0); obtain ⟨Ao23, co23, eo23⟩ := Kd.R_slice HO193.out; subst eo23) | ((with_reducible refine gate_callee (f := 37) rfl ?_); refine goesL_ (some 20) rfl rfl Try.func37 (by kernel_rfl) rfl #[.string a0, .agg #[.slice Ao23 t191.length co23]] rfl eqT ?_; (with_reducible refine (spec_IsGenerated.calls k a0 _ _ t191 t194 _ ?side1 ?side2 A11.out).mono ?_); (case side1 => repeat (first | exact (Kd.R_reads' HO193.out).2.2 | (with_reducible refine Kd.C_alloc ?_ _) | (with_reducible refine Kd.C_drewN ?_ _) | (with_reducible refine Kd.C_drew ?_))); (case side2 => exact (Kd.R_reads' HO193.out).2.1); rintro e w24 ⟨rfl, hb⟩; refine ⟨_, rfl, ?_⟩; replace HO193 := asT (Kd.R_below (roT HO193.out) hb); replace BK189 := bS BK189 hb; replace HB := hS HB hb; (try clear hb hb2 hk hi); obtain ⟨hcz25_0, hfz25_0⟩ := bx1 BK189.out) | ((with_reducible refine gate_callee (f := 68) rfl ?_); refine goesL_ (some 22) rfl rfl Try.func68 (by kernel_rfl) rfl #[.agg #[.slice A1_0 l1_0.length c1_0]] rfl eqT ?_; (with_reducible refine (laws_toCandidate.calls k _ _ l1_0 t195 _ ?side1 ?side2 A12.out).mono ?_); (case side1 => exact crT HR1_0.out HB.out); (case side2 => exact HC1_0.out); rintro e w26 ⟨v196, rfl, ho0, hb⟩; refine ⟨_, rfl, ?_⟩; have HO197 := asT (Kd.R_lower (Kd.R_new' ho0 (Kd.R_lt (roT HO193.out))) (below_size (hbT HB.out))); replace HO193 := asT (Kd.R_elder' (roT HO193.out) (Kd.R_base ho0) hb); replace BK189 := bS BK189 hb; replace HB := hS HB hb; (try clear hb hb2 hk hi ho0)) | ((with_reducible refine gate_dst (N := 7) rfl ?_); refine boxT (N := 7) (cs := #[.slice none 0 0]) (t := 26) ?_; intro gb198 hg w27 hbox hb; replace HO193 := asT (Kd.R_below (roT HO193.out) hb); replace HO197 := asT (Kd.R_below (roT HO197.out) hb); have BK198 := asT (hbox); have GW198 := asT (geT hg HB.out); have GE198 := asT (geT hg HB.out); replace HB := hS HB hb; have NB189_198 := asT ((by rw [hg]; exact Nat.ne_of_lt (blk_lt (bkT BK189.out)) : gb189 ≠ gb198)); have NB198_189 := asT ((by rw [hg]; exact Nat.ne_of_gt (blk_lt (bkT BK189.out)) : gb198 ≠ gb189)); replace BK189 := bS BK189 hb; clear hb hbox hg; obtain ⟨Ao28, co28, eo28⟩ := Kd.R_slice HO197.out; subst eo28; have hnb29 := NB198_189.out; have hnc29 := NB189_198.out; obtain ⟨hcz30_0, hfz30_0⟩ := bx1 BK198.out) | ((with_reducible refine gate_callee (f := 34) rfl ?_); refine goesL_ (some 25) rfl rfl Try.func34 (by kernel_rfl) rfl #[.string a0, .agg #[.slice Ao28 t195.length co28]] rfl eqT ?_; (with_reducible refine (impl_IsGenerated.calls k a0 _ _ t195 t199 _ ?side1 ?side2 A13.out).mono ?_); (case side1 => refine (Kd.R_reads' (e := 87) (base := w.heap.size) (ok := fun k_ => (True ∧ some k_ ≠ (.slice Ao23 t191.length co23 : Value).ownBlock)) (n := t195.length) (c := co28) ?_).2.2; exact (by (with_reducible repeat (first | apply Kd.R_alloc | apply Kd.R_drewN | apply Kd.R_drew)); exact (Kd.R_mono (Kd.R_far (p := ⟨gb198, 0, none⟩) (Kd.R_types HO197.out BK198.out (by decide)) (fun _ hk => hk.2) (.slice Ao28 t195.length co28)) (fun _ h_ => h_.1)))); (case side2 => exact (Kd.R_reads' HO197.out).2.1); rintro e w31 ⟨rfl, hb⟩; refine ⟨_, rfl, ?_⟩; replace HO193 := asT (Kd.R_below (by (with_reducible repeat (first | apply Kd.R_alloc | apply Kd.R_drewN | apply Kd.R_drew)); exact (Kd.R_mono (Kd.R_far (p := ⟨gb198, 0, none⟩) (Kd.R_types HO193.out BK198.out (by decide)) (fun _ hk => hk.2) (.slice Ao28 t195.length co28)) (fun _ h_ => h_.1))) hb); replace HO197 := asT (Kd.R_below (by (with_reducible repeat (first | apply Kd.R_alloc | apply Kd.R_drewN | apply Kd.R_drew)); exact (Kd.R_mono (Kd.R_far (p := ⟨gb198, 0, none⟩) (Kd.R_types HO197.out BK198.out (by decide)) (fun _ hk => hk.2) (.slice Ao28 t195.length co28)) (fun _ h_ => h_.1))) hb); replace BK189 := asT (blk_below (g := gb189) (o := .cells #[.slice A1_0 l1_0.length c1_0] 75 (0, 0)) (by (with_reducible repeat (first | refine blk_drewN ?_ _ | refine blk_drew ?_ | refine blk_alloc ?_ _)); refine blk_far ?_ NB189_198.out _; (with_reducible repeat (first | refine blk_drewN ?_ _ | refine blk_drew ?_ | refine blk_alloc ?_ _)); exact BK189.out) hb); replace BK198 := asT (blk_below (g := gb198) (o := .cells #[.slice Ao28 t195.length co28] 26 (0, 0)) (by (with_reducible repeat (first | refine blk_drewN ?_ _ | refine blk_drew ?_ | refine blk_alloc ?_ _)); refine blk_put (cs := #[.slice none 0 0]) ?_ 0 _ rfl; (with_reducible repeat (first | refine blk_drewN ?_ _ | refine blk_drew ?_ | refine blk_alloc ?_ _)); exact BK198.out) hb); replace HB := hS HB hb; (try clear hb hb2 hk hi)))
     replace HO193 := asT (Kd.R_drew HO193.out); replace HO197 := asT (Kd.R_drew HO197.out); replace BK189 := asT (blk_drew BK189.out); replace BK198 := asT (blk_drew BK198.out); replace HB := asT (below_drew1 HB.out)
     refine start_ (n := 5) (S := fun w' => w'.cell? ⟨gb198, 0, none⟩ = some (.slice Ao28 t195.length co28) ∧ w'.cell? ⟨gb189, 0, none⟩ = some (.slice A1_0 l1_0.length c1_0)) (ds := []) #[false, false, false, false, false] (by kernel_rfl) rfl rfl ⟨bc0 BK198.out, bc0 BK189.out⟩ (fun hHeld => ?_)
     generalize w31.drew = w32 at HO193 HO197 BK189 BK198 HB hHeld ⊢
     refine take_ (i := 0) (N := some 29) (v := ?_) (a' := ?_) #[true, false, false, false, false] rfl rfl (by kernel_rfl) (fun _ _ _ h => h) (Or.inl ⟨by rfl, ?_⟩) hHeld ?_ ?_
     rotate_left
     ·rintro w' ⟨s0, s1⟩
      go_simp
      (with_reducible rfl)
     rotate_left
     ·simp only [Act.put, sA, sZ, sS, i64_w, i32_w]
      rfl
     refine take_ (i := 1) (N := some 30) (v := ?_) (a' := ?_) #[true, true, false, false, false] rfl rfl (by kernel_rfl) (fun _ _ _ h => h) (Or.inl ⟨by rfl, ?_⟩) hHeld ?_ ?_
     rotate_left
     ·rintro w' ⟨s0, s1⟩
      go_simp
      (with_reducible rfl)
     rotate_left
     ·simp only [Act.put, sA, sZ, sS, i64_w, i32_w]
      rfl
     refine one_ (i := 2) (N := some 31) #[true, true, true, false, false] rfl rfl (by kernel_rfl) (by decide) (fun K hK => ?_)
     refine goes_ Try.func68 (by kernel_rfl) rfl #[.agg #[.slice A1_0 l1_0.length c1_0]] (by rfl) rfl rfl eqT ?_
     (with_reducible refine (laws_toCandidate.calls k _ _ l1_0 t200 _ ?side1 ?side2 A15.out).mono ?_); (case side1 => exact crT HR1_0.out HB.out); (case side2 => exact HC1_0.out); rintro e w33 ⟨v201, rfl, ho0, hb⟩; refine ⟨_, rfl, ?_⟩; have HO202 := asT (Kd.R_lower (Kd.R_new' (Kd.R_new' ho0 (Kd.R_lt (roT HO193.out))) (Kd.R_lt (roT HO197.out))) (below_size (hbT HB.out))); replace HO193 := asT (Kd.R_elder' (roT HO193.out) (Kd.R_base ho0) hb); replace HO197 := asT (Kd.R_elder' (roT HO197.out) (Kd.R_base ho0) hb); replace BK189 := bS BK189 hb; replace BK198 := bS BK198 hb; replace HB := hS HB hb; (try clear hb hb2 hk hi ho0); obtain ⟨Ao34, co34, eo34⟩ := Kd.R_slice HO202.out; (first | subst eo34 | (injection eo34 with f1_ f2_ f3_; have f4_ := f1_.symm; have f5_ := f3_.symm; clear f1_ f2_ f3_; subst f4_; subst f5_))
     refine hK.out _ _ ⟨bc0 BK198.out, bc0 BK189.out⟩ (fun hHeld => ?_)
     clear hK K
     refine nB 31 ?_ rfl
     refine one_ (i := 3) (N := some 32) #[true, true, true, true, false] rfl rfl (by kernel_rfl) (by decide) (fun K hK => ?_)
     refine goes_ Try.func69 (by kernel_rfl) rfl #[.agg #[.slice Ao28 t195.length co28], .agg #[.slice Ao34 t200.length co34]] (by rfl) rfl rfl eqT ?_
     (with_reducible refine (laws_eqCandidate.calls k _ _ t195 _ _ t200 true _ ?side1 ?side2 ?side3 ?side4 A16.out).mono ?_); (case side1 => repeat (first | exact (Kd.R_reads' HO197.out).2.2 | (with_reducible refine Kd.C_alloc ?_ _) | (with_reducible refine Kd.C_drewN ?_ _) | (with_reducible refine Kd.C_drew ?_))); (case side2 => exact (Kd.R_reads' HO197.out).2.1); (case side3 => repeat (first | exact (Kd.R_reads' HO202.out).2.2 | (with_reducible refine Kd.C_alloc ?_ _) | (with_reducible refine Kd.C_drewN ?_ _) | (with_reducible refine Kd.C_drew ?_))); (case side4 => exact (Kd.R_reads' HO202.out).2.1); rintro e w35 ⟨rfl, hb⟩; refine ⟨_, rfl, ?_⟩; replace HO193 := asT (Kd.R_below (roT HO193.out) hb); replace HO197 := asT (Kd.R_below (roT HO197.out) hb); replace HO202 := asT (Kd.R_below (roT HO202.out) hb); replace BK189 := bS BK189 hb; replace BK198 := bS BK198 hb; replace HB := hS HB hb; (try clear hb hb2 hk hi)
     refine hK.out _ _ ⟨bc0 BK198.out, bc0 BK189.out⟩ (fun hHeld => ?_)
     clear hK K
     refine nB 32 ?_ rfl
     refine pure_ (i := 4) (N := some 33) (v := ?_) (a' := ?_) #[true, true, true, true, true] rfl rfl (by kernel_rfl) (fun _ _ _ h => h) (Or.inl ⟨by rfl, ?_⟩) ?_ ?_
     rotate_left
     ·intro w'
      go_simp
      (with_reducible rfl)
     rotate_left
     ·simp only [Act.put, sA, sZ, sS, i64_w, i32_w]
      rfl
     refine done_ (by kernel_rfl) ?_
     try go_wp2
     go_ret
     exact ⟨rlT, hbT HB.out⟩
    ·replace c17 := Bool.eq_false_iff.mpr c17
     subst c17; rw [if_neg nF] at H; have H1 := H; clear H; have H := H1; clear H1
     exact absurd H (by simp)


def Bd131 : S131 → Prop := fun x => (BdInt .u8) x.f0 ∧ (BdInt .u8) x.f1
def Bd75 : S75 → Prop := fun x => (BdSlice 2 Bd131) x.f0
/-- THE ONE PURE STATEMENT of laws_FnExactIsGenerated -/
def laws_FnExactIsGenerated.Pure : Prop := ∀ (a0 : ByteArray) (l1_0 : List (S131)), BdStr a0 → (BdSlice 2 Bd131) l1_0 → ∃ k, laws_FnExactIsGenerated.f k a0 l1_0 = some true

end Go.Proofs.Ytmfhaplhgaehhaa.PFnExactIsGenerated
