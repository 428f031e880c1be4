-- Made by gen.py (a program of this session) out of the translation; Lean checks it.
import Derived.Test.YtmfhaplhgaehhabGreatPFnExactFatalMarkx0
namespace Go.Proofs.YtmfhaplhgaehhabGreat.PFnExactFatalMark
open Go.RowKit Go.Proofs.YtmfhaplhgaehhabGreatB Go.Proofs.YtmfhaplhgaehhabGreatW.PrintWords Go.Proofs.YtmfhaplhgaehhabGreatW.PrintLast Go.Proofs.YtmfhaplhgaehhabGreatW.PrintMore
attribute [local go_sem] max2_int min2_int max_two min_two max_three min_three max_four min_four   -- for this text's walks alone
set_option linter.unusedVariables false
set_option linter.unusedSimpArgs false
def laws_eqIntS.l0 : Nat → List Int → List Int → Int → Option (Bool)
 | 0, _, _, _ => none
 | k + 1, x0, x1, x5 => if x5 < (x0.length : Int) then (if 0 ≤ x5 then (if x5 < (x1.length : Int) then (if (rd x0 x5) = (rd x1 x5) then (laws_eqIntS.l0 k x0 x1 (wrap64 (x5 + 1))) else (some false)) else (none)) else (none)) else (some true)
def laws_eqIntS.f (k : Nat) (l0 : List Int) (l1 : List Int) : Option (Bool) := if (l0.length : Int) = (l1.length : Int) then (laws_eqIntS.l0 k l0 l1 0) else (some false)
theorem laws_eqIntS.mono_l : ∀ k, (∀ y0 y1 y2, LeO (laws_eqIntS.l0 k y0 y1 y2) (laws_eqIntS.l0 (k + 1) y0 y1 y2))
 | 0 => fun _ _ _ r h => by simp [laws_eqIntS.l0] at h
 | k + 1 => by
  have ih0 := laws_eqIntS.mono_l k
  ·intro y0 y1 y2
   unfold laws_eqIntS.l0
   with_reducible repeat' first | exact ih0 _ _ _ | exact LeO.refl _ | exact LeO.none _ | refine LeO.ite ?_ ?_ | refine LeO.bind ?_ (fun _ => ?_)
theorem laws_eqIntS.mono : ∀ a0 a1 k, LeO (laws_eqIntS.f k a0 a1) (laws_eqIntS.f (k + 1) a0 a1) := by
 intro a0 a1 k
 have ih0 := laws_eqIntS.mono_l k
 unfold laws_eqIntS.f
 with_reducible repeat' first | exact ih0 _ _ _ | exact LeO.refl _ | exact LeO.none _ | refine LeO.ite ?_ ?_ | refine LeO.bind ?_ (fun _ => ?_)
set_option maxHeartbeats 8000000 in
set_option maxRecDepth 100000 in
theorem laws_eqIntS.calls (k : Nat) (A0 : Option Addr) (c0 : Nat) (l0 : List Int) (A1 : Option Addr) (c1 : Nat) (l1 : List Int) (r : Bool) (w : World) (hr0 : Kd.C (Kd.int .i64) w A0 l0.length l0) (hc0 : l0.length ≤ c0) (hr1 : Kd.C (Kd.int .i64) w A1 l1.length l1) (hc1 : l1.length ≤ c1) (h : laws_eqIntS.f k l0 l1 = some r) :
  Calls Tryz.prog 12 #[.slice A0 l0.length c0, .slice A1 l1.length c1] w fun e w' => e = .returned (.bool r) ∧ Drawn0 w w' := by
 have HR0 := Aside0.mk hr0; have HC0 := Aside0.mk hc0; clear hr0 hc0; have HR1 := Aside0.mk hr1; have HC1 := Aside0.mk hc1; clear hr1 hc1; have H := h; unfold laws_eqIntS.f at H; clear h
 by_cases c3 : (l0.length : Int) = (l1.length : Int)
 ·rw [if_pos c3] at H
  have c3b0 : ((l0.length : Int) == (l1.length : Int)) = true := beq_iff_eq.mpr c3
  have c3b1 : ((l0.length : Int) != (l1.length : Int)) = false := bne_eq_false_iff_eq.mpr c3
  have c3b2 : (l0.length == l1.length) = true := by first | simpa using c3 | (simp at c3 ⊢; omega)
  clear c3; have H' := Aside0.mk H; clear H
  go_enter Tryz.func12, Tryz.ntmps12
  go_wp2
  repeat (go_quiet (fail); try go_wp2)
  go_loopg [5] k (fun kq v5 w' => ∃ (x5_1 : Int), v5 = .int .i64 x5_1 ∧ Aside0 (laws_eqIntS.l0 kq l0 l1 x5_1 = some r) ∧ Aside0 (kq ≤ k) ∧ Drawn0 w w')
  case atStart => exact ⟨(0), rdT, H', ⟨Nat.le_refl _⟩, drT⟩
  case round =>
   clear H'; (try clear c1 p2 c3 c3b0 c3b1 c3b2); obtain ⟨x5_1, rfl, HA, HK1, ⟨m1, rfl⟩⟩ := hrel
   cases gk with
   | zero => exact absurd HA.out (by simp [laws_eqIntS.l0])
   | succ k1 =>
    have H := HA.out; clear HA
    simp only [laws_eqIntS.l0] at H
    by_cases c4 : x5_1 < (l0.length : Int)
    ·rw [if_pos c4] at H
     have c4b0 : decide (x5_1 < (l0.length : Int)) = true := decide_eq_true c4
     clear c4
     by_cases c5 : 0 ≤ x5_1
     ·rw [if_pos c5] at H
      have c5b0 : decide (0 ≤ x5_1) = true := decide_eq_true c5
      clear c5
      by_cases c6 : x5_1 < (l1.length : Int)
      ·rw [if_pos c6] at H
       have c6b0 : decide (x5_1 < (l1.length : Int)) = true := decide_eq_true c6
       clear c6
       by_cases c7 : (rd l0 x5_1) = (rd l1 x5_1)
       ·rw [if_pos c7] at H
        have c7b0 : ((rd l0 x5_1) == (rd l1 x5_1)) = true := beq_iff_eq.mpr c7
        have c7b1 : ((rd l0 x5_1) != (rd l1 x5_1)) = false := bne_eq_false_iff_eq.mpr c7
        clear c7; have H' := Aside0.mk H; clear H
        have p166 : 0 ≤ (x5_1 : Int) := of_decide_eq_true asmT
        have q166 : x5_1 < (l0.length : Int) := of_decide_eq_true asmT
        obtain ⟨ad166, e166, hx166_0⟩ := Kd.at_int HR0.out x5_1 p166 q166
        cases e166
        replace p166 := eq_true p166; replace q166 := eq_true q166
        have p167 : 0 ≤ (x5_1 : Int) := of_decide_eq_true asmT
        have q167 : x5_1 < (l1.length : Int) := of_decide_eq_true asmT
        obtain ⟨ad167, e167, hx167_0⟩ := Kd.at_int HR1.out x5_1 p167 q167
        cases e167
        replace p167 := eq_true p167; replace q167 := eq_true q167
        go_wp2
        repeat (go_quiet (fail); try go_wp2)
        go_roundg k1
        case measure => have := HK1.out; omega
        case rel => exact ⟨(wrap64 (x5_1 + 1)), rdT, H', ⟨by have := HK1.out; omega⟩, drT⟩
       ·rw [if_neg c7] at H
        have c7b0 : ((rd l0 x5_1) == (rd l1 x5_1)) = false := beq_eq_false_iff_ne.mpr c7
        have c7b1 : ((rd l0 x5_1) != (rd l1 x5_1)) = true := bne_iff_ne.mpr c7
        obtain rfl := Option.some.inj H
        have p166 : 0 ≤ (x5_1 : Int) := of_decide_eq_true asmT
        have q166 : x5_1 < (l0.length : Int) := of_decide_eq_true asmT
        obtain ⟨ad166, e166, hx166_0⟩ := Kd.at_int HR0.out x5_1 p166 q166
        cases e166
        replace p166 := eq_true p166; replace q166 := eq_true q166
        have p167 : 0 ≤ (x5_1 : Int) := of_decide_eq_true asmT
        have q167 : x5_1 < (l1.length : Int) := of_decide_eq_true asmT
        obtain ⟨ad167, e167, hx167_0⟩ := Kd.at_int HR1.out x5_1 p167 q167
        cases e167
        replace p167 := eq_true p167; replace q167 := eq_true q167
        go_wp2
        repeat (go_quiet (fail); try go_wp2)
        go_ret
        exact ⟨rdT, drT⟩
      ·rw [if_neg c6] at H
       exact absurd H (by simp)
     ·rw [if_neg c5] at H
      exact absurd H (by simp)
    ·rw [if_neg c4] at H
     have c4b0 : decide (x5_1 < (l0.length : Int)) = false := decide_eq_false c4
     clear c4
     obtain rfl := Option.some.inj H
     go_wp2
     repeat (go_quiet (fail); try go_wp2)
     go_ret
     exact ⟨rdT, drT⟩
 ·rw [if_neg c3] at H
  have c3b0 : ((l0.length : Int) == (l1.length : Int)) = false := beq_eq_false_iff_ne.mpr c3
  have c3b1 : ((l0.length : Int) != (l1.length : Int)) = true := bne_iff_ne.mpr c3
  have c3b2 : (l0.length == l1.length) = false := by first | simpa using c3 | (simp at c3 ⊢; omega)
  obtain rfl := Option.some.inj H
  go_enter Tryz.func12, Tryz.ntmps12
  go_wp2
  repeat (go_quiet (fail); try go_wp2)
  go_ret
  exact ⟨rdT, drT⟩
def laws_eqStringS.l0 : Nat → List ByteArray → List ByteArray → Int → Option (Bool)
 | 0, _, _, _ => none
 | k + 1, x0, x1, x5 => if x5 < (x0.length : Int) then (if 0 ≤ x5 then (if x5 < (x1.length : Int) then (if (rdOf ByteArray.empty x0 x5).toList = (rdOf ByteArray.empty x1 x5).toList then (laws_eqStringS.l0 k x0 x1 (wrap64 (x5 + 1))) else (some false)) else (none)) else (none)) else (some true)
def laws_eqStringS.f (k : Nat) (l0 : List ByteArray) (l1 : List ByteArray) : Option (Bool) := if (l0.length : Int) = (l1.length : Int) then (laws_eqStringS.l0 k l0 l1 0) else (some false)
theorem laws_eqStringS.mono_l : ∀ k, (∀ y0 y1 y2, LeO (laws_eqStringS.l0 k y0 y1 y2) (laws_eqStringS.l0 (k + 1) y0 y1 y2))
 | 0 => fun _ _ _ r h => by simp [laws_eqStringS.l0] at h
 | k + 1 => by
  have ih0 := laws_eqStringS.mono_l k
  ·intro y0 y1 y2
   unfold laws_eqStringS.l0
   with_reducible repeat' first | exact ih0 _ _ _ | exact LeO.refl _ | exact LeO.none _ | refine LeO.ite ?_ ?_ | refine LeO.bind ?_ (fun _ => ?_)
theorem laws_eqStringS.mono : ∀ a0 a1 k, LeO (laws_eqStringS.f k a0 a1) (laws_eqStringS.f (k + 1) a0 a1) := by
 intro a0 a1 k
 have ih0 := laws_eqStringS.mono_l k
 unfold laws_eqStringS.f
 with_reducible repeat' first | exact ih0 _ _ _ | exact LeO.refl _ | exact LeO.none _ | refine LeO.ite ?_ ?_ | refine LeO.bind ?_ (fun _ => ?_)
set_option maxHeartbeats 8000000 in
set_option maxRecDepth 100000 in
theorem laws_eqStringS.calls (k : Nat) (A0 : Option Addr) (c0 : Nat) (l0 : List ByteArray) (A1 : Option Addr) (c1 : Nat) (l1 : List ByteArray) (r : Bool) (w : World) (hr0 : Kd.C Kd.string w A0 l0.length l0) (hc0 : l0.length ≤ c0) (hr1 : Kd.C Kd.string w A1 l1.length l1) (hc1 : l1.length ≤ c1) (h : laws_eqStringS.f k l0 l1 = some r) :
  Calls Tryz.prog 29 #[.slice A0 l0.length c0, .slice A1 l1.length c1] w fun e w' => e = .returned (.bool r) ∧ Drawn0 w w' := by
 have HR0 := Aside0.mk hr0; have HC0 := Aside0.mk hc0; clear hr0 hc0; have HR1 := Aside0.mk hr1; have HC1 := Aside0.mk hc1; clear hr1 hc1; have H := h; unfold laws_eqStringS.f at H; clear h
 by_cases c3 : (l0.length : Int) = (l1.length : Int)
 ·rw [if_pos c3] at H
  have c3b0 : ((l0.length : Int) == (l1.length : Int)) = true := beq_iff_eq.mpr c3
  have c3b1 : ((l0.length : Int) != (l1.length : Int)) = false := bne_eq_false_iff_eq.mpr c3
  have c3b2 : (l0.length == l1.length) = true := by first | simpa using c3 | (simp at c3 ⊢; omega)
  clear c3; have H' := Aside0.mk H; clear H
  go_enter Tryz.func29, Tryz.ntmps29
  go_wp2
  repeat (go_quiet (fail); try go_wp2)
  go_loopg [5] k (fun kq v5 w' => ∃ (x5_1 : Int), v5 = .int .i64 x5_1 ∧ Aside0 (laws_eqStringS.l0 kq l0 l1 x5_1 = some r) ∧ Aside0 (kq ≤ k) ∧ Drawn0 w w')
  case atStart => exact ⟨(0), rdT, H', ⟨Nat.le_refl _⟩, drT⟩
  case round =>
   clear H'; (try clear c1 c2 p2 c3 c3b0 c3b1 c3b2); obtain ⟨x5_1, rfl, HA, HK1, ⟨m1, rfl⟩⟩ := hrel
   cases gk with
   | zero => exact absurd HA.out (by simp [laws_eqStringS.l0])
   | succ k1 =>
    have H := HA.out; clear HA
    simp only [laws_eqStringS.l0] at H
    by_cases c4 : x5_1 < (l0.length : Int)
    ·rw [if_pos c4] at H
     have c4b0 : decide (x5_1 < (l0.length : Int)) = true := decide_eq_true c4
     clear c4
     by_cases c5 : 0 ≤ x5_1
     ·rw [if_pos c5] at H
      have c5b0 : decide (0 ≤ x5_1) = true := decide_eq_true c5
      clear c5
      by_cases c6 : x5_1 < (l1.length : Int)
      ·rw [if_pos c6] at H
       have c6b0 : decide (x5_1 < (l1.length : Int)) = true := decide_eq_true c6
       clear c6
       by_cases c7 : (rdOf ByteArray.empty l0 x5_1).toList = (rdOf ByteArray.empty l1 x5_1).toList
       ·rw [if_pos c7] at H
        have c7b0 : ((rdOf ByteArray.empty l0 x5_1).toList == (rdOf ByteArray.empty l1 x5_1).toList) = true := beq_iff_eq.mpr c7
        have c7b1 : ((rdOf ByteArray.empty l0 x5_1).toList != (rdOf ByteArray.empty l1 x5_1).toList) = false := bne_eq_false_iff_eq.mpr c7
        clear c7; have H' := Aside0.mk H; clear H
        have p168 : 0 ≤ (x5_1 : Int) := of_decide_eq_true asmT
        have q168 : x5_1 < (l0.length : Int) := of_decide_eq_true asmT
        obtain ⟨ad168, e168, hx168_0⟩ := Kd.at_string HR0.out x5_1 p168 q168
        cases e168
        replace p168 := eq_true p168; replace q168 := eq_true q168
        have p169 : 0 ≤ (x5_1 : Int) := of_decide_eq_true asmT
        have q169 : x5_1 < (l1.length : Int) := of_decide_eq_true asmT
        obtain ⟨ad169, e169, hx169_0⟩ := Kd.at_string HR1.out x5_1 p169 q169
        cases e169
        replace p169 := eq_true p169; replace q169 := eq_true q169
        go_wp2
        repeat (go_quiet (fail); try go_wp2)
        go_roundg k1
        case measure => have := HK1.out; omega
        case rel => exact ⟨(wrap64 (x5_1 + 1)), rdT, H', ⟨by have := HK1.out; omega⟩, drT⟩
       ·rw [if_neg c7] at H
        have c7b0 : ((rdOf ByteArray.empty l0 x5_1).toList == (rdOf ByteArray.empty l1 x5_1).toList) = false := beq_eq_false_iff_ne.mpr c7
        have c7b1 : ((rdOf ByteArray.empty l0 x5_1).toList != (rdOf ByteArray.empty l1 x5_1).toList) = true := bne_iff_ne.mpr c7
        obtain rfl := Option.some.inj H
        have p168 : 0 ≤ (x5_1 : Int) := of_decide_eq_true asmT
        have q168 : x5_1 < (l0.length : Int) := of_decide_eq_true asmT
        obtain ⟨ad168, e168, hx168_0⟩ := Kd.at_string HR0.out x5_1 p168 q168
        cases e168
        replace p168 := eq_true p168; replace q168 := eq_true q168
        have p169 : 0 ≤ (x5_1 : Int) := of_decide_eq_true asmT
        have q169 : x5_1 < (l1.length : Int) := of_decide_eq_true asmT
        obtain ⟨ad169, e169, hx169_0⟩ := Kd.at_string HR1.out x5_1 p169 q169
        cases e169
        replace p169 := eq_true p169; replace q169 := eq_true q169
        go_wp2
        repeat (go_quiet (fail); try go_wp2)
        go_ret
        exact ⟨rdT, drT⟩
      ·rw [if_neg c6] at H
       exact absurd H (by simp)
     ·rw [if_neg c5] at H
      exact absurd H (by simp)
    ·rw [if_neg c4] at H
     have c4b0 : decide (x5_1 < (l0.length : Int)) = false := decide_eq_false c4
     clear c4
     obtain rfl := Option.some.inj H
     go_wp2
     repeat (go_quiet (fail); try go_wp2)
     go_ret
     exact ⟨rdT, drT⟩
 ·rw [if_neg c3] at H
  have c3b0 : ((l0.length : Int) == (l1.length : Int)) = false := beq_eq_false_iff_ne.mpr c3
  have c3b1 : ((l0.length : Int) != (l1.length : Int)) = true := bne_iff_ne.mpr c3
  have c3b2 : (l0.length == l1.length) = false := by first | simpa using c3 | (simp at c3 ⊢; omega)
  obtain rfl := Option.some.inj H
  go_enter Tryz.func29, Tryz.ntmps29
  go_wp2
  repeat (go_quiet (fail); try go_wp2)
  go_ret
  exact ⟨rdT, drT⟩
def laws_eqLink.f (a0_0 : Int) (a0_1 : Int) (a1_0 : Int) (a1_1 : Int) : Option (Bool) := if a0_0 = a1_0 then (if a0_1 = a1_1 then (some true) else (some false)) else (some false)
set_option maxHeartbeats 8000000 in
set_option maxRecDepth 100000 in
theorem laws_eqLink.calls (a0_0 : Int) (a0_1 : Int) (a1_0 : Int) (a1_1 : Int) (r : Bool) (w : World) (h : laws_eqLink.f a0_0 a0_1 a1_0 a1_1 = some r) :
  Calls Tryz.prog 139 #[.agg #[.int .u8 a0_0, .int .u8 a0_1], .agg #[.int .u8 a1_0, .int .u8 a1_1]] w fun e w' => e = .returned (.bool r) ∧ Below w.heap.size w w' := by
 have hu103 := Tryz.underlying103; have HB := asT (Below.refl w.heap.size w); have H := h; unfold laws_eqLink.f at H; clear h
 by_cases c3 : a0_0 = a1_0
 ·rw [if_pos c3] at H
  have c3b0 : (a0_0 == a1_0) = true := beq_iff_eq.mpr c3
  have c3b1 : (a0_0 != a1_0) = false := bne_eq_false_iff_eq.mpr c3
  clear c3
  by_cases c4 : a0_1 = a1_1
  ·rw [if_pos c4] at H
   have c4b0 : (a0_1 == a1_1) = true := beq_iff_eq.mpr c4
   have c4b1 : (a0_1 != a1_1) = false := bne_eq_false_iff_eq.mpr c4
   clear c4
   obtain rfl := Option.some.inj H
   go_enter Tryz.func139, Tryz.ntmps139
   go_wp2_with (first | ((with_reducible refine gate_dst (N := 2) rfl ?_); refine boxT (N := 2) (cs := #[.int .u8 a0_0, .int .u8 a0_1]) (t := 103) ?_; intro gb170 hg w5 hbox hb; have BK170 := asT hbox; have GW170 := asT (geT hg HB.out); have GE170 := GW170; replace HB := hS HB hb; clear hb hbox hg) | ((with_reducible refine gate_dst (N := 3) rfl ?_); refine boxT (N := 3) (cs := #[.int .u8 a1_0, .int .u8 a1_1]) (t := 103) ?_; intro gb171 hg w6 hbox hb; have BK171 := asT (hbox); have GW171 := asT (geT hg HB.out); have GE171 := asT (geT hg HB.out); replace HB := hS HB hb; have NB170_171 := asT ((by rw [hg]; exact Nat.ne_of_lt (blk_lt (bkT BK170.out)) : gb170 ≠ gb171)); have NB171_170 := asT ((by rw [hg]; exact Nat.ne_of_gt (blk_lt (bkT BK170.out)) : gb171 ≠ gb170)); replace BK170 := bS BK170 hb; clear hb hbox hg; have hnb7 := NB170_171.out; have hnc7 := NB171_170.out; obtain ⟨hcz8_0, hcz8_1, hfz8_0, hfz8_1⟩ := bx2 BK170.out; obtain ⟨hcz9_0, hcz9_1, hfz9_0, hfz9_1⟩ := bx2 BK171.out))
   go_ret
   exact ⟨rlT, hbT HB.out⟩
  ·rw [if_neg c4] at H
   have c4b0 : (a0_1 == a1_1) = false := beq_eq_false_iff_ne.mpr c4
   have c4b1 : (a0_1 != a1_1) = true := bne_iff_ne.mpr c4
   obtain rfl := Option.some.inj H
   go_enter Tryz.func139, Tryz.ntmps139
   go_wp2_with (first | ((with_reducible refine gate_dst (N := 2) rfl ?_); refine boxT (N := 2) (cs := #[.int .u8 a0_0, .int .u8 a0_1]) (t := 103) ?_; intro gb170 hg w10 hbox hb; have BK170 := asT hbox; have GW170 := asT (geT hg HB.out); have GE170 := GW170; replace HB := hS HB hb; clear hb hbox hg) | ((with_reducible refine gate_dst (N := 3) rfl ?_); refine boxT (N := 3) (cs := #[.int .u8 a1_0, .int .u8 a1_1]) (t := 103) ?_; intro gb171 hg w11 hbox hb; have BK171 := asT (hbox); have GW171 := asT (geT hg HB.out); have GE171 := asT (geT hg HB.out); replace HB := hS HB hb; have NB170_171 := asT ((by rw [hg]; exact Nat.ne_of_lt (blk_lt (bkT BK170.out)) : gb170 ≠ gb171)); have NB171_170 := asT ((by rw [hg]; exact Nat.ne_of_gt (blk_lt (bkT BK170.out)) : gb171 ≠ gb170)); replace BK170 := bS BK170 hb; clear hb hbox hg; have hnb12 := NB170_171.out; have hnc12 := NB171_170.out; obtain ⟨hcz13_0, hcz13_1, hfz13_0, hfz13_1⟩ := bx2 BK170.out; obtain ⟨hcz14_0, hcz14_1, hfz14_0, hfz14_1⟩ := bx2 BK171.out))
   go_ret
   exact ⟨rlT, hbT HB.out⟩
 ·rw [if_neg c3] at H
  have c3b0 : (a0_0 == a1_0) = false := beq_eq_false_iff_ne.mpr c3
  have c3b1 : (a0_0 != a1_0) = true := bne_iff_ne.mpr c3
  obtain rfl := Option.some.inj H
  go_enter Tryz.func139, Tryz.ntmps139
  go_wp2_with (first | ((with_reducible refine gate_dst (N := 2) rfl ?_); refine boxT (N := 2) (cs := #[.int .u8 a0_0, .int .u8 a0_1]) (t := 103) ?_; intro gb170 hg w15 hbox hb; have BK170 := asT hbox; have GW170 := asT (geT hg HB.out); have GE170 := GW170; replace HB := hS HB hb; clear hb hbox hg) | ((with_reducible refine gate_dst (N := 3) rfl ?_); refine boxT (N := 3) (cs := #[.int .u8 a1_0, .int .u8 a1_1]) (t := 103) ?_; intro gb171 hg w16 hbox hb; have BK171 := asT (hbox); have GW171 := asT (geT hg HB.out); have GE171 := asT (geT hg HB.out); replace HB := hS HB hb; have NB170_171 := asT ((by rw [hg]; exact Nat.ne_of_lt (blk_lt (bkT BK170.out)) : gb170 ≠ gb171)); have NB171_170 := asT ((by rw [hg]; exact Nat.ne_of_gt (blk_lt (bkT BK170.out)) : gb171 ≠ gb170)); replace BK170 := bS BK170 hb; clear hb hbox hg; have hnb17 := NB170_171.out; have hnc17 := NB171_170.out; obtain ⟨hcz18_0, hcz18_1, hfz18_0, hfz18_1⟩ := bx2 BK170.out; obtain ⟨hcz19_0, hcz19_1, hfz19_0, hfz19_1⟩ := bx2 BK171.out))
  go_ret
  exact ⟨rlT, hbT HB.out⟩
def laws_eqLinkS.l0 : Nat → List (S103) → List (S103) → Int → Option (Bool)
 | 0, _, _, _ => none
 | k + 1, x0, x1, x5 => if x5 < (x0.length : Int) then (if 0 ≤ x5 then (if x5 < (x1.length : Int) then ((laws_eqLink.f ((rd_T103 x0 x5).f0) ((rd_T103 x0 x5).f1) ((rd_T103 x1 x5).f0) ((rd_T103 x1 x5).f1)).bind fun t174 => (if t174 = true then (laws_eqLinkS.l0 k x0 x1 (wrap64 (x5 + 1))) else (some false))) else (none)) else (none)) else (some true)
def laws_eqLinkS.f (k : Nat) (l0 : List (S103)) (l1 : List (S103)) : Option (Bool) := if (l0.length : Int) = (l1.length : Int) then (laws_eqLinkS.l0 k l0 l1 0) else (some false)
theorem laws_eqLinkS.mono_l : ∀ k, (∀ y0 y1 y2, LeO (laws_eqLinkS.l0 k y0 y1 y2) (laws_eqLinkS.l0 (k + 1) y0 y1 y2))
 | 0 => fun _ _ _ r h => by simp [laws_eqLinkS.l0] at h
 | k + 1 => by
  have ih0 := laws_eqLinkS.mono_l k
  ·intro y0 y1 y2
   unfold laws_eqLinkS.l0
   with_reducible repeat' first | exact ih0 _ _ _ | exact LeO.refl _ | exact LeO.none _ | refine LeO.ite ?_ ?_ | refine LeO.bind ?_ (fun _ => ?_)
theorem laws_eqLinkS.mono : ∀ a0 a1 k, LeO (laws_eqLinkS.f k a0 a1) (laws_eqLinkS.f (k + 1) a0 a1) := by
 intro a0 a1 k
 have ih0 := laws_eqLinkS.mono_l k
 unfold laws_eqLinkS.f
 with_reducible repeat' first | exact ih0 _ _ _ | exact LeO.refl _ | exact LeO.none _ | refine LeO.ite ?_ ?_ | refine LeO.bind ?_ (fun _ => ?_)
def laws_eqLinkS.T6 : Bool × List (List Nat × List Nat) := (true, [([], []), ([], []), ([0, 1], [0, 1]), ([2], [2]), ([], []), ([], []), ([4, 5], [4, 5]), ([6], [6]), ([3, 7], [3, 7]), ([8], [8])])
def laws_eqLinkS.B6 : List Nat := [0, 0, 3, 7, 0, 0, 48, 112, 255, 511]
theorem laws_eqLinkS.tab6 : rtab .any (opsOf Tryz.f106 6) = laws_eqLinkS.T6 := by kernel_rfl
theorem laws_eqLinkS.bits6 : waitsOk laws_eqLinkS.T6.2 laws_eqLinkS.B6 = true := by kernel_rfl
set_option maxHeartbeats 8000000 in
set_option maxRecDepth 100000 in
theorem laws_eqLinkS.calls (k : Nat) (A0 : Option Addr) (c0 : Nat) (l0 : List (S103)) (A1 : Option Addr) (c1 : Nat) (l1 : List (S103)) (r : Bool) (w : World) (hr0 : Kd.C k103 w A0 l0.length l0) (hc0 : l0.length ≤ c0) (hr1 : Kd.C k103 w A1 l1.length l1) (hc1 : l1.length ≤ c1) (h : laws_eqLinkS.f k l0 l1 = some r) :
  Calls Tryz.prog 106 #[.slice A0 l0.length c0, .slice A1 l1.length c1] w fun e w' => e = .returned (.bool r) ∧ Below w.heap.size w w' := by
 have hu103 := Tryz.underlying103; have HR0 := Aside0.mk hr0; have HC0 := Aside0.mk hc0; clear hr0 hc0; have HR1 := Aside0.mk hr1; have HC1 := Aside0.mk hc1; clear hr1 hc1; have HB := asT (Below.refl w.heap.size w); have H := h; unfold laws_eqLinkS.f at H; clear h
 by_cases c3 : (l0.length : Int) = (l1.length : Int)
 ·rw [if_pos c3] at H
  have c3b0 : ((l0.length : Int) == (l1.length : Int)) = true := beq_iff_eq.mpr c3
  have c3b1 : ((l0.length : Int) != (l1.length : Int)) = false := bne_eq_false_iff_eq.mpr c3
  have c3b2 : (l0.length == l1.length) = true := by first | simpa using c3 | (simp at c3 ⊢; omega)
  clear c3; have H' := Aside0.mk H; clear H
  go_enter Tryz.func106, Tryz.ntmps106
  go_wp2
  go_loopg [5] k (fun kq v5 w' => ∃ (x5_1 : Int), v5 = .int .i64 x5_1 ∧ Aside0 (laws_eqLinkS.l0 kq l0 l1 x5_1 = some r) ∧ Aside0 (kq ≤ k) ∧ Aside0 (Below w.heap.size w w'))
  case atStart => exact ⟨(0), rdT, H', ⟨Nat.le_refl _⟩, ⟨hbT HB.out⟩⟩
  case round =>
   clear H'; (try clear c1 p2 c3 c3b0 c3b1 c3b2); obtain ⟨x5_1, rfl, HA, HK1, HB⟩ := hrel
   cases gk with
   | zero => exact absurd HA.out (by simp [laws_eqLinkS.l0])
   | succ k1 =>
    have H := HA.out; clear HA
    simp only [laws_eqLinkS.l0] at H
    by_cases c4 : x5_1 < (l0.length : Int)
    ·rw [if_pos c4] at H
     have c4b0 : decide (x5_1 < (l0.length : Int)) = true := decide_eq_true c4
     clear c4
     by_cases c5 : 0 ≤ x5_1
     ·rw [if_pos c5] at H
      have c5b0 : decide (0 ≤ x5_1) = true := decide_eq_true c5
      clear c5
      by_cases c6 : x5_1 < (l1.length : Int)
      ·rw [if_pos c6] at H
       have c6b0 : decide (x5_1 < (l1.length : Int)) = true := decide_eq_true c6
       clear c6; obtain ⟨t174, A7, H⟩ := be H
       by_cases c8 : t174 = true
       ·subst c8
        rw [if_pos rfl] at H; have H' := Aside0.mk H; clear H
        try go_wp2
        replace HB := asT (below_drew1 HB.out)
        have p172 : 0 ≤ (x5_1 : Int) := of_decide_eq_true asmT
        have q172 : x5_1 < (l0.length : Int) := of_decide_eq_true asmT
        obtain ⟨ad172, e172, hx172_0, hx172_1⟩ := at_T103 HR0.out x5_1 p172 q172; have hw172_1 := hx172_1; have hw172_0 := hx172_0
        cases e172
        replace hx172_0 := hbc HB.out hx172_0; replace hx172_1 := hbc HB.out hx172_1; replace p172 := eq_true p172; replace q172 := eq_true q172
        have p173 : 0 ≤ (x5_1 : Int) := of_decide_eq_true asmT
        have q173 : x5_1 < (l1.length : Int) := of_decide_eq_true asmT
        obtain ⟨ad173, e173, hx173_0, hx173_1⟩ := at_T103 HR1.out x5_1 p173 q173; have hw173_1 := hx173_1; have hw173_0 := hx173_0
        cases e173
        replace hx173_0 := hbc HB.out hx173_0; replace hx173_1 := hbc HB.out hx173_1; replace p173 := eq_true p173; replace q173 := eq_true q173
        refine start_ (n := 10) (S := fun w' => w'.cell? (ad172.add ((x5_1).toNat * 2)) = some (.int .u8 ((rd_T103 l0 x5_1).f0)) ∧ w'.cell? ⟨(ad172.add ((x5_1).toNat * 2)).block, (ad172.add ((x5_1).toNat * 2)).off + 1, none⟩ = some (.int .u8 ((rd_T103 l0 x5_1).f1)) ∧ w'.cell? (ad173.add ((x5_1).toNat * 2)) = some (.int .u8 ((rd_T103 l1 x5_1).f0)) ∧ w'.cell? ⟨(ad173.add ((x5_1).toNat * 2)).block, (ad173.add ((x5_1).toNat * 2)).off + 1, none⟩ = some (.int .u8 ((rd_T103 l1 x5_1).f1))) (ds := []) (bA 10 0) (by kernel_rfl) rfl rfl ⟨(hbc HB.out hw172_0 :), (hbc HB.out hw172_1 :), (hbc HB.out hw173_0 :), (hbc HB.out hw173_1 :)⟩ (fun hHeld => ?_); refine with_tabW laws_eqLinkS.tab6 laws_eqLinkS.bits6 (fun HT_ HW_ => ?_)
        generalize wr.drew = w9 at HB hx172_0 hx172_1 hx173_0 hx173_1 hHeld ⊢
        refine pA 0 17 10 1 HT_.out ?_ rfl rfl; refine pA 1 18 10 3 HT_.out ?_ rfl rfl; refine pA 2 19 10 7 HT_.out ?_ rfl rfl; refine pA 4 21 10 23 HT_.out ?_ rfl rfl; refine pA 5 22 10 55 HT_.out ?_ rfl rfl; refine pA 6 23 10 119 HT_.out ?_ rfl rfl; refine tA 3 20 10 127 HT_.out HW_.out hHeld ?_ rfl rfl; refine tA 7 24 10 255 HT_.out HW_.out hHeld ?_ rfl rfl
        refine oA 8 25 10 511 HT_.out (fun K hK => ?_) rfl rfl
        refine goes_ Tryz.func139 (by kernel_rfl) rfl #[.agg #[.int .u8 ((rd_T103 l0 x5_1).f0), .int .u8 ((rd_T103 l0 x5_1).f1)], .agg #[.int .u8 ((rd_T103 l1 x5_1).f0), .int .u8 ((rd_T103 l1 x5_1).f1)]] (by rfl) rfl rfl eqT ?_
        (with_reducible refine (laws_eqLink.calls ((rd_T103 l0 x5_1).f0) ((rd_T103 l0 x5_1).f1) ((rd_T103 l1 x5_1).f0) ((rd_T103 l1 x5_1).f1) true _ A7.out).mono ?_); rintro e w10 ⟨rfl, hb⟩; refine ⟨_, rfl, ?_⟩; replace HB := hS HB hb; (try clear hb hb2 hk hi)
        refine hK.out _ _ ⟨(hbc HB.out hw172_0 :), (hbc HB.out hw172_1 :), (hbc HB.out hw173_0 :), (hbc HB.out hw173_1 :)⟩ (fun hHeld => ?_)
        clear hK K
        refine nB 25 ?_ rfl; refine pA 9 26 10 1023 HT_.out ?_ rfl rfl
        refine done_ (done_of HT_.out (by kernel_rfl)) ?_
        try go_wp2
        go_roundg k1
        case measure => have := HK1.out; omega
        case rel => exact ⟨(wrap64 (x5_1 + 1)), rdT, H', ⟨by have := HK1.out; omega⟩, ⟨hbT HB.out⟩⟩
       ·replace c8 := Bool.eq_false_iff.mpr c8
        subst c8; rw [if_neg nF] at H; have H1 := H; clear H; have H := H1; clear H1
        obtain rfl := Option.some.inj H
        try go_wp2
        replace HB := asT (below_drew1 HB.out)
        have p172 : 0 ≤ (x5_1 : Int) := of_decide_eq_true asmT
        have q172 : x5_1 < (l0.length : Int) := of_decide_eq_true asmT
        obtain ⟨ad172, e172, hx172_0, hx172_1⟩ := at_T103 HR0.out x5_1 p172 q172; have hw172_1 := hx172_1; have hw172_0 := hx172_0
        cases e172
        replace hx172_0 := hbc HB.out hx172_0; replace hx172_1 := hbc HB.out hx172_1; replace p172 := eq_true p172; replace q172 := eq_true q172
        have p173 : 0 ≤ (x5_1 : Int) := of_decide_eq_true asmT
        have q173 : x5_1 < (l1.length : Int) := of_decide_eq_true asmT
        obtain ⟨ad173, e173, hx173_0, hx173_1⟩ := at_T103 HR1.out x5_1 p173 q173; have hw173_1 := hx173_1; have hw173_0 := hx173_0
        cases e173
        replace hx173_0 := hbc HB.out hx173_0; replace hx173_1 := hbc HB.out hx173_1; replace p173 := eq_true p173; replace q173 := eq_true q173
        refine start_ (n := 10) (S := fun w' => w'.cell? (ad172.add ((x5_1).toNat * 2)) = some (.int .u8 ((rd_T103 l0 x5_1).f0)) ∧ w'.cell? ⟨(ad172.add ((x5_1).toNat * 2)).block, (ad172.add ((x5_1).toNat * 2)).off + 1, none⟩ = some (.int .u8 ((rd_T103 l0 x5_1).f1)) ∧ w'.cell? (ad173.add ((x5_1).toNat * 2)) = some (.int .u8 ((rd_T103 l1 x5_1).f0)) ∧ w'.cell? ⟨(ad173.add ((x5_1).toNat * 2)).block, (ad173.add ((x5_1).toNat * 2)).off + 1, none⟩ = some (.int .u8 ((rd_T103 l1 x5_1).f1))) (ds := []) (bA 10 0) (by kernel_rfl) rfl rfl ⟨(hbc HB.out hw172_0 :), (hbc HB.out hw172_1 :), (hbc HB.out hw173_0 :), (hbc HB.out hw173_1 :)⟩ (fun hHeld => ?_); refine with_tabW laws_eqLinkS.tab6 laws_eqLinkS.bits6 (fun HT_ HW_ => ?_)
        generalize wr.drew = w11 at HB hx172_0 hx172_1 hx173_0 hx173_1 hHeld ⊢
        refine pA 0 17 10 1 HT_.out ?_ rfl rfl; refine pA 1 18 10 3 HT_.out ?_ rfl rfl; refine pA 2 19 10 7 HT_.out ?_ rfl rfl; refine pA 4 21 10 23 HT_.out ?_ rfl rfl; refine pA 5 22 10 55 HT_.out ?_ rfl rfl; refine pA 6 23 10 119 HT_.out ?_ rfl rfl; refine tA 3 20 10 127 HT_.out HW_.out hHeld ?_ rfl rfl; refine tA 7 24 10 255 HT_.out HW_.out hHeld ?_ rfl rfl
        refine oA 8 25 10 511 HT_.out (fun K hK => ?_) rfl rfl
        refine goes_ Tryz.func139 (by kernel_rfl) rfl #[.agg #[.int .u8 ((rd_T103 l0 x5_1).f0), .int .u8 ((rd_T103 l0 x5_1).f1)], .agg #[.int .u8 ((rd_T103 l1 x5_1).f0), .int .u8 ((rd_T103 l1 x5_1).f1)]] (by rfl) rfl rfl eqT ?_
        (with_reducible refine (laws_eqLink.calls ((rd_T103 l0 x5_1).f0) ((rd_T103 l0 x5_1).f1) ((rd_T103 l1 x5_1).f0) ((rd_T103 l1 x5_1).f1) false _ A7.out).mono ?_); rintro e w12 ⟨rfl, hb⟩; refine ⟨_, rfl, ?_⟩; replace HB := hS HB hb; (try clear hb hb2 hk hi)
        refine hK.out _ _ ⟨(hbc HB.out hw172_0 :), (hbc HB.out hw172_1 :), (hbc HB.out hw173_0 :), (hbc HB.out hw173_1 :)⟩ (fun hHeld => ?_)
        clear hK K
        refine nB 25 ?_ rfl; refine pA 9 26 10 1023 HT_.out ?_ rfl rfl
        refine done_ (done_of HT_.out (by kernel_rfl)) ?_
        try go_wp2
        go_ret
        exact ⟨rlT, hbT HB.out⟩
      ·rw [if_neg c6] at H
       exact absurd H (by simp)
     ·rw [if_neg c5] at H
      exact absurd H (by simp)
    ·rw [if_neg c4] at H
     have c4b0 : decide (x5_1 < (l0.length : Int)) = false := decide_eq_false c4
     clear c4
     obtain rfl := Option.some.inj H
     go_wp2
     go_ret
     exact ⟨rlT, hbT HB.out⟩
 ·rw [if_neg c3] at H
  have c3b0 : ((l0.length : Int) == (l1.length : Int)) = false := beq_eq_false_iff_ne.mpr c3
  have c3b1 : ((l0.length : Int) != (l1.length : Int)) = true := bne_iff_ne.mpr c3
  have c3b2 : (l0.length == l1.length) = false := by first | simpa using c3 | (simp at c3 ⊢; omega)
  obtain rfl := Option.some.inj H
  go_enter Tryz.func106, Tryz.ntmps106
  go_wp2
  go_ret
  exact ⟨rlT, hbT HB.out⟩
def laws_eqCandidate.f (k : Nat) (l0_0 : List (S103)) (l1_0 : List (S103)) : Option (Bool) := (laws_eqLinkS.f k l0_0 l1_0).bind fun t177 => (if t177 = true then (some true) else (some false))
theorem laws_eqCandidate.mono : ∀ a0 a1 k, LeO (laws_eqCandidate.f k a0 a1) (laws_eqCandidate.f (k + 1) a0 a1) := by
 intro a0 a1 k
 unfold laws_eqCandidate.f
 with_reducible repeat' first | exact laws_eqLinkS.mono _ _ _ | exact LeO.refl _ | exact LeO.none _ | refine LeO.ite ?_ ?_ | refine LeO.bind ?_ (fun _ => ?_)
set_option maxHeartbeats 8000000 in
set_option maxRecDepth 100000 in
theorem laws_eqCandidate.calls (k : Nat) (A0_0 : Option Addr) (c0_0 : Nat) (l0_0 : List (S103)) (A1_0 : Option Addr) (c1_0 : Nat) (l1_0 : List (S103)) (r : Bool) (w : World) (hr0_0 : Kd.C k103 w A0_0 l0_0.length l0_0) (hc0_0 : l0_0.length ≤ c0_0) (hr1_0 : Kd.C k103 w A1_0 l1_0.length l1_0) (hc1_0 : l1_0.length ≤ c1_0) (h : laws_eqCandidate.f k l0_0 l1_0 = some r) :
  Calls Tryz.prog 78 #[.agg #[.slice A0_0 l0_0.length c0_0], .agg #[.slice A1_0 l1_0.length c1_0]] w fun e w' => e = .returned (.bool r) ∧ Below w.heap.size w w' := by
 have hu77 := Tryz.underlying77; have HR0_0 := Aside0.mk hr0_0; have HC0_0 := Aside0.mk hc0_0; clear hr0_0 hc0_0; have HR1_0 := Aside0.mk hr1_0; have HC1_0 := Aside0.mk hc1_0; clear hr1_0 hc1_0; have HB := asT (Below.refl w.heap.size w); have H := h; unfold laws_eqCandidate.f at H; clear h; obtain ⟨t177, A3, H⟩ := be H
 by_cases c4 : t177 = true
 ·subst c4
  rw [if_pos rfl] at H; have H1 := H; clear H; have H := H1; clear H1
  obtain rfl := Option.some.inj H
  go_enter Tryz.func78, Tryz.ntmps78
  go_wp2_with (first | ((with_reducible refine gate_dst (N := 2) rfl ?_); refine boxT (N := 2) (cs := #[.slice A0_0 l0_0.length c0_0]) (t := 77) ?_; intro gb175 hg w5 hbox hb; have BK175 := asT hbox; have GW175 := asT (geT hg HB.out); have GE175 := GW175; replace HB := hS HB hb; clear hb hbox hg) | ((with_reducible refine gate_dst (N := 3) rfl ?_); refine boxT (N := 3) (cs := #[.slice A1_0 l1_0.length c1_0]) (t := 77) ?_; intro gb176 hg w6 hbox hb; have BK176 := asT (hbox); have GW176 := asT (geT hg HB.out); have GE176 := asT (geT hg HB.out); replace HB := hS HB hb; have NB175_176 := asT ((by rw [hg]; exact Nat.ne_of_lt (blk_lt (bkT BK175.out)) : gb175 ≠ gb176)); have NB176_175 := asT ((by rw [hg]; exact Nat.ne_of_gt (blk_lt (bkT BK175.out)) : gb176 ≠ gb175)); replace BK175 := bS BK175 hb; clear hb hbox hg; have hnb7 := NB175_176.out; have hnc7 := NB176_175.out; obtain ⟨hcz8_0, hfz8_0⟩ := bx1 BK175.out; obtain ⟨hcz9_0, hfz9_0⟩ := bx1 BK176.out) | ((with_reducible refine gate_callee (f := 106) rfl ?_); refine goesL_ (some 9) rfl rfl Tryz.func106 (by kernel_rfl) rfl #[.slice A0_0 l0_0.length c0_0, .slice A1_0 l1_0.length c1_0] rfl eqT ?_; (with_reducible refine (laws_eqLinkS.calls k _ _ l0_0 _ _ l1_0 true _ ?side1 ?side2 ?side3 ?side4 A3.out).mono ?_); (case side1 => exact crT HR0_0.out HB.out); (case side2 => exact HC0_0.out); (case side3 => exact crT HR1_0.out HB.out); (case side4 => exact HC1_0.out); rintro e w10 ⟨rfl, hb⟩; refine ⟨_, rfl, ?_⟩; replace BK175 := bS BK175 hb; replace BK176 := bS BK176 hb; replace HB := hS HB hb; (try clear hb hb2 hk hi)))
  go_ret
  exact ⟨rlT, hbT HB.out⟩
 ·replace c4 := Bool.eq_false_iff.mpr c4
  subst c4; rw [if_neg nF] at H; have H1 := H; clear H; have H := H1; clear H1
  obtain rfl := Option.some.inj H
  go_enter Tryz.func78, Tryz.ntmps78
  go_wp2_with (first | ((with_reducible refine gate_dst (N := 2) rfl ?_); refine boxT (N := 2) (cs := #[.slice A0_0 l0_0.length c0_0]) (t := 77) ?_; intro gb175 hg w11 hbox hb; have BK175 := asT hbox; have GW175 := asT (geT hg HB.out); have GE175 := GW175; replace HB := hS HB hb; clear hb hbox hg) | ((with_reducible refine gate_dst (N := 3) rfl ?_); refine boxT (N := 3) (cs := #[.slice A1_0 l1_0.length c1_0]) (t := 77) ?_; intro gb176 hg w12 hbox hb; have BK176 := asT (hbox); have GW176 := asT (geT hg HB.out); have GE176 := asT (geT hg HB.out); replace HB := hS HB hb; have NB175_176 := asT ((by rw [hg]; exact Nat.ne_of_lt (blk_lt (bkT BK175.out)) : gb175 ≠ gb176)); have NB176_175 := asT ((by rw [hg]; exact Nat.ne_of_gt (blk_lt (bkT BK175.out)) : gb176 ≠ gb175)); replace BK175 := bS BK175 hb; clear hb hbox hg; have hnb13 := NB175_176.out; have hnc13 := NB176_175.out; obtain ⟨hcz14_0, hfz14_0⟩ := bx1 BK175.out; obtain ⟨hcz15_0, hfz15_0⟩ := bx1 BK176.out) | ((with_reducible refine gate_callee (f := 106) rfl ?_); refine goesL_ (some 9) rfl rfl Tryz.func106 (by kernel_rfl) rfl #[.slice A0_0 l0_0.length c0_0, .slice A1_0 l1_0.length c1_0] rfl eqT ?_; (with_reducible refine (laws_eqLinkS.calls k _ _ l0_0 _ _ l1_0 false _ ?side1 ?side2 ?side3 ?side4 A3.out).mono ?_); (case side1 => exact crT HR0_0.out HB.out); (case side2 => exact HC0_0.out); (case side3 => exact crT HR1_0.out HB.out); (case side4 => exact HC1_0.out); rintro e w16 ⟨rfl, hb⟩; refine ⟨_, rfl, ?_⟩; replace BK175 := bS BK175 hb; replace BK176 := bS BK176 hb; replace HB := hS HB hb; (try clear hb hb2 hk hi)))
  go_ret
  exact ⟨rlT, hbT HB.out⟩
def laws_eqCandidateS.l0 : Nat → List (S77) → List (S77) → Int → Option (Bool)
 | 0, _, _, _ => none
 | k + 1, x0, x1, x5 => if x5 < (x0.length : Int) then (if 0 ≤ x5 then (if x5 < (x1.length : Int) then ((laws_eqCandidate.f k ((rd_T77 x0 x5).f0) ((rd_T77 x1 x5).f0)).bind fun t180 => (if t180 = true then (laws_eqCandidateS.l0 k x0 x1 (wrap64 (x5 + 1))) else (some false))) else (none)) else (none)) else (some true)
def laws_eqCandidateS.f (k : Nat) (l0 : List (S77)) (l1 : List (S77)) : Option (Bool) := if (l0.length : Int) = (l1.length : Int) then (laws_eqCandidateS.l0 k l0 l1 0) else (some false)
theorem laws_eqCandidateS.mono_l : ∀ k, (∀ y0 y1 y2, LeO (laws_eqCandidateS.l0 k y0 y1 y2) (laws_eqCandidateS.l0 (k + 1) y0 y1 y2))
 | 0 => fun _ _ _ r h => by simp [laws_eqCandidateS.l0] at h
 | k + 1 => by
  have ih0 := laws_eqCandidateS.mono_l k
  ·intro y0 y1 y2
   unfold laws_eqCandidateS.l0
   with_reducible repeat' first | exact ih0 _ _ _ | exact laws_eqCandidate.mono _ _ _ | exact LeO.refl _ | exact LeO.none _ | refine LeO.ite ?_ ?_ | refine LeO.bind ?_ (fun _ => ?_)
theorem laws_eqCandidateS.mono : ∀ a0 a1 k, LeO (laws_eqCandidateS.f k a0 a1) (laws_eqCandidateS.f (k + 1) a0 a1) := by
 intro a0 a1 k
 have ih0 := laws_eqCandidateS.mono_l k
 unfold laws_eqCandidateS.f
 with_reducible repeat' first | exact ih0 _ _ _ | exact laws_eqCandidate.mono _ _ _ | exact LeO.refl _ | exact LeO.none _ | refine LeO.ite ?_ ?_ | refine LeO.bind ?_ (fun _ => ?_)
def laws_eqCandidateS.T6 : Bool × List (List Nat × List Nat) := (true, [([], []), ([], []), ([0, 1], [0, 1]), ([2], [2]), ([], []), ([], []), ([4, 5], [4, 5]), ([6], [6]), ([3, 7], [3, 7]), ([8], [8])])
def laws_eqCandidateS.B6 : List Nat := [0, 0, 3, 7, 0, 0, 48, 112, 255, 511]
theorem laws_eqCandidateS.tab6 : rtab .any (opsOf Tryz.f44 6) = laws_eqCandidateS.T6 := by kernel_rfl
theorem laws_eqCandidateS.bits6 : waitsOk laws_eqCandidateS.T6.2 laws_eqCandidateS.B6 = true := by kernel_rfl
set_option maxHeartbeats 8000000 in
set_option maxRecDepth 100000 in
theorem laws_eqCandidateS.calls (k : Nat) (A0 : Option Addr) (c0 : Nat) (l0 : List (S77)) (A1 : Option Addr) (c1 : Nat) (l1 : List (S77)) (r : Bool) (w : World) (hr0 : Kd.C k77 w A0 l0.length l0) (hc0 : l0.length ≤ c0) (hr1 : Kd.C k77 w A1 l1.length l1) (hc1 : l1.length ≤ c1) (h : laws_eqCandidateS.f k l0 l1 = some r) :
  Calls Tryz.prog 44 #[.slice A0 l0.length c0, .slice A1 l1.length c1] w fun e w' => e = .returned (.bool r) ∧ Below w.heap.size w w' := by
 have hu77 := Tryz.underlying77; have HR0 := Aside0.mk hr0; have HC0 := Aside0.mk hc0; clear hr0 hc0; have HR1 := Aside0.mk hr1; have HC1 := Aside0.mk hc1; clear hr1 hc1; have HB := asT (Below.refl w.heap.size w); have H := h; unfold laws_eqCandidateS.f at H; clear h
 by_cases c3 : (l0.length : Int) = (l1.length : Int)
 ·rw [if_pos c3] at H
  have c3b0 : ((l0.length : Int) == (l1.length : Int)) = true := beq_iff_eq.mpr c3
  have c3b1 : ((l0.length : Int) != (l1.length : Int)) = false := bne_eq_false_iff_eq.mpr c3
  have c3b2 : (l0.length == l1.length) = true := by first | simpa using c3 | (simp at c3 ⊢; omega)
  clear c3; have H' := Aside0.mk H; clear H
  go_enter Tryz.func44, Tryz.ntmps44
  go_wp2
  go_loopg [5] k (fun kq v5 w' => ∃ (x5_1 : Int), v5 = .int .i64 x5_1 ∧ Aside0 (laws_eqCandidateS.l0 kq l0 l1 x5_1 = some r) ∧ Aside0 (kq ≤ k) ∧ Aside0 (Below w.heap.size w w'))
  case atStart => exact ⟨(0), rdT, H', ⟨Nat.le_refl _⟩, ⟨hbT HB.out⟩⟩
  case round =>
   clear H'; (try clear c1 p2 c3 c3b0 c3b1 c3b2); obtain ⟨x5_1, rfl, HA, HK1, HB⟩ := hrel
   cases gk with
   | zero => exact absurd HA.out (by simp [laws_eqCandidateS.l0])
   | succ k1 =>
    have H := HA.out; clear HA
    simp only [laws_eqCandidateS.l0] at H
    by_cases c4 : x5_1 < (l0.length : Int)
    ·rw [if_pos c4] at H
     have c4b0 : decide (x5_1 < (l0.length : Int)) = true := decide_eq_true c4
     clear c4
     by_cases c5 : 0 ≤ x5_1
     ·rw [if_pos c5] at H
      have c5b0 : decide (0 ≤ x5_1) = true := decide_eq_true c5
      clear c5
      by_cases c6 : x5_1 < (l1.length : Int)
      ·rw [if_pos c6] at H
       have c6b0 : decide (x5_1 < (l1.length : Int)) = true := decide_eq_true c6
       clear c6; obtain ⟨t180, A7, H⟩ := be H
       by_cases c8 : t180 = true
       ·subst c8
        rw [if_pos rfl] at H; have H' := Aside0.mk H; clear H
        try go_wp2
        replace HB := asT (below_drew1 HB.out)
        have p178 : 0 ≤ (x5_1 : Int) := of_decide_eq_true asmT
        have q178 : x5_1 < (l0.length : Int) := of_decide_eq_true asmT
        obtain ⟨ad178, A178_0, c178_0, e178, hx178_0, hl178_0, hi178_0⟩ := at_T77 HR0.out x5_1 p178 q178; have hw178_0 := hx178_0
        cases e178
        replace hx178_0 := hbc HB.out hx178_0; have HR178_0 := Aside0.mk hi178_0; have HC178_0 := Aside0.mk hl178_0; clear hi178_0 hl178_0; replace p178 := eq_true p178; replace q178 := eq_true q178
        have p179 : 0 ≤ (x5_1 : Int) := of_decide_eq_true asmT
        have q179 : x5_1 < (l1.length : Int) := of_decide_eq_true asmT
        obtain ⟨ad179, A179_0, c179_0, e179, hx179_0, hl179_0, hi179_0⟩ := at_T77 HR1.out x5_1 p179 q179; have hw179_0 := hx179_0
        cases e179
        replace hx179_0 := hbc HB.out hx179_0; have HR179_0 := Aside0.mk hi179_0; have HC179_0 := Aside0.mk hl179_0; clear hi179_0 hl179_0; replace p179 := eq_true p179; replace q179 := eq_true q179
        refine start_ (n := 10) (S := fun w' => w'.cell? (ad178.add (x5_1).toNat) = some (.slice A178_0 ((rd_T77 l0 x5_1).f0).length c178_0) ∧ w'.cell? (ad179.add (x5_1).toNat) = some (.slice A179_0 ((rd_T77 l1 x5_1).f0).length c179_0)) (ds := []) (bA 10 0) (by kernel_rfl) rfl rfl ⟨(hbc HB.out hw178_0 :), (hbc HB.out hw179_0 :)⟩ (fun hHeld => ?_); refine with_tabW laws_eqCandidateS.tab6 laws_eqCandidateS.bits6 (fun HT_ HW_ => ?_)
        generalize wr.drew = w9 at HB HR178_0 HR179_0 hx178_0 hx179_0 hHeld ⊢
        refine pA 0 17 10 1 HT_.out ?_ rfl rfl; refine pA 1 18 10 3 HT_.out ?_ rfl rfl; refine pA 2 19 10 7 HT_.out ?_ rfl rfl; refine pA 4 21 10 23 HT_.out ?_ rfl rfl; refine pA 5 22 10 55 HT_.out ?_ rfl rfl; refine pA 6 23 10 119 HT_.out ?_ rfl rfl; refine tA 3 20 10 127 HT_.out HW_.out hHeld ?_ rfl rfl; refine tA 7 24 10 255 HT_.out HW_.out hHeld ?_ rfl rfl
        refine oA 8 25 10 511 HT_.out (fun K hK => ?_) rfl rfl
        refine goes_ Tryz.func78 (by kernel_rfl) rfl #[.agg #[.slice A178_0 ((rd_T77 l0 x5_1).f0).length c178_0], .agg #[.slice A179_0 ((rd_T77 l1 x5_1).f0).length c179_0]] (by rfl) rfl rfl eqT ?_
        (with_reducible refine (laws_eqCandidate.calls k1 _ _ ((rd_T77 l0 x5_1).f0) _ _ ((rd_T77 l1 x5_1).f0) true _ ?side1 ?side2 ?side3 ?side4 A7.out).mono ?_); (case side1 => exact crT HR178_0.out HB.out); (case side2 => exact HC178_0.out); (case side3 => exact crT HR179_0.out HB.out); (case side4 => exact HC179_0.out); rintro e w10 ⟨rfl, hb⟩; refine ⟨_, rfl, ?_⟩; replace HB := hS HB hb; (try clear hb hb2 hk hi)
        refine hK.out _ _ ⟨(hbc HB.out hw178_0 :), (hbc HB.out hw179_0 :)⟩ (fun hHeld => ?_)
        clear hK K
        refine nB 25 ?_ rfl; refine pA 9 26 10 1023 HT_.out ?_ rfl rfl
        refine done_ (done_of HT_.out (by kernel_rfl)) ?_
        try go_wp2
        go_roundg k1
        case measure => have := HK1.out; omega
        case rel => exact ⟨(wrap64 (x5_1 + 1)), rdT, H', ⟨by have := HK1.out; omega⟩, ⟨hbT HB.out⟩⟩
       ·replace c8 := Bool.eq_false_iff.mpr c8
        subst c8; rw [if_neg nF] at H; have H1 := H; clear H; have H := H1; clear H1
        obtain rfl := Option.some.inj H
        try go_wp2
        replace HB := asT (below_drew1 HB.out)
        have p178 : 0 ≤ (x5_1 : Int) := of_decide_eq_true asmT
        have q178 : x5_1 < (l0.length : Int) := of_decide_eq_true asmT
        obtain ⟨ad178, A178_0, c178_0, e178, hx178_0, hl178_0, hi178_0⟩ := at_T77 HR0.out x5_1 p178 q178; have hw178_0 := hx178_0
        cases e178
        replace hx178_0 := hbc HB.out hx178_0; have HR178_0 := Aside0.mk hi178_0; have HC178_0 := Aside0.mk hl178_0; clear hi178_0 hl178_0; replace p178 := eq_true p178; replace q178 := eq_true q178
        have p179 : 0 ≤ (x5_1 : Int) := of_decide_eq_true asmT
        have q179 : x5_1 < (l1.length : Int) := of_decide_eq_true asmT
        obtain ⟨ad179, A179_0, c179_0, e179, hx179_0, hl179_0, hi179_0⟩ := at_T77 HR1.out x5_1 p179 q179; have hw179_0 := hx179_0
        cases e179
        replace hx179_0 := hbc HB.out hx179_0; have HR179_0 := Aside0.mk hi179_0; have HC179_0 := Aside0.mk hl179_0; clear hi179_0 hl179_0; replace p179 := eq_true p179; replace q179 := eq_true q179
        refine start_ (n := 10) (S := fun w' => w'.cell? (ad178.add (x5_1).toNat) = some (.slice A178_0 ((rd_T77 l0 x5_1).f0).length c178_0) ∧ w'.cell? (ad179.add (x5_1).toNat) = some (.slice A179_0 ((rd_T77 l1 x5_1).f0).length c179_0)) (ds := []) (bA 10 0) (by kernel_rfl) rfl rfl ⟨(hbc HB.out hw178_0 :), (hbc HB.out hw179_0 :)⟩ (fun hHeld => ?_); refine with_tabW laws_eqCandidateS.tab6 laws_eqCandidateS.bits6 (fun HT_ HW_ => ?_)
        generalize wr.drew = w11 at HB HR178_0 HR179_0 hx178_0 hx179_0 hHeld ⊢
        refine pA 0 17 10 1 HT_.out ?_ rfl rfl; refine pA 1 18 10 3 HT_.out ?_ rfl rfl; refine pA 2 19 10 7 HT_.out ?_ rfl rfl; refine pA 4 21 10 23 HT_.out ?_ rfl rfl; refine pA 5 22 10 55 HT_.out ?_ rfl rfl; refine pA 6 23 10 119 HT_.out ?_ rfl rfl; refine tA 3 20 10 127 HT_.out HW_.out hHeld ?_ rfl rfl; refine tA 7 24 10 255 HT_.out HW_.out hHeld ?_ rfl rfl
        refine oA 8 25 10 511 HT_.out (fun K hK => ?_) rfl rfl
        refine goes_ Tryz.func78 (by kernel_rfl) rfl #[.agg #[.slice A178_0 ((rd_T77 l0 x5_1).f0).length c178_0], .agg #[.slice A179_0 ((rd_T77 l1 x5_1).f0).length c179_0]] (by rfl) rfl rfl eqT ?_
        (with_reducible refine (laws_eqCandidate.calls k1 _ _ ((rd_T77 l0 x5_1).f0) _ _ ((rd_T77 l1 x5_1).f0) false _ ?side1 ?side2 ?side3 ?side4 A7.out).mono ?_); (case side1 => exact crT HR178_0.out HB.out); (case side2 => exact HC178_0.out); (case side3 => exact crT HR179_0.out HB.out); (case side4 => exact HC179_0.out); rintro e w12 ⟨rfl, hb⟩; refine ⟨_, rfl, ?_⟩; replace HB := hS HB hb; (try clear hb hb2 hk hi)
        refine hK.out _ _ ⟨(hbc HB.out hw178_0 :), (hbc HB.out hw179_0 :)⟩ (fun hHeld => ?_)
        clear hK K
        refine nB 25 ?_ rfl; refine pA 9 26 10 1023 HT_.out ?_ rfl rfl
        refine done_ (done_of HT_.out (by kernel_rfl)) ?_
        try go_wp2
        go_ret
        exact ⟨rlT, hbT HB.out⟩
      ·rw [if_neg c6] at H
       exact absurd H (by simp)
     ·rw [if_neg c5] at H
      exact absurd H (by simp)
    ·rw [if_neg c4] at H
     have c4b0 : decide (x5_1 < (l0.length : Int)) = false := decide_eq_false c4
     clear c4
     obtain rfl := Option.some.inj H
     go_wp2
     go_ret
     exact ⟨rlT, hbT HB.out⟩
 ·rw [if_neg c3] at H
  have c3b0 : ((l0.length : Int) == (l1.length : Int)) = false := beq_eq_false_iff_ne.mpr c3
  have c3b1 : ((l0.length : Int) != (l1.length : Int)) = true := bne_iff_ne.mpr c3
  have c3b2 : (l0.length == l1.length) = false := by first | simpa using c3 | (simp at c3 ⊢; omega)
  obtain rfl := Option.some.inj H
  go_enter Tryz.func44, Tryz.ntmps44
  go_wp2
  go_ret
  exact ⟨rlT, hbT HB.out⟩
def laws_eqIntSS.l0 : Nat → List (List Int) → List (List Int) → Int → Option (Bool)
 | 0, _, _, _ => none
 | k + 1, x0, x1, x5 => if x5 < (x0.length : Int) then (if 0 ≤ x5 then (if x5 < (x1.length : Int) then ((laws_eqIntS.f k (rd_L6 x0 x5) (rd_L6 x1 x5)).bind fun t183 => (if t183 = true then (laws_eqIntSS.l0 k x0 x1 (wrap64 (x5 + 1))) else (some false))) else (none)) else (none)) else (some true)
def laws_eqIntSS.f (k : Nat) (l0 : List (List Int)) (l1 : List (List Int)) : Option (Bool) := if (l0.length : Int) = (l1.length : Int) then (laws_eqIntSS.l0 k l0 l1 0) else (some false)
theorem laws_eqIntSS.mono_l : ∀ k, (∀ y0 y1 y2, LeO (laws_eqIntSS.l0 k y0 y1 y2) (laws_eqIntSS.l0 (k + 1) y0 y1 y2))
 | 0 => fun _ _ _ r h => by simp [laws_eqIntSS.l0] at h
 | k + 1 => by
  have ih0 := laws_eqIntSS.mono_l k
  ·intro y0 y1 y2
   unfold laws_eqIntSS.l0
   with_reducible repeat' first | exact ih0 _ _ _ | exact laws_eqIntS.mono _ _ _ | exact LeO.refl _ | exact LeO.none _ | refine LeO.ite ?_ ?_ | refine LeO.bind ?_ (fun _ => ?_)
theorem laws_eqIntSS.mono : ∀ a0 a1 k, LeO (laws_eqIntSS.f k a0 a1) (laws_eqIntSS.f (k + 1) a0 a1) := by
 intro a0 a1 k
 have ih0 := laws_eqIntSS.mono_l k
 unfold laws_eqIntSS.f
 with_reducible repeat' first | exact ih0 _ _ _ | exact laws_eqIntS.mono _ _ _ | exact LeO.refl _ | exact LeO.none _ | refine LeO.ite ?_ ?_ | refine LeO.bind ?_ (fun _ => ?_)
set_option maxHeartbeats 8000000 in
set_option maxRecDepth 100000 in
theorem laws_eqIntSS.calls (k : Nat) (A0 : Option Addr) (c0 : Nat) (l0 : List (List Int)) (A1 : Option Addr) (c1 : Nat) (l1 : List (List Int)) (r : Bool) (w : World) (hr0 : Kd.C (Kd.slice 3 (Kd.int .i64)) w A0 l0.length l0) (hc0 : l0.length ≤ c0) (hr1 : Kd.C (Kd.slice 3 (Kd.int .i64)) w A1 l1.length l1) (hc1 : l1.length ≤ c1) (h : laws_eqIntSS.f k l0 l1 = some r) :
  Calls Tryz.prog 45 #[.slice A0 l0.length c0, .slice A1 l1.length c1] w fun e w' => e = .returned (.bool r) ∧ Drawn0 w w' := by
 have HR0 := Aside0.mk hr0; have HC0 := Aside0.mk hc0; clear hr0 hc0; have HR1 := Aside0.mk hr1; have HC1 := Aside0.mk hc1; clear hr1 hc1; have H := h; unfold laws_eqIntSS.f at H; clear h
 by_cases c3 : (l0.length : Int) = (l1.length : Int)
 ·rw [if_pos c3] at H
  have c3b0 : ((l0.length : Int) == (l1.length : Int)) = true := beq_iff_eq.mpr c3
  have c3b1 : ((l0.length : Int) != (l1.length : Int)) = false := bne_eq_false_iff_eq.mpr c3
  have c3b2 : (l0.length == l1.length) = true := by first | simpa using c3 | (simp at c3 ⊢; omega)
  clear c3; have H' := Aside0.mk H; clear H
  go_enter Tryz.func45, Tryz.ntmps45
  go_wp2
  repeat (go_quiet (fail); try go_wp2)
  go_loopg [5] k (fun kq v5 w' => ∃ (x5_1 : Int), v5 = .int .i64 x5_1 ∧ Aside0 (laws_eqIntSS.l0 kq l0 l1 x5_1 = some r) ∧ Aside0 (kq ≤ k) ∧ Drawn0 w w')
  case atStart => exact ⟨(0), rdT, H', ⟨Nat.le_refl _⟩, drT⟩
  case round =>
   clear H'; (try clear c1 p2 c3 c3b0 c3b1 c3b2); obtain ⟨x5_1, rfl, HA, HK1, ⟨m1, rfl⟩⟩ := hrel
   cases gk with
   | zero => exact absurd HA.out (by simp [laws_eqIntSS.l0])
   | succ k1 =>
    have H := HA.out; clear HA
    simp only [laws_eqIntSS.l0] at H
    by_cases c4 : x5_1 < (l0.length : Int)
    ·rw [if_pos c4] at H
     have c4b0 : decide (x5_1 < (l0.length : Int)) = true := decide_eq_true c4
     clear c4
     by_cases c5 : 0 ≤ x5_1
     ·rw [if_pos c5] at H
      have c5b0 : decide (0 ≤ x5_1) = true := decide_eq_true c5
      clear c5
      by_cases c6 : x5_1 < (l1.length : Int)
      ·rw [if_pos c6] at H
       have c6b0 : decide (x5_1 < (l1.length : Int)) = true := decide_eq_true c6
       clear c6; obtain ⟨t183, A7, H⟩ := be H
       by_cases c8 : t183 = true
       ·subst c8
        rw [if_pos rfl] at H; have H' := Aside0.mk H; clear H
        have p181 : 0 ≤ (x5_1 : Int) := of_decide_eq_true asmT
        have q181 : x5_1 < (l0.length : Int) := of_decide_eq_true asmT
        obtain ⟨ad181, A181_0, c181_0, e181, hx181_0, hl181_0, hi181_0⟩ := at_L6 HR0.out x5_1 p181 q181
        cases e181
        have HR181_0 := Aside0.mk hi181_0; have HC181_0 := Aside0.mk hl181_0; clear hi181_0 hl181_0; replace p181 := eq_true p181; replace q181 := eq_true q181
        have p182 : 0 ≤ (x5_1 : Int) := of_decide_eq_true asmT
        have q182 : x5_1 < (l1.length : Int) := of_decide_eq_true asmT
        obtain ⟨ad182, A182_0, c182_0, e182, hx182_0, hl182_0, hi182_0⟩ := at_L6 HR1.out x5_1 p182 q182
        cases e182
        have HR182_0 := Aside0.mk hi182_0; have HC182_0 := Aside0.mk hl182_0; clear hi182_0 hl182_0; replace p182 := eq_true p182; replace q182 := eq_true q182
        go_wp2_with (first | (go_at_call 12; (with_reducible refine (laws_eqIntS.calls k1 _ _ (rd_L6 l0 x5_1) _ _ (rd_L6 l1 x5_1) true _ ?side1 ?side2 ?side3 ?side4 A7.out).mono ?_); (case side1 => repeat (first | exact HR181_0.out | (with_reducible refine Kd.C_alloc ?_ _) | (with_reducible refine Kd.C_drewN ?_ _) | (with_reducible refine Kd.C_drew ?_))); (case side2 => exact HC181_0.out); (case side3 => repeat (first | exact HR182_0.out | (with_reducible refine Kd.C_alloc ?_ _) | (with_reducible refine Kd.C_drewN ?_ _) | (with_reducible refine Kd.C_drew ?_))); (case side4 => exact HC182_0.out); rintro e w' ⟨rfl, ⟨nd, rfl⟩⟩; (try first | exact ⟨rfl, _, World.drewN_drewN _ _ _⟩ | exact ⟨rfl, _, Eq.trans (World.drewN_drewN _ _ _) (congrArg (World.drewN _) (Nat.add_assoc _ _ _))⟩)))
        repeat (go_quiet (first | (go_at_call 12; (with_reducible refine (laws_eqIntS.calls k1 _ _ (rd_L6 l0 x5_1) _ _ (rd_L6 l1 x5_1) true _ ?side1 ?side2 ?side3 ?side4 A7.out).mono ?_); (case side1 => repeat (first | exact HR181_0.out | (with_reducible refine Kd.C_alloc ?_ _) | (with_reducible refine Kd.C_drewN ?_ _) | (with_reducible refine Kd.C_drew ?_))); (case side2 => exact HC181_0.out); (case side3 => repeat (first | exact HR182_0.out | (with_reducible refine Kd.C_alloc ?_ _) | (with_reducible refine Kd.C_drewN ?_ _) | (with_reducible refine Kd.C_drew ?_))); (case side4 => exact HC182_0.out); rintro e w' ⟨rfl, ⟨nd, rfl⟩⟩; (try first | exact ⟨rfl, _, World.drewN_drewN _ _ _⟩ | exact ⟨rfl, _, Eq.trans (World.drewN_drewN _ _ _) (congrArg (World.drewN _) (Nat.add_assoc _ _ _))⟩))); try go_wp2_with (first | (go_at_call 12; (with_reducible refine (laws_eqIntS.calls k1 _ _ (rd_L6 l0 x5_1) _ _ (rd_L6 l1 x5_1) true _ ?side1 ?side2 ?side3 ?side4 A7.out).mono ?_); (case side1 => repeat (first | exact HR181_0.out | (with_reducible refine Kd.C_alloc ?_ _) | (with_reducible refine Kd.C_drewN ?_ _) | (with_reducible refine Kd.C_drew ?_))); (case side2 => exact HC181_0.out); (case side3 => repeat (first | exact HR182_0.out | (with_reducible refine Kd.C_alloc ?_ _) | (with_reducible refine Kd.C_drewN ?_ _) | (with_reducible refine Kd.C_drew ?_))); (case side4 => exact HC182_0.out); rintro e w' ⟨rfl, ⟨nd, rfl⟩⟩; (try first | exact ⟨rfl, _, World.drewN_drewN _ _ _⟩ | exact ⟨rfl, _, Eq.trans (World.drewN_drewN _ _ _) (congrArg (World.drewN _) (Nat.add_assoc _ _ _))⟩))))
        go_roundg k1
        case measure => have := HK1.out; omega
        case rel => exact ⟨(wrap64 (x5_1 + 1)), rdT, H', ⟨by have := HK1.out; omega⟩, drT⟩
       ·replace c8 := Bool.eq_false_iff.mpr c8
        subst c8; rw [if_neg nF] at H; have H1 := H; clear H; have H := H1; clear H1
        obtain rfl := Option.some.inj H
        have p181 : 0 ≤ (x5_1 : Int) := of_decide_eq_true asmT
        have q181 : x5_1 < (l0.length : Int) := of_decide_eq_true asmT
        obtain ⟨ad181, A181_0, c181_0, e181, hx181_0, hl181_0, hi181_0⟩ := at_L6 HR0.out x5_1 p181 q181
        cases e181
        have HR181_0 := Aside0.mk hi181_0; have HC181_0 := Aside0.mk hl181_0; clear hi181_0 hl181_0; replace p181 := eq_true p181; replace q181 := eq_true q181
        have p182 : 0 ≤ (x5_1 : Int) := of_decide_eq_true asmT
        have q182 : x5_1 < (l1.length : Int) := of_decide_eq_true asmT
        obtain ⟨ad182, A182_0, c182_0, e182, hx182_0, hl182_0, hi182_0⟩ := at_L6 HR1.out x5_1 p182 q182
        cases e182
        have HR182_0 := Aside0.mk hi182_0; have HC182_0 := Aside0.mk hl182_0; clear hi182_0 hl182_0; replace p182 := eq_true p182; replace q182 := eq_true q182
        go_wp2_with (first | (go_at_call 12; (with_reducible refine (laws_eqIntS.calls k1 _ _ (rd_L6 l0 x5_1) _ _ (rd_L6 l1 x5_1) false _ ?side1 ?side2 ?side3 ?side4 A7.out).mono ?_); (case side1 => repeat (first | exact HR181_0.out | (with_reducible refine Kd.C_alloc ?_ _) | (with_reducible refine Kd.C_drewN ?_ _) | (with_reducible refine Kd.C_drew ?_))); (case side2 => exact HC181_0.out); (case side3 => repeat (first | exact HR182_0.out | (with_reducible refine Kd.C_alloc ?_ _) | (with_reducible refine Kd.C_drewN ?_ _) | (with_reducible refine Kd.C_drew ?_))); (case side4 => exact HC182_0.out); rintro e w' ⟨rfl, ⟨nd, rfl⟩⟩; (try first | exact ⟨rfl, _, World.drewN_drewN _ _ _⟩ | exact ⟨rfl, _, Eq.trans (World.drewN_drewN _ _ _) (congrArg (World.drewN _) (Nat.add_assoc _ _ _))⟩)))
        repeat (go_quiet (first | (go_at_call 12; (with_reducible refine (laws_eqIntS.calls k1 _ _ (rd_L6 l0 x5_1) _ _ (rd_L6 l1 x5_1) false _ ?side1 ?side2 ?side3 ?side4 A7.out).mono ?_); (case side1 => repeat (first | exact HR181_0.out | (with_reducible refine Kd.C_alloc ?_ _) | (with_reducible refine Kd.C_drewN ?_ _) | (with_reducible refine Kd.C_drew ?_))); (case side2 => exact HC181_0.out); (case side3 => repeat (first | exact HR182_0.out | (with_reducible refine Kd.C_alloc ?_ _) | (with_reducible refine Kd.C_drewN ?_ _) | (with_reducible refine Kd.C_drew ?_))); (case side4 => exact HC182_0.out); rintro e w' ⟨rfl, ⟨nd, rfl⟩⟩; (try first | exact ⟨rfl, _, World.drewN_drewN _ _ _⟩ | exact ⟨rfl, _, Eq.trans (World.drewN_drewN _ _ _) (congrArg (World.drewN _) (Nat.add_assoc _ _ _))⟩))); try go_wp2_with (first | (go_at_call 12; (with_reducible refine (laws_eqIntS.calls k1 _ _ (rd_L6 l0 x5_1) _ _ (rd_L6 l1 x5_1) false _ ?side1 ?side2 ?side3 ?side4 A7.out).mono ?_); (case side1 => repeat (first | exact HR181_0.out | (with_reducible refine Kd.C_alloc ?_ _) | (with_reducible refine Kd.C_drewN ?_ _) | (with_reducible refine Kd.C_drew ?_))); (case side2 => exact HC181_0.out); (case side3 => repeat (first | exact HR182_0.out | (with_reducible refine Kd.C_alloc ?_ _) | (with_reducible refine Kd.C_drewN ?_ _) | (with_reducible refine Kd.C_drew ?_))); (case side4 => exact HC182_0.out); rintro e w' ⟨rfl, ⟨nd, rfl⟩⟩; (try first | exact ⟨rfl, _, World.drewN_drewN _ _ _⟩ | exact ⟨rfl, _, Eq.trans (World.drewN_drewN _ _ _) (congrArg (World.drewN _) (Nat.add_assoc _ _ _))⟩))))
        go_ret
        exact ⟨rdT, drT⟩
      ·rw [if_neg c6] at H
       exact absurd H (by simp)
     ·rw [if_neg c5] at H
      exact absurd H (by simp)
    ·rw [if_neg c4] at H
     have c4b0 : decide (x5_1 < (l0.length : Int)) = false := decide_eq_false c4
     clear c4
     obtain rfl := Option.some.inj H
     go_wp2
     repeat (go_quiet (fail); try go_wp2)
     go_ret
     exact ⟨rdT, drT⟩
 ·rw [if_neg c3] at H
  have c3b0 : ((l0.length : Int) == (l1.length : Int)) = false := beq_eq_false_iff_ne.mpr c3
  have c3b1 : ((l0.length : Int) != (l1.length : Int)) = true := bne_iff_ne.mpr c3
  have c3b2 : (l0.length == l1.length) = false := by first | simpa using c3 | (simp at c3 ⊢; omega)
  obtain rfl := Option.some.inj H
  go_enter Tryz.func45, Tryz.ntmps45
  go_wp2
  repeat (go_quiet (fail); try go_wp2)
  go_ret
  exact ⟨rdT, drT⟩
def laws_eqTableau.f (k : Nat) (a0_0 : ByteArray) (l0_1 : List ByteArray) (l0_2 : List (S77)) (l0_3 : List (List Int)) (a1_0 : ByteArray) (l1_1 : List ByteArray) (l1_2 : List (S77)) (l1_3 : List (List Int)) : Option (Bool) := if a0_0.toList = a1_0.toList then ((laws_eqStringS.f k l0_1 l1_1).bind fun t186 => (if t186 = true then ((laws_eqCandidateS.f k l0_2 l1_2).bind fun t187 => (if t187 = true then ((laws_eqIntSS.f k l0_3 l1_3).bind fun t188 => (if t188 = true then (some true) else (some false))) else (some false))) else (some false))) else (some false)
theorem laws_eqTableau.mono : ∀ a0 a1 a2 a3 a4 a5 a6 a7 k, LeO (laws_eqTableau.f k a0 a1 a2 a3 a4 a5 a6 a7) (laws_eqTableau.f (k + 1) a0 a1 a2 a3 a4 a5 a6 a7) := by
 intro a0 a1 a2 a3 a4 a5 a6 a7 k
 unfold laws_eqTableau.f
 with_reducible repeat' first | exact laws_eqCandidateS.mono _ _ _ | exact laws_eqIntSS.mono _ _ _ | exact laws_eqStringS.mono _ _ _ | exact LeO.refl _ | exact LeO.none _ | refine LeO.ite ?_ ?_ | refine LeO.bind ?_ (fun _ => ?_)
set_option maxHeartbeats 8000000 in
set_option maxRecDepth 100000 in
theorem laws_eqTableau.calls (k : Nat) (a0_0 : ByteArray) (A0_1 : Option Addr) (c0_1 : Nat) (l0_1 : List ByteArray) (A0_2 : Option Addr) (c0_2 : Nat) (l0_2 : List (S77)) (A0_3 : Option Addr) (c0_3 : Nat) (l0_3 : List (List Int)) (a1_0 : ByteArray) (A1_1 : Option Addr) (c1_1 : Nat) (l1_1 : List ByteArray) (A1_2 : Option Addr) (c1_2 : Nat) (l1_2 : List (S77)) (A1_3 : Option Addr) (c1_3 : Nat) (l1_3 : List (List Int)) (r : Bool) (w : World) (hr0_1 : Kd.C Kd.string w A0_1 l0_1.length l0_1) (hc0_1 : l0_1.length ≤ c0_1) (hr0_2 : Kd.C k77 w A0_2 l0_2.length l0_2) (hc0_2 : l0_2.length ≤ c0_2) (hr0_3 : Kd.C (Kd.slice 3 (Kd.int .i64)) w A0_3 l0_3.length l0_3) (hc0_3 : l0_3.length ≤ c0_3) (hr1_1 : Kd.C Kd.string w A1_1 l1_1.length l1_1) (hc1_1 : l1_1.length ≤ c1_1) (hr1_2 : Kd.C k77 w A1_2 l1_2.length l1_2) (hc1_2 : l1_2.length ≤ c1_2) (hr1_3 : Kd.C (Kd.slice 3 (Kd.int .i64)) w A1_3 l1_3.length l1_3) (hc1_3 : l1_3.length ≤ c1_3) (h : laws_eqTableau.f k a0_0 l0_1 l0_2 l0_3 a1_0 l1_1 l1_2 l1_3 = some r) :
  Calls Tryz.prog 13 #[.agg #[.string a0_0, .slice A0_1 l0_1.length c0_1, .slice A0_2 l0_2.length c0_2, .slice A0_3 l0_3.length c0_3], .agg #[.string a1_0, .slice A1_1 l1_1.length c1_1, .slice A1_2 l1_2.length c1_2, .slice A1_3 l1_3.length c1_3]] w fun e w' => e = .returned (.bool r) ∧ Below w.heap.size w w' := by
 have hu32 := Tryz.underlying32; have HR0_1 := Aside0.mk hr0_1; have HC0_1 := Aside0.mk hc0_1; clear hr0_1 hc0_1; have HR0_2 := Aside0.mk hr0_2; have HC0_2 := Aside0.mk hc0_2; clear hr0_2 hc0_2; have HR0_3 := Aside0.mk hr0_3; have HC0_3 := Aside0.mk hc0_3; clear hr0_3 hc0_3; have HR1_1 := Aside0.mk hr1_1; have HC1_1 := Aside0.mk hc1_1; clear hr1_1 hc1_1; have HR1_2 := Aside0.mk hr1_2; have HC1_2 := Aside0.mk hc1_2; clear hr1_2 hc1_2; have HR1_3 := Aside0.mk hr1_3; have HC1_3 := Aside0.mk hc1_3; clear hr1_3 hc1_3; have HB := asT (Below.refl w.heap.size w); have H := h; unfold laws_eqTableau.f at H; clear h
 by_cases c3 : a0_0.toList = a1_0.toList
 ·rw [if_pos c3] at H
  have c3b0 : (a0_0.toList == a1_0.toList) = true := beq_iff_eq.mpr c3
  have c3b1 : (a0_0.toList != a1_0.toList) = false := bne_eq_false_iff_eq.mpr c3
  clear c3; obtain ⟨t186, A4, H⟩ := be H
  by_cases c5 : t186 = true
  ·subst c5
   rw [if_pos rfl] at H; obtain ⟨t187, A6, H⟩ := be H
   by_cases c7 : t187 = true
   ·subst c7
    rw [if_pos rfl] at H; obtain ⟨t188, A8, H⟩ := be H
    by_cases c9 : t188 = true
    ·subst c9
     rw [if_pos rfl] at H; have H1 := H; clear H; have H := H1; clear H1
     obtain rfl := Option.some.inj H
     go_enter Tryz.func13, Tryz.ntmps13
     go_wp2_with (first | ((with_reducible refine gate_dst (N := 2) rfl ?_); refine boxT (N := 2) (cs := #[.string a0_0, .slice A0_1 l0_1.length c0_1, .slice A0_2 l0_2.length c0_2, .slice A0_3 l0_3.length c0_3]) (t := 32) ?_; intro gb184 hg w10 hbox hb; have BK184 := asT hbox; have GW184 := asT (geT hg HB.out); have GE184 := GW184; replace HB := hS HB hb; clear hb hbox hg) | ((with_reducible refine gate_dst (N := 3) rfl ?_); refine boxT (N := 3) (cs := #[.string a1_0, .slice A1_1 l1_1.length c1_1, .slice A1_2 l1_2.length c1_2, .slice A1_3 l1_3.length c1_3]) (t := 32) ?_; intro gb185 hg w11 hbox hb; have BK185 := asT (hbox); have GW185 := asT (geT hg HB.out); have GE185 := asT (geT hg HB.out); replace HB := hS HB hb; have NB184_185 := asT ((by rw [hg]; exact Nat.ne_of_lt (blk_lt (bkT BK184.out)) : gb184 ≠ gb185)); have NB185_184 := asT ((by rw [hg]; exact Nat.ne_of_gt (blk_lt (bkT BK184.out)) : gb185 ≠ gb184)); replace BK184 := bS BK184 hb; clear hb hbox hg; have hnb12 := NB184_185.out; have hnc12 := NB185_184.out; obtain ⟨hcz13_0, hcz13_1, hcz13_2, hcz13_3, hfz13_0, hfz13_1, hfz13_2, hfz13_3⟩ := bx4 BK184.out; obtain ⟨hcz14_0, hcz14_1, hcz14_2, hcz14_3, hfz14_0, hfz14_1, hfz14_2, hfz14_3⟩ := bx4 BK185.out) | ((with_reducible refine gate_callee (f := 29) rfl ?_); refine goesL_ (some 14) rfl rfl Tryz.func29 (by kernel_rfl) rfl #[.slice A0_1 l0_1.length c0_1, .slice A1_1 l1_1.length c1_1] rfl eqT ?_; (with_reducible refine (laws_eqStringS.calls k _ _ l0_1 _ _ l1_1 true _ ?side1 ?side2 ?side3 ?side4 A4.out).mono ?_); (case side1 => exact crT HR0_1.out HB.out); (case side2 => exact HC0_1.out); (case side3 => exact crT HR1_1.out HB.out); (case side4 => exact HC1_1.out); rintro e w' ⟨rfl, ⟨nd, rfl⟩⟩; refine ⟨_, rfl, ?_⟩) | ((with_reducible refine gate_callee (f := 44) rfl ?_); refine goesL_ (some 20) rfl rfl Tryz.func44 (by kernel_rfl) rfl #[.slice A0_2 l0_2.length c0_2, .slice A1_2 l1_2.length c1_2] rfl eqT ?_; (with_reducible refine (laws_eqCandidateS.calls k _ _ l0_2 _ _ l1_2 true _ ?side1 ?side2 ?side3 ?side4 A6.out).mono ?_); (case side1 => exact crT HR0_2.out (hbT HB.out)); (case side2 => exact HC0_2.out); (case side3 => exact crT HR1_2.out (hbT HB.out)); (case side4 => exact HC1_2.out); rintro e w15 ⟨rfl, hb⟩; refine ⟨_, rfl, ?_⟩; replace BK184 := bS BK184 hb; replace BK185 := bS BK185 hb; replace HB := hS HB hb; (try clear hb hb2 hk hi); obtain ⟨hcz16_0, hcz16_1, hcz16_2, hcz16_3, hfz16_0, hfz16_1, hfz16_2, hfz16_3⟩ := bx4 BK184.out; obtain ⟨hcz17_0, hcz17_1, hcz17_2, hcz17_3, hfz17_0, hfz17_1, hfz17_2, hfz17_3⟩ := bx4 BK185.out) | ((with_reducible refine gate_callee (f := 45) rfl ?_); refine goesL_ (some 26) rfl rfl Tryz.func45 (by kernel_rfl) rfl #[.slice A0_3 l0_3.length c0_3, .slice A1_3 l1_3.length c1_3] rfl eqT ?_; (with_reducible refine (laws_eqIntSS.calls k _ _ l0_3 _ _ l1_3 true _ ?side1 ?side2 ?side3 ?side4 A8.out).mono ?_); (case side1 => exact crT HR0_3.out HB.out); (case side2 => exact HC0_3.out); (case side3 => exact crT HR1_3.out HB.out); (case side4 => exact HC1_3.out); rintro e w' ⟨rfl, ⟨nd, rfl⟩⟩; refine ⟨_, rfl, ?_⟩))
     go_ret
     exact ⟨rlT, hbT HB.out⟩
    ·replace c9 := Bool.eq_false_iff.mpr c9
     subst c9; rw [if_neg nF] at H; have H1 := H; clear H; have H := H1; clear H1
     obtain rfl := Option.some.inj H
     go_enter Tryz.func13, Tryz.ntmps13
     go_wp2_with (first | ((with_reducible refine gate_dst (N := 2) rfl ?_); refine boxT (N := 2) (cs := #[.string a0_0, .slice A0_1 l0_1.length c0_1, .slice A0_2 l0_2.length c0_2, .slice A0_3 l0_3.length c0_3]) (t := 32) ?_; intro gb184 hg w18 hbox hb; have BK184 := asT hbox; have GW184 := asT (geT hg HB.out); have GE184 := GW184; replace HB := hS HB hb; clear hb hbox hg) | ((with_reducible refine gate_dst (N := 3) rfl ?_); refine boxT (N := 3) (cs := #[.string a1_0, .slice A1_1 l1_1.length c1_1, .slice A1_2 l1_2.length c1_2, .slice A1_3 l1_3.length c1_3]) (t := 32) ?_; intro gb185 hg w19 hbox hb; have BK185 := asT (hbox); have GW185 := asT (geT hg HB.out); have GE185 := asT (geT hg HB.out); replace HB := hS HB hb; have NB184_185 := asT ((by rw [hg]; exact Nat.ne_of_lt (blk_lt (bkT BK184.out)) : gb184 ≠ gb185)); have NB185_184 := asT ((by rw [hg]; exact Nat.ne_of_gt (blk_lt (bkT BK184.out)) : gb185 ≠ gb184)); replace BK184 := bS BK184 hb; clear hb hbox hg; have hnb20 := NB184_185.out; have hnc20 := NB185_184.out; obtain ⟨hcz21_0, hcz21_1, hcz21_2, hcz21_3, hfz21_0, hfz21_1, hfz21_2, hfz21_3⟩ := bx4 BK184.out; obtain ⟨hcz22_0, hcz22_1, hcz22_2, hcz22_3, hfz22_0, hfz22_1, hfz22_2, hfz22_3⟩ := bx4 BK185.out) | ((with_reducible refine gate_callee (f := 29) rfl ?_); refine goesL_ (some 14) rfl rfl Tryz.func29 (by kernel_rfl) rfl #[.slice A0_1 l0_1.length c0_1, .slice A1_1 l1_1.length c1_1] rfl eqT ?_; (with_reducible refine (laws_eqStringS.calls k _ _ l0_1 _ _ l1_1 true _ ?side1 ?side2 ?side3 ?side4 A4.out).mono ?_); (case side1 => exact crT HR0_1.out HB.out); (case side2 => exact HC0_1.out); (case side3 => exact crT HR1_1.out HB.out); (case side4 => exact HC1_1.out); rintro e w' ⟨rfl, ⟨nd, rfl⟩⟩; refine ⟨_, rfl, ?_⟩) | ((with_reducible refine gate_callee (f := 44) rfl ?_); refine goesL_ (some 20) rfl rfl Tryz.func44 (by kernel_rfl) rfl #[.slice A0_2 l0_2.length c0_2, .slice A1_2 l1_2.length c1_2] rfl eqT ?_; (with_reducible refine (laws_eqCandidateS.calls k _ _ l0_2 _ _ l1_2 true _ ?side1 ?side2 ?side3 ?side4 A6.out).mono ?_); (case side1 => exact crT HR0_2.out (hbT HB.out)); (case side2 => exact HC0_2.out); (case side3 => exact crT HR1_2.out (hbT HB.out)); (case side4 => exact HC1_2.out); rintro e w23 ⟨rfl, hb⟩; refine ⟨_, rfl, ?_⟩; replace BK184 := bS BK184 hb; replace BK185 := bS BK185 hb; replace HB := hS HB hb; (try clear hb hb2 hk hi); obtain ⟨hcz24_0, hcz24_1, hcz24_2, hcz24_3, hfz24_0, hfz24_1, hfz24_2, hfz24_3⟩ := bx4 BK184.out; obtain ⟨hcz25_0, hcz25_1, hcz25_2, hcz25_3, hfz25_0, hfz25_1, hfz25_2, hfz25_3⟩ := bx4 BK185.out) | ((with_reducible refine gate_callee (f := 45) rfl ?_); refine goesL_ (some 26) rfl rfl Tryz.func45 (by kernel_rfl) rfl #[.slice A0_3 l0_3.length c0_3, .slice A1_3 l1_3.length c1_3] rfl eqT ?_; (with_reducible refine (laws_eqIntSS.calls k _ _ l0_3 _ _ l1_3 false _ ?side1 ?side2 ?side3 ?side4 A8.out).mono ?_); (case side1 => exact crT HR0_3.out HB.out); (case side2 => exact HC0_3.out); (case side3 => exact crT HR1_3.out HB.out); (case side4 => exact HC1_3.out); rintro e w' ⟨rfl, ⟨nd, rfl⟩⟩; refine ⟨_, rfl, ?_⟩))
     go_ret
     exact ⟨rlT, hbT HB.out⟩
   ·replace c7 := Bool.eq_false_iff.mpr c7
    subst c7; rw [if_neg nF] at H; have H1 := H; clear H; have H := H1; clear H1
    obtain rfl := Option.some.inj H
    go_enter Tryz.func13, Tryz.ntmps13
    go_wp2_with (first | ((with_reducible refine gate_dst (N := 2) rfl ?_); refine boxT (N := 2) (cs := #[.string a0_0, .slice A0_1 l0_1.length c0_1, .slice A0_2 l0_2.length c0_2, .slice A0_3 l0_3.length c0_3]) (t := 32) ?_; intro gb184 hg w26 hbox hb; have BK184 := asT hbox; have GW184 := asT (geT hg HB.out); have GE184 := GW184; replace HB := hS HB hb; clear hb hbox hg) | ((with_reducible refine gate_dst (N := 3) rfl ?_); refine boxT (N := 3) (cs := #[.string a1_0, .slice A1_1 l1_1.length c1_1, .slice A1_2 l1_2.length c1_2, .slice A1_3 l1_3.length c1_3]) (t := 32) ?_; intro gb185 hg w27 hbox hb; have BK185 := asT (hbox); have GW185 := asT (geT hg HB.out); have GE185 := asT (geT hg HB.out); replace HB := hS HB hb; have NB184_185 := asT ((by rw [hg]; exact Nat.ne_of_lt (blk_lt (bkT BK184.out)) : gb184 ≠ gb185)); have NB185_184 := asT ((by rw [hg]; exact Nat.ne_of_gt (blk_lt (bkT BK184.out)) : gb185 ≠ gb184)); replace BK184 := bS BK184 hb; clear hb hbox hg; have hnb28 := NB184_185.out; have hnc28 := NB185_184.out; obtain ⟨hcz29_0, hcz29_1, hcz29_2, hcz29_3, hfz29_0, hfz29_1, hfz29_2, hfz29_3⟩ := bx4 BK184.out; obtain ⟨hcz30_0, hcz30_1, hcz30_2, hcz30_3, hfz30_0, hfz30_1, hfz30_2, hfz30_3⟩ := bx4 BK185.out) | ((with_reducible refine gate_callee (f := 29) rfl ?_); refine goesL_ (some 14) rfl rfl Tryz.func29 (by kernel_rfl) rfl #[.slice A0_1 l0_1.length c0_1, .slice A1_1 l1_1.length c1_1] rfl eqT ?_; (with_reducible refine (laws_eqStringS.calls k _ _ l0_1 _ _ l1_1 true _ ?side1 ?side2 ?side3 ?side4 A4.out).mono ?_); (case side1 => exact crT HR0_1.out HB.out); (case side2 => exact HC0_1.out); (case side3 => exact crT HR1_1.out HB.out); (case side4 => exact HC1_1.out); rintro e w' ⟨rfl, ⟨nd, rfl⟩⟩; refine ⟨_, rfl, ?_⟩) | ((with_reducible refine gate_callee (f := 44) rfl ?_); refine goesL_ (some 20) rfl rfl Tryz.func44 (by kernel_rfl) rfl #[.slice A0_2 l0_2.length c0_2, .slice A1_2 l1_2.length c1_2] rfl eqT ?_; (with_reducible refine (laws_eqCandidateS.calls k _ _ l0_2 _ _ l1_2 false _ ?side1 ?side2 ?side3 ?side4 A6.out).mono ?_); (case side1 => exact crT HR0_2.out (hbT HB.out)); (case side2 => exact HC0_2.out); (case side3 => exact crT HR1_2.out (hbT HB.out)); (case side4 => exact HC1_2.out); rintro e w31 ⟨rfl, hb⟩; refine ⟨_, rfl, ?_⟩; replace BK184 := bS BK184 hb; replace BK185 := bS BK185 hb; replace HB := hS HB hb; (try clear hb hb2 hk hi)))
    go_ret
    exact ⟨rlT, hbT HB.out⟩
  ·replace c5 := Bool.eq_false_iff.mpr c5
   subst c5; rw [if_neg nF] at H; have H1 := H; clear H; have H := H1; clear H1
   obtain rfl := Option.some.inj H
   go_enter Tryz.func13, Tryz.ntmps13
   go_wp2_with (first | ((with_reducible refine gate_dst (N := 2) rfl ?_); refine boxT (N := 2) (cs := #[.string a0_0, .slice A0_1 l0_1.length c0_1, .slice A0_2 l0_2.length c0_2, .slice A0_3 l0_3.length c0_3]) (t := 32) ?_; intro gb184 hg w32 hbox hb; have BK184 := asT hbox; have GW184 := asT (geT hg HB.out); have GE184 := GW184; replace HB := hS HB hb; clear hb hbox hg) | ((with_reducible refine gate_dst (N := 3) rfl ?_); refine boxT (N := 3) (cs := #[.string a1_0, .slice A1_1 l1_1.length c1_1, .slice A1_2 l1_2.length c1_2, .slice A1_3 l1_3.length c1_3]) (t := 32) ?_; intro gb185 hg w33 hbox hb; have BK185 := asT (hbox); have GW185 := asT (geT hg HB.out); have GE185 := asT (geT hg HB.out); replace HB := hS HB hb; have NB184_185 := asT ((by rw [hg]; exact Nat.ne_of_lt (blk_lt (bkT BK184.out)) : gb184 ≠ gb185)); have NB185_184 := asT ((by rw [hg]; exact Nat.ne_of_gt (blk_lt (bkT BK184.out)) : gb185 ≠ gb184)); replace BK184 := bS BK184 hb; clear hb hbox hg; have hnb34 := NB184_185.out; have hnc34 := NB185_184.out; obtain ⟨hcz35_0, hcz35_1, hcz35_2, hcz35_3, hfz35_0, hfz35_1, hfz35_2, hfz35_3⟩ := bx4 BK184.out; obtain ⟨hcz36_0, hcz36_1, hcz36_2, hcz36_3, hfz36_0, hfz36_1, hfz36_2, hfz36_3⟩ := bx4 BK185.out) | ((with_reducible refine gate_callee (f := 29) rfl ?_); refine goesL_ (some 14) rfl rfl Tryz.func29 (by kernel_rfl) rfl #[.slice A0_1 l0_1.length c0_1, .slice A1_1 l1_1.length c1_1] rfl eqT ?_; (with_reducible refine (laws_eqStringS.calls k _ _ l0_1 _ _ l1_1 false _ ?side1 ?side2 ?side3 ?side4 A4.out).mono ?_); (case side1 => exact crT HR0_1.out HB.out); (case side2 => exact HC0_1.out); (case side3 => exact crT HR1_1.out HB.out); (case side4 => exact HC1_1.out); rintro e w' ⟨rfl, ⟨nd, rfl⟩⟩; refine ⟨_, rfl, ?_⟩))
   go_ret
   exact ⟨rlT, hbT HB.out⟩
 ·rw [if_neg c3] at H
  have c3b0 : (a0_0.toList == a1_0.toList) = false := beq_eq_false_iff_ne.mpr c3
  have c3b1 : (a0_0.toList != a1_0.toList) = true := bne_iff_ne.mpr c3
  obtain rfl := Option.some.inj H
  go_enter Tryz.func13, Tryz.ntmps13
  go_wp2_with (first | ((with_reducible refine gate_dst (N := 2) rfl ?_); refine boxT (N := 2) (cs := #[.string a0_0, .slice A0_1 l0_1.length c0_1, .slice A0_2 l0_2.length c0_2, .slice A0_3 l0_3.length c0_3]) (t := 32) ?_; intro gb184 hg w37 hbox hb; have BK184 := asT hbox; have GW184 := asT (geT hg HB.out); have GE184 := GW184; replace HB := hS HB hb; clear hb hbox hg) | ((with_reducible refine gate_dst (N := 3) rfl ?_); refine boxT (N := 3) (cs := #[.string a1_0, .slice A1_1 l1_1.length c1_1, .slice A1_2 l1_2.length c1_2, .slice A1_3 l1_3.length c1_3]) (t := 32) ?_; intro gb185 hg w38 hbox hb; have BK185 := asT (hbox); have GW185 := asT (geT hg HB.out); have GE185 := asT (geT hg HB.out); replace HB := hS HB hb; have NB184_185 := asT ((by rw [hg]; exact Nat.ne_of_lt (blk_lt (bkT BK184.out)) : gb184 ≠ gb185)); have NB185_184 := asT ((by rw [hg]; exact Nat.ne_of_gt (blk_lt (bkT BK184.out)) : gb185 ≠ gb184)); replace BK184 := bS BK184 hb; clear hb hbox hg; have hnb39 := NB184_185.out; have hnc39 := NB185_184.out; obtain ⟨hcz40_0, hcz40_1, hcz40_2, hcz40_3, hfz40_0, hfz40_1, hfz40_2, hfz40_3⟩ := bx4 BK184.out; obtain ⟨hcz41_0, hcz41_1, hcz41_2, hcz41_3, hfz41_0, hfz41_1, hfz41_2, hfz41_3⟩ := bx4 BK185.out))
  go_ret
  exact ⟨rlT, hbT HB.out⟩
def spec_l5Same.l0 : Nat → List Int → List Int → Int → Option (Bool)
 | 0, _, _, _ => none
 | k + 1, x0, x1, x5 => if x5 < (x0.length : Int) then (if 0 ≤ x5 then (if x5 < (x1.length : Int) then (if (rd x0 x5) = (rd x1 x5) then (spec_l5Same.l0 k x0 x1 (wrap64 (x5 + 1))) else (some false)) else (none)) else (none)) else (some true)
def spec_l5Same.f (k : Nat) (l0 : List Int) (l1 : List Int) : Option (Bool) := if (l0.length : Int) = (l1.length : Int) then (spec_l5Same.l0 k l0 l1 0) else (some false)
theorem spec_l5Same.mono_l : ∀ k, (∀ y0 y1 y2, LeO (spec_l5Same.l0 k y0 y1 y2) (spec_l5Same.l0 (k + 1) y0 y1 y2))
 | 0 => fun _ _ _ r h => by simp [spec_l5Same.l0] at h
 | k + 1 => by
  have ih0 := spec_l5Same.mono_l k
  ·intro y0 y1 y2
   unfold spec_l5Same.l0
   with_reducible repeat' first | exact ih0 _ _ _ | exact LeO.refl _ | exact LeO.none _ | refine LeO.ite ?_ ?_ | refine LeO.bind ?_ (fun _ => ?_)
theorem spec_l5Same.mono : ∀ a0 a1 k, LeO (spec_l5Same.f k a0 a1) (spec_l5Same.f (k + 1) a0 a1) := by
 intro a0 a1 k
 have ih0 := spec_l5Same.mono_l k
 unfold spec_l5Same.f
 with_reducible repeat' first | exact ih0 _ _ _ | exact LeO.refl _ | exact LeO.none _ | refine LeO.ite ?_ ?_ | refine LeO.bind ?_ (fun _ => ?_)
set_option maxHeartbeats 8000000 in
set_option maxRecDepth 100000 in
theorem spec_l5Same.calls (k : Nat) (A0 : Option Addr) (c0 : Nat) (l0 : List Int) (A1 : Option Addr) (c1 : Nat) (l1 : List Int) (r : Bool) (w : World) (hr0 : Kd.C (Kd.int .i64) w A0 l0.length l0) (hc0 : l0.length ≤ c0) (hr1 : Kd.C (Kd.int .i64) w A1 l1.length l1) (hc1 : l1.length ≤ c1) (h : spec_l5Same.f k l0 l1 = some r) :
  Calls Tryz.prog 71 #[.slice A0 l0.length c0, .slice A1 l1.length c1] w fun e w' => e = .returned (.bool r) ∧ Drawn0 w w' := by
 have HR0 := Aside0.mk hr0; have HC0 := Aside0.mk hc0; clear hr0 hc0; have HR1 := Aside0.mk hr1; have HC1 := Aside0.mk hc1; clear hr1 hc1; have H := h; unfold spec_l5Same.f at H; clear h
 by_cases c3 : (l0.length : Int) = (l1.length : Int)
 ·rw [if_pos c3] at H
  have c3b0 : ((l0.length : Int) == (l1.length : Int)) = true := beq_iff_eq.mpr c3
  have c3b1 : ((l0.length : Int) != (l1.length : Int)) = false := bne_eq_false_iff_eq.mpr c3
  have c3b2 : (l0.length == l1.length) = true := by first | simpa using c3 | (simp at c3 ⊢; omega)
  clear c3; have H' := Aside0.mk H; clear H
  go_enter Tryz.func71, Tryz.ntmps71
  go_wp2
  repeat (go_quiet (fail); try go_wp2)
  go_loopg [5] k (fun kq v5 w' => ∃ (x5_1 : Int), v5 = .int .i64 x5_1 ∧ Aside0 (spec_l5Same.l0 kq l0 l1 x5_1 = some r) ∧ Aside0 (kq ≤ k) ∧ Drawn0 w w')
  case atStart => exact ⟨(0), rdT, H', ⟨Nat.le_refl _⟩, drT⟩
  case round =>
   clear H'; (try clear c1 p2 c3 c3b0 c3b1 c3b2); obtain ⟨x5_1, rfl, HA, HK1, ⟨m1, rfl⟩⟩ := hrel
   cases gk with
   | zero => exact absurd HA.out (by simp [spec_l5Same.l0])
   | succ k1 =>
    have H := HA.out; clear HA
    simp only [spec_l5Same.l0] at H
    by_cases c4 : x5_1 < (l0.length : Int)
    ·rw [if_pos c4] at H
     have c4b0 : decide (x5_1 < (l0.length : Int)) = true := decide_eq_true c4
     clear c4
     by_cases c5 : 0 ≤ x5_1
     ·rw [if_pos c5] at H
      have c5b0 : decide (0 ≤ x5_1) = true := decide_eq_true c5
      clear c5
      by_cases c6 : x5_1 < (l1.length : Int)
      ·rw [if_pos c6] at H
       have c6b0 : decide (x5_1 < (l1.length : Int)) = true := decide_eq_true c6
       clear c6
       by_cases c7 : (rd l0 x5_1) = (rd l1 x5_1)
       ·rw [if_pos c7] at H
        have c7b0 : ((rd l0 x5_1) == (rd l1 x5_1)) = true := beq_iff_eq.mpr c7
        have c7b1 : ((rd l0 x5_1) != (rd l1 x5_1)) = false := bne_eq_false_iff_eq.mpr c7
        clear c7; have H' := Aside0.mk H; clear H
        have p189 : 0 ≤ (x5_1 : Int) := of_decide_eq_true asmT
        have q189 : x5_1 < (l0.length : Int) := of_decide_eq_true asmT
        obtain ⟨ad189, e189, hx189_0⟩ := Kd.at_int HR0.out x5_1 p189 q189
        cases e189
        replace p189 := eq_true p189; replace q189 := eq_true q189
        have p190 : 0 ≤ (x5_1 : Int) := of_decide_eq_true asmT
        have q190 : x5_1 < (l1.length : Int) := of_decide_eq_true asmT
        obtain ⟨ad190, e190, hx190_0⟩ := Kd.at_int HR1.out x5_1 p190 q190
        cases e190
        replace p190 := eq_true p190; replace q190 := eq_true q190
        go_wp2
        repeat (go_quiet (fail); try go_wp2)
        go_roundg k1
        case measure => have := HK1.out; omega
        case rel => exact ⟨(wrap64 (x5_1 + 1)), rdT, H', ⟨by have := HK1.out; omega⟩, drT⟩
       ·rw [if_neg c7] at H
        have c7b0 : ((rd l0 x5_1) == (rd l1 x5_1)) = false := beq_eq_false_iff_ne.mpr c7
        have c7b1 : ((rd l0 x5_1) != (rd l1 x5_1)) = true := bne_iff_ne.mpr c7
        obtain rfl := Option.some.inj H
        have p189 : 0 ≤ (x5_1 : Int) := of_decide_eq_true asmT
        have q189 : x5_1 < (l0.length : Int) := of_decide_eq_true asmT
        obtain ⟨ad189, e189, hx189_0⟩ := Kd.at_int HR0.out x5_1 p189 q189
        cases e189
        replace p189 := eq_true p189; replace q189 := eq_true q189
        have p190 : 0 ≤ (x5_1 : Int) := of_decide_eq_true asmT
        have q190 : x5_1 < (l1.length : Int) := of_decide_eq_true asmT
        obtain ⟨ad190, e190, hx190_0⟩ := Kd.at_int HR1.out x5_1 p190 q190
        cases e190
        replace p190 := eq_true p190; replace q190 := eq_true q190
        go_wp2
        repeat (go_quiet (fail); try go_wp2)
        go_ret
        exact ⟨rdT, drT⟩
      ·rw [if_neg c6] at H
       exact absurd H (by simp)
     ·rw [if_neg c5] at H
      exact absurd H (by simp)
    ·rw [if_neg c4] at H
     have c4b0 : decide (x5_1 < (l0.length : Int)) = false := decide_eq_false c4
     clear c4
     obtain rfl := Option.some.inj H
     go_wp2
     repeat (go_quiet (fail); try go_wp2)
     go_ret
     exact ⟨rdT, drT⟩
 ·rw [if_neg c3] at H
  have c3b0 : ((l0.length : Int) == (l1.length : Int)) = false := beq_eq_false_iff_ne.mpr c3
  have c3b1 : ((l0.length : Int) != (l1.length : Int)) = true := bne_iff_ne.mpr c3
  have c3b2 : (l0.length == l1.length) = false := by first | simpa using c3 | (simp at c3 ⊢; omega)
  obtain rfl := Option.some.inj H
  go_enter Tryz.func71, Tryz.ntmps71
  go_wp2
  repeat (go_quiet (fail); try go_wp2)
  go_ret
  exact ⟨rdT, drT⟩
def spec_l11Same.f (k : Nat) (l0 : List Int) (l1 : List Int) : Option (Bool) := (spec_l5Same.f k l0 l1).bind fun t191 => (some t191)
theorem spec_l11Same.mono : ∀ a0 a1 k, LeO (spec_l11Same.f k a0 a1) (spec_l11Same.f (k + 1) a0 a1) := by
 intro a0 a1 k
 unfold spec_l11Same.f
 with_reducible repeat' first | exact spec_l5Same.mono _ _ _ | exact LeO.refl _ | exact LeO.none _ | refine LeO.ite ?_ ?_ | refine LeO.bind ?_ (fun _ => ?_)
set_option maxHeartbeats 8000000 in
set_option maxRecDepth 100000 in
theorem spec_l11Same.calls (k : Nat) (A0 : Option Addr) (c0 : Nat) (l0 : List Int) (A1 : Option Addr) (c1 : Nat) (l1 : List Int) (r : Bool) (w : World) (hr0 : Kd.C (Kd.int .i64) w A0 l0.length l0) (hc0 : l0.length ≤ c0) (hr1 : Kd.C (Kd.int .i64) w A1 l1.length l1) (hc1 : l1.length ≤ c1) (h : spec_l11Same.f k l0 l1 = some r) :
  Calls Tryz.prog 36 #[.slice A0 l0.length c0, .slice A1 l1.length c1] w fun e w' => e = .returned (.bool r) ∧ Drawn0 w w' := by
 have HR0 := Aside0.mk hr0; have HC0 := Aside0.mk hc0; clear hr0 hc0; have HR1 := Aside0.mk hr1; have HC1 := Aside0.mk hc1; clear hr1 hc1; have H := h; unfold spec_l11Same.f at H; clear h; obtain ⟨t191, A3, H⟩ := be H
 obtain rfl := Option.some.inj H
 go_enter Tryz.func36, Tryz.ntmps36
 go_wp2_with (first | ((with_reducible refine gate_callee (f := 71) rfl ?_); refine goesL_ (some 7) rfl rfl Tryz.func71 (by kernel_rfl) rfl #[.slice A0 l0.length c0, .slice A1 l1.length c1] rfl eqT ?_; (with_reducible refine (spec_l5Same.calls k _ _ l0 _ _ l1 t191 _ ?side1 ?side2 ?side3 ?side4 A3.out).mono ?_); (case side1 => repeat (first | exact HR0.out | (with_reducible refine Kd.C_alloc ?_ _) | (with_reducible refine Kd.C_drewN ?_ _) | (with_reducible refine Kd.C_drew ?_))); (case side2 => exact HC0.out); (case side3 => repeat (first | exact HR1.out | (with_reducible refine Kd.C_alloc ?_ _) | (with_reducible refine Kd.C_drewN ?_ _) | (with_reducible refine Kd.C_drew ?_))); (case side4 => exact HC1.out); rintro e w' ⟨rfl, ⟨nd, rfl⟩⟩; refine ⟨_, rfl, ?_⟩))
 go_ret
 exact ⟨rdT, drT⟩
end Go.Proofs.YtmfhaplhgaehhabGreat.PFnExactFatalMark
