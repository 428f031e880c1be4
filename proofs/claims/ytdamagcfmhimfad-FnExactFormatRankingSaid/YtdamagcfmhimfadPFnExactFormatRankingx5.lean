-- Made by gen.py (a program of this session) out of the translation; Lean checks it.
import Derived.Test.YtdamagcfmhimfadPFnExactFormatRankingx0
import Derived.Test.YtdamagcfmhimfadPFnExactFormatRankingx1
import Derived.Test.YtdamagcfmhimfadPFnExactFormatRankingx2
import Derived.Test.YtdamagcfmhimfadPFnExactFormatRankingx4
namespace Go.Proofs.Ytdamagcfmhimfad.PFnExactFormatRanking
open Go.RowKit Go.Proofs.YtdamagcfmhimfadB Go.Proofs.YtdamagcfmhimfadW.PrintWords Go.Proofs.YtdamagcfmhimfadW.PrintLast Go.Proofs.YtdamagcfmhimfadW.PrintMore
attribute [local go_sem] max2_int min2_int max_two min_two max_three min_three max_four min_four   -- for this text's walks alone
set_option linter.unusedVariables false
set_option linter.unusedSimpArgs false

/-! ### laws_eqStringS: function 32 -/
def laws_eqStringS.l0 : Nat → List ByteArray → List ByteArray → Int → Option (Bool)
 | 0, _, _, _ => none
 | k + 1, x0, x1, x5 => if x5 < (x0.length : Int) then (if 0 ≤ x5 then (if x5 < (x1.length : Int) then (if (rdOf ByteArray.empty x0 x5).toList = (rdOf ByteArray.empty x1 x5).toList then (laws_eqStringS.l0 k x0 x1 (wrap64 (x5 + 1))) else (some false)) else (none)) else (none)) else (some true)
def laws_eqStringS.f (k : Nat) (l0 : List ByteArray) (l1 : List ByteArray) : Option (Bool) := if (l0.length : Int) = (l1.length : Int) then (laws_eqStringS.l0 k l0 l1 0) else (some false)
theorem laws_eqStringS.mono_l : ∀ k, (∀ y0 y1 y2, LeO (laws_eqStringS.l0 k y0 y1 y2) (laws_eqStringS.l0 (k + 1) y0 y1 y2))
 | 0 => fun _ _ _ r h => by simp [laws_eqStringS.l0] at h
 | k + 1 => by
  have ih0 := laws_eqStringS.mono_l k
  ·intro y0 y1 y2
   unfold laws_eqStringS.l0
   repeat' first
   | (with_reducible exact ih0 _ _ _)
   | (with_reducible exact LeO.refl _)
   | (with_reducible exact LeO.none _)
   | (with_reducible refine LeO.ite ?_ ?_)
   | (with_reducible refine LeO.bind ?_ (fun _ => ?_))
   | exact ih0 _ _ _
   | exact LeO.none _
   | refine LeO.ite ?_ ?_
   | refine LeO.bind ?_ (fun _ => ?_)
theorem laws_eqStringS.mono : ∀ a0 a1 k, LeO (laws_eqStringS.f k a0 a1) (laws_eqStringS.f (k + 1) a0 a1) := by
 intro a0 a1 k
 have ih0 := laws_eqStringS.mono_l k
 unfold laws_eqStringS.f
 repeat' first
   | (with_reducible exact ih0 _ _ _)
   | (with_reducible exact LeO.refl _)
   | (with_reducible exact LeO.none _)
   | (with_reducible refine LeO.ite ?_ ?_)
   | (with_reducible refine LeO.bind ?_ (fun _ => ?_))
   | exact ih0 _ _ _
   | exact LeO.none _
   | refine LeO.ite ?_ ?_
   | refine LeO.bind ?_ (fun _ => ?_)
set_option maxHeartbeats 8000000 in
set_option maxRecDepth 100000 in
theorem laws_eqStringS.calls (k : Nat) (A0 : Option Addr) (c0 : Nat) (l0 : List ByteArray) (A1 : Option Addr) (c1 : Nat) (l1 : List ByteArray) (r : Bool) (w : World) (hr0 : Kd.C Kd.string w A0 l0.length l0) (hc0 : l0.length ≤ c0) (hr1 : Kd.C Kd.string w A1 l1.length l1) (hc1 : l1.length ≤ c1) (h : laws_eqStringS.f k l0 l1 = some r) :
  Calls Try.prog 32 #[.slice A0 l0.length c0, .slice A1 l1.length c1] w fun e w' => e = .returned (.bool r) ∧ Drawn0 w w' := by
 have HR0 := Aside0.mk hr0; have HC0 := Aside0.mk hc0; clear hr0 hc0; have HR1 := Aside0.mk hr1; have HC1 := Aside0.mk hc1; clear hr1 hc1; have H := h; unfold laws_eqStringS.f at H; clear h
 by_cases c3 : (l0.length : Int) = (l1.length : Int)
 ·rw [if_pos c3] at H
  have c3b0 : ((l0.length : Int) == (l1.length : Int)) = true := beq_iff_eq.mpr c3
  have c3b1 : ((l0.length : Int) != (l1.length : Int)) = false := bne_eq_false_iff_eq.mpr c3
  have c3b2 : (l0.length == l1.length) = true := by first | simpa using c3 | (simp at c3 ⊢; omega)
  clear c3; have H' := Aside0.mk H; clear H
  go_enter Try.func32, Try.ntmps32
  go_wp2
  repeat (go_quiet (fail); try go_wp2)
  go_loopg [5] k (fun kq v5 w' => ∃ (x5_1 : Int), v5 = .int .i64 x5_1 ∧ Aside0 (laws_eqStringS.l0 kq l0 l1 x5_1 = some r) ∧ Aside0 (kq ≤ k) ∧ Drawn0 w w')
  case atStart => exact ⟨(0), rdT, H', ⟨Nat.le_refl _⟩, drT⟩
  case round =>
   clear H'; (try clear c1); (try clear p2); (try clear c3); (try clear c3b0); (try clear c3b1); (try clear c3b2); obtain ⟨x5_1, rfl, HA, HK1, ⟨m1, rfl⟩⟩ := hrel
   cases gk with
   | zero => exact absurd HA.out (by simp [laws_eqStringS.l0])
   | succ k1 =>
    have H := HA.out; clear HA
    simp only [laws_eqStringS.l0] at H
    by_cases c4 : x5_1 < (l0.length : Int)
    ·rw [if_pos c4] at H
     have c4b0 : decide (x5_1 < (l0.length : Int)) = true := decide_eq_true c4
     clear c4
     by_cases c5 : 0 ≤ x5_1
     ·rw [if_pos c5] at H
      have c5b0 : decide (0 ≤ x5_1) = true := decide_eq_true c5
      clear c5
      by_cases c6 : x5_1 < (l1.length : Int)
      ·rw [if_pos c6] at H
       have c6b0 : decide (x5_1 < (l1.length : Int)) = true := decide_eq_true c6
       clear c6
       by_cases c7 : (rdOf ByteArray.empty l0 x5_1).toList = (rdOf ByteArray.empty l1 x5_1).toList
       ·rw [if_pos c7] at H
        have c7b0 : ((rdOf ByteArray.empty l0 x5_1).toList == (rdOf ByteArray.empty l1 x5_1).toList) = true := beq_iff_eq.mpr c7
        have c7b1 : ((rdOf ByteArray.empty l0 x5_1).toList != (rdOf ByteArray.empty l1 x5_1).toList) = false := bne_eq_false_iff_eq.mpr c7
        clear c7; have H' := Aside0.mk H; clear H
        have p176 : 0 ≤ (x5_1 : Int) := of_decide_eq_true asmT
        have q176 : x5_1 < (l0.length : Int) := of_decide_eq_true asmT
        obtain ⟨ad176, e176, hx176_0⟩ := Kd.at_string HR0.out x5_1 p176 q176
        cases e176
        replace p176 := eq_true p176; replace q176 := eq_true q176
        have p177 : 0 ≤ (x5_1 : Int) := of_decide_eq_true asmT
        have q177 : x5_1 < (l1.length : Int) := of_decide_eq_true asmT
        obtain ⟨ad177, e177, hx177_0⟩ := Kd.at_string HR1.out x5_1 p177 q177
        cases e177
        replace p177 := eq_true p177; replace q177 := eq_true q177
        go_wp2
        repeat (go_quiet (fail); try go_wp2)
        go_roundg k1
        case measure => have := HK1.out; omega
        case rel => exact ⟨(wrap64 (x5_1 + 1)), rdT, H', ⟨by have := HK1.out; omega⟩, drT⟩
       ·rw [if_neg c7] at H
        have c7b0 : ((rdOf ByteArray.empty l0 x5_1).toList == (rdOf ByteArray.empty l1 x5_1).toList) = false := beq_eq_false_iff_ne.mpr c7
        have c7b1 : ((rdOf ByteArray.empty l0 x5_1).toList != (rdOf ByteArray.empty l1 x5_1).toList) = true := bne_iff_ne.mpr c7
        obtain rfl := Option.some.inj H
        have p176 : 0 ≤ (x5_1 : Int) := of_decide_eq_true asmT
        have q176 : x5_1 < (l0.length : Int) := of_decide_eq_true asmT
        obtain ⟨ad176, e176, hx176_0⟩ := Kd.at_string HR0.out x5_1 p176 q176
        cases e176
        replace p176 := eq_true p176; replace q176 := eq_true q176
        have p177 : 0 ≤ (x5_1 : Int) := of_decide_eq_true asmT
        have q177 : x5_1 < (l1.length : Int) := of_decide_eq_true asmT
        obtain ⟨ad177, e177, hx177_0⟩ := Kd.at_string HR1.out x5_1 p177 q177
        cases e177
        replace p177 := eq_true p177; replace q177 := eq_true q177
        go_wp2
        repeat (go_quiet (fail); try go_wp2)
        go_ret
        exact ⟨rdT, drT⟩
      ·rw [if_neg c6] at H
       exact absurd H (by simp)
     ·rw [if_neg c5] at H
      exact absurd H (by simp)
    ·rw [if_neg c4] at H
     have c4b0 : decide (x5_1 < (l0.length : Int)) = false := decide_eq_false c4
     clear c4
     obtain rfl := Option.some.inj H
     go_wp2
     repeat (go_quiet (fail); try go_wp2)
     go_ret
     exact ⟨rdT, drT⟩
 ·rw [if_neg c3] at H
  have c3b0 : ((l0.length : Int) == (l1.length : Int)) = false := beq_eq_false_iff_ne.mpr c3
  have c3b1 : ((l0.length : Int) != (l1.length : Int)) = true := bne_iff_ne.mpr c3
  have c3b2 : (l0.length == l1.length) = false := by first | simpa using c3 | (simp at c3 ⊢; omega)
  obtain rfl := Option.some.inj H
  go_enter Try.func32, Try.ntmps32
  go_wp2
  repeat (go_quiet (fail); try go_wp2)
  go_ret
  exact ⟨rdT, drT⟩

/-! ### laws_FnExactFormatRanking: function 7 -/
def laws_FnExactFormatRanking.f (k : Nat) (l0 : List ByteArray) (l1 : List Int) : Option (Bool) := if (l1.length : Int) > 1048576 then (some true) else ((laws_szStringS.f k l0 1048576).bind fun t178 => (if t178 < 0 then (some true) else ((laws_toStringS.f k l0).bind fun t179 => ((laws_toIntS.f k l1).bind fun t182 => ((spec_FormatRanking.f k t179 t182).bind fun t185 => ((laws_toStringS.f k l0).bind fun t186 => ((laws_toIntS.f k l1).bind fun t189 => ((impl_FormatRanking.f k t186 t189).bind fun t192 => (if t192.toList = t185.toList then ((laws_toStringS.f k l0).bind fun t193 => ((laws_eqStringS.f k t186 t193).bind fun t196 => (if t196 = true then ((laws_toIntS.f k l1).bind fun t197 => ((laws_eqIntS.f k t189 t197).bind fun t200 => (if t200 = true then (some true) else (none)))) else (none)))) else (none))))))))))
theorem laws_FnExactFormatRanking.mono : ∀ a0 a1 k, LeO (laws_FnExactFormatRanking.f k a0 a1) (laws_FnExactFormatRanking.f (k + 1) a0 a1) := by
 intro a0 a1 k
 unfold laws_FnExactFormatRanking.f
 repeat' first
   | (with_reducible exact impl_FormatRanking.mono _ _ _)
   | (with_reducible exact laws_eqIntS.mono _ _ _)
   | (with_reducible exact laws_eqStringS.mono _ _ _)
   | (with_reducible exact laws_szStringS.mono _ _ _)
   | (with_reducible exact laws_toIntS.mono _ _)
   | (with_reducible exact laws_toStringS.mono _ _)
   | (with_reducible exact spec_FormatRanking.mono _ _ _)
   | (with_reducible exact LeO.refl _)
   | (with_reducible exact LeO.none _)
   | (with_reducible refine LeO.ite ?_ ?_)
   | (with_reducible refine LeO.bind ?_ (fun _ => ?_))
   | exact impl_FormatRanking.mono _ _ _
   | exact laws_eqIntS.mono _ _ _
   | exact laws_eqStringS.mono _ _ _
   | exact laws_szStringS.mono _ _ _
   | exact laws_toIntS.mono _ _
   | exact laws_toStringS.mono _ _
   | exact spec_FormatRanking.mono _ _ _
   | exact LeO.none _
   | refine LeO.ite ?_ ?_
   | refine LeO.bind ?_ (fun _ => ?_)
set_option maxHeartbeats 8000000 in
set_option maxRecDepth 100000 in
theorem laws_FnExactFormatRanking.calls (k : Nat) (A0 : Option Addr) (c0 : Nat) (l0 : List ByteArray) (A1 : Option Addr) (c1 : Nat) (l1 : List Int) (r : Bool) (w : World) (hr0 : Kd.C Kd.string w A0 l0.length l0) (hc0 : l0.length ≤ c0) (hr1 : Kd.C (Kd.int .i64) w A1 l1.length l1) (hc1 : l1.length ≤ c1) (h : laws_FnExactFormatRanking.f k l0 l1 = some r) :
  Calls Try.prog 7 #[.slice A0 l0.length c0, .slice A1 l1.length c1] w fun e w' => e = .returned (.bool r) ∧ Below w.heap.size w w' := by
 have HR0 := Aside0.mk hr0; have HC0 := Aside0.mk hc0; clear hr0 hc0; have HR1 := Aside0.mk hr1; have HC1 := Aside0.mk hc1; clear hr1 hc1; have HB := asT (Below.refl w.heap.size w); have H := h; unfold laws_FnExactFormatRanking.f at H; clear h
 by_cases c3 : (l1.length : Int) > 1048576
 ·rw [if_pos c3] at H
  have c3b0 : decide (1048576 < (l1.length : Int)) = true := decide_eq_true c3
  have c3b1 : decide (1048576 < l1.length) = true := decide_eq_true (by omega)
  clear c3
  obtain rfl := Option.some.inj H
  go_enter Try.func7, Try.ntmps7
  go_wp2
  go_ret
  exact ⟨rlT, hbT HB.out⟩
 ·rw [if_neg c3] at H
  have c3b0 : decide (1048576 < (l1.length : Int)) = false := decide_eq_false c3
  have c3b1 : decide (1048576 < l1.length) = false := decide_eq_false (by omega)
  clear c3; replace H := Option.bind_eq_some_iff.mp H; obtain ⟨t178, A40, H⟩ := H; have A4 := Aside0.mk A40; clear A40
  by_cases c5 : t178 < 0
  ·rw [if_pos c5] at H
   have c5b0 : decide (t178 < 0) = true := decide_eq_true c5
   clear c5
   obtain rfl := Option.some.inj H
   go_enter Try.func7, Try.ntmps7
   go_wp2_with (first | ((with_reducible refine gate_callee (f := 28) rfl ?_); refine goesL_ (some 15) rfl rfl Try.func28 (by kernel_rfl) rfl #[.slice A0 l0.length c0, .int .i64 1048576] rfl eqT ?_; (with_reducible refine (laws_szStringS.calls k _ _ l0 1048576 t178 _ ?side1 ?side2 A4.out).mono ?_); (case side1 => repeat (first | exact HR0.out | (with_reducible refine Kd.C_alloc ?_ _) | (with_reducible refine Kd.C_drewN ?_ _) | (with_reducible refine Kd.C_drew ?_))); (case side2 => exact HC0.out); rintro e w' ⟨rfl, ⟨nd, rfl⟩⟩; refine ⟨_, rfl, ?_⟩))
   go_ret
   exact ⟨rlT, hbT HB.out⟩
  ·rw [if_neg c5] at H
   have c5b0 : decide (t178 < 0) = false := decide_eq_false c5
   clear c5; replace H := Option.bind_eq_some_iff.mp H; obtain ⟨t179, A60, H⟩ := H; have A6 := Aside0.mk A60; clear A60; replace H := Option.bind_eq_some_iff.mp H; obtain ⟨t182, A70, H⟩ := H; have A7 := Aside0.mk A70; clear A70; replace H := Option.bind_eq_some_iff.mp H; obtain ⟨t185, A80, H⟩ := H; have A8 := Aside0.mk A80; clear A80; replace H := Option.bind_eq_some_iff.mp H; obtain ⟨t186, A90, H⟩ := H; have A9 := Aside0.mk A90; clear A90; replace H := Option.bind_eq_some_iff.mp H; obtain ⟨t189, A100, H⟩ := H; have A10 := Aside0.mk A100; clear A100; replace H := Option.bind_eq_some_iff.mp H; obtain ⟨t192, A110, H⟩ := H; have A11 := Aside0.mk A110; clear A110
   by_cases c12 : t192.toList = t185.toList
   ·rw [if_pos c12] at H
    have c12b0 : (t192.toList == t185.toList) = true := beq_iff_eq.mpr c12
    have c12b1 : (t192.toList != t185.toList) = false := bne_eq_false_iff_eq.mpr c12
    clear c12; replace H := Option.bind_eq_some_iff.mp H; obtain ⟨t193, A130, H⟩ := H; have A13 := Aside0.mk A130; clear A130; replace H := Option.bind_eq_some_iff.mp H; obtain ⟨t196, A140, H⟩ := H; have A14 := Aside0.mk A140; clear A140
    by_cases c15 : t196 = true
    ·subst c15
     rw [if_pos rfl] at H; have H1 := H; clear H; have H := H1; clear H1; replace H := Option.bind_eq_some_iff.mp H; obtain ⟨t197, A160, H⟩ := H; have A16 := Aside0.mk A160; clear A160; replace H := Option.bind_eq_some_iff.mp H; obtain ⟨t200, A170, H⟩ := H; have A17 := Aside0.mk A170; clear A170
     by_cases c18 : t200 = true
     ·subst c18
      rw [if_pos rfl] at H; have H1 := H; clear H; have H := H1; clear H1
      obtain rfl := Option.some.inj H
      go_enter Try.func7, Try.ntmps7
      go_wp2_with (first | ((with_reducible refine gate_callee (f := 28) rfl ?_); refine goesL_ (some 15) rfl rfl Try.func28 (by kernel_rfl) rfl #[.slice A0 l0.length c0, .int .i64 1048576] rfl eqT ?_; (with_reducible refine (laws_szStringS.calls k _ _ l0 1048576 t178 _ ?side1 ?side2 A4.out).mono ?_); (case side1 => repeat (first | exact HR0.out | (with_reducible refine Kd.C_alloc ?_ _) | (with_reducible refine Kd.C_drewN ?_ _) | (with_reducible refine Kd.C_drew ?_))); (case side2 => exact HC0.out); rintro e w' ⟨rfl, ⟨nd, rfl⟩⟩; refine ⟨_, rfl, ?_⟩) | ((with_reducible refine gate_callee (f := 30) rfl ?_); refine goesL_ (some 19) rfl rfl Try.func30 (by kernel_rfl) rfl #[.slice A0 l0.length c0] rfl eqT ?_; (with_reducible refine (laws_toStringS.calls k _ _ l0 t179 _ ?side1 ?side2 A6.out).mono ?_); (case side1 => repeat (first | exact HR0.out | (with_reducible refine Kd.C_alloc ?_ _) | (with_reducible refine Kd.C_drewN ?_ _) | (with_reducible refine Kd.C_drew ?_))); (case side2 => exact HC0.out); rintro e w19 ⟨v180, rfl, ho0, hb⟩; refine ⟨_, rfl, ?_⟩; have HO181 := asT (Kd.R_lower ho0 (below_size (hbT HB.out))); replace HB := asT (below_step (hbT HB.out) hb); (try clear hb); (try clear hb2); (try clear hk); (try clear hi); (try clear ho0)) | ((with_reducible refine gate_callee (f := 10) rfl ?_); refine goesL_ (some 21) rfl rfl Try.func10 (by kernel_rfl) rfl #[.slice A1 l1.length c1] rfl eqT ?_; (with_reducible refine (laws_toIntS.calls k _ _ l1 t182 _ ?side1 ?side2 A7.out).mono ?_); (case side1 => exact crT HR1.out HB.out); (case side2 => exact HC1.out); rintro e w20 ⟨v183, rfl, ho0, hb⟩; refine ⟨_, rfl, ?_⟩; replace HO181 := asT (Kd.R_below (roT HO181.out) hb); have HO184 := asT (Kd.R_lower ho0 (below_size (hbT HB.out))); replace HB := asT (below_step (hbT HB.out) hb); (try clear hb); (try clear hb2); (try clear hk); (try clear hi); (try clear ho0); obtain ⟨Ao21, co21, eo21⟩ := Kd.R_slice HO181.out; subst eo21; obtain ⟨Ao22, co22, eo22⟩ := Kd.R_slice HO184.out; subst eo22) | ((with_reducible refine gate_callee (f := 29) rfl ?_); refine goesL_ (some 22) rfl rfl Try.func29 (by kernel_rfl) rfl #[.slice Ao21 t179.length co21, .slice Ao22 t182.length co22] rfl eqT ?_; (with_reducible refine (spec_FormatRanking.calls k _ _ t179 _ _ t182 t185 _ ?side1 ?side2 ?side3 ?side4 A8.out).mono ?_); (case side1 => repeat (first | exact (Kd.R_reads' HO181.out).2.2 | (with_reducible refine Kd.C_alloc ?_ _) | (with_reducible refine Kd.C_drewN ?_ _) | (with_reducible refine Kd.C_drew ?_))); (case side2 => exact (Kd.R_reads' HO181.out).2.1); (case side3 => repeat (first | exact (Kd.R_reads' HO184.out).2.2 | (with_reducible refine Kd.C_alloc ?_ _) | (with_reducible refine Kd.C_drewN ?_ _) | (with_reducible refine Kd.C_drew ?_))); (case side4 => exact (Kd.R_reads' HO184.out).2.1); rintro e w23 ⟨rfl, hb⟩; refine ⟨_, rfl, ?_⟩; replace HO181 := asT (Kd.R_below (roT HO181.out) hb); replace HO184 := asT (Kd.R_below (roT HO184.out) hb); replace HB := asT (below_step (hbT HB.out) hb); (try clear hb); (try clear hb2); (try clear hk); (try clear hi)) | ((with_reducible refine gate_callee (f := 30) rfl ?_); refine goesL_ (some 24) rfl rfl Try.func30 (by kernel_rfl) rfl #[.slice A0 l0.length c0] rfl eqT ?_; (with_reducible refine (laws_toStringS.calls k _ _ l0 t186 _ ?side1 ?side2 A9.out).mono ?_); (case side1 => exact crT HR0.out HB.out); (case side2 => exact HC0.out); rintro e w24 ⟨v187, rfl, ho0, hb⟩; refine ⟨_, rfl, ?_⟩; replace HO184 := asT (Kd.R_below (roT HO184.out) hb); have HO188 := asT (Kd.R_lower (Kd.R_new' ho0 (Kd.R_lt (roT HO181.out))) (below_size (hbT HB.out))); replace HO181 := asT (Kd.R_elder' (roT HO181.out) (Kd.R_base ho0) hb); replace HB := asT (below_step (hbT HB.out) hb); (try clear hb); (try clear hb2); (try clear hk); (try clear hi); (try clear ho0)) | ((with_reducible refine gate_callee (f := 10) rfl ?_); refine goesL_ (some 26) rfl rfl Try.func10 (by kernel_rfl) rfl #[.slice A1 l1.length c1] rfl eqT ?_; (with_reducible refine (laws_toIntS.calls k _ _ l1 t189 _ ?side1 ?side2 A10.out).mono ?_); (case side1 => exact crT HR1.out HB.out); (case side2 => exact HC1.out); rintro e w25 ⟨v190, rfl, ho0, hb⟩; refine ⟨_, rfl, ?_⟩; replace HO181 := asT (Kd.R_below (roT HO181.out) hb); replace HO188 := asT (Kd.R_below (roT HO188.out) hb); have HO191 := asT (Kd.R_lower (Kd.R_new' ho0 (Kd.R_lt (roT HO184.out))) (below_size (hbT HB.out))); replace HO184 := asT (Kd.R_elder' (roT HO184.out) (Kd.R_base ho0) hb); replace HB := asT (below_step (hbT HB.out) hb); (try clear hb); (try clear hb2); (try clear hk); (try clear hi); (try clear ho0); obtain ⟨Ao26, co26, eo26⟩ := Kd.R_slice HO188.out; subst eo26; obtain ⟨Ao27, co27, eo27⟩ := Kd.R_slice HO191.out; subst eo27) | ((with_reducible refine gate_callee (f := 31) rfl ?_); refine goesL_ (some 29) rfl rfl Try.func31 (by kernel_rfl) rfl #[.slice Ao26 t186.length co26, .slice Ao27 t189.length co27] rfl eqT ?_; (with_reducible refine (impl_FormatRanking.calls k _ _ t186 _ _ t189 t192 _ ?side1 ?side2 ?side3 ?side4 A11.out).mono ?_); (case side1 => repeat (first | exact (Kd.R_reads' HO188.out).2.2 | (with_reducible refine Kd.C_alloc ?_ _) | (with_reducible refine Kd.C_drewN ?_ _) | (with_reducible refine Kd.C_drew ?_))); (case side2 => exact (Kd.R_reads' HO188.out).2.1); (case side3 => repeat (first | exact (Kd.R_reads' HO191.out).2.2 | (with_reducible refine Kd.C_alloc ?_ _) | (with_reducible refine Kd.C_drewN ?_ _) | (with_reducible refine Kd.C_drew ?_))); (case side4 => exact (Kd.R_reads' HO191.out).2.1); rintro e w28 ⟨rfl, hb⟩; refine ⟨_, rfl, ?_⟩; replace HO181 := asT (Kd.R_below (roT HO181.out) hb); replace HO184 := asT (Kd.R_below (roT HO184.out) hb); replace HO188 := asT (Kd.R_below (roT HO188.out) hb); replace HO191 := asT (Kd.R_below (roT HO191.out) hb); replace HB := asT (below_step (hbT HB.out) hb); (try clear hb); (try clear hb2); (try clear hk); (try clear hi)) | ((with_reducible refine gate_callee (f := 30) rfl ?_); refine goesL_ (some 35) rfl rfl Try.func30 (by kernel_rfl) rfl #[.slice A0 l0.length c0] rfl eqT ?_; (with_reducible refine (laws_toStringS.calls k _ _ l0 t193 _ ?side1 ?side2 A13.out).mono ?_); (case side1 => exact crT HR0.out HB.out); (case side2 => exact HC0.out); rintro e w29 ⟨v194, rfl, ho0, hb⟩; refine ⟨_, rfl, ?_⟩; replace HO184 := asT (Kd.R_below (roT HO184.out) hb); replace HO191 := asT (Kd.R_below (roT HO191.out) hb); have HO195 := asT (Kd.R_lower (Kd.R_new' (Kd.R_new' ho0 (Kd.R_lt (roT HO181.out))) (Kd.R_lt (roT HO188.out))) (below_size (hbT HB.out))); replace HO181 := asT (Kd.R_elder' (roT HO181.out) (Kd.R_base ho0) hb); replace HO188 := asT (Kd.R_elder' (roT HO188.out) (Kd.R_base ho0) hb); replace HB := asT (below_step (hbT HB.out) hb); (try clear hb); (try clear hb2); (try clear hk); (try clear hi); (try clear ho0); obtain ⟨Ao30, co30, eo30⟩ := Kd.R_slice HO195.out; subst eo30) | ((with_reducible refine gate_callee (f := 32) rfl ?_); refine goesL_ (some 36) rfl rfl Try.func32 (by kernel_rfl) rfl #[.slice Ao26 t186.length co26, .slice Ao30 t193.length co30] rfl eqT ?_; (with_reducible refine (laws_eqStringS.calls k _ _ t186 _ _ t193 true _ ?side1 ?side2 ?side3 ?side4 A14.out).mono ?_); (case side1 => repeat (first | exact (Kd.R_reads' HO188.out).2.2 | (with_reducible refine Kd.C_alloc ?_ _) | (with_reducible refine Kd.C_drewN ?_ _) | (with_reducible refine Kd.C_drew ?_))); (case side2 => exact (Kd.R_reads' HO188.out).2.1); (case side3 => repeat (first | exact (Kd.R_reads' HO195.out).2.2 | (with_reducible refine Kd.C_alloc ?_ _) | (with_reducible refine Kd.C_drewN ?_ _) | (with_reducible refine Kd.C_drew ?_))); (case side4 => exact (Kd.R_reads' HO195.out).2.1); rintro e w' ⟨rfl, ⟨nd, rfl⟩⟩; refine ⟨_, rfl, ?_⟩) | ((with_reducible refine gate_callee (f := 10) rfl ?_); refine goesL_ (some 40) rfl rfl Try.func10 (by kernel_rfl) rfl #[.slice A1 l1.length c1] rfl eqT ?_; (with_reducible refine (laws_toIntS.calls k _ _ l1 t197 _ ?side1 ?side2 A16.out).mono ?_); (case side1 => exact crT HR1.out (hbT HB.out)); (case side2 => exact HC1.out); rintro e w31 ⟨v198, rfl, ho0, hb⟩; refine ⟨_, rfl, ?_⟩; replace HO181 := asT (Kd.R_below (roT HO181.out) hb); replace HO188 := asT (Kd.R_below (roT HO188.out) hb); replace HO195 := asT (Kd.R_below (roT HO195.out) hb); have HO199 := asT (Kd.R_lower (Kd.R_new' (Kd.R_new' ho0 (Kd.R_lt (roT HO184.out))) (Kd.R_lt (roT HO191.out))) (below_size (hbT HB.out))); replace HO184 := asT (Kd.R_elder' (roT HO184.out) (Kd.R_base ho0) hb); replace HO191 := asT (Kd.R_elder' (roT HO191.out) (Kd.R_base ho0) hb); replace HB := asT (below_step (hbT HB.out) hb); (try clear hb); (try clear hb2); (try clear hk); (try clear hi); (try clear ho0); obtain ⟨Ao32, co32, eo32⟩ := Kd.R_slice HO199.out; subst eo32) | ((with_reducible refine gate_callee (f := 12) rfl ?_); refine goesL_ (some 41) rfl rfl Try.func12 (by kernel_rfl) rfl #[.slice Ao27 t189.length co27, .slice Ao32 t197.length co32] rfl eqT ?_; (with_reducible refine (laws_eqIntS.calls k _ _ t189 _ _ t197 true _ ?side1 ?side2 ?side3 ?side4 A17.out).mono ?_); (case side1 => repeat (first | exact (Kd.R_reads' HO191.out).2.2 | (with_reducible refine Kd.C_alloc ?_ _) | (with_reducible refine Kd.C_drewN ?_ _) | (with_reducible refine Kd.C_drew ?_))); (case side2 => exact (Kd.R_reads' HO191.out).2.1); (case side3 => repeat (first | exact (Kd.R_reads' HO199.out).2.2 | (with_reducible refine Kd.C_alloc ?_ _) | (with_reducible refine Kd.C_drewN ?_ _) | (with_reducible refine Kd.C_drew ?_))); (case side4 => exact (Kd.R_reads' HO199.out).2.1); rintro e w' ⟨rfl, ⟨nd, rfl⟩⟩; refine ⟨_, rfl, ?_⟩))
      go_ret
      exact ⟨rlT, hbT HB.out⟩
     ·replace c18 := Bool.eq_false_iff.mpr c18
      subst c18; rw [if_neg (show ¬ (false = true) by decide)] at H; have H1 := H; clear H; have H := H1; clear H1
      exact absurd H (by simp)
    ·replace c15 := Bool.eq_false_iff.mpr c15
     subst c15; rw [if_neg (show ¬ (false = true) by decide)] at H; have H1 := H; clear H; have H := H1; clear H1
     exact absurd H (by simp)
   ·rw [if_neg c12] at H
    exact absurd H (by simp)


/-- THE ONE PURE STATEMENT of laws_FnExactFormatRanking -/
def laws_FnExactFormatRanking.Pure : Prop := ∀ (l0 : List ByteArray) (l1 : List Int), (BdSlice 16 BdStr) l0 → (BdSlice 8 (BdInt .i64)) l1 → ∃ k, laws_FnExactFormatRanking.f k l0 l1 = some true

end Go.Proofs.Ytdamagcfmhimfad.PFnExactFormatRanking
