-- Made by gen.py (a program of this session) out of the translation; Lean checks it.
import Derived.Test.YtlmfpkiaikjlbaaGreatPFnExactWinnersOfx0
import Derived.Test.YtlmfpkiaikjlbaaGreatPFnExactWinnersOfx3
import Derived.Test.YtlmfpkiaikjlbaaGreatPFnExactWinnersOfx4
import Derived.Test.YtlmfpkiaikjlbaaGreatPFnExactWinnersOfx6
namespace Go.Proofs.YtlmfpkiaikjlbaaGreat.PFnExactWinnersOf
open Go.RowKit Go.Proofs.YtlmfpkiaikjlbaaGreatB Go.Proofs.YtlmfpkiaikjlbaaGreatW.PrintWords Go.Proofs.YtlmfpkiaikjlbaaGreatW.PrintLast Go.Proofs.YtlmfpkiaikjlbaaGreatW.PrintMore
attribute [local go_sem] max2_int min2_int max_two min_two max_three min_three max_four min_four   -- for this text's walks alone
set_option linter.unusedVariables false
set_option maxHeartbeats 8000000
set_option maxRecDepth 100000
set_option linter.unusedSimpArgs false
def spec_l5Same.l0 : Nat → List Int → List Int → Int → Option (Bool)
 | 0, _, _, _ => none
 | k + 1, x0, x1, x5 => if x5 < (x0.length : Int) then (if 0 ≤ x5 then (if x5 < (x1.length : Int) then (if (rd x0 x5) = (rd x1 x5) then (spec_l5Same.l0 k x0 x1 (wrap64 (x5 + 1))) else (some false)) else (none)) else (none)) else (some true)
def spec_l5Same.f (k : Nat) (l0 : List Int) (l1 : List Int) : Option (Bool) := if (l0.length : Int) = (l1.length : Int) then (spec_l5Same.l0 k l0 l1 0) else (some false)
theorem spec_l5Same.mono_l : ∀ k, (∀ y0 y1 y2, LeO (spec_l5Same.l0 k y0 y1 y2) (spec_l5Same.l0 (k + 1) y0 y1 y2))
 | 0 => fun _ _ _ r h => by simp [spec_l5Same.l0] at h
 | k + 1 => by
  have ih0 := spec_l5Same.mono_l k
  ·intro y0 y1 y2
   unfold spec_l5Same.l0
   with_reducible repeat' first | exact ih0 _ _ _ | exact LeO.refl _ | exact LeO.none _ | refine LeO.ite ?_ ?_ | refine LeO.bind ?_ (fun _ => ?_)
theorem spec_l5Same.mono : ∀ a0 a1 k, LeO (spec_l5Same.f k a0 a1) (spec_l5Same.f (k + 1) a0 a1) := by
 intro a0 a1 k
 have ih0 := spec_l5Same.mono_l k
 unfold spec_l5Same.f
 with_reducible repeat' first | exact ih0 _ _ _ | exact LeO.refl _ | exact LeO.none _ | refine LeO.ite ?_ ?_ | refine LeO.bind ?_ (fun _ => ?_)
theorem spec_l5Same.calls (k : Nat) (A0 : Option Addr) (c0 : Nat) (l0 : List Int) (A1 : Option Addr) (c1 : Nat) (l1 : List Int) (r : Bool) (w : World) (hr0 : Kd.C (Kd.int .i64) w A0 l0.length l0) (hc0 : l0.length ≤ c0) (hr1 : Kd.C (Kd.int .i64) w A1 l1.length l1) (hc1 : l1.length ≤ c1) (h : spec_l5Same.f k l0 l1 = some r) :
  Calls Tryz.prog 93 #[.slice A0 l0.length c0, .slice A1 l1.length c1] w fun e w' => e = .returned (.bool r) ∧ Drawn0 w w' := by
 have HR0 := asT hr0; have HC0 := asT hc0; clear hr0 hc0; have HR1 := asT hr1; have HC1 := asT hc1; clear hr1 hc1; have H := h; unfold spec_l5Same.f at H; clear h
 by_cases c3 : (l0.length : Int) = (l1.length : Int)
 ·rw [if_pos c3] at H
  have c3b0 : ((l0.length : Int) == (l1.length : Int)) = true := eC c3
  have c3b1 : ((l0.length : Int) != (l1.length : Int)) = false := eA c3
  have c3b2 : (l0.length == l1.length) = true := by first | simpa using c3 | (simp at c3 ⊢; omega)
  clear c3; have H' := asT H; clear H
  go_enter Tryz.func93, Tryz.ntmps93
  go_wp2
  repeat (go_quiet (fail); try go_wp2)
  go_loopg [5] k (fun kq v5 w' => ∃ (x5_1 : Int), v5 = .int .i64 x5_1 ∧ Aside0 (spec_l5Same.l0 kq l0 l1 x5_1 = some r) ∧ Aside0 (kq ≤ k) ∧ Drawn0 w w')
  case atStart => exact ⟨(0), rdT, H', ⟨Nat.le_refl _⟩, drT⟩
  case round =>
   clear H'; (try clear c1 p2 c3 c3b0 c3b1 c3b2); obtain ⟨x5_1, rfl, HA, HK1, ⟨m1, rfl⟩⟩ := hrel
   cases gk with
   | zero => exact absurd HA.out (by simp [spec_l5Same.l0])
   | succ k1 =>
    have H := HA.out; clear HA
    simp only [spec_l5Same.l0] at H
    by_cases c4 : x5_1 < (l0.length : Int)
    ·rw [if_pos c4] at H
     have c4b0 : decide (x5_1 < (l0.length : Int)) = true := dt c4
     clear c4
     by_cases c5 : 0 ≤ x5_1
     ·rw [if_pos c5] at H
      have c5b0 : decide (0 ≤ x5_1) = true := dt c5
      clear c5
      by_cases c6 : x5_1 < (l1.length : Int)
      ·rw [if_pos c6] at H
       have c6b0 : decide (x5_1 < (l1.length : Int)) = true := dt c6
       clear c6
       by_cases c7 : (rd l0 x5_1) = (rd l1 x5_1)
       ·rw [if_pos c7] at H
        have c7b0 : ((rd l0 x5_1) == (rd l1 x5_1)) = true := eC c7
        have c7b1 : ((rd l0 x5_1) != (rd l1 x5_1)) = false := eA c7
        clear c7; have H' := asT H; clear H
        have p307 : 0 ≤ (x5_1 : Int) := dT asmT
        have q307 : x5_1 < (l0.length : Int) := dT asmT
        obtain ⟨ad307, e307, hx307_0⟩ := Kd.at_int HR0.out x5_1 p307 q307
        cases e307
        replace p307 := eq_true p307; replace q307 := eq_true q307
        have p308 : 0 ≤ (x5_1 : Int) := dT asmT
        have q308 : x5_1 < (l1.length : Int) := dT asmT
        obtain ⟨ad308, e308, hx308_0⟩ := Kd.at_int HR1.out x5_1 p308 q308
        cases e308
        replace p308 := eq_true p308; replace q308 := eq_true q308
        go_wp2
        repeat (go_quiet (fail); try go_wp2)
        go_roundg k1
        case measure => have := HK1.out; omega
        case rel => exact ⟨(wrap64 (x5_1 + 1)), rdT, H', ⟨by have := HK1.out; omega⟩, drT⟩
       ·rw [if_neg c7] at H
        have c7b0 : ((rd l0 x5_1) == (rd l1 x5_1)) = false := eB c7
        have c7b1 : ((rd l0 x5_1) != (rd l1 x5_1)) = true := eD c7
        obtain rfl := oI H
        have p307 : 0 ≤ (x5_1 : Int) := dT asmT
        have q307 : x5_1 < (l0.length : Int) := dT asmT
        obtain ⟨ad307, e307, hx307_0⟩ := Kd.at_int HR0.out x5_1 p307 q307
        cases e307
        replace p307 := eq_true p307; replace q307 := eq_true q307
        have p308 : 0 ≤ (x5_1 : Int) := dT asmT
        have q308 : x5_1 < (l1.length : Int) := dT asmT
        obtain ⟨ad308, e308, hx308_0⟩ := Kd.at_int HR1.out x5_1 p308 q308
        cases e308
        replace p308 := eq_true p308; replace q308 := eq_true q308
        go_wp2
        repeat (go_quiet (fail); try go_wp2)
        go_ret
        exact ⟨rdT, drT⟩
      ·rw [if_neg c6] at H
       exact absurd H (by simp)
     ·rw [if_neg c5] at H
      exact absurd H (by simp)
    ·rw [if_neg c4] at H
     have c4b0 : decide (x5_1 < (l0.length : Int)) = false := df c4
     clear c4
     obtain rfl := oI H
     go_wp2
     repeat (go_quiet (fail); try go_wp2)
     go_ret
     exact ⟨rdT, drT⟩
 ·rw [if_neg c3] at H
  have c3b0 : ((l0.length : Int) == (l1.length : Int)) = false := eB c3
  have c3b1 : ((l0.length : Int) != (l1.length : Int)) = true := eD c3
  have c3b2 : (l0.length == l1.length) = false := by first | simpa using c3 | (simp at c3 ⊢; omega)
  obtain rfl := oI H
  go_enter Tryz.func93, Tryz.ntmps93
  go_wp2
  repeat (go_quiet (fail); try go_wp2)
  go_ret
  exact ⟨rdT, drT⟩
def spec_l11Same.f (k : Nat) (l0 : List Int) (l1 : List Int) : Option (Bool) := (spec_l5Same.f k l0 l1).bind fun t309 => (some t309)
theorem spec_l11Same.mono : ∀ a0 a1 k, LeO (spec_l11Same.f k a0 a1) (spec_l11Same.f (k + 1) a0 a1) := by
 intro a0 a1 k
 unfold spec_l11Same.f
 with_reducible repeat' first | exact spec_l5Same.mono _ _ _ | exact LeO.refl _ | exact LeO.none _ | refine LeO.ite ?_ ?_ | refine LeO.bind ?_ (fun _ => ?_)
theorem spec_l11Same.calls (k : Nat) (A0 : Option Addr) (c0 : Nat) (l0 : List Int) (A1 : Option Addr) (c1 : Nat) (l1 : List Int) (r : Bool) (w : World) (hr0 : Kd.C (Kd.int .i64) w A0 l0.length l0) (hc0 : l0.length ≤ c0) (hr1 : Kd.C (Kd.int .i64) w A1 l1.length l1) (hc1 : l1.length ≤ c1) (h : spec_l11Same.f k l0 l1 = some r) :
  Calls Tryz.prog 54 #[.slice A0 l0.length c0, .slice A1 l1.length c1] w fun e w' => e = .returned (.bool r) ∧ Drawn0 w w' := by
 have HR0 := asT hr0; have HC0 := asT hc0; clear hr0 hc0; have HR1 := asT hr1; have HC1 := asT hc1; clear hr1 hc1; have H := h; unfold spec_l11Same.f at H; clear h; obtain ⟨t309, A3, H⟩ := be H
 obtain rfl := oI H
 go_enter Tryz.func54, Tryz.ntmps54
 go_wp2_with (first | ((with_reducible refine gate_callee (f := 93) rfl ?_); refine goesL_ (some 7) rfl rfl Tryz.func93 (by kernel_rfl) rfl #[.slice A0 l0.length c0, .slice A1 l1.length c1] rfl eqT ?_; (with_reducible refine (spec_l5Same.calls k _ _ l0 _ _ l1 t309 _ ?side1 ?side2 ?side3 ?side4 A3.out).mono ?_); (case side1 => repeat (first | exact HR0.out | (with_reducible refine Kd.C_alloc ?_ _) | (with_reducible refine Kd.C_drewN ?_ _) | (with_reducible refine Kd.C_drew ?_))); (case side2 => exact HC0.out); (case side3 => repeat (first | exact HR1.out | (with_reducible refine Kd.C_alloc ?_ _) | (with_reducible refine Kd.C_drewN ?_ _) | (with_reducible refine Kd.C_drew ?_))); (case side4 => exact HC1.out); rintro e w' ⟨rfl, ⟨nd, rfl⟩⟩; refine ⟨_, rfl, ?_⟩))
 go_ret
 exact ⟨rdT, drT⟩
def spec_InputOf.f (k : Nat) (l0_0 : List (S109)) : Option (ByteArray) := (spec_IsCandidate.f k l0_0).bind fun t311 => (if t311 = true then ((spec_l6In.f k l0_0).bind fun t312 => (some t312)) else (some (⟨#[]⟩ : ByteArray)))
theorem spec_InputOf.mono : ∀ a0 k, LeO (spec_InputOf.f k a0) (spec_InputOf.f (k + 1) a0) := by
 intro a0 k
 unfold spec_InputOf.f
 with_reducible repeat' first | exact spec_IsCandidate.mono _ _ | exact spec_l6In.mono _ _ | exact LeO.refl _ | exact LeO.none _ | refine LeO.ite ?_ ?_ | refine LeO.bind ?_ (fun _ => ?_)
theorem spec_InputOf.calls (k : Nat) (A0_0 : Option Addr) (c0_0 : Nat) (l0_0 : List (S109)) (r : ByteArray) (w : World) (hr0_0 : Kd.C k109 w A0_0 l0_0.length l0_0) (hc0_0 : l0_0.length ≤ c0_0) (h : spec_InputOf.f k l0_0 = some r) :
  Calls Tryz.prog 92 #[.agg #[.slice A0_0 l0_0.length c0_0]] w fun e w' => e = .returned (.string r) ∧ Below w.heap.size w w' := by
 have hu60 := Tryz.underlying60; have HR0_0 := asT hr0_0; have HC0_0 := asT hc0_0; clear hr0_0 hc0_0; have HB := asT (Below.refl w.heap.size w); have H := h; unfold spec_InputOf.f at H; clear h; obtain ⟨t311, A2, H⟩ := be H
 by_cases c3 : t311 = true
 ·subst c3
  rw [if_pos rfl] at H; obtain ⟨t312, A4, H⟩ := be H
  obtain rfl := oI H
  go_enter Tryz.func92, Tryz.ntmps92
  go_wp2_with (first | ((with_reducible refine gate_dst (N := 1) rfl ?_); refine boxT (N := 1) (cs := #[.slice A0_0 l0_0.length c0_0]) (t := 60) ?_; intro gb310 hg w5 hbox hb; have BK310 := asT hbox; have GW310 := asT (geT hg HB.out); have GE310 := GW310; replace HB := hS HB hb; clear hb hbox hg; obtain ⟨hcz6_0, hfz6_0⟩ := bx1 BK310.out) | ((with_reducible refine gate_callee (f := 78) rfl ?_); refine goesL_ (some 4) rfl rfl Tryz.func78 (by kernel_rfl) rfl #[.agg #[.slice A0_0 l0_0.length c0_0]] rfl eqT ?_; (with_reducible refine (spec_IsCandidate.calls k _ _ l0_0 true _ ?side1 ?side2 A2.out).mono ?_); (case side1 => exact crT HR0_0.out HB.out); (case side2 => exact HC0_0.out); rintro e w7 ⟨rfl, hb⟩; refine ⟨_, rfl, ?_⟩; replace BK310 := bS BK310 hb; replace HB := hS HB hb; (try clear hb hb2 hk hi); obtain ⟨hcz8_0, hfz8_0⟩ := bx1 BK310.out) | ((with_reducible refine gate_callee (f := 111) rfl ?_); refine goesL_ (some 7) rfl rfl Tryz.func111 (by kernel_rfl) rfl #[.agg #[.slice A0_0 l0_0.length c0_0]] rfl eqT ?_; (with_reducible refine (spec_l6In.calls k _ _ l0_0 t312 _ ?side1 ?side2 A4.out).mono ?_); (case side1 => exact crT HR0_0.out HB.out); (case side2 => exact HC0_0.out); rintro e w9 ⟨rfl, hb⟩; refine ⟨_, rfl, ?_⟩; replace BK310 := bS BK310 hb; replace HB := hS HB hb; (try clear hb hb2 hk hi)))
  go_ret
  exact ⟨rlT, hbT HB.out⟩
 ·replace c3 := eE c3
  subst c3; rw [if_neg nF] at H; have H1 := H; clear H; have H := H1; clear H1
  obtain rfl := oI H
  go_enter Tryz.func92, Tryz.ntmps92
  go_wp2_with (first | ((with_reducible refine gate_dst (N := 1) rfl ?_); refine boxT (N := 1) (cs := #[.slice A0_0 l0_0.length c0_0]) (t := 60) ?_; intro gb310 hg w10 hbox hb; have BK310 := asT hbox; have GW310 := asT (geT hg HB.out); have GE310 := GW310; replace HB := hS HB hb; clear hb hbox hg; obtain ⟨hcz11_0, hfz11_0⟩ := bx1 BK310.out) | ((with_reducible refine gate_callee (f := 78) rfl ?_); refine goesL_ (some 4) rfl rfl Tryz.func78 (by kernel_rfl) rfl #[.agg #[.slice A0_0 l0_0.length c0_0]] rfl eqT ?_; (with_reducible refine (spec_IsCandidate.calls k _ _ l0_0 false _ ?side1 ?side2 A2.out).mono ?_); (case side1 => exact crT HR0_0.out HB.out); (case side2 => exact HC0_0.out); rintro e w12 ⟨rfl, hb⟩; refine ⟨_, rfl, ?_⟩; replace BK310 := bS BK310 hb; replace HB := hS HB hb; (try clear hb hb2 hk hi)))
  go_ret
  exact ⟨rlT, hbT HB.out⟩
mutual
def spec_IsTableau.j0 : Nat → Bool → ByteArray → List ByteArray → List (S60) → List (List Int) → Option (Bool)
 | 0, _, _, _, _, _ => none
 | k + 1, x29, x314000, x314001, x314002, x314003 => if x29 = true then (some false) else (spec_IsTableau.l0 k 0 x314000 x314001 x314002 x314003)
def spec_IsTableau.l0 : Nat → Int → ByteArray → List ByteArray → List (S60) → List (List Int) → Option (Bool)
 | 0, _, _, _, _, _ => none
 | k + 1, x3, x314000, x314001, x314002, x314003 => if x3 < (x314002.length : Int) then (if 0 ≤ x3 then ((spec_InputOf.f k ((rd_T60 x314002 x3).f0)).bind fun t318 => (if t318.toList = x314000.toList then ((spec_IsCandidate.f k ((rd_T60 x314002 x3).f0)).bind fun t320 => (if t320 = true then (if x3 < (x314003.length : Int) then ((spec_ProfileOf.f k x314001 ((rd_T60 x314002 x3).f0)).bind fun t323 => ((spec_l11Same.f k (rd_L6 x314003 x3) t323).bind fun t326 => (if t326 = true then (spec_IsTableau.l0 k (wrap64 (x3 + 1)) x314000 x314001 x314002 x314003) else (some false)))) else (none)) else (some false))) else (some false))) else (none)) else (some true)
end
def spec_IsTableau.f (k : Nat) (a0_0 : ByteArray) (l0_1 : List ByteArray) (l0_2 : List (S60)) (l0_3 : List (List Int)) : Option (Bool) := (spec_AreConstraints.f k l0_1).bind fun t314 => (if t314 = true then ((spec_IsForm.f k a0_0).bind fun t315 => (if t315 = true then ((spec_l1In.f (l0_2.length : Int) 1 250).bind fun t316 => (if t316 = true then (spec_IsTableau.j0 k ((l0_3.length : Int) != (l0_2.length : Int)) a0_0 l0_1 l0_2 l0_3) else (spec_IsTableau.j0 k true a0_0 l0_1 l0_2 l0_3))) else (spec_IsTableau.j0 k true a0_0 l0_1 l0_2 l0_3))) else (spec_IsTableau.j0 k true a0_0 l0_1 l0_2 l0_3))
theorem spec_IsTableau.mono_l : ∀ k, (∀ y0 y1 y2 y3 y4, LeO (spec_IsTableau.j0 k y0 y1 y2 y3 y4) (spec_IsTableau.j0 (k + 1) y0 y1 y2 y3 y4)) ∧ (∀ y0 y1 y2 y3 y4, LeO (spec_IsTableau.l0 k y0 y1 y2 y3 y4) (spec_IsTableau.l0 (k + 1) y0 y1 y2 y3 y4))
 | 0 => ⟨fun _ _ _ _ _ r h => by simp [spec_IsTableau.j0] at h, fun _ _ _ _ _ r h => by simp [spec_IsTableau.l0] at h⟩
 | k + 1 => by
  obtain ⟨ih0, ih1⟩ := spec_IsTableau.mono_l k; refine ⟨?_, ?_⟩
  ·intro y0 y1 y2 y3 y4
   unfold spec_IsTableau.j0
   with_reducible repeat' first | exact ih0 _ _ _ _ _ | exact ih1 _ _ _ _ _ | exact spec_AreConstraints.mono _ _ | exact spec_InputOf.mono _ _ | exact spec_IsCandidate.mono _ _ | exact spec_IsForm.mono _ _ | exact spec_ProfileOf.mono _ _ _ | exact spec_l11Same.mono _ _ _ | exact LeO.refl _ | exact LeO.none _ | refine LeO.ite ?_ ?_ | refine LeO.bind ?_ (fun _ => ?_)
  ·intro y0 y1 y2 y3 y4
   unfold spec_IsTableau.l0
   with_reducible repeat' first | exact ih0 _ _ _ _ _ | exact ih1 _ _ _ _ _ | exact spec_AreConstraints.mono _ _ | exact spec_InputOf.mono _ _ | exact spec_IsCandidate.mono _ _ | exact spec_IsForm.mono _ _ | exact spec_ProfileOf.mono _ _ _ | exact spec_l11Same.mono _ _ _ | exact LeO.refl _ | exact LeO.none _ | refine LeO.ite ?_ ?_ | refine LeO.bind ?_ (fun _ => ?_)
theorem spec_IsTableau.mono : ∀ a0 a1 a2 a3 k, LeO (spec_IsTableau.f k a0 a1 a2 a3) (spec_IsTableau.f (k + 1) a0 a1 a2 a3) := by
 intro a0 a1 a2 a3 k
 obtain ⟨ih0, ih1⟩ := spec_IsTableau.mono_l k
 unfold spec_IsTableau.f
 with_reducible repeat' first | exact ih0 _ _ _ _ _ | exact ih1 _ _ _ _ _ | exact spec_AreConstraints.mono _ _ | exact spec_InputOf.mono _ _ | exact spec_IsCandidate.mono _ _ | exact spec_IsForm.mono _ _ | exact spec_ProfileOf.mono _ _ _ | exact spec_l11Same.mono _ _ _ | exact LeO.refl _ | exact LeO.none _ | refine LeO.ite ?_ ?_ | refine LeO.bind ?_ (fun _ => ?_)
def spec_IsTableau.T6 : Bool × List (List Nat × List Nat) := (true, [([], []), ([0], [0]), ([], []), ([1, 2], [1, 2]), ([3], [3]), ([4], [4]), ([], []), ([6], [6]), ([5, 7], [5, 7]), ([8, 5], [8]), ([9], [9]), ([10, 9], [9, 10]), ([9], [9]), ([11, 12, 9], [9, 11, 12]), ([13, 9], [9, 13]), ([14, 9, 9], [9, 14]), ([15, 9], [9, 15]), ([9, 16], [9, 16]), ([17, 15], [17]), ([18], [18]), ([19, 18], [18, 19]), ([18], [18]), ([20, 21, 18], [18, 20, 21]), ([22, 18], [18, 22]), ([18], [18]), ([24, 18], [18, 24]), ([18], [18]), ([26, 18], [18, 26]), ([18], [18]), ([27, 28, 18], [18, 27, 28]), ([29, 18], [18, 29]), ([25, 30, 18, 18], [18, 25, 30]), ([23, 31, 31, 18], [18, 23, 31]), ([32, 18], [18, 32]), ([18, 33], [18, 33])])
def spec_IsTableau.B6 : List Nat := [0, 1, 0, 7, 15, 31, 0, 64, 255, 511, 1023, 2047, 1023, 8191, 16383, 32767, 65535, 131071, 262143, 524287, 1048575, 524287, 4194303, 8388607, 524287, 17301503, 524287, 67633151, 524287, 470286335, 1007157247, 2131230719, 4294967295, 8589934591, 17179869183]
theorem spec_IsTableau.tab6 : rtab .any (opsOf Tryz.f53 6) = spec_IsTableau.T6 := by kernel_rfl
theorem spec_IsTableau.bits6 : waitsOk spec_IsTableau.T6.2 spec_IsTableau.B6 = true := by kernel_rfl
theorem spec_IsTableau.calls (k : Nat) (a0_0 : ByteArray) (A0_1 : Option Addr) (c0_1 : Nat) (l0_1 : List ByteArray) (A0_2 : Option Addr) (c0_2 : Nat) (l0_2 : List (S60)) (A0_3 : Option Addr) (c0_3 : Nat) (l0_3 : List (List Int)) (r : Bool) (w : World) (hr0_1 : Kd.C Kd.string w A0_1 l0_1.length l0_1) (hc0_1 : l0_1.length ≤ c0_1) (hr0_2 : Kd.C k60 w A0_2 l0_2.length l0_2) (hc0_2 : l0_2.length ≤ c0_2) (hr0_3 : Kd.C (Kd.slice 3 (Kd.int .i64)) w A0_3 l0_3.length l0_3) (hc0_3 : l0_3.length ≤ c0_3) (h : spec_IsTableau.f k a0_0 l0_1 l0_2 l0_3 = some r) :
  Calls Tryz.prog 53 #[.agg #[.string a0_0, .slice A0_1 l0_1.length c0_1, .slice A0_2 l0_2.length c0_2, .slice A0_3 l0_3.length c0_3]] w fun e w' => e = .returned (.bool r) ∧ Below w.heap.size w w' := by
 have hu27 := Tryz.underlying27; have hu60 := Tryz.underlying60; have HR0_1 := asT hr0_1; have HC0_1 := asT hc0_1; clear hr0_1 hc0_1; have HR0_2 := asT hr0_2; have HC0_2 := asT hc0_2; clear hr0_2 hc0_2; have HR0_3 := asT hr0_3; have HC0_3 := asT hc0_3; clear hr0_3 hc0_3; have HB := asT (Below.refl w.heap.size w); have H := h; unfold spec_IsTableau.f at H; clear h; have HC2 := asT H; clear H
 go_enter Tryz.func53, Tryz.ntmps53
 go_upto_region 1 with (first | ((with_reducible refine gate_dst (N := 1) rfl ?_); (try (refine gate_guard (by rfl) ?_; dsimp only)); refine boxT (N := 1) (cs := #[.string a0_0, .slice A0_1 l0_1.length c0_1, .slice A0_2 l0_2.length c0_2, .slice A0_3 l0_3.length c0_3]) (t := 27) ?_; intro gb313 hg w3 hbox hb; have BK313 := asT hbox; have GW313 := asT (geT hg HB.out); have GE313 := GW313; replace HB := hS HB hb; clear hb hbox hg))
 (try simp only [Act.put, sA, sZ, sS])
 go_cut [29] (fun v29 wc => ∃ (kq : Nat) (x29_1 : Bool), v29 = .bool x29_1 ∧ Aside0 (spec_IsTableau.j0 kq x29_1 a0_0 l0_1 l0_2 l0_3 = some r) ∧ Aside0 (kq ≤ k) ∧ Aside0 (wc.heap[gb313]? = some (.cells #[.string a0_0, (.slice A0_1 l0_1.length c0_1), (.slice A0_2 l0_2.length c0_2), (.slice A0_3 l0_3.length c0_3)] 27 (0, 0))) ∧ Aside0 (Below w.heap.size w wc))
 case first =>
  have H := HC2.out; clear HC2; obtain ⟨t314, A4, H⟩ := be H
  by_cases c5 : t314 = true
  ·subst c5
   rw [if_pos rfl] at H; obtain ⟨t315, A6, H⟩ := be H
   by_cases c7 : t315 = true
   ·subst c7
    rw [if_pos rfl] at H; obtain ⟨t316, A8, H⟩ := be H
    by_cases c9 : t316 = true
    ·subst c9
     rw [if_pos rfl] at H; have H' := asT H; clear H
     have hcz10_0 := bc0 BK313.out
     have hcz10_1 := bc1 BK313.out
     have hcz10_2 := bc2 BK313.out
     have hcz10_3 := bc3 BK313.out
     have hfz10_0 := blk_frozen BK313.out 0; have hfz10_1 := blk_frozen BK313.out 1; have hfz10_2 := blk_frozen BK313.out 2; have hfz10_3 := blk_frozen BK313.out 3
     go_wp2_with (first | ((with_reducible refine gate_callee (f := 35) rfl ?_); refine goesL_ (some 6) rfl rfl Tryz.func35 (by kernel_rfl) rfl #[.slice A0_1 l0_1.length c0_1] rfl eqT ?_; (with_reducible refine (spec_AreConstraints.calls k _ _ l0_1 true _ ?side1 ?side2 A4.out).mono ?_); (case side1 => exact crT HR0_1.out HB.out); (case side2 => exact HC0_1.out); rintro e w11 ⟨rfl, hb⟩; refine ⟨_, rfl, ?_⟩; replace BK313 := bS BK313 hb; replace HB := hS HB hb; (try clear hb hb2 hk hi); obtain ⟨hcz12_0, hcz12_1, hcz12_2, hcz12_3, hfz12_0, hfz12_1, hfz12_2, hfz12_3⟩ := bx4 BK313.out) | (go_at_call 36; (with_reducible refine (spec_IsForm.calls k a0_0 true _ A6.out).mono ?_); rintro e w' ⟨rfl, ⟨nd, rfl⟩⟩) | (go_at_call 75; (with_reducible refine (spec_l1In.calls (l0_2.length : Int) 1 250 true _ A8.out).mono ?_); rintro e w' ⟨rfl, ⟨nd, rfl⟩⟩))
     go_meet
     case rel => exact ⟨_, (((l0_3.length : Int) != (l0_2.length : Int))), rdT, H', ⟨by first | omega | exact Nat.le_refl _⟩, kpT BK313.out, ⟨hbT HB.out⟩⟩
    ·replace c9 := eE c9
     subst c9; rw [if_neg nF] at H; have H' := asT H; clear H
     have hcz13_0 := bc0 BK313.out
     have hcz13_1 := bc1 BK313.out
     have hcz13_2 := bc2 BK313.out
     have hcz13_3 := bc3 BK313.out
     have hfz13_0 := blk_frozen BK313.out 0; have hfz13_1 := blk_frozen BK313.out 1; have hfz13_2 := blk_frozen BK313.out 2; have hfz13_3 := blk_frozen BK313.out 3
     go_wp2_with (first | ((with_reducible refine gate_callee (f := 35) rfl ?_); refine goesL_ (some 6) rfl rfl Tryz.func35 (by kernel_rfl) rfl #[.slice A0_1 l0_1.length c0_1] rfl eqT ?_; (with_reducible refine (spec_AreConstraints.calls k _ _ l0_1 true _ ?side1 ?side2 A4.out).mono ?_); (case side1 => exact crT HR0_1.out HB.out); (case side2 => exact HC0_1.out); rintro e w14 ⟨rfl, hb⟩; refine ⟨_, rfl, ?_⟩; replace BK313 := bS BK313 hb; replace HB := hS HB hb; (try clear hb hb2 hk hi); obtain ⟨hcz15_0, hcz15_1, hcz15_2, hcz15_3, hfz15_0, hfz15_1, hfz15_2, hfz15_3⟩ := bx4 BK313.out) | (go_at_call 36; (with_reducible refine (spec_IsForm.calls k a0_0 true _ A6.out).mono ?_); rintro e w' ⟨rfl, ⟨nd, rfl⟩⟩) | (go_at_call 75; (with_reducible refine (spec_l1In.calls (l0_2.length : Int) 1 250 false _ A8.out).mono ?_); rintro e w' ⟨rfl, ⟨nd, rfl⟩⟩))
     go_meet
     case rel => exact ⟨_, (true), rdT, H', ⟨by first | omega | exact Nat.le_refl _⟩, kpT BK313.out, ⟨hbT HB.out⟩⟩
   ·replace c7 := eE c7
    subst c7; rw [if_neg nF] at H; have H' := asT H; clear H
    have hcz16_0 := bc0 BK313.out
    have hcz16_1 := bc1 BK313.out
    have hcz16_2 := bc2 BK313.out
    have hcz16_3 := bc3 BK313.out
    have hfz16_0 := blk_frozen BK313.out 0; have hfz16_1 := blk_frozen BK313.out 1; have hfz16_2 := blk_frozen BK313.out 2; have hfz16_3 := blk_frozen BK313.out 3
    go_wp2_with (first | ((with_reducible refine gate_callee (f := 35) rfl ?_); refine goesL_ (some 6) rfl rfl Tryz.func35 (by kernel_rfl) rfl #[.slice A0_1 l0_1.length c0_1] rfl eqT ?_; (with_reducible refine (spec_AreConstraints.calls k _ _ l0_1 true _ ?side1 ?side2 A4.out).mono ?_); (case side1 => exact crT HR0_1.out HB.out); (case side2 => exact HC0_1.out); rintro e w17 ⟨rfl, hb⟩; refine ⟨_, rfl, ?_⟩; replace BK313 := bS BK313 hb; replace HB := hS HB hb; (try clear hb hb2 hk hi); obtain ⟨hcz18_0, hcz18_1, hcz18_2, hcz18_3, hfz18_0, hfz18_1, hfz18_2, hfz18_3⟩ := bx4 BK313.out) | (go_at_call 36; (with_reducible refine (spec_IsForm.calls k a0_0 false _ A6.out).mono ?_); rintro e w' ⟨rfl, ⟨nd, rfl⟩⟩))
    go_meet
    case rel => exact ⟨_, (true), rdT, H', ⟨by first | omega | exact Nat.le_refl _⟩, kpT BK313.out, ⟨hbT HB.out⟩⟩
  ·replace c5 := eE c5
   subst c5; rw [if_neg nF] at H; have H' := asT H; clear H
   have hcz19_0 := bc0 BK313.out
   have hcz19_1 := bc1 BK313.out
   have hcz19_2 := bc2 BK313.out
   have hcz19_3 := bc3 BK313.out
   have hfz19_0 := blk_frozen BK313.out 0; have hfz19_1 := blk_frozen BK313.out 1; have hfz19_2 := blk_frozen BK313.out 2; have hfz19_3 := blk_frozen BK313.out 3
   go_wp2_with (first | ((with_reducible refine gate_callee (f := 35) rfl ?_); refine goesL_ (some 6) rfl rfl Tryz.func35 (by kernel_rfl) rfl #[.slice A0_1 l0_1.length c0_1] rfl eqT ?_; (with_reducible refine (spec_AreConstraints.calls k _ _ l0_1 false _ ?side1 ?side2 A4.out).mono ?_); (case side1 => exact crT HR0_1.out HB.out); (case side2 => exact HC0_1.out); rintro e w20 ⟨rfl, hb⟩; refine ⟨_, rfl, ?_⟩; replace BK313 := bS BK313 hb; replace HB := hS HB hb; (try clear hb hb2 hk hi)))
   go_meet
   case rel => exact ⟨_, (true), rdT, H', ⟨by first | omega | exact Nat.le_refl _⟩, kpT BK313.out, ⟨hbT HB.out⟩⟩
 case rest =>
  clear HC2; (try clear p2 c3 c5 c7 c9 hcz10_0 hcz10_1 hcz10_2 hcz10_3 hcz12_0 hcz12_1 hcz12_2 hcz12_3 hcz13_0 hcz13_1 hcz13_2 hcz13_3 hcz15_0 hcz15_1 hcz15_2 hcz15_3 hcz16_0 hcz16_1 hcz16_2 hcz16_3 hcz18_0 hcz18_1 hcz18_2 hcz18_3 hcz19_0 hcz19_1 hcz19_2 hcz19_3 hfz10_0 hfz10_1 hfz10_2 hfz10_3 hfz12_0 hfz12_1 hfz12_2 hfz12_3 hfz13_0 hfz13_1 hfz13_2 hfz13_3 hfz15_0 hfz15_1 hfz15_2 hfz15_3 hfz16_0 hfz16_1 hfz16_2 hfz16_3 hfz18_0 hfz18_1 hfz18_2 hfz18_3 hfz19_0 hfz19_1 hfz19_2 hfz19_3); obtain ⟨kq, x29_1, rfl, HA, HJ1, BK313, HB⟩ := hcut
  cases kq with
  | zero => exact absurd HA.out (by simp [spec_IsTableau.j0])
  | succ kj1 =>
   have H := HA.out; clear HA
   simp only [spec_IsTableau.j0] at H
   by_cases c21 : x29_1 = true
   ·subst c21
    rw [if_pos rfl] at H; have H1 := H; clear H; have H := H1; clear H1
    obtain rfl := oI H
    go_wp2
    go_ret
    exact ⟨rlT, hbT HB.out⟩
   ·replace c21 := eE c21
    subst c21; rw [if_neg nF] at H; have H' := asT H; clear H
    go_wp2
    go_loopg [3] kj1 (fun kq v3 w' => ∃ (x3_2 : Int), v3 = .int .i64 x3_2 ∧ Aside0 (spec_IsTableau.l0 kq x3_2 a0_0 l0_1 l0_2 l0_3 = some r) ∧ Aside0 (kq ≤ kj1) ∧ Aside0 (w'.heap[gb313]? = some (.cells #[.string a0_0, (.slice A0_1 l0_1.length c0_1), (.slice A0_2 l0_2.length c0_2), (.slice A0_3 l0_3.length c0_3)] 27 (0, 0))) ∧ Aside0 (Below w.heap.size w w'))
    case atStart => exact ⟨(0), rdT, H', ⟨Nat.le_refl _⟩, kpT BK313.out, ⟨hbT HB.out⟩⟩
    case round =>
     clear H'; (try clear c2 p2 c3 c5 c7 c9 c21 hcz10_0 hcz10_1 hcz10_2 hcz10_3 hcz12_0 hcz12_1 hcz12_2 hcz12_3 hcz13_0 hcz13_1 hcz13_2 hcz13_3 hcz15_0 hcz15_1 hcz15_2 hcz15_3 hcz16_0 hcz16_1 hcz16_2 hcz16_3 hcz18_0 hcz18_1 hcz18_2 hcz18_3 hcz19_0 hcz19_1 hcz19_2 hcz19_3 hfz10_0 hfz10_1 hfz10_2 hfz10_3 hfz12_0 hfz12_1 hfz12_2 hfz12_3 hfz13_0 hfz13_1 hfz13_2 hfz13_3 hfz15_0 hfz15_1 hfz15_2 hfz15_3 hfz16_0 hfz16_1 hfz16_2 hfz16_3 hfz18_0 hfz18_1 hfz18_2 hfz18_3 hfz19_0 hfz19_1 hfz19_2 hfz19_3 p2); obtain ⟨x3_2, rfl, HA, HK2, BK313, HB⟩ := hrel
     cases gk with
     | zero => exact absurd HA.out (by simp [spec_IsTableau.l0])
     | succ k2 =>
      have H := HA.out; clear HA
      simp only [spec_IsTableau.l0] at H
      by_cases c22 : x3_2 < (l0_2.length : Int)
      ·rw [if_pos c22] at H
       have c22b0 : decide (x3_2 < (l0_2.length : Int)) = true := dt c22
       clear c22
       by_cases c23 : 0 ≤ x3_2
       ·rw [if_pos c23] at H
        have c23b0 : decide (0 ≤ x3_2) = true := dt c23
        clear c23; obtain ⟨t318, A24, H⟩ := be H
        by_cases c25 : t318.toList = a0_0.toList
        ·rw [if_pos c25] at H
         have c25b0 : (t318.toList == a0_0.toList) = true := eC c25
         have c25b1 : (t318.toList != a0_0.toList) = false := eA c25
         clear c25; obtain ⟨t320, A26, H⟩ := be H
         by_cases c27 : t320 = true
         ·subst c27
          rw [if_pos rfl] at H; have H1 := H; clear H; have H := H1; clear H1
          by_cases c28 : x3_2 < (l0_3.length : Int)
          ·rw [if_pos c28] at H
           have c28b0 : decide (x3_2 < (l0_3.length : Int)) = true := dt c28
           clear c28; obtain ⟨t323, A29, H⟩ := be H; obtain ⟨t326, A30, H⟩ := be H
           by_cases c31 : t326 = true
           ·subst c31
            rw [if_pos rfl] at H; have H' := asT H; clear H
            have hcz32_0 := bc0 BK313.out
            have hcz32_1 := bc1 BK313.out
            have hcz32_2 := bc2 BK313.out
            have hcz32_3 := bc3 BK313.out
            have hfz32_0 := blk_frozen BK313.out 0; have hfz32_1 := blk_frozen BK313.out 1; have hfz32_2 := blk_frozen BK313.out 2; have hfz32_3 := blk_frozen BK313.out 3
            try go_wp2
            replace BK313 := asT (blk_drew BK313.out); replace HB := asT (below_drew1 HB.out)
            have p317 : 0 ≤ (x3_2 : Int) := dT asmT
            have q317 : x3_2 < (l0_2.length : Int) := dT asmT
            obtain ⟨ad317, A317_0, c317_0, e317, hx317_0, hl317_0, hi317_0⟩ := at_T60 HR0_2.out x3_2 p317 q317; have hw317_0 := hx317_0
            cases e317
            replace hx317_0 := hbc HB.out hx317_0; have HR317_0 := asT hi317_0; have HC317_0 := asT hl317_0; clear hi317_0 hl317_0; replace p317 := eq_true p317; replace q317 := eq_true q317
            have p319 : 0 ≤ (x3_2 : Int) := dT asmT
            have q319 : x3_2 < (l0_2.length : Int) := dT asmT
            obtain ⟨ad319, A319_0, c319_0, e319, hx319_0, hl319_0, hi319_0⟩ := at_T60 HR0_2.out x3_2 p319 q319; have hw319_0 := hx319_0
            obtain rfl : ad317 = ad319 := (by injection e319)
            obtain ⟨rfl, rfl⟩ : A317_0 = A319_0 ∧ c317_0 = c319_0 := sameT hw317_0 hw319_0; replace hx319_0 := hbc HB.out hx319_0; have HR319_0 := asT hi319_0; have HC319_0 := asT hl319_0; clear hi319_0 hl319_0; replace p319 := eq_true p319; replace q319 := eq_true q319
            have p321 : 0 ≤ (x3_2 : Int) := dT asmT
            have q321 : x3_2 < (l0_3.length : Int) := dT asmT
            obtain ⟨ad321, A321_0, c321_0, e321, hx321_0, hl321_0, hi321_0⟩ := at_L6 HR0_3.out x3_2 p321 q321; have hw321_0 := hx321_0
            cases e321
            replace hx321_0 := hbc HB.out hx321_0; have HR321_0 := asT hi321_0; have HC321_0 := asT hl321_0; clear hi321_0 hl321_0; replace p321 := eq_true p321; replace q321 := eq_true q321
            have p322 : 0 ≤ (x3_2 : Int) := dT asmT
            have q322 : x3_2 < (l0_2.length : Int) := dT asmT
            obtain ⟨ad322, A322_0, c322_0, e322, hx322_0, hl322_0, hi322_0⟩ := at_T60 HR0_2.out x3_2 p322 q322; have hw322_0 := hx322_0
            obtain rfl : ad317 = ad322 := (by injection e322)
            obtain ⟨rfl, rfl⟩ : A317_0 = A322_0 ∧ c317_0 = c322_0 := sameT hw317_0 hw322_0; replace hx322_0 := hbc HB.out hx322_0; have HR322_0 := asT hi322_0; have HC322_0 := asT hl322_0; clear hi322_0 hl322_0; replace p322 := eq_true p322; replace q322 := eq_true q322
            refine start_ (n := 35) (S := fun w' => w'.cell? ⟨gb313, 0, none⟩ = some (.string a0_0) ∧ w'.cell? ⟨gb313, 1, none⟩ = some (.slice A0_1 l0_1.length c0_1) ∧ w'.cell? ⟨gb313, 2, none⟩ = some (.slice (some ad317) l0_2.length c0_2) ∧ w'.cell? ⟨gb313, 3, none⟩ = some (.slice (some ad321) l0_3.length c0_3) ∧ w'.cell? (ad317.add (x3_2).toNat) = some (.slice A317_0 ((rd_T60 l0_2 x3_2).f0).length c317_0) ∧ w'.cell? (ad317.add (x3_2).toNat) = some (.slice A317_0 ((rd_T60 l0_2 x3_2).f0).length c317_0) ∧ w'.cell? (ad321.add (x3_2).toNat) = some (.slice A321_0 (rd_L6 l0_3 x3_2).length c321_0) ∧ w'.cell? (ad317.add (x3_2).toNat) = some (.slice A317_0 ((rd_T60 l0_2 x3_2).f0).length c317_0)) (ds := []) (bA 35 0) (by kernel_rfl) rfl rfl ⟨bc0 BK313.out, bc1 BK313.out, bc2 BK313.out, bc3 BK313.out, (hbc HB.out hw317_0 :), (hbc HB.out hw319_0 :), (hbc HB.out hw321_0 :), (hbc HB.out hw322_0 :)⟩ (fun hHeld => ?_); refine with_tabW spec_IsTableau.tab6 spec_IsTableau.bits6 (fun HT_ HW_ => ?_)
            generalize wr.drew = w33 at BK313 HB HR317_0 HR319_0 HR321_0 HR322_0 hx317_0 hx319_0 hx321_0 hx322_0 hHeld ⊢
            refine pA 0 37 35 1 HT_.out ?_ rfl rfl; refine pA 2 39 35 5 HT_.out ?_ rfl rfl; refine pA 6 43 35 69 HT_.out ?_ rfl rfl; refine tA 1 38 35 71 HT_.out HW_.out hHeld ?_ rfl rfl; refine pA 3 40 35 79 HT_.out ?_ rfl rfl; refine tA 4 41 35 95 HT_.out HW_.out hHeld ?_ rfl rfl; refine tA 7 44 35 223 HT_.out HW_.out hHeld ?_ rfl rfl
            refine oA 5 42 35 255 HT_.out (fun K hK => ?_) rfl rfl
            refine goes_ Tryz.func92 (by kernel_rfl) rfl #[.agg #[.slice A317_0 ((rd_T60 l0_2 x3_2).f0).length c317_0]] (by rfl) rfl rfl eqT ?_
            (with_reducible refine (spec_InputOf.calls k2 _ _ ((rd_T60 l0_2 x3_2).f0) t318 _ ?side1 ?side2 A24.out).mono ?_); (case side1 => exact crT HR317_0.out HB.out); (case side2 => exact HC317_0.out); rintro e w34 ⟨rfl, hb⟩; refine ⟨_, rfl, ?_⟩; replace BK313 := bS BK313 hb; replace HB := hS HB hb; (try clear hb hb2 hk hi)
            refine hK.out _ _ ⟨bc0 BK313.out, bc1 BK313.out, bc2 BK313.out, bc3 BK313.out, (hbc HB.out hw317_0 :), (hbc HB.out hw319_0 :), (hbc HB.out hw321_0 :), (hbc HB.out hw322_0 :)⟩ (fun hHeld => ?_)
            clear hK K
            refine nB 42 ?_ rfl; refine pA 8 45 35 511 HT_.out ?_ rfl rfl; refine pA 9 46 35 1023 HT_.out ?_ rfl rfl; refine pA 10 47 35 2047 HT_.out ?_ rfl rfl; refine pA 12 49 35 6143 HT_.out ?_ rfl rfl; refine tA 11 48 35 8191 HT_.out HW_.out hHeld ?_ rfl rfl; refine pA 13 50 35 16383 HT_.out ?_ rfl rfl; refine tA 14 51 35 32767 HT_.out HW_.out hHeld ?_ rfl rfl
            refine oA 15 52 35 65535 HT_.out (fun K hK => ?_) rfl rfl
            refine goes_ Tryz.func78 (by kernel_rfl) rfl #[.agg #[.slice A317_0 ((rd_T60 l0_2 x3_2).f0).length c317_0]] (by rfl) rfl rfl eqT ?_
            (with_reducible refine (spec_IsCandidate.calls k2 _ _ ((rd_T60 l0_2 x3_2).f0) true _ ?side1 ?side2 A26.out).mono ?_); (case side1 => exact crT HR319_0.out HB.out); (case side2 => exact HC319_0.out); rintro e w35 ⟨rfl, hb⟩; refine ⟨_, rfl, ?_⟩; replace BK313 := bS BK313 hb; replace HB := hS HB hb; (try clear hb hb2 hk hi)
            refine hK.out _ _ ⟨bc0 BK313.out, bc1 BK313.out, bc2 BK313.out, bc3 BK313.out, (hbc HB.out hw317_0 :), (hbc HB.out hw319_0 :), (hbc HB.out hw321_0 :), (hbc HB.out hw322_0 :)⟩ (fun hHeld => ?_)
            clear hK K
            refine nB 52 ?_ rfl; refine pA 16 53 35 131071 HT_.out ?_ rfl rfl; refine pA 17 54 35 262143 HT_.out ?_ rfl rfl; refine pA 18 55 35 524287 HT_.out ?_ rfl rfl; refine pA 19 56 35 1048575 HT_.out ?_ rfl rfl; refine pA 21 58 35 3145727 HT_.out ?_ rfl rfl; refine pA 24 61 35 19922943 HT_.out ?_ rfl rfl; refine pA 26 63 35 87031807 HT_.out ?_ rfl rfl; refine pA 28 65 35 355467263 HT_.out ?_ rfl rfl; refine tA 20 57 35 356515839 HT_.out HW_.out hHeld ?_ rfl rfl; refine pA 22 59 35 360710143 HT_.out ?_ rfl rfl; refine tA 23 60 35 369098751 HT_.out HW_.out hHeld ?_ rfl rfl; refine tA 25 62 35 402653183 HT_.out HW_.out hHeld ?_ rfl rfl; refine tA 27 64 35 536870911 HT_.out HW_.out hHeld ?_ rfl rfl; refine pA 29 66 35 1073741823 HT_.out ?_ rfl rfl; refine tA 30 67 35 2147483647 HT_.out HW_.out hHeld ?_ rfl rfl
            refine oA 31 68 35 4294967295 HT_.out (fun K hK => ?_) rfl rfl
            refine goes_ Tryz.func38 (by kernel_rfl) rfl #[.slice A0_1 l0_1.length c0_1, .agg #[.slice A317_0 ((rd_T60 l0_2 x3_2).f0).length c317_0]] (by rfl) rfl rfl eqT ?_
            (with_reducible refine (spec_ProfileOf.calls k2 _ _ l0_1 _ _ ((rd_T60 l0_2 x3_2).f0) t323 _ ?side1 ?side2 ?side3 ?side4 A29.out).mono ?_); (case side1 => exact crT HR0_1.out HB.out); (case side2 => exact HC0_1.out); (case side3 => exact crT HR322_0.out HB.out); (case side4 => exact HC322_0.out); rintro e w36 ⟨v324, rfl, ho0, hb⟩; refine ⟨_, rfl, ?_⟩; have HO325 := asT (Kd.R_lower ho0 (below_size (hbT HB.out))); replace BK313 := bS BK313 hb; replace HB := hS HB hb; (try clear hb hb2 hk hi ho0); obtain ⟨Ao37, co37, eo37⟩ := Kd.R_slice HO325.out; (first | subst eo37 | (injection eo37 with f1_ f2_ f3_; have f4_ := f1_.symm; have f5_ := f3_.symm; clear f1_ f2_ f3_; subst f4_; subst f5_))
            refine hK.out _ _ ⟨bc0 BK313.out, bc1 BK313.out, bc2 BK313.out, bc3 BK313.out, (hbc HB.out hw317_0 :), (hbc HB.out hw319_0 :), (hbc HB.out hw321_0 :), (hbc HB.out hw322_0 :)⟩ (fun hHeld => ?_)
            clear hK K
            refine nB 68 ?_ rfl
            refine oA 32 69 35 8589934591 HT_.out (fun K hK => ?_) rfl rfl
            refine goes_ Tryz.func54 (by kernel_rfl) rfl #[.slice A321_0 (rd_L6 l0_3 x3_2).length c321_0, .slice Ao37 t323.length co37] (by rfl) rfl rfl eqT ?_
            (with_reducible refine (spec_l11Same.calls k2 _ _ (rd_L6 l0_3 x3_2) _ _ t323 true _ ?side1 ?side2 ?side3 ?side4 A30.out).mono ?_); (case side1 => exact crT HR321_0.out HB.out); (case side2 => exact HC321_0.out); (case side3 => repeat (first | exact (Kd.R_reads' HO325.out).2.2 | (with_reducible refine Kd.C_alloc ?_ _) | (with_reducible refine Kd.C_drewN ?_ _) | (with_reducible refine Kd.C_drew ?_))); (case side4 => exact (Kd.R_reads' HO325.out).2.1); rintro e w' ⟨rfl, ⟨nd, rfl⟩⟩; refine ⟨_, rfl, ?_⟩
            refine hK.out _ _ ⟨bc0 BK313.out, bc1 BK313.out, bc2 BK313.out, bc3 BK313.out, (hbc HB.out hw317_0 :), (hbc HB.out hw319_0 :), (hbc HB.out hw321_0 :), (hbc HB.out hw322_0 :)⟩ (fun hHeld => ?_)
            clear hK K
            refine nB 69 ?_ rfl; refine pA 33 70 35 17179869183 HT_.out ?_ rfl rfl; refine pA 34 71 35 34359738367 HT_.out ?_ rfl rfl
            refine done_ (done_of HT_.out (by kernel_rfl)) ?_
            try go_wp2
            go_roundg k2
            case measure => have := HJ1.out; have := HK2.out; omega
            case rel => exact ⟨(wrap64 (x3_2 + 1)), rdT, H', ⟨by have := HJ1.out; have := HK2.out; omega⟩, kpT BK313.out, ⟨hbT HB.out⟩⟩
           ·replace c31 := eE c31
            subst c31; rw [if_neg nF] at H; have H1 := H; clear H; have H := H1; clear H1
            obtain rfl := oI H
            have hcz38_0 := bc0 BK313.out
            have hcz38_1 := bc1 BK313.out
            have hcz38_2 := bc2 BK313.out
            have hcz38_3 := bc3 BK313.out
            have hfz38_0 := blk_frozen BK313.out 0; have hfz38_1 := blk_frozen BK313.out 1; have hfz38_2 := blk_frozen BK313.out 2; have hfz38_3 := blk_frozen BK313.out 3
            try go_wp2
            replace BK313 := asT (blk_drew BK313.out); replace HB := asT (below_drew1 HB.out)
            have p317 : 0 ≤ (x3_2 : Int) := dT asmT
            have q317 : x3_2 < (l0_2.length : Int) := dT asmT
            obtain ⟨ad317, A317_0, c317_0, e317, hx317_0, hl317_0, hi317_0⟩ := at_T60 HR0_2.out x3_2 p317 q317; have hw317_0 := hx317_0
            cases e317
            replace hx317_0 := hbc HB.out hx317_0; have HR317_0 := asT hi317_0; have HC317_0 := asT hl317_0; clear hi317_0 hl317_0; replace p317 := eq_true p317; replace q317 := eq_true q317
            have p319 : 0 ≤ (x3_2 : Int) := dT asmT
            have q319 : x3_2 < (l0_2.length : Int) := dT asmT
            obtain ⟨ad319, A319_0, c319_0, e319, hx319_0, hl319_0, hi319_0⟩ := at_T60 HR0_2.out x3_2 p319 q319; have hw319_0 := hx319_0
            obtain rfl : ad317 = ad319 := (by injection e319)
            obtain ⟨rfl, rfl⟩ : A317_0 = A319_0 ∧ c317_0 = c319_0 := sameT hw317_0 hw319_0; replace hx319_0 := hbc HB.out hx319_0; have HR319_0 := asT hi319_0; have HC319_0 := asT hl319_0; clear hi319_0 hl319_0; replace p319 := eq_true p319; replace q319 := eq_true q319
            have p321 : 0 ≤ (x3_2 : Int) := dT asmT
            have q321 : x3_2 < (l0_3.length : Int) := dT asmT
            obtain ⟨ad321, A321_0, c321_0, e321, hx321_0, hl321_0, hi321_0⟩ := at_L6 HR0_3.out x3_2 p321 q321; have hw321_0 := hx321_0
            cases e321
            replace hx321_0 := hbc HB.out hx321_0; have HR321_0 := asT hi321_0; have HC321_0 := asT hl321_0; clear hi321_0 hl321_0; replace p321 := eq_true p321; replace q321 := eq_true q321
            have p322 : 0 ≤ (x3_2 : Int) := dT asmT
            have q322 : x3_2 < (l0_2.length : Int) := dT asmT
            obtain ⟨ad322, A322_0, c322_0, e322, hx322_0, hl322_0, hi322_0⟩ := at_T60 HR0_2.out x3_2 p322 q322; have hw322_0 := hx322_0
            obtain rfl : ad317 = ad322 := (by injection e322)
            obtain ⟨rfl, rfl⟩ : A317_0 = A322_0 ∧ c317_0 = c322_0 := sameT hw317_0 hw322_0; replace hx322_0 := hbc HB.out hx322_0; have HR322_0 := asT hi322_0; have HC322_0 := asT hl322_0; clear hi322_0 hl322_0; replace p322 := eq_true p322; replace q322 := eq_true q322
            refine start_ (n := 35) (S := fun w' => w'.cell? ⟨gb313, 0, none⟩ = some (.string a0_0) ∧ w'.cell? ⟨gb313, 1, none⟩ = some (.slice A0_1 l0_1.length c0_1) ∧ w'.cell? ⟨gb313, 2, none⟩ = some (.slice (some ad317) l0_2.length c0_2) ∧ w'.cell? ⟨gb313, 3, none⟩ = some (.slice (some ad321) l0_3.length c0_3) ∧ w'.cell? (ad317.add (x3_2).toNat) = some (.slice A317_0 ((rd_T60 l0_2 x3_2).f0).length c317_0) ∧ w'.cell? (ad317.add (x3_2).toNat) = some (.slice A317_0 ((rd_T60 l0_2 x3_2).f0).length c317_0) ∧ w'.cell? (ad321.add (x3_2).toNat) = some (.slice A321_0 (rd_L6 l0_3 x3_2).length c321_0) ∧ w'.cell? (ad317.add (x3_2).toNat) = some (.slice A317_0 ((rd_T60 l0_2 x3_2).f0).length c317_0)) (ds := []) (bA 35 0) (by kernel_rfl) rfl rfl ⟨bc0 BK313.out, bc1 BK313.out, bc2 BK313.out, bc3 BK313.out, (hbc HB.out hw317_0 :), (hbc HB.out hw319_0 :), (hbc HB.out hw321_0 :), (hbc HB.out hw322_0 :)⟩ (fun hHeld => ?_); refine with_tabW spec_IsTableau.tab6 spec_IsTableau.bits6 (fun HT_ HW_ => ?_)
            generalize wr.drew = w39 at BK313 HB HR317_0 HR319_0 HR321_0 HR322_0 hx317_0 hx319_0 hx321_0 hx322_0 hHeld ⊢
            refine pA 0 37 35 1 HT_.out ?_ rfl rfl; refine pA 2 39 35 5 HT_.out ?_ rfl rfl; refine pA 6 43 35 69 HT_.out ?_ rfl rfl; refine tA 1 38 35 71 HT_.out HW_.out hHeld ?_ rfl rfl; refine pA 3 40 35 79 HT_.out ?_ rfl rfl; refine tA 4 41 35 95 HT_.out HW_.out hHeld ?_ rfl rfl; refine tA 7 44 35 223 HT_.out HW_.out hHeld ?_ rfl rfl
            refine oA 5 42 35 255 HT_.out (fun K hK => ?_) rfl rfl
            refine goes_ Tryz.func92 (by kernel_rfl) rfl #[.agg #[.slice A317_0 ((rd_T60 l0_2 x3_2).f0).length c317_0]] (by rfl) rfl rfl eqT ?_
            (with_reducible refine (spec_InputOf.calls k2 _ _ ((rd_T60 l0_2 x3_2).f0) t318 _ ?side1 ?side2 A24.out).mono ?_); (case side1 => exact crT HR317_0.out HB.out); (case side2 => exact HC317_0.out); rintro e w40 ⟨rfl, hb⟩; refine ⟨_, rfl, ?_⟩; replace BK313 := bS BK313 hb; replace HB := hS HB hb; (try clear hb hb2 hk hi)
            refine hK.out _ _ ⟨bc0 BK313.out, bc1 BK313.out, bc2 BK313.out, bc3 BK313.out, (hbc HB.out hw317_0 :), (hbc HB.out hw319_0 :), (hbc HB.out hw321_0 :), (hbc HB.out hw322_0 :)⟩ (fun hHeld => ?_)
            clear hK K
            refine nB 42 ?_ rfl; refine pA 8 45 35 511 HT_.out ?_ rfl rfl; refine pA 9 46 35 1023 HT_.out ?_ rfl rfl; refine pA 10 47 35 2047 HT_.out ?_ rfl rfl; refine pA 12 49 35 6143 HT_.out ?_ rfl rfl; refine tA 11 48 35 8191 HT_.out HW_.out hHeld ?_ rfl rfl; refine pA 13 50 35 16383 HT_.out ?_ rfl rfl; refine tA 14 51 35 32767 HT_.out HW_.out hHeld ?_ rfl rfl
            refine oA 15 52 35 65535 HT_.out (fun K hK => ?_) rfl rfl
            refine goes_ Tryz.func78 (by kernel_rfl) rfl #[.agg #[.slice A317_0 ((rd_T60 l0_2 x3_2).f0).length c317_0]] (by rfl) rfl rfl eqT ?_
            (with_reducible refine (spec_IsCandidate.calls k2 _ _ ((rd_T60 l0_2 x3_2).f0) true _ ?side1 ?side2 A26.out).mono ?_); (case side1 => exact crT HR319_0.out HB.out); (case side2 => exact HC319_0.out); rintro e w41 ⟨rfl, hb⟩; refine ⟨_, rfl, ?_⟩; replace BK313 := bS BK313 hb; replace HB := hS HB hb; (try clear hb hb2 hk hi)
            refine hK.out _ _ ⟨bc0 BK313.out, bc1 BK313.out, bc2 BK313.out, bc3 BK313.out, (hbc HB.out hw317_0 :), (hbc HB.out hw319_0 :), (hbc HB.out hw321_0 :), (hbc HB.out hw322_0 :)⟩ (fun hHeld => ?_)
            clear hK K
            refine nB 52 ?_ rfl; refine pA 16 53 35 131071 HT_.out ?_ rfl rfl; refine pA 17 54 35 262143 HT_.out ?_ rfl rfl; refine pA 18 55 35 524287 HT_.out ?_ rfl rfl; refine pA 19 56 35 1048575 HT_.out ?_ rfl rfl; refine pA 21 58 35 3145727 HT_.out ?_ rfl rfl; refine pA 24 61 35 19922943 HT_.out ?_ rfl rfl; refine pA 26 63 35 87031807 HT_.out ?_ rfl rfl; refine pA 28 65 35 355467263 HT_.out ?_ rfl rfl; refine tA 20 57 35 356515839 HT_.out HW_.out hHeld ?_ rfl rfl; refine pA 22 59 35 360710143 HT_.out ?_ rfl rfl; refine tA 23 60 35 369098751 HT_.out HW_.out hHeld ?_ rfl rfl; refine tA 25 62 35 402653183 HT_.out HW_.out hHeld ?_ rfl rfl; refine tA 27 64 35 536870911 HT_.out HW_.out hHeld ?_ rfl rfl; refine pA 29 66 35 1073741823 HT_.out ?_ rfl rfl; refine tA 30 67 35 2147483647 HT_.out HW_.out hHeld ?_ rfl rfl
            refine oA 31 68 35 4294967295 HT_.out (fun K hK => ?_) rfl rfl
            refine goes_ Tryz.func38 (by kernel_rfl) rfl #[.slice A0_1 l0_1.length c0_1, .agg #[.slice A317_0 ((rd_T60 l0_2 x3_2).f0).length c317_0]] (by rfl) rfl rfl eqT ?_
            (with_reducible refine (spec_ProfileOf.calls k2 _ _ l0_1 _ _ ((rd_T60 l0_2 x3_2).f0) t323 _ ?side1 ?side2 ?side3 ?side4 A29.out).mono ?_); (case side1 => exact crT HR0_1.out HB.out); (case side2 => exact HC0_1.out); (case side3 => exact crT HR322_0.out HB.out); (case side4 => exact HC322_0.out); rintro e w42 ⟨v324, rfl, ho0, hb⟩; refine ⟨_, rfl, ?_⟩; have HO325 := asT (Kd.R_lower ho0 (below_size (hbT HB.out))); replace BK313 := bS BK313 hb; replace HB := hS HB hb; (try clear hb hb2 hk hi ho0); obtain ⟨Ao43, co43, eo43⟩ := Kd.R_slice HO325.out; (first | subst eo43 | (injection eo43 with f1_ f2_ f3_; have f4_ := f1_.symm; have f5_ := f3_.symm; clear f1_ f2_ f3_; subst f4_; subst f5_))
            refine hK.out _ _ ⟨bc0 BK313.out, bc1 BK313.out, bc2 BK313.out, bc3 BK313.out, (hbc HB.out hw317_0 :), (hbc HB.out hw319_0 :), (hbc HB.out hw321_0 :), (hbc HB.out hw322_0 :)⟩ (fun hHeld => ?_)
            clear hK K
            refine nB 68 ?_ rfl
            refine oA 32 69 35 8589934591 HT_.out (fun K hK => ?_) rfl rfl
            refine goes_ Tryz.func54 (by kernel_rfl) rfl #[.slice A321_0 (rd_L6 l0_3 x3_2).length c321_0, .slice Ao43 t323.length co43] (by rfl) rfl rfl eqT ?_
            (with_reducible refine (spec_l11Same.calls k2 _ _ (rd_L6 l0_3 x3_2) _ _ t323 false _ ?side1 ?side2 ?side3 ?side4 A30.out).mono ?_); (case side1 => exact crT HR321_0.out HB.out); (case side2 => exact HC321_0.out); (case side3 => repeat (first | exact (Kd.R_reads' HO325.out).2.2 | (with_reducible refine Kd.C_alloc ?_ _) | (with_reducible refine Kd.C_drewN ?_ _) | (with_reducible refine Kd.C_drew ?_))); (case side4 => exact (Kd.R_reads' HO325.out).2.1); rintro e w' ⟨rfl, ⟨nd, rfl⟩⟩; refine ⟨_, rfl, ?_⟩
            refine hK.out _ _ ⟨bc0 BK313.out, bc1 BK313.out, bc2 BK313.out, bc3 BK313.out, (hbc HB.out hw317_0 :), (hbc HB.out hw319_0 :), (hbc HB.out hw321_0 :), (hbc HB.out hw322_0 :)⟩ (fun hHeld => ?_)
            clear hK K
            refine nB 69 ?_ rfl; refine pA 33 70 35 17179869183 HT_.out ?_ rfl rfl; refine pA 34 71 35 34359738367 HT_.out ?_ rfl rfl
            refine done_ (done_of HT_.out (by kernel_rfl)) ?_
            try go_wp2
            go_ret
            exact ⟨rlT, hbT HB.out⟩
          ·rw [if_neg c28] at H
           exact absurd H (by simp)
         ·replace c27 := eE c27
          subst c27; rw [if_neg nF] at H; have H1 := H; clear H; have H := H1; clear H1
          obtain rfl := oI H
          have hcz44_0 := bc0 BK313.out
          have hcz44_1 := bc1 BK313.out
          have hcz44_2 := bc2 BK313.out
          have hcz44_3 := bc3 BK313.out
          have hfz44_0 := blk_frozen BK313.out 0; have hfz44_1 := blk_frozen BK313.out 1; have hfz44_2 := blk_frozen BK313.out 2; have hfz44_3 := blk_frozen BK313.out 3
          try go_wp2
          replace BK313 := asT (blk_drew BK313.out); replace HB := asT (below_drew1 HB.out)
          have p317 : 0 ≤ (x3_2 : Int) := dT asmT
          have q317 : x3_2 < (l0_2.length : Int) := dT asmT
          obtain ⟨ad317, A317_0, c317_0, e317, hx317_0, hl317_0, hi317_0⟩ := at_T60 HR0_2.out x3_2 p317 q317; have hw317_0 := hx317_0
          cases e317
          replace hx317_0 := hbc HB.out hx317_0; have HR317_0 := asT hi317_0; have HC317_0 := asT hl317_0; clear hi317_0 hl317_0; replace p317 := eq_true p317; replace q317 := eq_true q317
          have p319 : 0 ≤ (x3_2 : Int) := dT asmT
          have q319 : x3_2 < (l0_2.length : Int) := dT asmT
          obtain ⟨ad319, A319_0, c319_0, e319, hx319_0, hl319_0, hi319_0⟩ := at_T60 HR0_2.out x3_2 p319 q319; have hw319_0 := hx319_0
          obtain rfl : ad317 = ad319 := (by injection e319)
          obtain ⟨rfl, rfl⟩ : A317_0 = A319_0 ∧ c317_0 = c319_0 := sameT hw317_0 hw319_0; replace hx319_0 := hbc HB.out hx319_0; have HR319_0 := asT hi319_0; have HC319_0 := asT hl319_0; clear hi319_0 hl319_0; replace p319 := eq_true p319; replace q319 := eq_true q319
          refine start_ (n := 35) (S := fun w' => w'.cell? ⟨gb313, 0, none⟩ = some (.string a0_0) ∧ w'.cell? ⟨gb313, 1, none⟩ = some (.slice A0_1 l0_1.length c0_1) ∧ w'.cell? ⟨gb313, 2, none⟩ = some (.slice (some ad317) l0_2.length c0_2) ∧ w'.cell? ⟨gb313, 3, none⟩ = some (.slice A0_3 l0_3.length c0_3) ∧ w'.cell? (ad317.add (x3_2).toNat) = some (.slice A317_0 ((rd_T60 l0_2 x3_2).f0).length c317_0) ∧ w'.cell? (ad317.add (x3_2).toNat) = some (.slice A317_0 ((rd_T60 l0_2 x3_2).f0).length c317_0)) (ds := []) (bA 35 0) (by kernel_rfl) rfl rfl ⟨bc0 BK313.out, bc1 BK313.out, bc2 BK313.out, bc3 BK313.out, (hbc HB.out hw317_0 :), (hbc HB.out hw319_0 :)⟩ (fun hHeld => ?_); refine with_tabW spec_IsTableau.tab6 spec_IsTableau.bits6 (fun HT_ HW_ => ?_)
          generalize wr.drew = w45 at BK313 HB HR317_0 HR319_0 hx317_0 hx319_0 hHeld ⊢
          refine pA 0 37 35 1 HT_.out ?_ rfl rfl; refine pA 2 39 35 5 HT_.out ?_ rfl rfl; refine pA 6 43 35 69 HT_.out ?_ rfl rfl; refine tA 1 38 35 71 HT_.out HW_.out hHeld ?_ rfl rfl; refine pA 3 40 35 79 HT_.out ?_ rfl rfl; refine tA 4 41 35 95 HT_.out HW_.out hHeld ?_ rfl rfl; refine tA 7 44 35 223 HT_.out HW_.out hHeld ?_ rfl rfl
          refine oA 5 42 35 255 HT_.out (fun K hK => ?_) rfl rfl
          refine goes_ Tryz.func92 (by kernel_rfl) rfl #[.agg #[.slice A317_0 ((rd_T60 l0_2 x3_2).f0).length c317_0]] (by rfl) rfl rfl eqT ?_
          (with_reducible refine (spec_InputOf.calls k2 _ _ ((rd_T60 l0_2 x3_2).f0) t318 _ ?side1 ?side2 A24.out).mono ?_); (case side1 => exact crT HR317_0.out HB.out); (case side2 => exact HC317_0.out); rintro e w46 ⟨rfl, hb⟩; refine ⟨_, rfl, ?_⟩; replace BK313 := bS BK313 hb; replace HB := hS HB hb; (try clear hb hb2 hk hi)
          refine hK.out _ _ ⟨bc0 BK313.out, bc1 BK313.out, bc2 BK313.out, bc3 BK313.out, (hbc HB.out hw317_0 :), (hbc HB.out hw319_0 :)⟩ (fun hHeld => ?_)
          clear hK K
          refine nB 42 ?_ rfl; refine pA 8 45 35 511 HT_.out ?_ rfl rfl; refine pA 9 46 35 1023 HT_.out ?_ rfl rfl; refine pA 10 47 35 2047 HT_.out ?_ rfl rfl; refine pA 12 49 35 6143 HT_.out ?_ rfl rfl; refine tA 11 48 35 8191 HT_.out HW_.out hHeld ?_ rfl rfl; refine pA 13 50 35 16383 HT_.out ?_ rfl rfl; refine tA 14 51 35 32767 HT_.out HW_.out hHeld ?_ rfl rfl
          refine oA 15 52 35 65535 HT_.out (fun K hK => ?_) rfl rfl
          refine goes_ Tryz.func78 (by kernel_rfl) rfl #[.agg #[.slice A317_0 ((rd_T60 l0_2 x3_2).f0).length c317_0]] (by rfl) rfl rfl eqT ?_
          (with_reducible refine (spec_IsCandidate.calls k2 _ _ ((rd_T60 l0_2 x3_2).f0) false _ ?side1 ?side2 A26.out).mono ?_); (case side1 => exact crT HR319_0.out HB.out); (case side2 => exact HC319_0.out); rintro e w47 ⟨rfl, hb⟩; refine ⟨_, rfl, ?_⟩; replace BK313 := bS BK313 hb; replace HB := hS HB hb; (try clear hb hb2 hk hi)
          refine hK.out _ _ ⟨bc0 BK313.out, bc1 BK313.out, bc2 BK313.out, bc3 BK313.out, (hbc HB.out hw317_0 :), (hbc HB.out hw319_0 :)⟩ (fun hHeld => ?_)
          clear hK K
          refine nB 52 ?_ rfl; refine pA 16 53 35 131071 HT_.out ?_ rfl rfl; refine pA 17 54 35 262143 HT_.out ?_ rfl rfl; refine pA 18 55 35 524287 HT_.out ?_ rfl rfl; refine uA 19 56 35 1048575 HT_.out ?_ rfl rfl; refine uA 20 57 35 2097151 HT_.out ?_ rfl rfl; refine uA 21 58 35 4194303 HT_.out ?_ rfl rfl; refine uA 22 59 35 8388607 HT_.out ?_ rfl rfl; refine uA 23 60 35 16777215 HT_.out ?_ rfl rfl; refine uA 24 61 35 33554431 HT_.out ?_ rfl rfl; refine uA 25 62 35 67108863 HT_.out ?_ rfl rfl; refine uA 26 63 35 134217727 HT_.out ?_ rfl rfl; refine uA 27 64 35 268435455 HT_.out ?_ rfl rfl; refine uA 28 65 35 536870911 HT_.out ?_ rfl rfl; refine uA 29 66 35 1073741823 HT_.out ?_ rfl rfl; refine uA 30 67 35 2147483647 HT_.out ?_ rfl rfl; refine uA 31 68 35 4294967295 HT_.out ?_ rfl rfl; refine uA 32 69 35 8589934591 HT_.out ?_ rfl rfl; refine uA 33 70 35 17179869183 HT_.out ?_ rfl rfl; refine pA 34 71 35 34359738367 HT_.out ?_ rfl rfl
          refine done_ (done_of HT_.out (by kernel_rfl)) ?_
          try go_wp2
          go_ret
          exact ⟨rlT, hbT HB.out⟩
        ·rw [if_neg c25] at H
         have c25b0 : (t318.toList == a0_0.toList) = false := eB c25
         have c25b1 : (t318.toList != a0_0.toList) = true := eD c25
         obtain rfl := oI H
         have hcz48_0 := bc0 BK313.out
         have hcz48_1 := bc1 BK313.out
         have hcz48_2 := bc2 BK313.out
         have hcz48_3 := bc3 BK313.out
         have hfz48_0 := blk_frozen BK313.out 0; have hfz48_1 := blk_frozen BK313.out 1; have hfz48_2 := blk_frozen BK313.out 2; have hfz48_3 := blk_frozen BK313.out 3
         try go_wp2
         replace BK313 := asT (blk_drew BK313.out); replace HB := asT (below_drew1 HB.out)
         have p317 : 0 ≤ (x3_2 : Int) := dT asmT
         have q317 : x3_2 < (l0_2.length : Int) := dT asmT
         obtain ⟨ad317, A317_0, c317_0, e317, hx317_0, hl317_0, hi317_0⟩ := at_T60 HR0_2.out x3_2 p317 q317; have hw317_0 := hx317_0
         cases e317
         replace hx317_0 := hbc HB.out hx317_0; have HR317_0 := asT hi317_0; have HC317_0 := asT hl317_0; clear hi317_0 hl317_0; replace p317 := eq_true p317; replace q317 := eq_true q317
         refine start_ (n := 35) (S := fun w' => w'.cell? ⟨gb313, 0, none⟩ = some (.string a0_0) ∧ w'.cell? ⟨gb313, 1, none⟩ = some (.slice A0_1 l0_1.length c0_1) ∧ w'.cell? ⟨gb313, 2, none⟩ = some (.slice (some ad317) l0_2.length c0_2) ∧ w'.cell? ⟨gb313, 3, none⟩ = some (.slice A0_3 l0_3.length c0_3) ∧ w'.cell? (ad317.add (x3_2).toNat) = some (.slice A317_0 ((rd_T60 l0_2 x3_2).f0).length c317_0)) (ds := []) (bA 35 0) (by kernel_rfl) rfl rfl ⟨bc0 BK313.out, bc1 BK313.out, bc2 BK313.out, bc3 BK313.out, (hbc HB.out hw317_0 :)⟩ (fun hHeld => ?_); refine with_tabW spec_IsTableau.tab6 spec_IsTableau.bits6 (fun HT_ HW_ => ?_)
         generalize wr.drew = w49 at BK313 HB HR317_0 hx317_0 hHeld ⊢
         refine pA 0 37 35 1 HT_.out ?_ rfl rfl; refine pA 2 39 35 5 HT_.out ?_ rfl rfl; refine pA 6 43 35 69 HT_.out ?_ rfl rfl; refine tA 1 38 35 71 HT_.out HW_.out hHeld ?_ rfl rfl; refine pA 3 40 35 79 HT_.out ?_ rfl rfl; refine tA 4 41 35 95 HT_.out HW_.out hHeld ?_ rfl rfl; refine tA 7 44 35 223 HT_.out HW_.out hHeld ?_ rfl rfl
         refine oA 5 42 35 255 HT_.out (fun K hK => ?_) rfl rfl
         refine goes_ Tryz.func92 (by kernel_rfl) rfl #[.agg #[.slice A317_0 ((rd_T60 l0_2 x3_2).f0).length c317_0]] (by rfl) rfl rfl eqT ?_
         (with_reducible refine (spec_InputOf.calls k2 _ _ ((rd_T60 l0_2 x3_2).f0) t318 _ ?side1 ?side2 A24.out).mono ?_); (case side1 => exact crT HR317_0.out HB.out); (case side2 => exact HC317_0.out); rintro e w50 ⟨rfl, hb⟩; refine ⟨_, rfl, ?_⟩; replace BK313 := bS BK313 hb; replace HB := hS HB hb; (try clear hb hb2 hk hi)
         refine hK.out _ _ ⟨bc0 BK313.out, bc1 BK313.out, bc2 BK313.out, bc3 BK313.out, (hbc HB.out hw317_0 :)⟩ (fun hHeld => ?_)
         clear hK K
         refine nB 42 ?_ rfl; refine pA 8 45 35 511 HT_.out ?_ rfl rfl; refine pA 9 46 35 1023 HT_.out ?_ rfl rfl; refine uA 10 47 35 2047 HT_.out ?_ rfl rfl; refine uA 11 48 35 4095 HT_.out ?_ rfl rfl; refine uA 12 49 35 8191 HT_.out ?_ rfl rfl; refine uA 13 50 35 16383 HT_.out ?_ rfl rfl; refine uA 14 51 35 32767 HT_.out ?_ rfl rfl; refine uA 15 52 35 65535 HT_.out ?_ rfl rfl; refine uA 16 53 35 131071 HT_.out ?_ rfl rfl; refine pA 17 54 35 262143 HT_.out ?_ rfl rfl; refine pA 18 55 35 524287 HT_.out ?_ rfl rfl; refine uA 19 56 35 1048575 HT_.out ?_ rfl rfl; refine uA 20 57 35 2097151 HT_.out ?_ rfl rfl; refine uA 21 58 35 4194303 HT_.out ?_ rfl rfl; refine uA 22 59 35 8388607 HT_.out ?_ rfl rfl; refine uA 23 60 35 16777215 HT_.out ?_ rfl rfl; refine uA 24 61 35 33554431 HT_.out ?_ rfl rfl; refine uA 25 62 35 67108863 HT_.out ?_ rfl rfl; refine uA 26 63 35 134217727 HT_.out ?_ rfl rfl; refine uA 27 64 35 268435455 HT_.out ?_ rfl rfl; refine uA 28 65 35 536870911 HT_.out ?_ rfl rfl; refine uA 29 66 35 1073741823 HT_.out ?_ rfl rfl; refine uA 30 67 35 2147483647 HT_.out ?_ rfl rfl; refine uA 31 68 35 4294967295 HT_.out ?_ rfl rfl; refine uA 32 69 35 8589934591 HT_.out ?_ rfl rfl; refine uA 33 70 35 17179869183 HT_.out ?_ rfl rfl; refine pA 34 71 35 34359738367 HT_.out ?_ rfl rfl
         refine done_ (done_of HT_.out (by kernel_rfl)) ?_
         try go_wp2
         go_ret
         exact ⟨rlT, hbT HB.out⟩
       ·rw [if_neg c23] at H
        exact absurd H (by simp)
      ·rw [if_neg c22] at H
       have c22b0 : decide (x3_2 < (l0_2.length : Int)) = false := df c22
       clear c22
       obtain rfl := oI H
       have hcz51_0 := bc0 BK313.out
       have hcz51_1 := bc1 BK313.out
       have hcz51_2 := bc2 BK313.out
       have hcz51_3 := bc3 BK313.out
       have hfz51_0 := blk_frozen BK313.out 0; have hfz51_1 := blk_frozen BK313.out 1; have hfz51_2 := blk_frozen BK313.out 2; have hfz51_3 := blk_frozen BK313.out 3
       go_wp2
       go_ret
       exact ⟨rlT, hbT HB.out⟩
def spec_l12Has.l0 : Nat → List Int → Int → Int → Option (Bool)
 | 0, _, _, _ => none
 | k + 1, x0, x1, x5 => if x5 < (x0.length : Int) then (if 0 ≤ x5 then (if (rd x0 x5) = x1 then (some true) else (spec_l12Has.l0 k x0 x1 (wrap64 (x5 + 1)))) else (none)) else (some false)
def spec_l12Has.f (k : Nat) (l0 : List Int) (a1 : Int) : Option (Bool) := spec_l12Has.l0 k l0 a1 0
theorem spec_l12Has.mono_l : ∀ k, (∀ y0 y1 y2, LeO (spec_l12Has.l0 k y0 y1 y2) (spec_l12Has.l0 (k + 1) y0 y1 y2))
 | 0 => fun _ _ _ r h => by simp [spec_l12Has.l0] at h
 | k + 1 => by
  have ih0 := spec_l12Has.mono_l k
  ·intro y0 y1 y2
   unfold spec_l12Has.l0
   with_reducible repeat' first | exact ih0 _ _ _ | exact LeO.refl _ | exact LeO.none _ | refine LeO.ite ?_ ?_ | refine LeO.bind ?_ (fun _ => ?_)
theorem spec_l12Has.mono : ∀ a0 a1 k, LeO (spec_l12Has.f k a0 a1) (spec_l12Has.f (k + 1) a0 a1) := by
 intro a0 a1 k
 have ih0 := spec_l12Has.mono_l k
 unfold spec_l12Has.f
 with_reducible repeat' first | exact ih0 _ _ _ | exact LeO.refl _ | exact LeO.none _ | refine LeO.ite ?_ ?_ | refine LeO.bind ?_ (fun _ => ?_)
theorem spec_l12Has.calls (k : Nat) (A0 : Option Addr) (c0 : Nat) (l0 : List Int) (a1 : Int) (r : Bool) (w : World) (hr0 : Kd.C (Kd.int .i64) w A0 l0.length l0) (hc0 : l0.length ≤ c0) (h : spec_l12Has.f k l0 a1 = some r) :
  Calls Tryz.prog 101 #[.slice A0 l0.length c0, .int .i64 a1] w fun e w' => e = .returned (.bool r) ∧ Drawn0 w w' := by
 have HR0 := asT hr0; have HC0 := asT hc0; clear hr0 hc0; have H := h; unfold spec_l12Has.f at H; clear h; have H' := asT H; clear H
 go_enter Tryz.func101, Tryz.ntmps101
 go_wp2
 go_loopg [5] k (fun kq v5 w' => ∃ (x5_1 : Int), v5 = .int .i64 x5_1 ∧ Aside0 (spec_l12Has.l0 kq l0 a1 x5_1 = some r) ∧ Aside0 (kq ≤ k) ∧ Drawn0 w w')
 case atStart => exact ⟨(0), rdT, H', ⟨Nat.le_refl _⟩, drT⟩
 case round =>
  clear H'; (try clear c1 p2); obtain ⟨x5_1, rfl, HA, HK1, ⟨m1, rfl⟩⟩ := hrel
  cases gk with
  | zero => exact absurd HA.out (by simp [spec_l12Has.l0])
  | succ k1 =>
   have H := HA.out; clear HA
   simp only [spec_l12Has.l0] at H
   by_cases c3 : x5_1 < (l0.length : Int)
   ·rw [if_pos c3] at H
    have c3b0 : decide (x5_1 < (l0.length : Int)) = true := dt c3
    clear c3
    by_cases c4 : 0 ≤ x5_1
    ·rw [if_pos c4] at H
     have c4b0 : decide (0 ≤ x5_1) = true := dt c4
     clear c4
     by_cases c5 : (rd l0 x5_1) = a1
     ·rw [if_pos c5] at H
      have c5b0 : ((rd l0 x5_1) == a1) = true := eC c5
      have c5b1 : ((rd l0 x5_1) != a1) = false := eA c5
      clear c5
      obtain rfl := oI H
      have p327 : 0 ≤ (x5_1 : Int) := dT asmT
      have q327 : x5_1 < (l0.length : Int) := dT asmT
      obtain ⟨ad327, e327, hx327_0⟩ := Kd.at_int HR0.out x5_1 p327 q327
      cases e327
      replace p327 := eq_true p327; replace q327 := eq_true q327
      go_wp2
      go_ret
      exact ⟨rdT, drT⟩
     ·rw [if_neg c5] at H
      have c5b0 : ((rd l0 x5_1) == a1) = false := eB c5
      have c5b1 : ((rd l0 x5_1) != a1) = true := eD c5
      have H' := asT H; clear H
      have p327 : 0 ≤ (x5_1 : Int) := dT asmT
      have q327 : x5_1 < (l0.length : Int) := dT asmT
      obtain ⟨ad327, e327, hx327_0⟩ := Kd.at_int HR0.out x5_1 p327 q327
      cases e327
      replace p327 := eq_true p327; replace q327 := eq_true q327
      go_wp2
      go_roundg k1
      case measure => have := HK1.out; omega
      case rel => exact ⟨(wrap64 (x5_1 + 1)), rdT, H', ⟨by have := HK1.out; omega⟩, drT⟩
    ·rw [if_neg c4] at H
     exact absurd H (by simp)
   ·rw [if_neg c3] at H
    have c3b0 : decide (x5_1 < (l0.length : Int)) = false := df c3
    clear c3
    obtain rfl := oI H
    go_wp2
    go_ret
    exact ⟨rdT, drT⟩
def spec_IsRanking.l0 : Nat → List Int → Int → Int → Option (Bool)
 | 0, _, _, _ => none
 | k + 1, x0, x1, x5 => if x5 < (x0.length : Int) then (if 0 ≤ x5 then (if (rd x0 x5) < 0 then (some false) else (if (rd x0 x5) ≥ x1 then (some false) else (if x5 ≤ (x0.length : Int) then ((spec_l12Has.f k (x0.take (x5 : Int).toNat) (rd x0 x5)).bind fun t332 => (if t332 = true then (some false) else (spec_IsRanking.l0 k x0 x1 (wrap64 (x5 + 1))))) else (none)))) else (none)) else ((spec_l1In.f x1 1 5).bind fun t333 => (if t333 = true then (some ((x0.length : Int) == x1)) else (some false)))
def spec_IsRanking.f (k : Nat) (l0 : List Int) (a1 : Int) : Option (Bool) := spec_IsRanking.l0 k l0 a1 0
theorem spec_IsRanking.mono_l : ∀ k, (∀ y0 y1 y2, LeO (spec_IsRanking.l0 k y0 y1 y2) (spec_IsRanking.l0 (k + 1) y0 y1 y2))
 | 0 => fun _ _ _ r h => by simp [spec_IsRanking.l0] at h
 | k + 1 => by
  have ih0 := spec_IsRanking.mono_l k
  ·intro y0 y1 y2
   unfold spec_IsRanking.l0
   with_reducible repeat' first | exact ih0 _ _ _ | exact spec_l12Has.mono _ _ _ | exact LeO.refl _ | exact LeO.none _ | refine LeO.ite ?_ ?_ | refine LeO.bind ?_ (fun _ => ?_)
theorem spec_IsRanking.mono : ∀ a0 a1 k, LeO (spec_IsRanking.f k a0 a1) (spec_IsRanking.f (k + 1) a0 a1) := by
 intro a0 a1 k
 have ih0 := spec_IsRanking.mono_l k
 unfold spec_IsRanking.f
 with_reducible repeat' first | exact ih0 _ _ _ | exact spec_l12Has.mono _ _ _ | exact LeO.refl _ | exact LeO.none _ | refine LeO.ite ?_ ?_ | refine LeO.bind ?_ (fun _ => ?_)
theorem spec_IsRanking.calls (k : Nat) (A0 : Option Addr) (c0 : Nat) (l0 : List Int) (a1 : Int) (r : Bool) (w : World) (hr0 : Kd.C (Kd.int .i64) w A0 l0.length l0) (hc0 : l0.length ≤ c0) (h : spec_IsRanking.f k l0 a1 = some r) :
  Calls Tryz.prog 67 #[.slice A0 l0.length c0, .int .i64 a1] w fun e w' => e = .returned (.bool r) ∧ Drawn0 w w' := by
 have HR0 := asT hr0; have HC0 := asT hc0; clear hr0 hc0; have H := h; unfold spec_IsRanking.f at H; clear h; have H' := asT H; clear H
 go_enter Tryz.func67, Tryz.ntmps67
 go_wp2
 repeat (go_quiet (fail); try go_wp2)
 go_loopg [5] k (fun kq v5 w' => ∃ (x5_1 : Int), v5 = .int .i64 x5_1 ∧ Aside0 (spec_IsRanking.l0 kq l0 a1 x5_1 = some r) ∧ Aside0 (kq ≤ k) ∧ Drawn0 w w')
 case atStart => exact ⟨(0), rdT, H', ⟨Nat.le_refl _⟩, drT⟩
 case round =>
  clear H'; (try clear p2); obtain ⟨x5_1, rfl, HA, HK1, ⟨m1, rfl⟩⟩ := hrel
  cases gk with
  | zero => exact absurd HA.out (by simp [spec_IsRanking.l0])
  | succ k1 =>
   have H := HA.out; clear HA
   simp only [spec_IsRanking.l0] at H
   by_cases c3 : x5_1 < (l0.length : Int)
   ·rw [if_pos c3] at H
    have c3b0 : decide (x5_1 < (l0.length : Int)) = true := dt c3
    clear c3
    by_cases c4 : 0 ≤ x5_1
    ·rw [if_pos c4] at H
     have c4b0 : decide (0 ≤ x5_1) = true := dt c4
     clear c4
     by_cases c5 : (rd l0 x5_1) < 0
     ·rw [if_pos c5] at H
      have c5b0 : decide ((rd l0 x5_1) < 0) = true := dt c5
      clear c5
      obtain rfl := oI H
      have p328 : 0 ≤ (x5_1 : Int) := dT asmT
      have q328 : x5_1 < (l0.length : Int) := dT asmT
      obtain ⟨ad328, e328, hx328_0⟩ := Kd.at_int HR0.out x5_1 p328 q328
      cases e328
      replace p328 := eq_true p328; replace q328 := eq_true q328
      go_wp2
      repeat (go_quiet (fail); try go_wp2)
      go_ret
      exact ⟨rdT, drT⟩
     ·rw [if_neg c5] at H
      have c5b0 : decide ((rd l0 x5_1) < 0) = false := df c5
      clear c5
      by_cases c6 : (rd l0 x5_1) ≥ a1
      ·rw [if_pos c6] at H
       have c6b0 : decide (a1 ≤ (rd l0 x5_1)) = true := dt c6
       clear c6
       obtain rfl := oI H
       have p328 : 0 ≤ (x5_1 : Int) := dT asmT
       have q328 : x5_1 < (l0.length : Int) := dT asmT
       obtain ⟨ad328, e328, hx328_0⟩ := Kd.at_int HR0.out x5_1 p328 q328
       cases e328
       replace p328 := eq_true p328; replace q328 := eq_true q328
       have p329 : 0 ≤ (x5_1 : Int) := dT asmT
       have q329 : x5_1 < (l0.length : Int) := dT asmT
       obtain ⟨ad329, e329, hx329_0⟩ := Kd.at_int HR0.out x5_1 p329 q329
       obtain rfl : ad328 = ad329 := (by injection e329)
       replace p329 := eq_true p329; replace q329 := eq_true q329
       go_wp2
       repeat (go_quiet (fail); try go_wp2)
       go_ret
       exact ⟨rdT, drT⟩
      ·rw [if_neg c6] at H
       have c6b0 : decide (a1 ≤ (rd l0 x5_1)) = false := df c6
       clear c6; have c7b0 := eq_true (dT asmT : 0 ≤ x5_1)
       by_cases c8 : x5_1 ≤ (l0.length : Int)
       ·rw [if_pos c8] at H
        have c8b0 := eq_true c8
        have c8b1 : decide (x5_1 ≤ (l0.length : Int)) = true := dt c8
        clear c8; obtain ⟨t332, A9, H⟩ := be H
        by_cases c10 : t332 = true
        ·subst c10
         rw [if_pos rfl] at H; have H1 := H; clear H; have H := H1; clear H1
         obtain rfl := oI H
         have p328 : 0 ≤ (x5_1 : Int) := dT asmT
         have q328 : x5_1 < (l0.length : Int) := dT asmT
         obtain ⟨ad328, e328, hx328_0⟩ := Kd.at_int HR0.out x5_1 p328 q328
         cases e328
         replace p328 := eq_true p328; replace q328 := eq_true q328
         have p329 : 0 ≤ (x5_1 : Int) := dT asmT
         have q329 : x5_1 < (l0.length : Int) := dT asmT
         obtain ⟨ad329, e329, hx329_0⟩ := Kd.at_int HR0.out x5_1 p329 q329
         obtain rfl : ad328 = ad329 := (by injection e329)
         replace p329 := eq_true p329; replace q329 := eq_true q329; obtain ⟨i011, hi011, _, hsz11, _⟩ := info_parts info3; obtain ⟨hcut11, hA11, hC11⟩ := print_take_of (P := Tryz.prog) (Value.int .i64) 0 39 3 .i64 Tryz.underlying39 hi011 hsz11 (some ad328) c0 l0 x5_1 (dT asmT) (dT asmT) HC0.out; have HR330 := asT (Kd.C_of_reads (h1 := fun _ => rfl) (hA11 _ (Kd.reads_of_C HR0.out))); have HC330 := asT hC11; clear hA11 hC11 hi011 hsz11
         have p331 : 0 ≤ (x5_1 : Int) := dT asmT
         have q331 : x5_1 < (l0.length : Int) := dT asmT
         obtain ⟨ad331, e331, hx331_0⟩ := Kd.at_int HR0.out x5_1 p331 q331
         obtain rfl : ad328 = ad331 := (by injection e331)
         replace p331 := eq_true p331; replace q331 := eq_true q331
         go_wp2_with (first | (go_at_call 101; refine calls_of_args (args' := #[.slice _ (l0.take (x5_1 : Int).toNat).length _, .int .i64 (rd l0 x5_1)]) (by first | (rw [show (l0.take (x5_1 : Int).toNat).length = x5_1.toNat from (by rw [List.length_take]; have h_ : (x5_1 : Int) ≤ (l0.length : Int) := dT asmT; omega)] <;> rfl) | rfl) ?_; (with_reducible refine (spec_l12Has.calls k1 _ _ (l0.take (x5_1 : Int).toNat) (rd l0 x5_1) true _ ?side1 ?side2 A9.out).mono ?_); (case side1 => repeat (first | exact HR330.out | (with_reducible refine Kd.C_alloc ?_ _) | (with_reducible refine Kd.C_drewN ?_ _) | (with_reducible refine Kd.C_drew ?_))); (case side2 => exact HC330.out); rintro e w' ⟨rfl, ⟨nd, rfl⟩⟩; (try first | exact ⟨rfl, _, World.drewN_drewN _ _ _⟩ | exact ⟨rfl, _, Eq.trans (World.drewN_drewN _ _ _) (congrArg (World.drewN _) (Nat.add_assoc _ _ _))⟩)))
         repeat (go_quiet (first | (go_at_call 101; refine calls_of_args (args' := #[.slice _ (l0.take (x5_1 : Int).toNat).length _, .int .i64 (rd l0 x5_1)]) (by first | (rw [show (l0.take (x5_1 : Int).toNat).length = x5_1.toNat from (by rw [List.length_take]; have h_ : (x5_1 : Int) ≤ (l0.length : Int) := dT asmT; omega)] <;> rfl) | rfl) ?_; (with_reducible refine (spec_l12Has.calls k1 _ _ (l0.take (x5_1 : Int).toNat) (rd l0 x5_1) true _ ?side1 ?side2 A9.out).mono ?_); (case side1 => repeat (first | exact HR330.out | (with_reducible refine Kd.C_alloc ?_ _) | (with_reducible refine Kd.C_drewN ?_ _) | (with_reducible refine Kd.C_drew ?_))); (case side2 => exact HC330.out); rintro e w' ⟨rfl, ⟨nd, rfl⟩⟩; (try first | exact ⟨rfl, _, World.drewN_drewN _ _ _⟩ | exact ⟨rfl, _, Eq.trans (World.drewN_drewN _ _ _) (congrArg (World.drewN _) (Nat.add_assoc _ _ _))⟩))); try go_wp2_with (first | (go_at_call 101; refine calls_of_args (args' := #[.slice _ (l0.take (x5_1 : Int).toNat).length _, .int .i64 (rd l0 x5_1)]) (by first | (rw [show (l0.take (x5_1 : Int).toNat).length = x5_1.toNat from (by rw [List.length_take]; have h_ : (x5_1 : Int) ≤ (l0.length : Int) := dT asmT; omega)] <;> rfl) | rfl) ?_; (with_reducible refine (spec_l12Has.calls k1 _ _ (l0.take (x5_1 : Int).toNat) (rd l0 x5_1) true _ ?side1 ?side2 A9.out).mono ?_); (case side1 => repeat (first | exact HR330.out | (with_reducible refine Kd.C_alloc ?_ _) | (with_reducible refine Kd.C_drewN ?_ _) | (with_reducible refine Kd.C_drew ?_))); (case side2 => exact HC330.out); rintro e w' ⟨rfl, ⟨nd, rfl⟩⟩; (try first | exact ⟨rfl, _, World.drewN_drewN _ _ _⟩ | exact ⟨rfl, _, Eq.trans (World.drewN_drewN _ _ _) (congrArg (World.drewN _) (Nat.add_assoc _ _ _))⟩))))
         go_ret
         exact ⟨rdT, drT⟩
        ·replace c10 := eE c10
         subst c10; rw [if_neg nF] at H; have H' := asT H; clear H
         have p328 : 0 ≤ (x5_1 : Int) := dT asmT
         have q328 : x5_1 < (l0.length : Int) := dT asmT
         obtain ⟨ad328, e328, hx328_0⟩ := Kd.at_int HR0.out x5_1 p328 q328
         cases e328
         replace p328 := eq_true p328; replace q328 := eq_true q328
         have p329 : 0 ≤ (x5_1 : Int) := dT asmT
         have q329 : x5_1 < (l0.length : Int) := dT asmT
         obtain ⟨ad329, e329, hx329_0⟩ := Kd.at_int HR0.out x5_1 p329 q329
         obtain rfl : ad328 = ad329 := (by injection e329)
         replace p329 := eq_true p329; replace q329 := eq_true q329; obtain ⟨i012, hi012, _, hsz12, _⟩ := info_parts info3; obtain ⟨hcut12, hA12, hC12⟩ := print_take_of (P := Tryz.prog) (Value.int .i64) 0 39 3 .i64 Tryz.underlying39 hi012 hsz12 (some ad328) c0 l0 x5_1 (dT asmT) (dT asmT) HC0.out; have HR330 := asT (Kd.C_of_reads (h1 := fun _ => rfl) (hA12 _ (Kd.reads_of_C HR0.out))); have HC330 := asT hC12; clear hA12 hC12 hi012 hsz12
         have p331 : 0 ≤ (x5_1 : Int) := dT asmT
         have q331 : x5_1 < (l0.length : Int) := dT asmT
         obtain ⟨ad331, e331, hx331_0⟩ := Kd.at_int HR0.out x5_1 p331 q331
         obtain rfl : ad328 = ad331 := (by injection e331)
         replace p331 := eq_true p331; replace q331 := eq_true q331
         go_wp2_with (first | (go_at_call 101; refine calls_of_args (args' := #[.slice _ (l0.take (x5_1 : Int).toNat).length _, .int .i64 (rd l0 x5_1)]) (by first | (rw [show (l0.take (x5_1 : Int).toNat).length = x5_1.toNat from (by rw [List.length_take]; have h_ : (x5_1 : Int) ≤ (l0.length : Int) := dT asmT; omega)] <;> rfl) | rfl) ?_; (with_reducible refine (spec_l12Has.calls k1 _ _ (l0.take (x5_1 : Int).toNat) (rd l0 x5_1) false _ ?side1 ?side2 A9.out).mono ?_); (case side1 => repeat (first | exact HR330.out | (with_reducible refine Kd.C_alloc ?_ _) | (with_reducible refine Kd.C_drewN ?_ _) | (with_reducible refine Kd.C_drew ?_))); (case side2 => exact HC330.out); rintro e w' ⟨rfl, ⟨nd, rfl⟩⟩; (try first | exact ⟨rfl, _, World.drewN_drewN _ _ _⟩ | exact ⟨rfl, _, Eq.trans (World.drewN_drewN _ _ _) (congrArg (World.drewN _) (Nat.add_assoc _ _ _))⟩)))
         repeat (go_quiet (first | (go_at_call 101; refine calls_of_args (args' := #[.slice _ (l0.take (x5_1 : Int).toNat).length _, .int .i64 (rd l0 x5_1)]) (by first | (rw [show (l0.take (x5_1 : Int).toNat).length = x5_1.toNat from (by rw [List.length_take]; have h_ : (x5_1 : Int) ≤ (l0.length : Int) := dT asmT; omega)] <;> rfl) | rfl) ?_; (with_reducible refine (spec_l12Has.calls k1 _ _ (l0.take (x5_1 : Int).toNat) (rd l0 x5_1) false _ ?side1 ?side2 A9.out).mono ?_); (case side1 => repeat (first | exact HR330.out | (with_reducible refine Kd.C_alloc ?_ _) | (with_reducible refine Kd.C_drewN ?_ _) | (with_reducible refine Kd.C_drew ?_))); (case side2 => exact HC330.out); rintro e w' ⟨rfl, ⟨nd, rfl⟩⟩; (try first | exact ⟨rfl, _, World.drewN_drewN _ _ _⟩ | exact ⟨rfl, _, Eq.trans (World.drewN_drewN _ _ _) (congrArg (World.drewN _) (Nat.add_assoc _ _ _))⟩))); try go_wp2_with (first | (go_at_call 101; refine calls_of_args (args' := #[.slice _ (l0.take (x5_1 : Int).toNat).length _, .int .i64 (rd l0 x5_1)]) (by first | (rw [show (l0.take (x5_1 : Int).toNat).length = x5_1.toNat from (by rw [List.length_take]; have h_ : (x5_1 : Int) ≤ (l0.length : Int) := dT asmT; omega)] <;> rfl) | rfl) ?_; (with_reducible refine (spec_l12Has.calls k1 _ _ (l0.take (x5_1 : Int).toNat) (rd l0 x5_1) false _ ?side1 ?side2 A9.out).mono ?_); (case side1 => repeat (first | exact HR330.out | (with_reducible refine Kd.C_alloc ?_ _) | (with_reducible refine Kd.C_drewN ?_ _) | (with_reducible refine Kd.C_drew ?_))); (case side2 => exact HC330.out); rintro e w' ⟨rfl, ⟨nd, rfl⟩⟩; (try first | exact ⟨rfl, _, World.drewN_drewN _ _ _⟩ | exact ⟨rfl, _, Eq.trans (World.drewN_drewN _ _ _) (congrArg (World.drewN _) (Nat.add_assoc _ _ _))⟩))))
         go_roundg k1
         case measure => have := HK1.out; omega
         case rel => exact ⟨(wrap64 (x5_1 + 1)), rdT, H', ⟨by have := HK1.out; omega⟩, drT⟩
       ·rw [if_neg c8] at H
        exact absurd H (by simp)
    ·rw [if_neg c4] at H
     exact absurd H (by simp)
   ·rw [if_neg c3] at H
    have c3b0 : decide (x5_1 < (l0.length : Int)) = false := df c3
    clear c3; obtain ⟨t333, A13, H⟩ := be H
    by_cases c14 : t333 = true
    ·subst c14
     rw [if_pos rfl] at H; have H1 := H; clear H; have H := H1; clear H1
     obtain rfl := oI H
     go_wp2_with (first | (go_at_call 75; (with_reducible refine (spec_l1In.calls a1 1 5 true _ A13.out).mono ?_); rintro e w' ⟨rfl, ⟨nd, rfl⟩⟩; (try first | exact ⟨rfl, _, World.drewN_drewN _ _ _⟩ | exact ⟨rfl, _, Eq.trans (World.drewN_drewN _ _ _) (congrArg (World.drewN _) (Nat.add_assoc _ _ _))⟩)))
     repeat (go_quiet (first | (go_at_call 75; (with_reducible refine (spec_l1In.calls a1 1 5 true _ A13.out).mono ?_); rintro e w' ⟨rfl, ⟨nd, rfl⟩⟩; (try first | exact ⟨rfl, _, World.drewN_drewN _ _ _⟩ | exact ⟨rfl, _, Eq.trans (World.drewN_drewN _ _ _) (congrArg (World.drewN _) (Nat.add_assoc _ _ _))⟩))); try go_wp2_with (first | (go_at_call 75; (with_reducible refine (spec_l1In.calls a1 1 5 true _ A13.out).mono ?_); rintro e w' ⟨rfl, ⟨nd, rfl⟩⟩; (try first | exact ⟨rfl, _, World.drewN_drewN _ _ _⟩ | exact ⟨rfl, _, Eq.trans (World.drewN_drewN _ _ _) (congrArg (World.drewN _) (Nat.add_assoc _ _ _))⟩))))
     go_ret
     exact ⟨rdT, drT⟩
    ·replace c14 := eE c14
     subst c14; rw [if_neg nF] at H; have H1 := H; clear H; have H := H1; clear H1
     obtain rfl := oI H
     go_wp2_with (first | (go_at_call 75; (with_reducible refine (spec_l1In.calls a1 1 5 false _ A13.out).mono ?_); rintro e w' ⟨rfl, ⟨nd, rfl⟩⟩; (try first | exact ⟨rfl, _, World.drewN_drewN _ _ _⟩ | exact ⟨rfl, _, Eq.trans (World.drewN_drewN _ _ _) (congrArg (World.drewN _) (Nat.add_assoc _ _ _))⟩)))
     repeat (go_quiet (first | (go_at_call 75; (with_reducible refine (spec_l1In.calls a1 1 5 false _ A13.out).mono ?_); rintro e w' ⟨rfl, ⟨nd, rfl⟩⟩; (try first | exact ⟨rfl, _, World.drewN_drewN _ _ _⟩ | exact ⟨rfl, _, Eq.trans (World.drewN_drewN _ _ _) (congrArg (World.drewN _) (Nat.add_assoc _ _ _))⟩))); try go_wp2_with (first | (go_at_call 75; (with_reducible refine (spec_l1In.calls a1 1 5 false _ A13.out).mono ?_); rintro e w' ⟨rfl, ⟨nd, rfl⟩⟩; (try first | exact ⟨rfl, _, World.drewN_drewN _ _ _⟩ | exact ⟨rfl, _, Eq.trans (World.drewN_drewN _ _ _) (congrArg (World.drewN _) (Nat.add_assoc _ _ _))⟩))))
     go_ret
     exact ⟨rdT, drT⟩
end Go.Proofs.YtlmfpkiaikjlbaaGreat.PFnExactWinnersOf
