-- Made by gen.py (a program of this session) out of the translation; Lean checks it.
import Derived.Test.YtlmfpkiaikjlbaaGreatPFnExactOptimalOutputsx0
import Derived.Test.YtlmfpkiaikjlbaaGreatPFnExactOptimalOutputsx3
import Derived.Test.YtlmfpkiaikjlbaaGreatPFnExactOptimalOutputsx4
import Derived.Test.YtlmfpkiaikjlbaaGreatPFnExactOptimalOutputsx6
namespace Go.Proofs.YtlmfpkiaikjlbaaGreat.PFnExactOptimalOutputs
open Go.RowKit Go.Proofs.YtlmfpkiaikjlbaaGreatB Go.Proofs.YtlmfpkiaikjlbaaGreatW.PrintWords Go.Proofs.YtlmfpkiaikjlbaaGreatW.PrintLast Go.Proofs.YtlmfpkiaikjlbaaGreatW.PrintMore
attribute [local go_sem] max2_int min2_int max_two min_two max_three min_three max_four min_four   -- for this text's walks alone
set_option linter.unusedVariables false
set_option maxHeartbeats 8000000
set_option maxRecDepth 100000
set_option linter.unusedSimpArgs false
mutual
def spec_IsTableau.j0 : Nat → Bool → ByteArray → List ByteArray → List (S60) → List (List Int) → Option (Bool)
 | 0, _, _, _, _, _ => none
 | k + 1, x29, x313000, x313001, x313002, x313003 => if x29 = true then (some false) else (spec_IsTableau.l0 k 0 x313000 x313001 x313002 x313003)
def spec_IsTableau.l0 : Nat → Int → ByteArray → List ByteArray → List (S60) → List (List Int) → Option (Bool)
 | 0, _, _, _, _, _ => none
 | k + 1, x3, x313000, x313001, x313002, x313003 => if x3 < (x313002.length : Int) then (if 0 ≤ x3 then ((spec_InputOf.f k ((rd_T60 x313002 x3).f0)).bind fun t317 => (if t317.toList = x313000.toList then ((spec_IsCandidate.f k ((rd_T60 x313002 x3).f0)).bind fun t319 => (if t319 = true then (if x3 < (x313003.length : Int) then ((spec_ProfileOf.f k x313001 ((rd_T60 x313002 x3).f0)).bind fun t322 => ((spec_l11Same.f k (rd_L6 x313003 x3) t322).bind fun t325 => (if t325 = true then (spec_IsTableau.l0 k (wrap64 (x3 + 1)) x313000 x313001 x313002 x313003) else (some false)))) else (none)) else (some false))) else (some false))) else (none)) else (some true)
end
def spec_IsTableau.f (k : Nat) (a0_0 : ByteArray) (l0_1 : List ByteArray) (l0_2 : List (S60)) (l0_3 : List (List Int)) : Option (Bool) := (spec_AreConstraints.f k l0_1).bind fun t313 => (if t313 = true then ((spec_IsForm.f k a0_0).bind fun t314 => (if t314 = true then ((spec_l1In.f (l0_2.length : Int) 1 250).bind fun t315 => (if t315 = true then (spec_IsTableau.j0 k ((l0_3.length : Int) != (l0_2.length : Int)) a0_0 l0_1 l0_2 l0_3) else (spec_IsTableau.j0 k true a0_0 l0_1 l0_2 l0_3))) else (spec_IsTableau.j0 k true a0_0 l0_1 l0_2 l0_3))) else (spec_IsTableau.j0 k true a0_0 l0_1 l0_2 l0_3))
theorem spec_IsTableau.mono_l : ∀ k, (∀ y0 y1 y2 y3 y4, LeO (spec_IsTableau.j0 k y0 y1 y2 y3 y4) (spec_IsTableau.j0 (k + 1) y0 y1 y2 y3 y4)) ∧ (∀ y0 y1 y2 y3 y4, LeO (spec_IsTableau.l0 k y0 y1 y2 y3 y4) (spec_IsTableau.l0 (k + 1) y0 y1 y2 y3 y4))
 | 0 => ⟨fun _ _ _ _ _ r h => by simp [spec_IsTableau.j0] at h, fun _ _ _ _ _ r h => by simp [spec_IsTableau.l0] at h⟩
 | k + 1 => by
  obtain ⟨ih0, ih1⟩ := spec_IsTableau.mono_l k; refine ⟨?_, ?_⟩
  ·intro y0 y1 y2 y3 y4; unfold spec_IsTableau.j0
   with_reducible repeat' first | exact ih0 _ _ _ _ _ | exact ih1 _ _ _ _ _ | exact spec_AreConstraints.mono _ _ | exact spec_InputOf.mono _ _ | exact spec_IsCandidate.mono _ _ | exact spec_IsForm.mono _ _ | exact spec_ProfileOf.mono _ _ _ | exact spec_l11Same.mono _ _ _ | exact LeO.refl _ | exact LeO.none _ | refine LeO.ite ?_ ?_ | refine LeO.bind ?_ (fun _ => ?_)
  ·intro y0 y1 y2 y3 y4; unfold spec_IsTableau.l0
   with_reducible repeat' first | exact ih0 _ _ _ _ _ | exact ih1 _ _ _ _ _ | exact spec_AreConstraints.mono _ _ | exact spec_InputOf.mono _ _ | exact spec_IsCandidate.mono _ _ | exact spec_IsForm.mono _ _ | exact spec_ProfileOf.mono _ _ _ | exact spec_l11Same.mono _ _ _ | exact LeO.refl _ | exact LeO.none _ | refine LeO.ite ?_ ?_ | refine LeO.bind ?_ (fun _ => ?_)
theorem spec_IsTableau.mono : ∀ a0 a1 a2 a3 k, LeO (spec_IsTableau.f k a0 a1 a2 a3) (spec_IsTableau.f (k + 1) a0 a1 a2 a3) := by
 intro a0 a1 a2 a3 k; obtain ⟨ih0, ih1⟩ := spec_IsTableau.mono_l k; unfold spec_IsTableau.f
 with_reducible repeat' first | exact ih0 _ _ _ _ _ | exact ih1 _ _ _ _ _ | exact spec_AreConstraints.mono _ _ | exact spec_InputOf.mono _ _ | exact spec_IsCandidate.mono _ _ | exact spec_IsForm.mono _ _ | exact spec_ProfileOf.mono _ _ _ | exact spec_l11Same.mono _ _ _ | exact LeO.refl _ | exact LeO.none _ | refine LeO.ite ?_ ?_ | refine LeO.bind ?_ (fun _ => ?_)
def spec_IsTableau.T6 : Bool × List (List Nat × List Nat) := (true, [([], []), ([0], [0]), ([], []), ([1, 2], [1, 2]), ([3], [3]), ([4], [4]), ([], []), ([6], [6]), ([5, 7], [5, 7]), ([8, 5], [8]), ([9], [9]), ([10, 9], [9, 10]), ([9], [9]), ([11, 12, 9], [9, 11, 12]), ([13, 9], [9, 13]), ([14, 9, 9], [9, 14]), ([15, 9], [9, 15]), ([9, 16], [9, 16]), ([17, 15], [17]), ([18], [18]), ([19, 18], [18, 19]), ([18], [18]), ([20, 21, 18], [18, 20, 21]), ([22, 18], [18, 22]), ([18], [18]), ([24, 18], [18, 24]), ([18], [18]), ([26, 18], [18, 26]), ([18], [18]), ([27, 28, 18], [18, 27, 28]), ([29, 18], [18, 29]), ([25, 30, 18, 18], [18, 25, 30]), ([23, 31, 31, 18], [18, 23, 31]), ([32, 18], [18, 32]), ([18, 33], [18, 33])])
def spec_IsTableau.B6 : List Nat := [0, 1, 0, 7, 15, 31, 0, 64, 255, 511, 1023, 2047, 1023, 8191, 16383, 32767, 65535, 131071, 262143, 524287, 1048575, 524287, 4194303, 8388607, 524287, 17301503, 524287, 67633151, 524287, 470286335, 1007157247, 2131230719, 4294967295, 8589934591, 17179869183]
theorem spec_IsTableau.tab6 : rtab .any (opsOf Tryz.f53 6) = spec_IsTableau.T6 := by kernel_rfl
theorem spec_IsTableau.bits6 : waitsOk spec_IsTableau.T6.2 spec_IsTableau.B6 = true := by kernel_rfl
theorem spec_IsTableau.calls (k : Nat) (a0_0 : ByteArray) (A0_1 : Option Addr) (c0_1 : Nat) (l0_1 : List ByteArray) (A0_2 : Option Addr) (c0_2 : Nat) (l0_2 : List (S60)) (A0_3 : Option Addr) (c0_3 : Nat) (l0_3 : List (List Int)) (r : Bool) (w : World) (hr0_1 : Kd.C Kd.string w A0_1 l0_1.length l0_1) (hc0_1 : l0_1.length ≤ c0_1) (hr0_2 : Kd.C k60 w A0_2 l0_2.length l0_2) (hc0_2 : l0_2.length ≤ c0_2) (hr0_3 : Kd.C (Kd.slice 3 (Kd.int .i64)) w A0_3 l0_3.length l0_3) (hc0_3 : l0_3.length ≤ c0_3) (h : spec_IsTableau.f k a0_0 l0_1 l0_2 l0_3 = some r) :
  Calls Tryz.prog 53 #[.agg #[.string a0_0, .slice A0_1 l0_1.length c0_1, .slice A0_2 l0_2.length c0_2, .slice A0_3 l0_3.length c0_3]] w fun e w' => e = .returned (.bool r) ∧ Below w.heap.size w w' := by
 have hu27 := Tryz.underlying27; have hu60 := Tryz.underlying60; have HR0_1 := asT hr0_1; have HC0_1 := asT hc0_1; clear hr0_1 hc0_1; have HR0_2 := asT hr0_2; have HC0_2 := asT hc0_2; clear hr0_2 hc0_2; have HR0_3 := asT hr0_3; have HC0_3 := asT hc0_3; clear hr0_3 hc0_3; have HB := asT (Below.refl w.heap.size w); have H := h; unfold spec_IsTableau.f at H; clear h; have HC2 := asT H; clear H; go_enter Tryz.func53, Tryz.ntmps53
 go_upto_region 1 with (first | ((with_reducible refine gate_dst (N := 1) rfl ?_); (try (refine gate_guard (by rfl) ?_; dsimp only)); refine boxT (N := 1) (cs := #[.string a0_0, .slice A0_1 l0_1.length c0_1, .slice A0_2 l0_2.length c0_2, .slice A0_3 l0_3.length c0_3]) (t := 27) ?_; intro gb312 hg w3 hbox hb; have BK312 := asT hbox; have GW312 := asT (geT hg HB.out); have GE312 := GW312; replace HB := hS HB hb; clear hb hbox hg))
 (try simp only [Act.put, sA, sZ, sS])
 go_cut [29] (fun v29 wc => ∃ (kq : Nat) (x29_1 : Bool), v29 = .bool x29_1 ∧ Aside0 (spec_IsTableau.j0 kq x29_1 a0_0 l0_1 l0_2 l0_3 = some r) ∧ Aside0 (kq ≤ k) ∧ Aside0 (wc.heap[gb312]? = some (.cells #[.string a0_0, (.slice A0_1 l0_1.length c0_1), (.slice A0_2 l0_2.length c0_2), (.slice A0_3 l0_3.length c0_3)] 27 (0, 0))) ∧ Aside0 (Below w.heap.size w wc))
 case first =>
  have H := HC2.out; clear HC2; obtain ⟨t313, A4, H⟩ := be H; by_cases c5 : t313 = true
  ·subst c5; rw [if_pos rfl] at H; obtain ⟨t314, A6, H⟩ := be H; by_cases c7 : t314 = true
   ·subst c7; rw [if_pos rfl] at H; obtain ⟨t315, A8, H⟩ := be H; by_cases c9 : t315 = true
    ·subst c9; rw [if_pos rfl] at H; have H' := asT H; clear H; obtain ⟨hcz10_0, hcz10_1, hcz10_2, hcz10_3, hfz10_0, hfz10_1, hfz10_2, hfz10_3⟩ := bx4 BK312.out
     go_wp2_with (first | ((with_reducible refine gate_callee (f := 35) rfl ?_); refine goesL_ (some 6) rfl rfl Tryz.func35 (by kernel_rfl) rfl #[.slice A0_1 l0_1.length c0_1] rfl eqT ?_; (with_reducible refine (spec_AreConstraints.calls k _ _ l0_1 true _ ?side1 ?side2 A4.out).mono ?_); (case side1 => exact crT HR0_1.out HB.out); (case side2 => exact HC0_1.out); rintro e w11 ⟨rfl, hb⟩; refine ⟨_, rfl, ?_⟩; replace BK312 := bS BK312 hb; replace HB := hS HB hb; (try clear hb hb2 hk hi); obtain ⟨hcz12_0, hcz12_1, hcz12_2, hcz12_3, hfz12_0, hfz12_1, hfz12_2, hfz12_3⟩ := bx4 BK312.out) | (go_at_call 36; (with_reducible refine (spec_IsForm.calls k a0_0 true _ A6.out).mono ?_); rintro e w' ⟨rfl, ⟨nd, rfl⟩⟩) | (go_at_call 75; (with_reducible refine (spec_l1In.calls (l0_2.length : Int) 1 250 true _ A8.out).mono ?_); rintro e w' ⟨rfl, ⟨nd, rfl⟩⟩))
     go_meet
     case rel => exact ⟨_, (((l0_3.length : Int) != (l0_2.length : Int))), rdT, H', ⟨by first | omega | exact Nat.le_refl _⟩, kpT BK312.out, ⟨hbT HB.out⟩⟩
    ·replace c9 := eE c9; subst c9; rw [if_neg nF] at H; have H' := asT H; clear H; obtain ⟨hcz13_0, hcz13_1, hcz13_2, hcz13_3, hfz13_0, hfz13_1, hfz13_2, hfz13_3⟩ := bx4 BK312.out
     go_wp2_with (first | ((with_reducible refine gate_callee (f := 35) rfl ?_); refine goesL_ (some 6) rfl rfl Tryz.func35 (by kernel_rfl) rfl #[.slice A0_1 l0_1.length c0_1] rfl eqT ?_; (with_reducible refine (spec_AreConstraints.calls k _ _ l0_1 true _ ?side1 ?side2 A4.out).mono ?_); (case side1 => exact crT HR0_1.out HB.out); (case side2 => exact HC0_1.out); rintro e w14 ⟨rfl, hb⟩; refine ⟨_, rfl, ?_⟩; replace BK312 := bS BK312 hb; replace HB := hS HB hb; (try clear hb hb2 hk hi); obtain ⟨hcz15_0, hcz15_1, hcz15_2, hcz15_3, hfz15_0, hfz15_1, hfz15_2, hfz15_3⟩ := bx4 BK312.out) | (go_at_call 36; (with_reducible refine (spec_IsForm.calls k a0_0 true _ A6.out).mono ?_); rintro e w' ⟨rfl, ⟨nd, rfl⟩⟩) | (go_at_call 75; (with_reducible refine (spec_l1In.calls (l0_2.length : Int) 1 250 false _ A8.out).mono ?_); rintro e w' ⟨rfl, ⟨nd, rfl⟩⟩))
     go_meet
     case rel => exact ⟨_, (true), rdT, H', ⟨by first | omega | exact Nat.le_refl _⟩, kpT BK312.out, ⟨hbT HB.out⟩⟩
   ·replace c7 := eE c7; subst c7; rw [if_neg nF] at H; have H' := asT H; clear H; obtain ⟨hcz16_0, hcz16_1, hcz16_2, hcz16_3, hfz16_0, hfz16_1, hfz16_2, hfz16_3⟩ := bx4 BK312.out
    go_wp2_with (first | ((with_reducible refine gate_callee (f := 35) rfl ?_); refine goesL_ (some 6) rfl rfl Tryz.func35 (by kernel_rfl) rfl #[.slice A0_1 l0_1.length c0_1] rfl eqT ?_; (with_reducible refine (spec_AreConstraints.calls k _ _ l0_1 true _ ?side1 ?side2 A4.out).mono ?_); (case side1 => exact crT HR0_1.out HB.out); (case side2 => exact HC0_1.out); rintro e w17 ⟨rfl, hb⟩; refine ⟨_, rfl, ?_⟩; replace BK312 := bS BK312 hb; replace HB := hS HB hb; (try clear hb hb2 hk hi); obtain ⟨hcz18_0, hcz18_1, hcz18_2, hcz18_3, hfz18_0, hfz18_1, hfz18_2, hfz18_3⟩ := bx4 BK312.out) | (go_at_call 36; (with_reducible refine (spec_IsForm.calls k a0_0 false _ A6.out).mono ?_); rintro e w' ⟨rfl, ⟨nd, rfl⟩⟩))
    go_meet
    case rel => exact ⟨_, (true), rdT, H', ⟨by first | omega | exact Nat.le_refl _⟩, kpT BK312.out, ⟨hbT HB.out⟩⟩
  ·replace c5 := eE c5; subst c5; rw [if_neg nF] at H; have H' := asT H; clear H; obtain ⟨hcz19_0, hcz19_1, hcz19_2, hcz19_3, hfz19_0, hfz19_1, hfz19_2, hfz19_3⟩ := bx4 BK312.out
   go_wp2_with (first | ((with_reducible refine gate_callee (f := 35) rfl ?_); refine goesL_ (some 6) rfl rfl Tryz.func35 (by kernel_rfl) rfl #[.slice A0_1 l0_1.length c0_1] rfl eqT ?_; (with_reducible refine (spec_AreConstraints.calls k _ _ l0_1 false _ ?side1 ?side2 A4.out).mono ?_); (case side1 => exact crT HR0_1.out HB.out); (case side2 => exact HC0_1.out); rintro e w20 ⟨rfl, hb⟩; refine ⟨_, rfl, ?_⟩; replace BK312 := bS BK312 hb; replace HB := hS HB hb; (try clear hb hb2 hk hi)))
   go_meet
   case rel => exact ⟨_, (true), rdT, H', ⟨by first | omega | exact Nat.le_refl _⟩, kpT BK312.out, ⟨hbT HB.out⟩⟩
 case rest =>
  clear HC2; (try clear p2 c3 c5 c7 c9 hcz10_0 hcz10_1 hcz10_2 hcz10_3 hcz12_0 hcz12_1 hcz12_2 hcz12_3 hcz13_0 hcz13_1 hcz13_2 hcz13_3 hcz15_0 hcz15_1 hcz15_2 hcz15_3 hcz16_0 hcz16_1 hcz16_2 hcz16_3 hcz18_0 hcz18_1 hcz18_2 hcz18_3 hcz19_0 hcz19_1 hcz19_2 hcz19_3 hfz10_0 hfz10_1 hfz10_2 hfz10_3 hfz12_0 hfz12_1 hfz12_2 hfz12_3 hfz13_0 hfz13_1 hfz13_2 hfz13_3 hfz15_0 hfz15_1 hfz15_2 hfz15_3 hfz16_0 hfz16_1 hfz16_2 hfz16_3 hfz18_0 hfz18_1 hfz18_2 hfz18_3 hfz19_0 hfz19_1 hfz19_2 hfz19_3); obtain ⟨kq, x29_1, rfl, HA, HJ1, BK312, HB⟩ := hcut
  cases kq with
  | zero => exact absurd HA.out (by simp [spec_IsTableau.j0])
  | succ kj1 =>
   have H := HA.out; clear HA
   simp only [spec_IsTableau.j0] at H
   by_cases c21 : x29_1 = true
   ·subst c21; rw [if_pos rfl] at H; have H1 := H; clear H; have H := H1; clear H1; obtain rfl := oI H
    go_wp2
    go_ret; exact ⟨rlT, hbT HB.out⟩
   ·replace c21 := eE c21; subst c21; rw [if_neg nF] at H; have H' := asT H; clear H
    go_wp2
    go_loopg [3] kj1 (fun kq v3 w' => ∃ (x3_2 : Int), v3 = .int .i64 x3_2 ∧ Aside0 (spec_IsTableau.l0 kq x3_2 a0_0 l0_1 l0_2 l0_3 = some r) ∧ Aside0 (kq ≤ kj1) ∧ Aside0 (w'.heap[gb312]? = some (.cells #[.string a0_0, (.slice A0_1 l0_1.length c0_1), (.slice A0_2 l0_2.length c0_2), (.slice A0_3 l0_3.length c0_3)] 27 (0, 0))) ∧ Aside0 (Below w.heap.size w w'))
    case atStart => exact ⟨(0), rdT, H', ⟨Nat.le_refl _⟩, kpT BK312.out, ⟨hbT HB.out⟩⟩
    case round =>
     clear H'; (try clear c2 p2 c3 c5 c7 c9 c21 hcz10_0 hcz10_1 hcz10_2 hcz10_3 hcz12_0 hcz12_1 hcz12_2 hcz12_3 hcz13_0 hcz13_1 hcz13_2 hcz13_3 hcz15_0 hcz15_1 hcz15_2 hcz15_3 hcz16_0 hcz16_1 hcz16_2 hcz16_3 hcz18_0 hcz18_1 hcz18_2 hcz18_3 hcz19_0 hcz19_1 hcz19_2 hcz19_3 hfz10_0 hfz10_1 hfz10_2 hfz10_3 hfz12_0 hfz12_1 hfz12_2 hfz12_3 hfz13_0 hfz13_1 hfz13_2 hfz13_3 hfz15_0 hfz15_1 hfz15_2 hfz15_3 hfz16_0 hfz16_1 hfz16_2 hfz16_3 hfz18_0 hfz18_1 hfz18_2 hfz18_3 hfz19_0 hfz19_1 hfz19_2 hfz19_3 p2); obtain ⟨x3_2, rfl, HA, HK2, BK312, HB⟩ := hrel
     cases gk with
     | zero => exact absurd HA.out (by simp [spec_IsTableau.l0])
     | succ k2 =>
      have H := HA.out; clear HA
      simp only [spec_IsTableau.l0] at H
      by_cases c22 : x3_2 < (l0_2.length : Int)
      ·rw [if_pos c22] at H; have c22b0 := dt c22; clear c22; by_cases c23 : 0 ≤ x3_2
       ·rw [if_pos c23] at H; have c23b0 := dt c23; clear c23; obtain ⟨t317, A24, H⟩ := be H; by_cases c25 : t317.toList = a0_0.toList
        ·rw [if_pos c25] at H; have c25b0 : (t317.toList == a0_0.toList) = true := eC c25; have c25b1 : (t317.toList != a0_0.toList) = false := eA c25; clear c25; obtain ⟨t319, A26, H⟩ := be H; by_cases c27 : t319 = true
         ·subst c27; rw [if_pos rfl] at H; have H1 := H; clear H; have H := H1; clear H1; by_cases c28 : x3_2 < (l0_3.length : Int)
          ·rw [if_pos c28] at H; have c28b0 := dt c28; clear c28; obtain ⟨t322, A29, H⟩ := be H; obtain ⟨t325, A30, H⟩ := be H; by_cases c31 : t325 = true
           ·subst c31; rw [if_pos rfl] at H; have H' := asT H; clear H; obtain ⟨hcz32_0, hcz32_1, hcz32_2, hcz32_3, hfz32_0, hfz32_1, hfz32_2, hfz32_3⟩ := bx4 BK312.out
            try go_wp2
            replace BK312 := asT (blk_drew BK312.out); replace HB := asT (below_drew1 HB.out); have p316 : 0 ≤ (x3_2 : Int) := dT asmT; have q316 : x3_2 < (l0_2.length : Int) := dT asmT; obtain ⟨ad316, A316_0, c316_0, e316, hx316_0, hl316_0, hi316_0⟩ := at_T60 HR0_2.out x3_2 p316 q316; have hw316_0 := hx316_0
            cases e316
            replace hx316_0 := hbc HB.out hx316_0; have HR316_0 := asT hi316_0; have HC316_0 := asT hl316_0; clear hi316_0 hl316_0; replace p316 := eq_true p316; replace q316 := eq_true q316; have p318 : 0 ≤ (x3_2 : Int) := dT asmT; have q318 : x3_2 < (l0_2.length : Int) := dT asmT; obtain ⟨ad318, A318_0, c318_0, e318, hx318_0, hl318_0, hi318_0⟩ := at_T60 HR0_2.out x3_2 p318 q318; have hw318_0 := hx318_0; obtain rfl : ad316 = ad318 := (by injection e318); obtain ⟨rfl, rfl⟩ : A316_0 = A318_0 ∧ c316_0 = c318_0 := sameT hw316_0 hw318_0; replace hx318_0 := hbc HB.out hx318_0; have HR318_0 := asT hi318_0; have HC318_0 := asT hl318_0; clear hi318_0 hl318_0; replace p318 := eq_true p318; replace q318 := eq_true q318; have p320 : 0 ≤ (x3_2 : Int) := dT asmT; have q320 : x3_2 < (l0_3.length : Int) := dT asmT; obtain ⟨ad320, A320_0, c320_0, e320, hx320_0, hl320_0, hi320_0⟩ := at_L6 HR0_3.out x3_2 p320 q320; have hw320_0 := hx320_0
            cases e320
            replace hx320_0 := hbc HB.out hx320_0; have HR320_0 := asT hi320_0; have HC320_0 := asT hl320_0; clear hi320_0 hl320_0; replace p320 := eq_true p320; replace q320 := eq_true q320; have p321 : 0 ≤ (x3_2 : Int) := dT asmT; have q321 : x3_2 < (l0_2.length : Int) := dT asmT; obtain ⟨ad321, A321_0, c321_0, e321, hx321_0, hl321_0, hi321_0⟩ := at_T60 HR0_2.out x3_2 p321 q321; have hw321_0 := hx321_0; obtain rfl : ad316 = ad321 := (by injection e321); obtain ⟨rfl, rfl⟩ : A316_0 = A321_0 ∧ c316_0 = c321_0 := sameT hw316_0 hw321_0; replace hx321_0 := hbc HB.out hx321_0; have HR321_0 := asT hi321_0; have HC321_0 := asT hl321_0; clear hi321_0 hl321_0; replace p321 := eq_true p321; replace q321 := eq_true q321; refine start_ (n := 35) (S := fun w' => w'.cell? ⟨gb312, 0, none⟩ = some (.string a0_0) ∧ w'.cell? ⟨gb312, 1, none⟩ = some (.slice A0_1 l0_1.length c0_1) ∧ w'.cell? ⟨gb312, 2, none⟩ = some (.slice (some ad316) l0_2.length c0_2) ∧ w'.cell? ⟨gb312, 3, none⟩ = some (.slice (some ad320) l0_3.length c0_3) ∧ w'.cell? (ad316.add (x3_2).toNat) = some (.slice A316_0 ((rd_T60 l0_2 x3_2).f0).length c316_0) ∧ w'.cell? (ad316.add (x3_2).toNat) = some (.slice A316_0 ((rd_T60 l0_2 x3_2).f0).length c316_0) ∧ w'.cell? (ad320.add (x3_2).toNat) = some (.slice A320_0 (rd_L6 l0_3 x3_2).length c320_0) ∧ w'.cell? (ad316.add (x3_2).toNat) = some (.slice A316_0 ((rd_T60 l0_2 x3_2).f0).length c316_0)) (ds := []) (bA 35 0) (by kernel_rfl) rfl rfl ⟨bc0 BK312.out, bc1 BK312.out, bc2 BK312.out, bc3 BK312.out, (hbc HB.out hw316_0 :), (hbc HB.out hw318_0 :), (hbc HB.out hw320_0 :), (hbc HB.out hw321_0 :)⟩ (fun hHeld => ?_); refine with_tabW spec_IsTableau.tab6 spec_IsTableau.bits6 (fun HT_ HW_ => ?_); generalize wr.drew = w33 at BK312 HB HR316_0 HR318_0 HR320_0 HR321_0 hx316_0 hx318_0 hx320_0 hx321_0 hHeld ⊢; refine pA 0 37 35 1 HT_.out ?_ rfl rfl; refine pA 2 39 35 5 HT_.out ?_ rfl rfl; refine pA 6 43 35 69 HT_.out ?_ rfl rfl; refine tA 1 38 35 71 HT_.out HW_.out hHeld ?_ rfl rfl; refine pA 3 40 35 79 HT_.out ?_ rfl rfl; refine tA 4 41 35 95 HT_.out HW_.out hHeld ?_ rfl rfl; refine tA 7 44 35 223 HT_.out HW_.out hHeld ?_ rfl rfl; refine oA 5 42 35 255 HT_.out (fun K hK => ?_) rfl rfl; refine goes_ Tryz.func92 (by kernel_rfl) rfl #[.agg #[.slice A316_0 ((rd_T60 l0_2 x3_2).f0).length c316_0]] (by rfl) rfl rfl eqT ?_
            (with_reducible refine (spec_InputOf.calls k2 _ _ ((rd_T60 l0_2 x3_2).f0) t317 _ ?side1 ?side2 A24.out).mono ?_); (case side1 => exact crT HR316_0.out HB.out); (case side2 => exact HC316_0.out); rintro e w34 ⟨rfl, hb⟩; refine ⟨_, rfl, ?_⟩; replace BK312 := bS BK312 hb; replace HB := hS HB hb; (try clear hb hb2 hk hi)
            refine hK.out _ _ ⟨bc0 BK312.out, bc1 BK312.out, bc2 BK312.out, bc3 BK312.out, (hbc HB.out hw316_0 :), (hbc HB.out hw318_0 :), (hbc HB.out hw320_0 :), (hbc HB.out hw321_0 :)⟩ (fun hHeld => ?_); clear hK K; refine nB 42 ?_ rfl; refine pA 8 45 35 511 HT_.out ?_ rfl rfl; refine pA 9 46 35 1023 HT_.out ?_ rfl rfl; refine pA 10 47 35 2047 HT_.out ?_ rfl rfl; refine pA 12 49 35 6143 HT_.out ?_ rfl rfl; refine tA 11 48 35 8191 HT_.out HW_.out hHeld ?_ rfl rfl; refine pA 13 50 35 16383 HT_.out ?_ rfl rfl; refine tA 14 51 35 32767 HT_.out HW_.out hHeld ?_ rfl rfl; refine oA 15 52 35 65535 HT_.out (fun K hK => ?_) rfl rfl; refine goes_ Tryz.func78 (by kernel_rfl) rfl #[.agg #[.slice A316_0 ((rd_T60 l0_2 x3_2).f0).length c316_0]] (by rfl) rfl rfl eqT ?_
            (with_reducible refine (spec_IsCandidate.calls k2 _ _ ((rd_T60 l0_2 x3_2).f0) true _ ?side1 ?side2 A26.out).mono ?_); (case side1 => exact crT HR318_0.out HB.out); (case side2 => exact HC318_0.out); rintro e w35 ⟨rfl, hb⟩; refine ⟨_, rfl, ?_⟩; replace BK312 := bS BK312 hb; replace HB := hS HB hb; (try clear hb hb2 hk hi)
            refine hK.out _ _ ⟨bc0 BK312.out, bc1 BK312.out, bc2 BK312.out, bc3 BK312.out, (hbc HB.out hw316_0 :), (hbc HB.out hw318_0 :), (hbc HB.out hw320_0 :), (hbc HB.out hw321_0 :)⟩ (fun hHeld => ?_); clear hK K; refine nB 52 ?_ rfl; refine pA 16 53 35 131071 HT_.out ?_ rfl rfl; refine pA 17 54 35 262143 HT_.out ?_ rfl rfl; refine pA 18 55 35 524287 HT_.out ?_ rfl rfl; refine pA 19 56 35 1048575 HT_.out ?_ rfl rfl; refine pA 21 58 35 3145727 HT_.out ?_ rfl rfl; refine pA 24 61 35 19922943 HT_.out ?_ rfl rfl; refine pA 26 63 35 87031807 HT_.out ?_ rfl rfl; refine pA 28 65 35 355467263 HT_.out ?_ rfl rfl; refine tA 20 57 35 356515839 HT_.out HW_.out hHeld ?_ rfl rfl; refine pA 22 59 35 360710143 HT_.out ?_ rfl rfl; refine tA 23 60 35 369098751 HT_.out HW_.out hHeld ?_ rfl rfl; refine tA 25 62 35 402653183 HT_.out HW_.out hHeld ?_ rfl rfl; refine tA 27 64 35 536870911 HT_.out HW_.out hHeld ?_ rfl rfl; refine pA 29 66 35 1073741823 HT_.out ?_ rfl rfl; refine tA 30 67 35 2147483647 HT_.out HW_.out hHeld ?_ rfl rfl; refine oA 31 68 35 4294967295 HT_.out (fun K hK => ?_) rfl rfl; refine goes_ Tryz.func38 (by kernel_rfl) rfl #[.slice A0_1 l0_1.length c0_1, .agg #[.slice A316_0 ((rd_T60 l0_2 x3_2).f0).length c316_0]] (by rfl) rfl rfl eqT ?_
            (with_reducible refine (spec_ProfileOf.calls k2 _ _ l0_1 _ _ ((rd_T60 l0_2 x3_2).f0) t322 _ ?side1 ?side2 ?side3 ?side4 A29.out).mono ?_); (case side1 => exact crT HR0_1.out HB.out); (case side2 => exact HC0_1.out); (case side3 => exact crT HR321_0.out HB.out); (case side4 => exact HC321_0.out); rintro e w36 ⟨v323, rfl, ho0, hb⟩; refine ⟨_, rfl, ?_⟩; have HO324 := asT (Kd.R_lower ho0 (below_size (hbT HB.out))); replace BK312 := bS BK312 hb; replace HB := hS HB hb; (try clear hb hb2 hk hi ho0); obtain ⟨Ao37, co37, eo37⟩ := Kd.R_slice HO324.out; (first | subst eo37 | (injection eo37 with f1_ f2_ f3_; have f4_ := f1_.symm; have f5_ := f3_.symm; clear f1_ f2_ f3_; subst f4_; subst f5_))
            refine hK.out _ _ ⟨bc0 BK312.out, bc1 BK312.out, bc2 BK312.out, bc3 BK312.out, (hbc HB.out hw316_0 :), (hbc HB.out hw318_0 :), (hbc HB.out hw320_0 :), (hbc HB.out hw321_0 :)⟩ (fun hHeld => ?_); clear hK K; refine nB 68 ?_ rfl; refine oA 32 69 35 8589934591 HT_.out (fun K hK => ?_) rfl rfl; refine goes_ Tryz.func54 (by kernel_rfl) rfl #[.slice A320_0 (rd_L6 l0_3 x3_2).length c320_0, .slice Ao37 t322.length co37] (by rfl) rfl rfl eqT ?_
            (with_reducible refine (spec_l11Same.calls k2 _ _ (rd_L6 l0_3 x3_2) _ _ t322 true _ ?side1 ?side2 ?side3 ?side4 A30.out).mono ?_); (case side1 => exact crT HR320_0.out HB.out); (case side2 => exact HC320_0.out); (case side3 => exact caT (Kd.R_reads' HO324.out).2.2); (case side4 => exact (Kd.R_reads' HO324.out).2.1); rintro e w' ⟨rfl, ⟨nd, rfl⟩⟩; refine ⟨_, rfl, ?_⟩
            refine hK.out _ _ ⟨bc0 BK312.out, bc1 BK312.out, bc2 BK312.out, bc3 BK312.out, (hbc HB.out hw316_0 :), (hbc HB.out hw318_0 :), (hbc HB.out hw320_0 :), (hbc HB.out hw321_0 :)⟩ (fun hHeld => ?_); clear hK K; refine nB 69 ?_ rfl; refine pA 33 70 35 17179869183 HT_.out ?_ rfl rfl; refine pA 34 71 35 34359738367 HT_.out ?_ rfl rfl; refine done_ (done_of HT_.out (by kernel_rfl)) ?_
            try go_wp2
            go_roundg k2
            case measure => have := HJ1.out; have := HK2.out; omega
            case rel => exact ⟨(wrap64 (x3_2 + 1)), rdT, H', ⟨by have := HJ1.out; have := HK2.out; omega⟩, kpT BK312.out, ⟨hbT HB.out⟩⟩
           ·replace c31 := eE c31; subst c31; rw [if_neg nF] at H; have H1 := H; clear H; have H := H1; clear H1; obtain rfl := oI H; obtain ⟨hcz38_0, hcz38_1, hcz38_2, hcz38_3, hfz38_0, hfz38_1, hfz38_2, hfz38_3⟩ := bx4 BK312.out
            try go_wp2
            replace BK312 := asT (blk_drew BK312.out); replace HB := asT (below_drew1 HB.out); have p316 : 0 ≤ (x3_2 : Int) := dT asmT; have q316 : x3_2 < (l0_2.length : Int) := dT asmT; obtain ⟨ad316, A316_0, c316_0, e316, hx316_0, hl316_0, hi316_0⟩ := at_T60 HR0_2.out x3_2 p316 q316; have hw316_0 := hx316_0
            cases e316
            replace hx316_0 := hbc HB.out hx316_0; have HR316_0 := asT hi316_0; have HC316_0 := asT hl316_0; clear hi316_0 hl316_0; replace p316 := eq_true p316; replace q316 := eq_true q316; have p318 : 0 ≤ (x3_2 : Int) := dT asmT; have q318 : x3_2 < (l0_2.length : Int) := dT asmT; obtain ⟨ad318, A318_0, c318_0, e318, hx318_0, hl318_0, hi318_0⟩ := at_T60 HR0_2.out x3_2 p318 q318; have hw318_0 := hx318_0; obtain rfl : ad316 = ad318 := (by injection e318); obtain ⟨rfl, rfl⟩ : A316_0 = A318_0 ∧ c316_0 = c318_0 := sameT hw316_0 hw318_0; replace hx318_0 := hbc HB.out hx318_0; have HR318_0 := asT hi318_0; have HC318_0 := asT hl318_0; clear hi318_0 hl318_0; replace p318 := eq_true p318; replace q318 := eq_true q318; have p320 : 0 ≤ (x3_2 : Int) := dT asmT; have q320 : x3_2 < (l0_3.length : Int) := dT asmT; obtain ⟨ad320, A320_0, c320_0, e320, hx320_0, hl320_0, hi320_0⟩ := at_L6 HR0_3.out x3_2 p320 q320; have hw320_0 := hx320_0
            cases e320
            replace hx320_0 := hbc HB.out hx320_0; have HR320_0 := asT hi320_0; have HC320_0 := asT hl320_0; clear hi320_0 hl320_0; replace p320 := eq_true p320; replace q320 := eq_true q320; have p321 : 0 ≤ (x3_2 : Int) := dT asmT; have q321 : x3_2 < (l0_2.length : Int) := dT asmT; obtain ⟨ad321, A321_0, c321_0, e321, hx321_0, hl321_0, hi321_0⟩ := at_T60 HR0_2.out x3_2 p321 q321; have hw321_0 := hx321_0; obtain rfl : ad316 = ad321 := (by injection e321); obtain ⟨rfl, rfl⟩ : A316_0 = A321_0 ∧ c316_0 = c321_0 := sameT hw316_0 hw321_0; replace hx321_0 := hbc HB.out hx321_0; have HR321_0 := asT hi321_0; have HC321_0 := asT hl321_0; clear hi321_0 hl321_0; replace p321 := eq_true p321; replace q321 := eq_true q321; refine start_ (n := 35) (S := fun w' => w'.cell? ⟨gb312, 0, none⟩ = some (.string a0_0) ∧ w'.cell? ⟨gb312, 1, none⟩ = some (.slice A0_1 l0_1.length c0_1) ∧ w'.cell? ⟨gb312, 2, none⟩ = some (.slice (some ad316) l0_2.length c0_2) ∧ w'.cell? ⟨gb312, 3, none⟩ = some (.slice (some ad320) l0_3.length c0_3) ∧ w'.cell? (ad316.add (x3_2).toNat) = some (.slice A316_0 ((rd_T60 l0_2 x3_2).f0).length c316_0) ∧ w'.cell? (ad316.add (x3_2).toNat) = some (.slice A316_0 ((rd_T60 l0_2 x3_2).f0).length c316_0) ∧ w'.cell? (ad320.add (x3_2).toNat) = some (.slice A320_0 (rd_L6 l0_3 x3_2).length c320_0) ∧ w'.cell? (ad316.add (x3_2).toNat) = some (.slice A316_0 ((rd_T60 l0_2 x3_2).f0).length c316_0)) (ds := []) (bA 35 0) (by kernel_rfl) rfl rfl ⟨bc0 BK312.out, bc1 BK312.out, bc2 BK312.out, bc3 BK312.out, (hbc HB.out hw316_0 :), (hbc HB.out hw318_0 :), (hbc HB.out hw320_0 :), (hbc HB.out hw321_0 :)⟩ (fun hHeld => ?_); refine with_tabW spec_IsTableau.tab6 spec_IsTableau.bits6 (fun HT_ HW_ => ?_); generalize wr.drew = w39 at BK312 HB HR316_0 HR318_0 HR320_0 HR321_0 hx316_0 hx318_0 hx320_0 hx321_0 hHeld ⊢; refine pA 0 37 35 1 HT_.out ?_ rfl rfl; refine pA 2 39 35 5 HT_.out ?_ rfl rfl; refine pA 6 43 35 69 HT_.out ?_ rfl rfl; refine tA 1 38 35 71 HT_.out HW_.out hHeld ?_ rfl rfl; refine pA 3 40 35 79 HT_.out ?_ rfl rfl; refine tA 4 41 35 95 HT_.out HW_.out hHeld ?_ rfl rfl; refine tA 7 44 35 223 HT_.out HW_.out hHeld ?_ rfl rfl; refine oA 5 42 35 255 HT_.out (fun K hK => ?_) rfl rfl; refine goes_ Tryz.func92 (by kernel_rfl) rfl #[.agg #[.slice A316_0 ((rd_T60 l0_2 x3_2).f0).length c316_0]] (by rfl) rfl rfl eqT ?_
            (with_reducible refine (spec_InputOf.calls k2 _ _ ((rd_T60 l0_2 x3_2).f0) t317 _ ?side1 ?side2 A24.out).mono ?_); (case side1 => exact crT HR316_0.out HB.out); (case side2 => exact HC316_0.out); rintro e w40 ⟨rfl, hb⟩; refine ⟨_, rfl, ?_⟩; replace BK312 := bS BK312 hb; replace HB := hS HB hb; (try clear hb hb2 hk hi)
            refine hK.out _ _ ⟨bc0 BK312.out, bc1 BK312.out, bc2 BK312.out, bc3 BK312.out, (hbc HB.out hw316_0 :), (hbc HB.out hw318_0 :), (hbc HB.out hw320_0 :), (hbc HB.out hw321_0 :)⟩ (fun hHeld => ?_); clear hK K; refine nB 42 ?_ rfl; refine pA 8 45 35 511 HT_.out ?_ rfl rfl; refine pA 9 46 35 1023 HT_.out ?_ rfl rfl; refine pA 10 47 35 2047 HT_.out ?_ rfl rfl; refine pA 12 49 35 6143 HT_.out ?_ rfl rfl; refine tA 11 48 35 8191 HT_.out HW_.out hHeld ?_ rfl rfl; refine pA 13 50 35 16383 HT_.out ?_ rfl rfl; refine tA 14 51 35 32767 HT_.out HW_.out hHeld ?_ rfl rfl; refine oA 15 52 35 65535 HT_.out (fun K hK => ?_) rfl rfl; refine goes_ Tryz.func78 (by kernel_rfl) rfl #[.agg #[.slice A316_0 ((rd_T60 l0_2 x3_2).f0).length c316_0]] (by rfl) rfl rfl eqT ?_
            (with_reducible refine (spec_IsCandidate.calls k2 _ _ ((rd_T60 l0_2 x3_2).f0) true _ ?side1 ?side2 A26.out).mono ?_); (case side1 => exact crT HR318_0.out HB.out); (case side2 => exact HC318_0.out); rintro e w41 ⟨rfl, hb⟩; refine ⟨_, rfl, ?_⟩; replace BK312 := bS BK312 hb; replace HB := hS HB hb; (try clear hb hb2 hk hi)
            refine hK.out _ _ ⟨bc0 BK312.out, bc1 BK312.out, bc2 BK312.out, bc3 BK312.out, (hbc HB.out hw316_0 :), (hbc HB.out hw318_0 :), (hbc HB.out hw320_0 :), (hbc HB.out hw321_0 :)⟩ (fun hHeld => ?_); clear hK K; refine nB 52 ?_ rfl; refine pA 16 53 35 131071 HT_.out ?_ rfl rfl; refine pA 17 54 35 262143 HT_.out ?_ rfl rfl; refine pA 18 55 35 524287 HT_.out ?_ rfl rfl; refine pA 19 56 35 1048575 HT_.out ?_ rfl rfl; refine pA 21 58 35 3145727 HT_.out ?_ rfl rfl; refine pA 24 61 35 19922943 HT_.out ?_ rfl rfl; refine pA 26 63 35 87031807 HT_.out ?_ rfl rfl; refine pA 28 65 35 355467263 HT_.out ?_ rfl rfl; refine tA 20 57 35 356515839 HT_.out HW_.out hHeld ?_ rfl rfl; refine pA 22 59 35 360710143 HT_.out ?_ rfl rfl; refine tA 23 60 35 369098751 HT_.out HW_.out hHeld ?_ rfl rfl; refine tA 25 62 35 402653183 HT_.out HW_.out hHeld ?_ rfl rfl; refine tA 27 64 35 536870911 HT_.out HW_.out hHeld ?_ rfl rfl; refine pA 29 66 35 1073741823 HT_.out ?_ rfl rfl; refine tA 30 67 35 2147483647 HT_.out HW_.out hHeld ?_ rfl rfl; refine oA 31 68 35 4294967295 HT_.out (fun K hK => ?_) rfl rfl; refine goes_ Tryz.func38 (by kernel_rfl) rfl #[.slice A0_1 l0_1.length c0_1, .agg #[.slice A316_0 ((rd_T60 l0_2 x3_2).f0).length c316_0]] (by rfl) rfl rfl eqT ?_
            (with_reducible refine (spec_ProfileOf.calls k2 _ _ l0_1 _ _ ((rd_T60 l0_2 x3_2).f0) t322 _ ?side1 ?side2 ?side3 ?side4 A29.out).mono ?_); (case side1 => exact crT HR0_1.out HB.out); (case side2 => exact HC0_1.out); (case side3 => exact crT HR321_0.out HB.out); (case side4 => exact HC321_0.out); rintro e w42 ⟨v323, rfl, ho0, hb⟩; refine ⟨_, rfl, ?_⟩; have HO324 := asT (Kd.R_lower ho0 (below_size (hbT HB.out))); replace BK312 := bS BK312 hb; replace HB := hS HB hb; (try clear hb hb2 hk hi ho0); obtain ⟨Ao43, co43, eo43⟩ := Kd.R_slice HO324.out; (first | subst eo43 | (injection eo43 with f1_ f2_ f3_; have f4_ := f1_.symm; have f5_ := f3_.symm; clear f1_ f2_ f3_; subst f4_; subst f5_))
            refine hK.out _ _ ⟨bc0 BK312.out, bc1 BK312.out, bc2 BK312.out, bc3 BK312.out, (hbc HB.out hw316_0 :), (hbc HB.out hw318_0 :), (hbc HB.out hw320_0 :), (hbc HB.out hw321_0 :)⟩ (fun hHeld => ?_); clear hK K; refine nB 68 ?_ rfl; refine oA 32 69 35 8589934591 HT_.out (fun K hK => ?_) rfl rfl; refine goes_ Tryz.func54 (by kernel_rfl) rfl #[.slice A320_0 (rd_L6 l0_3 x3_2).length c320_0, .slice Ao43 t322.length co43] (by rfl) rfl rfl eqT ?_
            (with_reducible refine (spec_l11Same.calls k2 _ _ (rd_L6 l0_3 x3_2) _ _ t322 false _ ?side1 ?side2 ?side3 ?side4 A30.out).mono ?_); (case side1 => exact crT HR320_0.out HB.out); (case side2 => exact HC320_0.out); (case side3 => exact caT (Kd.R_reads' HO324.out).2.2); (case side4 => exact (Kd.R_reads' HO324.out).2.1); rintro e w' ⟨rfl, ⟨nd, rfl⟩⟩; refine ⟨_, rfl, ?_⟩
            refine hK.out _ _ ⟨bc0 BK312.out, bc1 BK312.out, bc2 BK312.out, bc3 BK312.out, (hbc HB.out hw316_0 :), (hbc HB.out hw318_0 :), (hbc HB.out hw320_0 :), (hbc HB.out hw321_0 :)⟩ (fun hHeld => ?_); clear hK K; refine nB 69 ?_ rfl; refine pA 33 70 35 17179869183 HT_.out ?_ rfl rfl; refine pA 34 71 35 34359738367 HT_.out ?_ rfl rfl; refine done_ (done_of HT_.out (by kernel_rfl)) ?_
            try go_wp2
            go_ret; exact ⟨rlT, hbT HB.out⟩
          ·rw [if_neg c28] at H; exact absurd H (by simp)
         ·replace c27 := eE c27; subst c27; rw [if_neg nF] at H; have H1 := H; clear H; have H := H1; clear H1; obtain rfl := oI H; obtain ⟨hcz44_0, hcz44_1, hcz44_2, hcz44_3, hfz44_0, hfz44_1, hfz44_2, hfz44_3⟩ := bx4 BK312.out
          try go_wp2
          replace BK312 := asT (blk_drew BK312.out); replace HB := asT (below_drew1 HB.out); have p316 : 0 ≤ (x3_2 : Int) := dT asmT; have q316 : x3_2 < (l0_2.length : Int) := dT asmT; obtain ⟨ad316, A316_0, c316_0, e316, hx316_0, hl316_0, hi316_0⟩ := at_T60 HR0_2.out x3_2 p316 q316; have hw316_0 := hx316_0
          cases e316
          replace hx316_0 := hbc HB.out hx316_0; have HR316_0 := asT hi316_0; have HC316_0 := asT hl316_0; clear hi316_0 hl316_0; replace p316 := eq_true p316; replace q316 := eq_true q316; have p318 : 0 ≤ (x3_2 : Int) := dT asmT; have q318 : x3_2 < (l0_2.length : Int) := dT asmT; obtain ⟨ad318, A318_0, c318_0, e318, hx318_0, hl318_0, hi318_0⟩ := at_T60 HR0_2.out x3_2 p318 q318; have hw318_0 := hx318_0; obtain rfl : ad316 = ad318 := (by injection e318); obtain ⟨rfl, rfl⟩ : A316_0 = A318_0 ∧ c316_0 = c318_0 := sameT hw316_0 hw318_0; replace hx318_0 := hbc HB.out hx318_0; have HR318_0 := asT hi318_0; have HC318_0 := asT hl318_0; clear hi318_0 hl318_0; replace p318 := eq_true p318; replace q318 := eq_true q318; refine start_ (n := 35) (S := fun w' => w'.cell? ⟨gb312, 0, none⟩ = some (.string a0_0) ∧ w'.cell? ⟨gb312, 1, none⟩ = some (.slice A0_1 l0_1.length c0_1) ∧ w'.cell? ⟨gb312, 2, none⟩ = some (.slice (some ad316) l0_2.length c0_2) ∧ w'.cell? ⟨gb312, 3, none⟩ = some (.slice A0_3 l0_3.length c0_3) ∧ w'.cell? (ad316.add (x3_2).toNat) = some (.slice A316_0 ((rd_T60 l0_2 x3_2).f0).length c316_0) ∧ w'.cell? (ad316.add (x3_2).toNat) = some (.slice A316_0 ((rd_T60 l0_2 x3_2).f0).length c316_0)) (ds := []) (bA 35 0) (by kernel_rfl) rfl rfl ⟨bc0 BK312.out, bc1 BK312.out, bc2 BK312.out, bc3 BK312.out, (hbc HB.out hw316_0 :), (hbc HB.out hw318_0 :)⟩ (fun hHeld => ?_); refine with_tabW spec_IsTableau.tab6 spec_IsTableau.bits6 (fun HT_ HW_ => ?_); generalize wr.drew = w45 at BK312 HB HR316_0 HR318_0 hx316_0 hx318_0 hHeld ⊢; refine pA 0 37 35 1 HT_.out ?_ rfl rfl; refine pA 2 39 35 5 HT_.out ?_ rfl rfl; refine pA 6 43 35 69 HT_.out ?_ rfl rfl; refine tA 1 38 35 71 HT_.out HW_.out hHeld ?_ rfl rfl; refine pA 3 40 35 79 HT_.out ?_ rfl rfl; refine tA 4 41 35 95 HT_.out HW_.out hHeld ?_ rfl rfl; refine tA 7 44 35 223 HT_.out HW_.out hHeld ?_ rfl rfl; refine oA 5 42 35 255 HT_.out (fun K hK => ?_) rfl rfl; refine goes_ Tryz.func92 (by kernel_rfl) rfl #[.agg #[.slice A316_0 ((rd_T60 l0_2 x3_2).f0).length c316_0]] (by rfl) rfl rfl eqT ?_
          (with_reducible refine (spec_InputOf.calls k2 _ _ ((rd_T60 l0_2 x3_2).f0) t317 _ ?side1 ?side2 A24.out).mono ?_); (case side1 => exact crT HR316_0.out HB.out); (case side2 => exact HC316_0.out); rintro e w46 ⟨rfl, hb⟩; refine ⟨_, rfl, ?_⟩; replace BK312 := bS BK312 hb; replace HB := hS HB hb; (try clear hb hb2 hk hi)
          refine hK.out _ _ ⟨bc0 BK312.out, bc1 BK312.out, bc2 BK312.out, bc3 BK312.out, (hbc HB.out hw316_0 :), (hbc HB.out hw318_0 :)⟩ (fun hHeld => ?_); clear hK K; refine nB 42 ?_ rfl; refine pA 8 45 35 511 HT_.out ?_ rfl rfl; refine pA 9 46 35 1023 HT_.out ?_ rfl rfl; refine pA 10 47 35 2047 HT_.out ?_ rfl rfl; refine pA 12 49 35 6143 HT_.out ?_ rfl rfl; refine tA 11 48 35 8191 HT_.out HW_.out hHeld ?_ rfl rfl; refine pA 13 50 35 16383 HT_.out ?_ rfl rfl; refine tA 14 51 35 32767 HT_.out HW_.out hHeld ?_ rfl rfl; refine oA 15 52 35 65535 HT_.out (fun K hK => ?_) rfl rfl; refine goes_ Tryz.func78 (by kernel_rfl) rfl #[.agg #[.slice A316_0 ((rd_T60 l0_2 x3_2).f0).length c316_0]] (by rfl) rfl rfl eqT ?_
          (with_reducible refine (spec_IsCandidate.calls k2 _ _ ((rd_T60 l0_2 x3_2).f0) false _ ?side1 ?side2 A26.out).mono ?_); (case side1 => exact crT HR318_0.out HB.out); (case side2 => exact HC318_0.out); rintro e w47 ⟨rfl, hb⟩; refine ⟨_, rfl, ?_⟩; replace BK312 := bS BK312 hb; replace HB := hS HB hb; (try clear hb hb2 hk hi)
          refine hK.out _ _ ⟨bc0 BK312.out, bc1 BK312.out, bc2 BK312.out, bc3 BK312.out, (hbc HB.out hw316_0 :), (hbc HB.out hw318_0 :)⟩ (fun hHeld => ?_); clear hK K; refine nB 52 ?_ rfl; refine pA 16 53 35 131071 HT_.out ?_ rfl rfl; refine pA 17 54 35 262143 HT_.out ?_ rfl rfl; refine pA 18 55 35 524287 HT_.out ?_ rfl rfl; refine uA 19 56 35 1048575 HT_.out ?_ rfl rfl; refine uA 20 57 35 2097151 HT_.out ?_ rfl rfl; refine uA 21 58 35 4194303 HT_.out ?_ rfl rfl; refine uA 22 59 35 8388607 HT_.out ?_ rfl rfl; refine uA 23 60 35 16777215 HT_.out ?_ rfl rfl; refine uA 24 61 35 33554431 HT_.out ?_ rfl rfl; refine uA 25 62 35 67108863 HT_.out ?_ rfl rfl; refine uA 26 63 35 134217727 HT_.out ?_ rfl rfl; refine uA 27 64 35 268435455 HT_.out ?_ rfl rfl; refine uA 28 65 35 536870911 HT_.out ?_ rfl rfl; refine uA 29 66 35 1073741823 HT_.out ?_ rfl rfl; refine uA 30 67 35 2147483647 HT_.out ?_ rfl rfl; refine uA 31 68 35 4294967295 HT_.out ?_ rfl rfl; refine uA 32 69 35 8589934591 HT_.out ?_ rfl rfl; refine uA 33 70 35 17179869183 HT_.out ?_ rfl rfl; refine pA 34 71 35 34359738367 HT_.out ?_ rfl rfl; refine done_ (done_of HT_.out (by kernel_rfl)) ?_
          try go_wp2
          go_ret; exact ⟨rlT, hbT HB.out⟩
        ·rw [if_neg c25] at H; have c25b0 : (t317.toList == a0_0.toList) = false := eB c25; have c25b1 : (t317.toList != a0_0.toList) = true := eD c25; obtain rfl := oI H; obtain ⟨hcz48_0, hcz48_1, hcz48_2, hcz48_3, hfz48_0, hfz48_1, hfz48_2, hfz48_3⟩ := bx4 BK312.out
         try go_wp2
         replace BK312 := asT (blk_drew BK312.out); replace HB := asT (below_drew1 HB.out); have p316 : 0 ≤ (x3_2 : Int) := dT asmT; have q316 : x3_2 < (l0_2.length : Int) := dT asmT; obtain ⟨ad316, A316_0, c316_0, e316, hx316_0, hl316_0, hi316_0⟩ := at_T60 HR0_2.out x3_2 p316 q316; have hw316_0 := hx316_0
         cases e316
         replace hx316_0 := hbc HB.out hx316_0; have HR316_0 := asT hi316_0; have HC316_0 := asT hl316_0; clear hi316_0 hl316_0; replace p316 := eq_true p316; replace q316 := eq_true q316; refine start_ (n := 35) (S := fun w' => w'.cell? ⟨gb312, 0, none⟩ = some (.string a0_0) ∧ w'.cell? ⟨gb312, 1, none⟩ = some (.slice A0_1 l0_1.length c0_1) ∧ w'.cell? ⟨gb312, 2, none⟩ = some (.slice (some ad316) l0_2.length c0_2) ∧ w'.cell? ⟨gb312, 3, none⟩ = some (.slice A0_3 l0_3.length c0_3) ∧ w'.cell? (ad316.add (x3_2).toNat) = some (.slice A316_0 ((rd_T60 l0_2 x3_2).f0).length c316_0)) (ds := []) (bA 35 0) (by kernel_rfl) rfl rfl ⟨bc0 BK312.out, bc1 BK312.out, bc2 BK312.out, bc3 BK312.out, (hbc HB.out hw316_0 :)⟩ (fun hHeld => ?_); refine with_tabW spec_IsTableau.tab6 spec_IsTableau.bits6 (fun HT_ HW_ => ?_); generalize wr.drew = w49 at BK312 HB HR316_0 hx316_0 hHeld ⊢; refine pA 0 37 35 1 HT_.out ?_ rfl rfl; refine pA 2 39 35 5 HT_.out ?_ rfl rfl; refine pA 6 43 35 69 HT_.out ?_ rfl rfl; refine tA 1 38 35 71 HT_.out HW_.out hHeld ?_ rfl rfl; refine pA 3 40 35 79 HT_.out ?_ rfl rfl; refine tA 4 41 35 95 HT_.out HW_.out hHeld ?_ rfl rfl; refine tA 7 44 35 223 HT_.out HW_.out hHeld ?_ rfl rfl; refine oA 5 42 35 255 HT_.out (fun K hK => ?_) rfl rfl; refine goes_ Tryz.func92 (by kernel_rfl) rfl #[.agg #[.slice A316_0 ((rd_T60 l0_2 x3_2).f0).length c316_0]] (by rfl) rfl rfl eqT ?_
         (with_reducible refine (spec_InputOf.calls k2 _ _ ((rd_T60 l0_2 x3_2).f0) t317 _ ?side1 ?side2 A24.out).mono ?_); (case side1 => exact crT HR316_0.out HB.out); (case side2 => exact HC316_0.out); rintro e w50 ⟨rfl, hb⟩; refine ⟨_, rfl, ?_⟩; replace BK312 := bS BK312 hb; replace HB := hS HB hb; (try clear hb hb2 hk hi)
         refine hK.out _ _ ⟨bc0 BK312.out, bc1 BK312.out, bc2 BK312.out, bc3 BK312.out, (hbc HB.out hw316_0 :)⟩ (fun hHeld => ?_); clear hK K; refine nB 42 ?_ rfl; refine pA 8 45 35 511 HT_.out ?_ rfl rfl; refine pA 9 46 35 1023 HT_.out ?_ rfl rfl; refine uA 10 47 35 2047 HT_.out ?_ rfl rfl; refine uA 11 48 35 4095 HT_.out ?_ rfl rfl; refine uA 12 49 35 8191 HT_.out ?_ rfl rfl; refine uA 13 50 35 16383 HT_.out ?_ rfl rfl; refine uA 14 51 35 32767 HT_.out ?_ rfl rfl; refine uA 15 52 35 65535 HT_.out ?_ rfl rfl; refine uA 16 53 35 131071 HT_.out ?_ rfl rfl; refine pA 17 54 35 262143 HT_.out ?_ rfl rfl; refine pA 18 55 35 524287 HT_.out ?_ rfl rfl; refine uA 19 56 35 1048575 HT_.out ?_ rfl rfl; refine uA 20 57 35 2097151 HT_.out ?_ rfl rfl; refine uA 21 58 35 4194303 HT_.out ?_ rfl rfl; refine uA 22 59 35 8388607 HT_.out ?_ rfl rfl; refine uA 23 60 35 16777215 HT_.out ?_ rfl rfl; refine uA 24 61 35 33554431 HT_.out ?_ rfl rfl; refine uA 25 62 35 67108863 HT_.out ?_ rfl rfl; refine uA 26 63 35 134217727 HT_.out ?_ rfl rfl; refine uA 27 64 35 268435455 HT_.out ?_ rfl rfl; refine uA 28 65 35 536870911 HT_.out ?_ rfl rfl; refine uA 29 66 35 1073741823 HT_.out ?_ rfl rfl; refine uA 30 67 35 2147483647 HT_.out ?_ rfl rfl; refine uA 31 68 35 4294967295 HT_.out ?_ rfl rfl; refine uA 32 69 35 8589934591 HT_.out ?_ rfl rfl; refine uA 33 70 35 17179869183 HT_.out ?_ rfl rfl; refine pA 34 71 35 34359738367 HT_.out ?_ rfl rfl; refine done_ (done_of HT_.out (by kernel_rfl)) ?_
         try go_wp2
         go_ret; exact ⟨rlT, hbT HB.out⟩
       ·rw [if_neg c23] at H; exact absurd H (by simp)
      ·rw [if_neg c22] at H; have c22b0 := df c22; clear c22; obtain rfl := oI H; obtain ⟨hcz51_0, hcz51_1, hcz51_2, hcz51_3, hfz51_0, hfz51_1, hfz51_2, hfz51_3⟩ := bx4 BK312.out
       go_wp2
       go_ret; exact ⟨rlT, hbT HB.out⟩
def spec_l12Has.l0 : Nat → List Int → Int → Int → Option (Bool)
 | 0, _, _, _ => none
 | k + 1, x0, x1, x5 => if x5 < (x0.length : Int) then (if 0 ≤ x5 then (if (rd x0 x5) = x1 then (some true) else (spec_l12Has.l0 k x0 x1 (wrap64 (x5 + 1)))) else (none)) else (some false)
def spec_l12Has.f (k : Nat) (l0 : List Int) (a1 : Int) : Option (Bool) := spec_l12Has.l0 k l0 a1 0
theorem spec_l12Has.mono_l : ∀ k, (∀ y0 y1 y2, LeO (spec_l12Has.l0 k y0 y1 y2) (spec_l12Has.l0 (k + 1) y0 y1 y2))
 | 0 => fun _ _ _ r h => by simp [spec_l12Has.l0] at h
 | k + 1 => by
  have ih0 := spec_l12Has.mono_l k
  ·intro y0 y1 y2; unfold spec_l12Has.l0
   with_reducible repeat' first | exact ih0 _ _ _ | exact LeO.refl _ | exact LeO.none _ | refine LeO.ite ?_ ?_ | refine LeO.bind ?_ (fun _ => ?_)
theorem spec_l12Has.mono : ∀ a0 a1 k, LeO (spec_l12Has.f k a0 a1) (spec_l12Has.f (k + 1) a0 a1) := by
 intro a0 a1 k; have ih0 := spec_l12Has.mono_l k; unfold spec_l12Has.f
 with_reducible repeat' first | exact ih0 _ _ _ | exact LeO.refl _ | exact LeO.none _ | refine LeO.ite ?_ ?_ | refine LeO.bind ?_ (fun _ => ?_)
theorem spec_l12Has.calls (k : Nat) (A0 : Option Addr) (c0 : Nat) (l0 : List Int) (a1 : Int) (r : Bool) (w : World) (hr0 : Kd.C (Kd.int .i64) w A0 l0.length l0) (hc0 : l0.length ≤ c0) (h : spec_l12Has.f k l0 a1 = some r) :
  Calls Tryz.prog 101 #[.slice A0 l0.length c0, .int .i64 a1] w fun e w' => e = .returned (.bool r) ∧ Drawn0 w w' := by
 have HR0 := asT hr0; have HC0 := asT hc0; clear hr0 hc0; have H := h; unfold spec_l12Has.f at H; clear h; have H' := asT H; clear H; go_enter Tryz.func101, Tryz.ntmps101
 go_wp2
 go_loopg [5] k (fun kq v5 w' => ∃ (x5_1 : Int), v5 = .int .i64 x5_1 ∧ Aside0 (spec_l12Has.l0 kq l0 a1 x5_1 = some r) ∧ Aside0 (kq ≤ k) ∧ Drawn0 w w')
 case atStart => exact ⟨(0), rdT, H', ⟨Nat.le_refl _⟩, drT⟩
 case round =>
  clear H'; (try clear c1 p2); obtain ⟨x5_1, rfl, HA, HK1, ⟨m1, rfl⟩⟩ := hrel
  cases gk with
  | zero => exact absurd HA.out (by simp [spec_l12Has.l0])
  | succ k1 =>
   have H := HA.out; clear HA
   simp only [spec_l12Has.l0] at H
   by_cases c3 : x5_1 < (l0.length : Int)
   ·rw [if_pos c3] at H; have c3b0 := dt c3; clear c3; by_cases c4 : 0 ≤ x5_1
    ·rw [if_pos c4] at H; have c4b0 := dt c4; clear c4; by_cases c5 : (rd l0 x5_1) = a1
     ·rw [if_pos c5] at H; have c5b0 : ((rd l0 x5_1) == a1) = true := eC c5; have c5b1 : ((rd l0 x5_1) != a1) = false := eA c5; clear c5; obtain rfl := oI H; have p326 : 0 ≤ (x5_1 : Int) := dT asmT; have q326 : x5_1 < (l0.length : Int) := dT asmT; obtain ⟨ad326, e326, hx326_0⟩ := Kd.at_int HR0.out x5_1 p326 q326
      cases e326
      replace p326 := eq_true p326; replace q326 := eq_true q326
      go_wp2
      go_ret; exact ⟨rdT, drT⟩
     ·rw [if_neg c5] at H; have c5b0 : ((rd l0 x5_1) == a1) = false := eB c5; have c5b1 : ((rd l0 x5_1) != a1) = true := eD c5; have H' := asT H; clear H; have p326 : 0 ≤ (x5_1 : Int) := dT asmT; have q326 : x5_1 < (l0.length : Int) := dT asmT; obtain ⟨ad326, e326, hx326_0⟩ := Kd.at_int HR0.out x5_1 p326 q326
      cases e326
      replace p326 := eq_true p326; replace q326 := eq_true q326
      go_wp2
      go_roundg k1
      case measure => have := HK1.out; omega
      case rel => exact ⟨(wrap64 (x5_1 + 1)), rdT, H', ⟨by have := HK1.out; omega⟩, drT⟩
    ·rw [if_neg c4] at H; exact absurd H (by simp)
   ·rw [if_neg c3] at H; have c3b0 := df c3; clear c3; obtain rfl := oI H
    go_wp2
    go_ret; exact ⟨rdT, drT⟩
def spec_IsRanking.l0 : Nat → List Int → Int → Int → Option (Bool)
 | 0, _, _, _ => none
 | k + 1, x0, x1, x5 => if x5 < (x0.length : Int) then (if 0 ≤ x5 then (if (rd x0 x5) < 0 then (some false) else (if (rd x0 x5) ≥ x1 then (some false) else (if x5 ≤ (x0.length : Int) then ((spec_l12Has.f k (x0.take (x5 : Int).toNat) (rd x0 x5)).bind fun t331 => (if t331 = true then (some false) else (spec_IsRanking.l0 k x0 x1 (wrap64 (x5 + 1))))) else (none)))) else (none)) else ((spec_l1In.f x1 1 5).bind fun t332 => (if t332 = true then (some ((x0.length : Int) == x1)) else (some false)))
def spec_IsRanking.f (k : Nat) (l0 : List Int) (a1 : Int) : Option (Bool) := spec_IsRanking.l0 k l0 a1 0
theorem spec_IsRanking.mono_l : ∀ k, (∀ y0 y1 y2, LeO (spec_IsRanking.l0 k y0 y1 y2) (spec_IsRanking.l0 (k + 1) y0 y1 y2))
 | 0 => fun _ _ _ r h => by simp [spec_IsRanking.l0] at h
 | k + 1 => by
  have ih0 := spec_IsRanking.mono_l k
  ·intro y0 y1 y2; unfold spec_IsRanking.l0
   with_reducible repeat' first | exact ih0 _ _ _ | exact spec_l12Has.mono _ _ _ | exact LeO.refl _ | exact LeO.none _ | refine LeO.ite ?_ ?_ | refine LeO.bind ?_ (fun _ => ?_)
theorem spec_IsRanking.mono : ∀ a0 a1 k, LeO (spec_IsRanking.f k a0 a1) (spec_IsRanking.f (k + 1) a0 a1) := by
 intro a0 a1 k; have ih0 := spec_IsRanking.mono_l k; unfold spec_IsRanking.f
 with_reducible repeat' first | exact ih0 _ _ _ | exact spec_l12Has.mono _ _ _ | exact LeO.refl _ | exact LeO.none _ | refine LeO.ite ?_ ?_ | refine LeO.bind ?_ (fun _ => ?_)
theorem spec_IsRanking.calls (k : Nat) (A0 : Option Addr) (c0 : Nat) (l0 : List Int) (a1 : Int) (r : Bool) (w : World) (hr0 : Kd.C (Kd.int .i64) w A0 l0.length l0) (hc0 : l0.length ≤ c0) (h : spec_IsRanking.f k l0 a1 = some r) :
  Calls Tryz.prog 67 #[.slice A0 l0.length c0, .int .i64 a1] w fun e w' => e = .returned (.bool r) ∧ Drawn0 w w' := by
 have HR0 := asT hr0; have HC0 := asT hc0; clear hr0 hc0; have H := h; unfold spec_IsRanking.f at H; clear h; have H' := asT H; clear H; go_enter Tryz.func67, Tryz.ntmps67
 go_wp2
 repeat (go_quiet (fail); try go_wp2)
 go_loopg [5] k (fun kq v5 w' => ∃ (x5_1 : Int), v5 = .int .i64 x5_1 ∧ Aside0 (spec_IsRanking.l0 kq l0 a1 x5_1 = some r) ∧ Aside0 (kq ≤ k) ∧ Drawn0 w w')
 case atStart => exact ⟨(0), rdT, H', ⟨Nat.le_refl _⟩, drT⟩
 case round =>
  clear H'; (try clear p2); obtain ⟨x5_1, rfl, HA, HK1, ⟨m1, rfl⟩⟩ := hrel
  cases gk with
  | zero => exact absurd HA.out (by simp [spec_IsRanking.l0])
  | succ k1 =>
   have H := HA.out; clear HA
   simp only [spec_IsRanking.l0] at H
   by_cases c3 : x5_1 < (l0.length : Int)
   ·rw [if_pos c3] at H; have c3b0 := dt c3; clear c3; by_cases c4 : 0 ≤ x5_1
    ·rw [if_pos c4] at H; have c4b0 := dt c4; clear c4; by_cases c5 : (rd l0 x5_1) < 0
     ·rw [if_pos c5] at H; have c5b0 := dt c5; clear c5; obtain rfl := oI H; have p327 : 0 ≤ (x5_1 : Int) := dT asmT; have q327 : x5_1 < (l0.length : Int) := dT asmT; obtain ⟨ad327, e327, hx327_0⟩ := Kd.at_int HR0.out x5_1 p327 q327
      cases e327
      replace p327 := eq_true p327; replace q327 := eq_true q327
      go_wp2
      repeat (go_quiet (fail); try go_wp2)
      go_ret; exact ⟨rdT, drT⟩
     ·rw [if_neg c5] at H; have c5b0 := df c5; clear c5; by_cases c6 : (rd l0 x5_1) ≥ a1
      ·rw [if_pos c6] at H; have c6b0 : decide (a1 ≤ (rd l0 x5_1)) = true := dt c6; clear c6; obtain rfl := oI H; have p327 : 0 ≤ (x5_1 : Int) := dT asmT; have q327 : x5_1 < (l0.length : Int) := dT asmT; obtain ⟨ad327, e327, hx327_0⟩ := Kd.at_int HR0.out x5_1 p327 q327
       cases e327
       replace p327 := eq_true p327; replace q327 := eq_true q327; have p328 : 0 ≤ (x5_1 : Int) := dT asmT; have q328 : x5_1 < (l0.length : Int) := dT asmT; obtain ⟨ad328, e328, hx328_0⟩ := Kd.at_int HR0.out x5_1 p328 q328; obtain rfl : ad327 = ad328 := (by injection e328); replace p328 := eq_true p328; replace q328 := eq_true q328
       go_wp2
       repeat (go_quiet (fail); try go_wp2)
       go_ret; exact ⟨rdT, drT⟩
      ·rw [if_neg c6] at H; have c6b0 : decide (a1 ≤ (rd l0 x5_1)) = false := df c6; clear c6; have c7b0 := eq_true (dT asmT : 0 ≤ x5_1); by_cases c8 : x5_1 ≤ (l0.length : Int)
       ·rw [if_pos c8] at H; have c8b0 := eq_true c8; have c8b1 : decide (x5_1 ≤ (l0.length : Int)) = true := dt c8; clear c8; obtain ⟨t331, A9, H⟩ := be H; by_cases c10 : t331 = true
        ·subst c10; rw [if_pos rfl] at H; have H1 := H; clear H; have H := H1; clear H1; obtain rfl := oI H; have p327 : 0 ≤ (x5_1 : Int) := dT asmT; have q327 : x5_1 < (l0.length : Int) := dT asmT; obtain ⟨ad327, e327, hx327_0⟩ := Kd.at_int HR0.out x5_1 p327 q327
         cases e327
         replace p327 := eq_true p327; replace q327 := eq_true q327; have p328 : 0 ≤ (x5_1 : Int) := dT asmT; have q328 : x5_1 < (l0.length : Int) := dT asmT; obtain ⟨ad328, e328, hx328_0⟩ := Kd.at_int HR0.out x5_1 p328 q328; obtain rfl : ad327 = ad328 := (by injection e328); replace p328 := eq_true p328; replace q328 := eq_true q328; obtain ⟨i011, hi011, _, hsz11, _⟩ := info_parts info3; obtain ⟨hcut11, hA11, hC11⟩ := print_take_of (P := Tryz.prog) (Value.int .i64) 0 39 3 .i64 Tryz.underlying39 hi011 hsz11 (some ad327) c0 l0 x5_1 (dT asmT) (dT asmT) HC0.out; have HR329 := asT (Kd.C_of_reads (h1 := fun _ => rfl) (hA11 _ (Kd.reads_of_C HR0.out))); have HC329 := asT hC11; clear hA11 hC11 hi011 hsz11; have p330 : 0 ≤ (x5_1 : Int) := dT asmT; have q330 : x5_1 < (l0.length : Int) := dT asmT; obtain ⟨ad330, e330, hx330_0⟩ := Kd.at_int HR0.out x5_1 p330 q330; obtain rfl : ad327 = ad330 := (by injection e330); replace p330 := eq_true p330; replace q330 := eq_true q330
         go_wp2_with (first | (go_at_call 101; refine calls_of_args (args' := #[.slice _ (l0.take (x5_1 : Int).toNat).length _, .int .i64 (rd l0 x5_1)]) (by first | (rw [show (l0.take (x5_1 : Int).toNat).length = x5_1.toNat from (by rw [List.length_take]; have h_ : (x5_1 : Int) ≤ (l0.length : Int) := dT asmT; omega)] <;> rfl) | rfl) ?_; (with_reducible refine (spec_l12Has.calls k1 _ _ (l0.take (x5_1 : Int).toNat) (rd l0 x5_1) true _ ?side1 ?side2 A9.out).mono ?_); (case side1 => exact caT HR329.out); (case side2 => exact HC329.out); rintro e w' ⟨rfl, ⟨nd, rfl⟩⟩; (try first | exact ⟨rfl, _, World.drewN_drewN _ _ _⟩ | exact ⟨rfl, _, Eq.trans (World.drewN_drewN _ _ _) (congrArg (World.drewN _) (Nat.add_assoc _ _ _))⟩)))
         repeat (go_quiet (first | (go_at_call 101; refine calls_of_args (args' := #[.slice _ (l0.take (x5_1 : Int).toNat).length _, .int .i64 (rd l0 x5_1)]) (by first | (rw [show (l0.take (x5_1 : Int).toNat).length = x5_1.toNat from (by rw [List.length_take]; have h_ : (x5_1 : Int) ≤ (l0.length : Int) := dT asmT; omega)] <;> rfl) | rfl) ?_; (with_reducible refine (spec_l12Has.calls k1 _ _ (l0.take (x5_1 : Int).toNat) (rd l0 x5_1) true _ ?side1 ?side2 A9.out).mono ?_); (case side1 => exact caT HR329.out); (case side2 => exact HC329.out); rintro e w' ⟨rfl, ⟨nd, rfl⟩⟩; (try first | exact ⟨rfl, _, World.drewN_drewN _ _ _⟩ | exact ⟨rfl, _, Eq.trans (World.drewN_drewN _ _ _) (congrArg (World.drewN _) (Nat.add_assoc _ _ _))⟩))); try go_wp2_with (first | (go_at_call 101; refine calls_of_args (args' := #[.slice _ (l0.take (x5_1 : Int).toNat).length _, .int .i64 (rd l0 x5_1)]) (by first | (rw [show (l0.take (x5_1 : Int).toNat).length = x5_1.toNat from (by rw [List.length_take]; have h_ : (x5_1 : Int) ≤ (l0.length : Int) := dT asmT; omega)] <;> rfl) | rfl) ?_; (with_reducible refine (spec_l12Has.calls k1 _ _ (l0.take (x5_1 : Int).toNat) (rd l0 x5_1) true _ ?side1 ?side2 A9.out).mono ?_); (case side1 => exact caT HR329.out); (case side2 => exact HC329.out); rintro e w' ⟨rfl, ⟨nd, rfl⟩⟩; (try first | exact ⟨rfl, _, World.drewN_drewN _ _ _⟩ | exact ⟨rfl, _, Eq.trans (World.drewN_drewN _ _ _) (congrArg (World.drewN _) (Nat.add_assoc _ _ _))⟩))))
         go_ret; exact ⟨rdT, drT⟩
        ·replace c10 := eE c10; subst c10; rw [if_neg nF] at H; have H' := asT H; clear H; have p327 : 0 ≤ (x5_1 : Int) := dT asmT; have q327 : x5_1 < (l0.length : Int) := dT asmT; obtain ⟨ad327, e327, hx327_0⟩ := Kd.at_int HR0.out x5_1 p327 q327
         cases e327
         replace p327 := eq_true p327; replace q327 := eq_true q327; have p328 : 0 ≤ (x5_1 : Int) := dT asmT; have q328 : x5_1 < (l0.length : Int) := dT asmT; obtain ⟨ad328, e328, hx328_0⟩ := Kd.at_int HR0.out x5_1 p328 q328; obtain rfl : ad327 = ad328 := (by injection e328); replace p328 := eq_true p328; replace q328 := eq_true q328; obtain ⟨i012, hi012, _, hsz12, _⟩ := info_parts info3; obtain ⟨hcut12, hA12, hC12⟩ := print_take_of (P := Tryz.prog) (Value.int .i64) 0 39 3 .i64 Tryz.underlying39 hi012 hsz12 (some ad327) c0 l0 x5_1 (dT asmT) (dT asmT) HC0.out; have HR329 := asT (Kd.C_of_reads (h1 := fun _ => rfl) (hA12 _ (Kd.reads_of_C HR0.out))); have HC329 := asT hC12; clear hA12 hC12 hi012 hsz12; have p330 : 0 ≤ (x5_1 : Int) := dT asmT; have q330 : x5_1 < (l0.length : Int) := dT asmT; obtain ⟨ad330, e330, hx330_0⟩ := Kd.at_int HR0.out x5_1 p330 q330; obtain rfl : ad327 = ad330 := (by injection e330); replace p330 := eq_true p330; replace q330 := eq_true q330
         go_wp2_with (first | (go_at_call 101; refine calls_of_args (args' := #[.slice _ (l0.take (x5_1 : Int).toNat).length _, .int .i64 (rd l0 x5_1)]) (by first | (rw [show (l0.take (x5_1 : Int).toNat).length = x5_1.toNat from (by rw [List.length_take]; have h_ : (x5_1 : Int) ≤ (l0.length : Int) := dT asmT; omega)] <;> rfl) | rfl) ?_; (with_reducible refine (spec_l12Has.calls k1 _ _ (l0.take (x5_1 : Int).toNat) (rd l0 x5_1) false _ ?side1 ?side2 A9.out).mono ?_); (case side1 => exact caT HR329.out); (case side2 => exact HC329.out); rintro e w' ⟨rfl, ⟨nd, rfl⟩⟩; (try first | exact ⟨rfl, _, World.drewN_drewN _ _ _⟩ | exact ⟨rfl, _, Eq.trans (World.drewN_drewN _ _ _) (congrArg (World.drewN _) (Nat.add_assoc _ _ _))⟩)))
         repeat (go_quiet (first | (go_at_call 101; refine calls_of_args (args' := #[.slice _ (l0.take (x5_1 : Int).toNat).length _, .int .i64 (rd l0 x5_1)]) (by first | (rw [show (l0.take (x5_1 : Int).toNat).length = x5_1.toNat from (by rw [List.length_take]; have h_ : (x5_1 : Int) ≤ (l0.length : Int) := dT asmT; omega)] <;> rfl) | rfl) ?_; (with_reducible refine (spec_l12Has.calls k1 _ _ (l0.take (x5_1 : Int).toNat) (rd l0 x5_1) false _ ?side1 ?side2 A9.out).mono ?_); (case side1 => exact caT HR329.out); (case side2 => exact HC329.out); rintro e w' ⟨rfl, ⟨nd, rfl⟩⟩; (try first | exact ⟨rfl, _, World.drewN_drewN _ _ _⟩ | exact ⟨rfl, _, Eq.trans (World.drewN_drewN _ _ _) (congrArg (World.drewN _) (Nat.add_assoc _ _ _))⟩))); try go_wp2_with (first | (go_at_call 101; refine calls_of_args (args' := #[.slice _ (l0.take (x5_1 : Int).toNat).length _, .int .i64 (rd l0 x5_1)]) (by first | (rw [show (l0.take (x5_1 : Int).toNat).length = x5_1.toNat from (by rw [List.length_take]; have h_ : (x5_1 : Int) ≤ (l0.length : Int) := dT asmT; omega)] <;> rfl) | rfl) ?_; (with_reducible refine (spec_l12Has.calls k1 _ _ (l0.take (x5_1 : Int).toNat) (rd l0 x5_1) false _ ?side1 ?side2 A9.out).mono ?_); (case side1 => exact caT HR329.out); (case side2 => exact HC329.out); rintro e w' ⟨rfl, ⟨nd, rfl⟩⟩; (try first | exact ⟨rfl, _, World.drewN_drewN _ _ _⟩ | exact ⟨rfl, _, Eq.trans (World.drewN_drewN _ _ _) (congrArg (World.drewN _) (Nat.add_assoc _ _ _))⟩))))
         go_roundg k1
         case measure => have := HK1.out; omega
         case rel => exact ⟨(wrap64 (x5_1 + 1)), rdT, H', ⟨by have := HK1.out; omega⟩, drT⟩
       ·rw [if_neg c8] at H; exact absurd H (by simp)
    ·rw [if_neg c4] at H; exact absurd H (by simp)
   ·rw [if_neg c3] at H; have c3b0 := df c3; clear c3; obtain ⟨t332, A13, H⟩ := be H; by_cases c14 : t332 = true
    ·subst c14; rw [if_pos rfl] at H; have H1 := H; clear H; have H := H1; clear H1; obtain rfl := oI H
     go_wp2_with (first | (go_at_call 75; (with_reducible refine (spec_l1In.calls a1 1 5 true _ A13.out).mono ?_); rintro e w' ⟨rfl, ⟨nd, rfl⟩⟩; (try first | exact ⟨rfl, _, World.drewN_drewN _ _ _⟩ | exact ⟨rfl, _, Eq.trans (World.drewN_drewN _ _ _) (congrArg (World.drewN _) (Nat.add_assoc _ _ _))⟩)))
     repeat (go_quiet (first | (go_at_call 75; (with_reducible refine (spec_l1In.calls a1 1 5 true _ A13.out).mono ?_); rintro e w' ⟨rfl, ⟨nd, rfl⟩⟩; (try first | exact ⟨rfl, _, World.drewN_drewN _ _ _⟩ | exact ⟨rfl, _, Eq.trans (World.drewN_drewN _ _ _) (congrArg (World.drewN _) (Nat.add_assoc _ _ _))⟩))); try go_wp2_with (first | (go_at_call 75; (with_reducible refine (spec_l1In.calls a1 1 5 true _ A13.out).mono ?_); rintro e w' ⟨rfl, ⟨nd, rfl⟩⟩; (try first | exact ⟨rfl, _, World.drewN_drewN _ _ _⟩ | exact ⟨rfl, _, Eq.trans (World.drewN_drewN _ _ _) (congrArg (World.drewN _) (Nat.add_assoc _ _ _))⟩))))
     go_ret; exact ⟨rdT, drT⟩
    ·replace c14 := eE c14; subst c14; rw [if_neg nF] at H; have H1 := H; clear H; have H := H1; clear H1; obtain rfl := oI H
     go_wp2_with (first | (go_at_call 75; (with_reducible refine (spec_l1In.calls a1 1 5 false _ A13.out).mono ?_); rintro e w' ⟨rfl, ⟨nd, rfl⟩⟩; (try first | exact ⟨rfl, _, World.drewN_drewN _ _ _⟩ | exact ⟨rfl, _, Eq.trans (World.drewN_drewN _ _ _) (congrArg (World.drewN _) (Nat.add_assoc _ _ _))⟩)))
     repeat (go_quiet (first | (go_at_call 75; (with_reducible refine (spec_l1In.calls a1 1 5 false _ A13.out).mono ?_); rintro e w' ⟨rfl, ⟨nd, rfl⟩⟩; (try first | exact ⟨rfl, _, World.drewN_drewN _ _ _⟩ | exact ⟨rfl, _, Eq.trans (World.drewN_drewN _ _ _) (congrArg (World.drewN _) (Nat.add_assoc _ _ _))⟩))); try go_wp2_with (first | (go_at_call 75; (with_reducible refine (spec_l1In.calls a1 1 5 false _ A13.out).mono ?_); rintro e w' ⟨rfl, ⟨nd, rfl⟩⟩; (try first | exact ⟨rfl, _, World.drewN_drewN _ _ _⟩ | exact ⟨rfl, _, Eq.trans (World.drewN_drewN _ _ _) (congrArg (World.drewN _) (Nat.add_assoc _ _ _))⟩))))
     go_ret; exact ⟨rdT, drT⟩
mutual
def spec_CompareMarks.j0 : Nat → List Int → List Int → List Int → Bool → Option (Int)
 | 0, _, _, _, _ => none
 | k + 1, x0, x1, x2, x19 => if x19 = true then (some 0) else (spec_CompareMarks.l0 k x0 x1 x2 0)
def spec_CompareMarks.l0 : Nat → List Int → List Int → List Int → Int → Option (Int)
 | 0, _, _, _, _ => none
 | k + 1, x0, x1, x2, x7 => if x7 < (x2.length : Int) then (if 0 ≤ x7 then (if 0 ≤ (rd x2 x7) then (if (rd x2 x7) < (x0.length : Int) then (if (rd x2 x7) < (x1.length : Int) then (if (rd x0 (rd x2 x7)) < (rd x1 (rd x2 x7)) then (some (-1)) else (if (rd x0 (rd x2 x7)) > (rd x1 (rd x2 x7)) then (some 1) else (spec_CompareMarks.l0 k x0 x1 x2 (wrap64 (x7 + 1))))) else (none)) else (none)) else (none)) else (none)) else (some 0)
end
def spec_CompareMarks.f (k : Nat) (l0 : List Int) (l1 : List Int) (l2 : List Int) : Option (Int) := (spec_IsRanking.f k l2 (l0.length : Int)).bind fun t333 => (if t333 = true then (spec_CompareMarks.j0 k l0 l1 l2 ((l0.length : Int) != (l1.length : Int))) else (spec_CompareMarks.j0 k l0 l1 l2 true))
theorem spec_CompareMarks.mono_l : ∀ k, (∀ y0 y1 y2 y3, LeO (spec_CompareMarks.j0 k y0 y1 y2 y3) (spec_CompareMarks.j0 (k + 1) y0 y1 y2 y3)) ∧ (∀ y0 y1 y2 y3, LeO (spec_CompareMarks.l0 k y0 y1 y2 y3) (spec_CompareMarks.l0 (k + 1) y0 y1 y2 y3))
 | 0 => ⟨fun _ _ _ _ r h => by simp [spec_CompareMarks.j0] at h, fun _ _ _ _ r h => by simp [spec_CompareMarks.l0] at h⟩
 | k + 1 => by
  obtain ⟨ih0, ih1⟩ := spec_CompareMarks.mono_l k; refine ⟨?_, ?_⟩
  ·intro y0 y1 y2 y3; unfold spec_CompareMarks.j0
   with_reducible repeat' first | exact ih0 _ _ _ _ | exact ih1 _ _ _ _ | exact spec_IsRanking.mono _ _ _ | exact LeO.refl _ | exact LeO.none _ | refine LeO.ite ?_ ?_ | refine LeO.bind ?_ (fun _ => ?_)
  ·intro y0 y1 y2 y3; unfold spec_CompareMarks.l0
   with_reducible repeat' first | exact ih0 _ _ _ _ | exact ih1 _ _ _ _ | exact spec_IsRanking.mono _ _ _ | exact LeO.refl _ | exact LeO.none _ | refine LeO.ite ?_ ?_ | refine LeO.bind ?_ (fun _ => ?_)
theorem spec_CompareMarks.mono : ∀ a0 a1 a2 k, LeO (spec_CompareMarks.f k a0 a1 a2) (spec_CompareMarks.f (k + 1) a0 a1 a2) := by
 intro a0 a1 a2 k; obtain ⟨ih0, ih1⟩ := spec_CompareMarks.mono_l k; unfold spec_CompareMarks.f
 with_reducible repeat' first | exact ih0 _ _ _ _ | exact ih1 _ _ _ _ | exact spec_IsRanking.mono _ _ _ | exact LeO.refl _ | exact LeO.none _ | refine LeO.ite ?_ ?_ | refine LeO.bind ?_ (fun _ => ?_)
theorem spec_CompareMarks.calls (k : Nat) (A0 : Option Addr) (c0 : Nat) (l0 : List Int) (A1 : Option Addr) (c1 : Nat) (l1 : List Int) (A2 : Option Addr) (c2 : Nat) (l2 : List Int) (r : Int) (w : World) (hr0 : Kd.C (Kd.int .i64) w A0 l0.length l0) (hc0 : l0.length ≤ c0) (hr1 : Kd.C (Kd.int .i64) w A1 l1.length l1) (hc1 : l1.length ≤ c1) (hr2 : Kd.C (Kd.int .i64) w A2 l2.length l2) (hc2 : l2.length ≤ c2) (h : spec_CompareMarks.f k l0 l1 l2 = some r) :
  Calls Tryz.prog 68 #[.slice A0 l0.length c0, .slice A1 l1.length c1, .slice A2 l2.length c2] w fun e w' => e = .returned (.int .i64 r) ∧ Drawn0 w w' := by
 have HR0 := asT hr0; have HC0 := asT hc0; clear hr0 hc0; have HR1 := asT hr1; have HC1 := asT hc1; clear hr1 hc1; have HR2 := asT hr2; have HC2 := asT hc2; clear hr2 hc2; have H := h; unfold spec_CompareMarks.f at H; clear h; have HC4 := asT H; clear H; go_enter Tryz.func68, Tryz.ntmps68
 go_upto_region 1 with (fail)
 repeat (go_quiet (fail); go_upto_region 1 with (fail))
 go_cut [19] (fun v19 wc => ∃ (kq : Nat) (x19_3 : Bool), v19 = .bool x19_3 ∧ Aside0 (spec_CompareMarks.j0 kq l0 l1 l2 x19_3 = some r) ∧ Aside0 (kq ≤ k) ∧ Drawn0 w wc)
 case first =>
  have H := HC4.out; clear HC4; obtain ⟨t333, A5, H⟩ := be H; by_cases c6 : t333 = true
  ·subst c6; rw [if_pos rfl] at H; have H' := asT H; clear H
   go_wp2_with (first | (go_at_call 67; (with_reducible refine (spec_IsRanking.calls k _ _ l2 (l0.length : Int) true _ ?side1 ?side2 A5.out).mono ?_); (case side1 => exact caT HR2.out); (case side2 => exact HC2.out); rintro e w' ⟨rfl, ⟨nd, rfl⟩⟩; (try first | exact ⟨rfl, _, World.drewN_drewN _ _ _⟩ | exact ⟨rfl, _, Eq.trans (World.drewN_drewN _ _ _) (congrArg (World.drewN _) (Nat.add_assoc _ _ _))⟩)))
   repeat (go_quiet (first | (go_at_call 67; (with_reducible refine (spec_IsRanking.calls k _ _ l2 (l0.length : Int) true _ ?side1 ?side2 A5.out).mono ?_); (case side1 => exact caT HR2.out); (case side2 => exact HC2.out); rintro e w' ⟨rfl, ⟨nd, rfl⟩⟩; (try first | exact ⟨rfl, _, World.drewN_drewN _ _ _⟩ | exact ⟨rfl, _, Eq.trans (World.drewN_drewN _ _ _) (congrArg (World.drewN _) (Nat.add_assoc _ _ _))⟩))); try go_wp2_with (first | (go_at_call 67; (with_reducible refine (spec_IsRanking.calls k _ _ l2 (l0.length : Int) true _ ?side1 ?side2 A5.out).mono ?_); (case side1 => exact caT HR2.out); (case side2 => exact HC2.out); rintro e w' ⟨rfl, ⟨nd, rfl⟩⟩; (try first | exact ⟨rfl, _, World.drewN_drewN _ _ _⟩ | exact ⟨rfl, _, Eq.trans (World.drewN_drewN _ _ _) (congrArg (World.drewN _) (Nat.add_assoc _ _ _))⟩))))
   go_meet
   case rel => exact ⟨_, (((l0.length : Int) != (l1.length : Int))), rdT, H', ⟨by first | omega | exact Nat.le_refl _⟩, drT⟩
  ·replace c6 := eE c6; subst c6; rw [if_neg nF] at H; have H' := asT H; clear H
   go_wp2_with (first | (go_at_call 67; (with_reducible refine (spec_IsRanking.calls k _ _ l2 (l0.length : Int) false _ ?side1 ?side2 A5.out).mono ?_); (case side1 => exact caT HR2.out); (case side2 => exact HC2.out); rintro e w' ⟨rfl, ⟨nd, rfl⟩⟩; (try first | exact ⟨rfl, _, World.drewN_drewN _ _ _⟩ | exact ⟨rfl, _, Eq.trans (World.drewN_drewN _ _ _) (congrArg (World.drewN _) (Nat.add_assoc _ _ _))⟩)))
   repeat (go_quiet (first | (go_at_call 67; (with_reducible refine (spec_IsRanking.calls k _ _ l2 (l0.length : Int) false _ ?side1 ?side2 A5.out).mono ?_); (case side1 => exact caT HR2.out); (case side2 => exact HC2.out); rintro e w' ⟨rfl, ⟨nd, rfl⟩⟩; (try first | exact ⟨rfl, _, World.drewN_drewN _ _ _⟩ | exact ⟨rfl, _, Eq.trans (World.drewN_drewN _ _ _) (congrArg (World.drewN _) (Nat.add_assoc _ _ _))⟩))); try go_wp2_with (first | (go_at_call 67; (with_reducible refine (spec_IsRanking.calls k _ _ l2 (l0.length : Int) false _ ?side1 ?side2 A5.out).mono ?_); (case side1 => exact caT HR2.out); (case side2 => exact HC2.out); rintro e w' ⟨rfl, ⟨nd, rfl⟩⟩; (try first | exact ⟨rfl, _, World.drewN_drewN _ _ _⟩ | exact ⟨rfl, _, Eq.trans (World.drewN_drewN _ _ _) (congrArg (World.drewN _) (Nat.add_assoc _ _ _))⟩))))
   go_meet
   case rel => exact ⟨_, (true), rdT, H', ⟨by first | omega | exact Nat.le_refl _⟩, drT⟩
 case rest =>
  clear HC4; (try clear c1 c2 p2 c6); obtain ⟨kq, x19_3, rfl, HA, HJ3, ⟨mc3, rfl⟩⟩ := hcut
  cases kq with
  | zero => exact absurd HA.out (by simp [spec_CompareMarks.j0])
  | succ kj3 =>
   have H := HA.out; clear HA
   simp only [spec_CompareMarks.j0] at H
   by_cases c7 : x19_3 = true
   ·subst c7; rw [if_pos rfl] at H; have H1 := H; clear H; have H := H1; clear H1; obtain rfl := oI H
    go_wp2
    repeat (go_quiet (fail); try go_wp2)
    go_ret; exact ⟨rdT, drT⟩
   ·replace c7 := eE c7; subst c7; rw [if_neg nF] at H; have H' := asT H; clear H
    go_wp2
    repeat (go_quiet (fail); try go_wp2)
    go_loopg [7] kj3 (fun kq v7 w' => ∃ (x7_2 : Int), v7 = .int .i64 x7_2 ∧ Aside0 (spec_CompareMarks.l0 kq l0 l1 l2 x7_2 = some r) ∧ Aside0 (kq ≤ kj3) ∧ Drawn0 w w')
    case atStart => exact ⟨(0), rdT, H', ⟨Nat.le_refl _⟩, drT⟩
    case round =>
     clear H'; (try clear c1 c2 p2 c3 c6 c7 p2); obtain ⟨x7_2, rfl, HA, HK2, ⟨m2, rfl⟩⟩ := hrel
     cases gk with
     | zero => exact absurd HA.out (by simp [spec_CompareMarks.l0])
     | succ k2 =>
      have H := HA.out; clear HA
      simp only [spec_CompareMarks.l0] at H
      by_cases c8 : x7_2 < (l2.length : Int)
      ·rw [if_pos c8] at H; have c8b0 := dt c8; clear c8; by_cases c9 : 0 ≤ x7_2
       ·rw [if_pos c9] at H; have c9b0 := dt c9; clear c9; by_cases c10 : 0 ≤ (rd l2 x7_2)
        ·rw [if_pos c10] at H; have c10b0 := dt c10; clear c10; by_cases c11 : (rd l2 x7_2) < (l0.length : Int)
         ·rw [if_pos c11] at H; have c11b0 := dt c11; clear c11; by_cases c12 : (rd l2 x7_2) < (l1.length : Int)
          ·rw [if_pos c12] at H; have c12b0 := dt c12; clear c12; by_cases c13 : (rd l0 (rd l2 x7_2)) < (rd l1 (rd l2 x7_2))
           ·rw [if_pos c13] at H; have c13b0 := dt c13; clear c13; obtain rfl := oI H; have p334 : 0 ≤ (x7_2 : Int) := dT asmT; have q334 : x7_2 < (l2.length : Int) := dT asmT; obtain ⟨ad334, e334, hx334_0⟩ := Kd.at_int HR2.out x7_2 p334 q334
            cases e334
            replace p334 := eq_true p334; replace q334 := eq_true q334; have p335 : 0 ≤ ((rd l2 x7_2) : Int) := dT asmT; have q335 : (rd l2 x7_2) < (l0.length : Int) := dT asmT; obtain ⟨ad335, e335, hx335_0⟩ := Kd.at_int HR0.out (rd l2 x7_2) p335 q335
            cases e335
            replace p335 := eq_true p335; replace q335 := eq_true q335; have p336 : 0 ≤ (x7_2 : Int) := dT asmT; have q336 : x7_2 < (l2.length : Int) := dT asmT; obtain ⟨ad336, e336, hx336_0⟩ := Kd.at_int HR2.out x7_2 p336 q336; obtain rfl : ad334 = ad336 := (by injection e336); replace p336 := eq_true p336; replace q336 := eq_true q336; have p337 : 0 ≤ ((rd l2 x7_2) : Int) := dT asmT; have q337 : (rd l2 x7_2) < (l1.length : Int) := dT asmT; obtain ⟨ad337, e337, hx337_0⟩ := Kd.at_int HR1.out (rd l2 x7_2) p337 q337
            cases e337
            replace p337 := eq_true p337; replace q337 := eq_true q337
            go_wp2
            repeat (go_quiet (fail); try go_wp2)
            go_ret; exact ⟨rdT, drT⟩
           ·rw [if_neg c13] at H; have c13b0 := df c13; clear c13; by_cases c14 : (rd l0 (rd l2 x7_2)) > (rd l1 (rd l2 x7_2))
            ·rw [if_pos c14] at H; have c14b0 : decide ((rd l1 (rd l2 x7_2)) < (rd l0 (rd l2 x7_2))) = true := dt c14; clear c14; obtain rfl := oI H; have p334 : 0 ≤ (x7_2 : Int) := dT asmT; have q334 : x7_2 < (l2.length : Int) := dT asmT; obtain ⟨ad334, e334, hx334_0⟩ := Kd.at_int HR2.out x7_2 p334 q334
             cases e334
             replace p334 := eq_true p334; replace q334 := eq_true q334; have p335 : 0 ≤ ((rd l2 x7_2) : Int) := dT asmT; have q335 : (rd l2 x7_2) < (l0.length : Int) := dT asmT; obtain ⟨ad335, e335, hx335_0⟩ := Kd.at_int HR0.out (rd l2 x7_2) p335 q335
             cases e335
             replace p335 := eq_true p335; replace q335 := eq_true q335; have p336 : 0 ≤ (x7_2 : Int) := dT asmT; have q336 : x7_2 < (l2.length : Int) := dT asmT; obtain ⟨ad336, e336, hx336_0⟩ := Kd.at_int HR2.out x7_2 p336 q336; obtain rfl : ad334 = ad336 := (by injection e336); replace p336 := eq_true p336; replace q336 := eq_true q336; have p337 : 0 ≤ ((rd l2 x7_2) : Int) := dT asmT; have q337 : (rd l2 x7_2) < (l1.length : Int) := dT asmT; obtain ⟨ad337, e337, hx337_0⟩ := Kd.at_int HR1.out (rd l2 x7_2) p337 q337
             cases e337
             replace p337 := eq_true p337; replace q337 := eq_true q337; have p338 : 0 ≤ (x7_2 : Int) := dT asmT; have q338 : x7_2 < (l2.length : Int) := dT asmT; obtain ⟨ad338, e338, hx338_0⟩ := Kd.at_int HR2.out x7_2 p338 q338; obtain rfl : ad334 = ad338 := (by injection e338); replace p338 := eq_true p338; replace q338 := eq_true q338; have p339 : 0 ≤ ((rd l2 x7_2) : Int) := dT asmT; have q339 : (rd l2 x7_2) < (l0.length : Int) := dT asmT; obtain ⟨ad339, e339, hx339_0⟩ := Kd.at_int HR0.out (rd l2 x7_2) p339 q339; obtain rfl : ad335 = ad339 := (by injection e339); replace p339 := eq_true p339; replace q339 := eq_true q339; have p340 : 0 ≤ (x7_2 : Int) := dT asmT; have q340 : x7_2 < (l2.length : Int) := dT asmT; obtain ⟨ad340, e340, hx340_0⟩ := Kd.at_int HR2.out x7_2 p340 q340; obtain rfl : ad334 = ad340 := (by injection e340); replace p340 := eq_true p340; replace q340 := eq_true q340; have p341 : 0 ≤ ((rd l2 x7_2) : Int) := dT asmT; have q341 : (rd l2 x7_2) < (l1.length : Int) := dT asmT; obtain ⟨ad341, e341, hx341_0⟩ := Kd.at_int HR1.out (rd l2 x7_2) p341 q341; obtain rfl : ad337 = ad341 := (by injection e341); replace p341 := eq_true p341; replace q341 := eq_true q341
             go_wp2
             repeat (go_quiet (fail); try go_wp2)
             go_ret; exact ⟨rdT, drT⟩
            ·rw [if_neg c14] at H; have c14b0 : decide ((rd l1 (rd l2 x7_2)) < (rd l0 (rd l2 x7_2))) = false := df c14; clear c14; have H' := asT H; clear H; have p334 : 0 ≤ (x7_2 : Int) := dT asmT; have q334 : x7_2 < (l2.length : Int) := dT asmT; obtain ⟨ad334, e334, hx334_0⟩ := Kd.at_int HR2.out x7_2 p334 q334
             cases e334
             replace p334 := eq_true p334; replace q334 := eq_true q334; have p335 : 0 ≤ ((rd l2 x7_2) : Int) := dT asmT; have q335 : (rd l2 x7_2) < (l0.length : Int) := dT asmT; obtain ⟨ad335, e335, hx335_0⟩ := Kd.at_int HR0.out (rd l2 x7_2) p335 q335
             cases e335
             replace p335 := eq_true p335; replace q335 := eq_true q335; have p336 : 0 ≤ (x7_2 : Int) := dT asmT; have q336 : x7_2 < (l2.length : Int) := dT asmT; obtain ⟨ad336, e336, hx336_0⟩ := Kd.at_int HR2.out x7_2 p336 q336; obtain rfl : ad334 = ad336 := (by injection e336); replace p336 := eq_true p336; replace q336 := eq_true q336; have p337 : 0 ≤ ((rd l2 x7_2) : Int) := dT asmT; have q337 : (rd l2 x7_2) < (l1.length : Int) := dT asmT; obtain ⟨ad337, e337, hx337_0⟩ := Kd.at_int HR1.out (rd l2 x7_2) p337 q337
             cases e337
             replace p337 := eq_true p337; replace q337 := eq_true q337; have p338 : 0 ≤ (x7_2 : Int) := dT asmT; have q338 : x7_2 < (l2.length : Int) := dT asmT; obtain ⟨ad338, e338, hx338_0⟩ := Kd.at_int HR2.out x7_2 p338 q338; obtain rfl : ad334 = ad338 := (by injection e338); replace p338 := eq_true p338; replace q338 := eq_true q338; have p339 : 0 ≤ ((rd l2 x7_2) : Int) := dT asmT; have q339 : (rd l2 x7_2) < (l0.length : Int) := dT asmT; obtain ⟨ad339, e339, hx339_0⟩ := Kd.at_int HR0.out (rd l2 x7_2) p339 q339; obtain rfl : ad335 = ad339 := (by injection e339); replace p339 := eq_true p339; replace q339 := eq_true q339; have p340 : 0 ≤ (x7_2 : Int) := dT asmT; have q340 : x7_2 < (l2.length : Int) := dT asmT; obtain ⟨ad340, e340, hx340_0⟩ := Kd.at_int HR2.out x7_2 p340 q340; obtain rfl : ad334 = ad340 := (by injection e340); replace p340 := eq_true p340; replace q340 := eq_true q340; have p341 : 0 ≤ ((rd l2 x7_2) : Int) := dT asmT; have q341 : (rd l2 x7_2) < (l1.length : Int) := dT asmT; obtain ⟨ad341, e341, hx341_0⟩ := Kd.at_int HR1.out (rd l2 x7_2) p341 q341; obtain rfl : ad337 = ad341 := (by injection e341); replace p341 := eq_true p341; replace q341 := eq_true q341
             go_wp2
             repeat (go_quiet (fail); try go_wp2)
             go_roundg k2
             case measure => have := HJ3.out; have := HK2.out; omega
             case rel => exact ⟨(wrap64 (x7_2 + 1)), rdT, H', ⟨by have := HJ3.out; have := HK2.out; omega⟩, drT⟩
          ·rw [if_neg c12] at H; exact absurd H (by simp)
         ·rw [if_neg c11] at H; exact absurd H (by simp)
        ·rw [if_neg c10] at H; exact absurd H (by simp)
       ·rw [if_neg c9] at H; exact absurd H (by simp)
      ·rw [if_neg c8] at H; have c8b0 := df c8; clear c8; obtain rfl := oI H
       go_wp2
       repeat (go_quiet (fail); try go_wp2)
       go_ret; exact ⟨rdT, drT⟩
end Go.Proofs.YtlmfpkiaikjlbaaGreat.PFnExactOptimalOutputs
