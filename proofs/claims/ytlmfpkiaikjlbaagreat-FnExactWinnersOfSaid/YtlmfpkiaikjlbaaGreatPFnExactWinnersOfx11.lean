-- Made by gen.py (a program of this session) out of the translation; Lean checks it.
import Derived.Test.YtlmfpkiaikjlbaaGreatPFnExactWinnersOfx0
import Derived.Test.YtlmfpkiaikjlbaaGreatPFnExactWinnersOfx8
import Derived.Test.YtlmfpkiaikjlbaaGreatPFnExactWinnersOfx9
import Derived.Test.YtlmfpkiaikjlbaaGreatPFnExactWinnersOfx10
namespace Go.Proofs.YtlmfpkiaikjlbaaGreat.PFnExactWinnersOf
open Go.RowKit Go.Proofs.YtlmfpkiaikjlbaaGreatB Go.Proofs.YtlmfpkiaikjlbaaGreatW.PrintWords Go.Proofs.YtlmfpkiaikjlbaaGreatW.PrintLast Go.Proofs.YtlmfpkiaikjlbaaGreatW.PrintMore
attribute [local go_sem] max2_int min2_int max_two min_two max_three min_three max_four min_four   -- for this text's walks alone
set_option linter.unusedVariables false
set_option maxHeartbeats 8000000
set_option maxRecDepth 100000
set_option linter.unusedSimpArgs false
mutual
def impl_IsTableau.j0 : Nat → Bool → ByteArray → List ByteArray → List (S60) → List (List Int) → Option (Bool)
 | 0, _, _, _, _, _ => none
 | k + 1, x30, x501000, x501001, x501002, x501003 => if x30 = true then (some false) else (impl_IsTableau.l0 k x501002 (x501002.length : Int) 0 x501000 x501001 x501002 x501003)
def impl_IsTableau.l0 : Nat → List (S60) → Int → Int → ByteArray → List ByteArray → List (S60) → List (List Int) → Option (Bool)
 | 0, _, _, _, _, _, _, _ => none
 | k + 1, x32, x33, x34, x501000, x501001, x501002, x501003 => if x34 < x33 then (if 0 ≤ x34 then (if x34 < (x32.length : Int) then ((impl_IsCandidate.f k ((rd_T60 x32 x34).f0)).bind fun t506 => (if t506 = true then ((impl_InputOf.f k ((rd_T60 x32 x34).f0)).bind fun t507 => (if t507.toList = x501000.toList then (if x34 < (x501003.length : Int) then ((impl_ProfileOf.f k x501001 ((rd_T60 x32 x34).f0)).bind fun t509 => ((slices_Equal_int_int.f k (rd_L6 x501003 x34) t509).bind fun t512 => (if t512 = true then (impl_IsTableau.l0 k x32 x33 (wrap64 (x34 + 1)) x501000 x501001 x501002 x501003) else (some false)))) else (none)) else (some false))) else (some false))) else (none)) else (none)) else (some true)
end
def impl_IsTableau.f (k : Nat) (a0_0 : ByteArray) (l0_1 : List ByteArray) (l0_2 : List (S60)) (l0_3 : List (List Int)) : Option (Bool) := (impl_AreConstraints.f k l0_1).bind fun t501 => (if t501 = true then ((impl_IsForm.f k a0_0).bind fun t502 => (if t502 = true then ((impl_within.f (l0_2.length : Int) 1 250).bind fun t503 => (if t503 = true then (impl_IsTableau.j0 k ((l0_3.length : Int) != (l0_2.length : Int)) a0_0 l0_1 l0_2 l0_3) else (impl_IsTableau.j0 k true a0_0 l0_1 l0_2 l0_3))) else (impl_IsTableau.j0 k true a0_0 l0_1 l0_2 l0_3))) else (impl_IsTableau.j0 k true a0_0 l0_1 l0_2 l0_3))
theorem impl_IsTableau.mono_l : ∀ k, (∀ y0 y1 y2 y3 y4, LeO (impl_IsTableau.j0 k y0 y1 y2 y3 y4) (impl_IsTableau.j0 (k + 1) y0 y1 y2 y3 y4)) ∧ (∀ y0 y1 y2 y3 y4 y5 y6, LeO (impl_IsTableau.l0 k y0 y1 y2 y3 y4 y5 y6) (impl_IsTableau.l0 (k + 1) y0 y1 y2 y3 y4 y5 y6))
 | 0 => ⟨fun _ _ _ _ _ r h => by simp [impl_IsTableau.j0] at h, fun _ _ _ _ _ _ _ r h => by simp [impl_IsTableau.l0] at h⟩
 | k + 1 => by
  obtain ⟨ih0, ih1⟩ := impl_IsTableau.mono_l k; refine ⟨?_, ?_⟩
  ·intro y0 y1 y2 y3 y4
   unfold impl_IsTableau.j0
   with_reducible repeat' first | exact ih0 _ _ _ _ _ | exact ih1 _ _ _ _ _ _ _ | exact impl_AreConstraints.mono _ _ | exact impl_InputOf.mono _ _ | exact impl_IsCandidate.mono _ _ | exact impl_IsForm.mono _ _ | exact impl_ProfileOf.mono _ _ _ | exact slices_Equal_int_int.mono _ _ _ | exact LeO.refl _ | exact LeO.none _ | refine LeO.ite ?_ ?_ | refine LeO.bind ?_ (fun _ => ?_)
  ·intro y0 y1 y2 y3 y4 y5 y6
   unfold impl_IsTableau.l0
   with_reducible repeat' first | exact ih0 _ _ _ _ _ | exact ih1 _ _ _ _ _ _ _ | exact impl_AreConstraints.mono _ _ | exact impl_InputOf.mono _ _ | exact impl_IsCandidate.mono _ _ | exact impl_IsForm.mono _ _ | exact impl_ProfileOf.mono _ _ _ | exact slices_Equal_int_int.mono _ _ _ | exact LeO.refl _ | exact LeO.none _ | refine LeO.ite ?_ ?_ | refine LeO.bind ?_ (fun _ => ?_)
theorem impl_IsTableau.mono : ∀ a0 a1 a2 a3 k, LeO (impl_IsTableau.f k a0 a1 a2 a3) (impl_IsTableau.f (k + 1) a0 a1 a2 a3) := by
 intro a0 a1 a2 a3 k
 obtain ⟨ih0, ih1⟩ := impl_IsTableau.mono_l k
 unfold impl_IsTableau.f
 with_reducible repeat' first | exact ih0 _ _ _ _ _ | exact ih1 _ _ _ _ _ _ _ | exact impl_AreConstraints.mono _ _ | exact impl_InputOf.mono _ _ | exact impl_IsCandidate.mono _ _ | exact impl_IsForm.mono _ _ | exact impl_ProfileOf.mono _ _ _ | exact slices_Equal_int_int.mono _ _ _ | exact LeO.refl _ | exact LeO.none _ | refine LeO.ite ?_ ?_ | refine LeO.bind ?_ (fun _ => ?_)
def impl_IsTableau.T6 : Bool × List (List Nat × List Nat) := (true, [([], []), ([0], [0]), ([1], [1]), ([2, 1], [2]), ([3], [3]), ([4, 3, 3], [3, 4]), ([3], [3]), ([6, 3], [3, 6]), ([5, 7, 3], [3, 5, 7]), ([3, 8], [3, 8]), ([9, 5], [9]), ([10], [10]), ([11, 10], [10, 11]), ([10], [10]), ([12, 13, 10], [10, 12, 13]), ([14, 10], [10, 14]), ([10], [10]), ([16, 10], [10, 16]), ([10], [10]), ([17, 18, 10, 10], [10, 17, 18]), ([15, 19, 19, 10], [10, 15, 19]), ([20, 10], [10, 20]), ([10, 21], [10, 21])])
def impl_IsTableau.B6 : List Nat := [0, 1, 3, 7, 15, 31, 15, 79, 255, 511, 1023, 2047, 4095, 2047, 16383, 32767, 2047, 67583, 2047, 460799, 1048575, 2097151, 4194303]
theorem impl_IsTableau.tab6 : rtab .any (opsOf Tryz.f57 6) = impl_IsTableau.T6 := by kernel_rfl
theorem impl_IsTableau.bits6 : waitsOk impl_IsTableau.T6.2 impl_IsTableau.B6 = true := by kernel_rfl
theorem impl_IsTableau.calls (k : Nat) (a0_0 : ByteArray) (A0_1 : Option Addr) (c0_1 : Nat) (l0_1 : List ByteArray) (A0_2 : Option Addr) (c0_2 : Nat) (l0_2 : List (S60)) (A0_3 : Option Addr) (c0_3 : Nat) (l0_3 : List (List Int)) (r : Bool) (w : World) (hr0_1 : Kd.C Kd.string w A0_1 l0_1.length l0_1) (hc0_1 : l0_1.length ≤ c0_1) (hr0_2 : Kd.C k60 w A0_2 l0_2.length l0_2) (hc0_2 : l0_2.length ≤ c0_2) (hr0_3 : Kd.C (Kd.slice 3 (Kd.int .i64)) w A0_3 l0_3.length l0_3) (hc0_3 : l0_3.length ≤ c0_3) (h : impl_IsTableau.f k a0_0 l0_1 l0_2 l0_3 = some r) :
  Calls Tryz.prog 57 #[.agg #[.string a0_0, .slice A0_1 l0_1.length c0_1, .slice A0_2 l0_2.length c0_2, .slice A0_3 l0_3.length c0_3]] w fun e w' => e = .returned (.bool r) ∧ Below w.heap.size w w' := by
 have hu27 := Tryz.underlying27; have hu60 := Tryz.underlying60; have HR0_1 := asT hr0_1; have HC0_1 := asT hc0_1; clear hr0_1 hc0_1; have HR0_2 := asT hr0_2; have HC0_2 := asT hc0_2; clear hr0_2 hc0_2; have HR0_3 := asT hr0_3; have HC0_3 := asT hc0_3; clear hr0_3 hc0_3; have HB := asT (Below.refl w.heap.size w); have H := h; unfold impl_IsTableau.f at H; clear h; have HC2 := asT H; clear H
 go_enter Tryz.func57, Tryz.ntmps57
 go_upto_region 1 with (first | ((with_reducible refine gate_dst (N := 1) rfl ?_); (try (refine gate_guard (by rfl) ?_; dsimp only)); refine boxT (N := 1) (cs := #[.string a0_0, .slice A0_1 l0_1.length c0_1, .slice A0_2 l0_2.length c0_2, .slice A0_3 l0_3.length c0_3]) (t := 27) ?_; intro gb500 hg w3 hbox hb; have BK500 := asT hbox; have GW500 := asT (geT hg HB.out); have GE500 := GW500; replace HB := hS HB hb; clear hb hbox hg))
 (try simp only [Act.put, sA, sZ, sS])
 go_cut [30] (fun v30 wc => ∃ (kq : Nat) (x30_1 : Bool), v30 = .bool x30_1 ∧ Aside0 (impl_IsTableau.j0 kq x30_1 a0_0 l0_1 l0_2 l0_3 = some r) ∧ Aside0 (kq ≤ k) ∧ Aside0 (wc.heap[gb500]? = some (.cells #[.string a0_0, (.slice A0_1 l0_1.length c0_1), (.slice A0_2 l0_2.length c0_2), (.slice A0_3 l0_3.length c0_3)] 27 (0, 0))) ∧ Aside0 (Below w.heap.size w wc))
 case first =>
  have H := HC2.out; clear HC2; obtain ⟨t501, A4, H⟩ := be H
  by_cases c5 : t501 = true
  ·subst c5
   rw [if_pos rfl] at H; obtain ⟨t502, A6, H⟩ := be H
   by_cases c7 : t502 = true
   ·subst c7
    rw [if_pos rfl] at H; obtain ⟨t503, A8, H⟩ := be H
    by_cases c9 : t503 = true
    ·subst c9
     rw [if_pos rfl] at H; have H' := asT H; clear H
     have hcz10_0 := bc0 BK500.out
     have hcz10_1 := bc1 BK500.out
     have hcz10_2 := bc2 BK500.out
     have hcz10_3 := bc3 BK500.out
     have hfz10_0 := blk_frozen BK500.out 0; have hfz10_1 := blk_frozen BK500.out 1; have hfz10_2 := blk_frozen BK500.out 2; have hfz10_3 := blk_frozen BK500.out 3
     go_wp2_with (first | ((with_reducible refine gate_callee (f := 39) rfl ?_); refine goesL_ (some 7) rfl rfl Tryz.func39 (by kernel_rfl) rfl #[.slice A0_1 l0_1.length c0_1] rfl eqT ?_; (with_reducible refine (impl_AreConstraints.calls k _ _ l0_1 true _ ?side1 ?side2 A4.out).mono ?_); (case side1 => exact crT HR0_1.out HB.out); (case side2 => exact HC0_1.out); rintro e w11 ⟨rfl, hb⟩; refine ⟨_, rfl, ?_⟩; replace BK500 := bS BK500 hb; replace HB := hS HB hb; (try clear hb hb2 hk hi); obtain ⟨hcz12_0, hcz12_1, hcz12_2, hcz12_3, hfz12_0, hfz12_1, hfz12_2, hfz12_3⟩ := bx4 BK500.out) | (go_at_call 40; (with_reducible refine (impl_IsForm.calls k a0_0 true _ A6.out).mono ?_); rintro e w' ⟨rfl, ⟨nd, rfl⟩⟩) | (go_at_call 82; (with_reducible refine (impl_within.calls (l0_2.length : Int) 1 250 true _ A8.out).mono ?_); rintro e w' ⟨rfl, ⟨nd, rfl⟩⟩))
     go_meet
     case rel => exact ⟨_, (((l0_3.length : Int) != (l0_2.length : Int))), rdT, H', ⟨by first | omega | exact Nat.le_refl _⟩, kpT BK500.out, ⟨hbT HB.out⟩⟩
    ·replace c9 := eE c9
     subst c9; rw [if_neg nF] at H; have H' := asT H; clear H
     have hcz13_0 := bc0 BK500.out
     have hcz13_1 := bc1 BK500.out
     have hcz13_2 := bc2 BK500.out
     have hcz13_3 := bc3 BK500.out
     have hfz13_0 := blk_frozen BK500.out 0; have hfz13_1 := blk_frozen BK500.out 1; have hfz13_2 := blk_frozen BK500.out 2; have hfz13_3 := blk_frozen BK500.out 3
     go_wp2_with (first | ((with_reducible refine gate_callee (f := 39) rfl ?_); refine goesL_ (some 7) rfl rfl Tryz.func39 (by kernel_rfl) rfl #[.slice A0_1 l0_1.length c0_1] rfl eqT ?_; (with_reducible refine (impl_AreConstraints.calls k _ _ l0_1 true _ ?side1 ?side2 A4.out).mono ?_); (case side1 => exact crT HR0_1.out HB.out); (case side2 => exact HC0_1.out); rintro e w14 ⟨rfl, hb⟩; refine ⟨_, rfl, ?_⟩; replace BK500 := bS BK500 hb; replace HB := hS HB hb; (try clear hb hb2 hk hi); obtain ⟨hcz15_0, hcz15_1, hcz15_2, hcz15_3, hfz15_0, hfz15_1, hfz15_2, hfz15_3⟩ := bx4 BK500.out) | (go_at_call 40; (with_reducible refine (impl_IsForm.calls k a0_0 true _ A6.out).mono ?_); rintro e w' ⟨rfl, ⟨nd, rfl⟩⟩) | (go_at_call 82; (with_reducible refine (impl_within.calls (l0_2.length : Int) 1 250 false _ A8.out).mono ?_); rintro e w' ⟨rfl, ⟨nd, rfl⟩⟩))
     go_meet
     case rel => exact ⟨_, (true), rdT, H', ⟨by first | omega | exact Nat.le_refl _⟩, kpT BK500.out, ⟨hbT HB.out⟩⟩
   ·replace c7 := eE c7
    subst c7; rw [if_neg nF] at H; have H' := asT H; clear H
    have hcz16_0 := bc0 BK500.out
    have hcz16_1 := bc1 BK500.out
    have hcz16_2 := bc2 BK500.out
    have hcz16_3 := bc3 BK500.out
    have hfz16_0 := blk_frozen BK500.out 0; have hfz16_1 := blk_frozen BK500.out 1; have hfz16_2 := blk_frozen BK500.out 2; have hfz16_3 := blk_frozen BK500.out 3
    go_wp2_with (first | ((with_reducible refine gate_callee (f := 39) rfl ?_); refine goesL_ (some 7) rfl rfl Tryz.func39 (by kernel_rfl) rfl #[.slice A0_1 l0_1.length c0_1] rfl eqT ?_; (with_reducible refine (impl_AreConstraints.calls k _ _ l0_1 true _ ?side1 ?side2 A4.out).mono ?_); (case side1 => exact crT HR0_1.out HB.out); (case side2 => exact HC0_1.out); rintro e w17 ⟨rfl, hb⟩; refine ⟨_, rfl, ?_⟩; replace BK500 := bS BK500 hb; replace HB := hS HB hb; (try clear hb hb2 hk hi); obtain ⟨hcz18_0, hcz18_1, hcz18_2, hcz18_3, hfz18_0, hfz18_1, hfz18_2, hfz18_3⟩ := bx4 BK500.out) | (go_at_call 40; (with_reducible refine (impl_IsForm.calls k a0_0 false _ A6.out).mono ?_); rintro e w' ⟨rfl, ⟨nd, rfl⟩⟩))
    go_meet
    case rel => exact ⟨_, (true), rdT, H', ⟨by first | omega | exact Nat.le_refl _⟩, kpT BK500.out, ⟨hbT HB.out⟩⟩
  ·replace c5 := eE c5
   subst c5; rw [if_neg nF] at H; have H' := asT H; clear H
   have hcz19_0 := bc0 BK500.out
   have hcz19_1 := bc1 BK500.out
   have hcz19_2 := bc2 BK500.out
   have hcz19_3 := bc3 BK500.out
   have hfz19_0 := blk_frozen BK500.out 0; have hfz19_1 := blk_frozen BK500.out 1; have hfz19_2 := blk_frozen BK500.out 2; have hfz19_3 := blk_frozen BK500.out 3
   go_wp2_with (first | ((with_reducible refine gate_callee (f := 39) rfl ?_); refine goesL_ (some 7) rfl rfl Tryz.func39 (by kernel_rfl) rfl #[.slice A0_1 l0_1.length c0_1] rfl eqT ?_; (with_reducible refine (impl_AreConstraints.calls k _ _ l0_1 false _ ?side1 ?side2 A4.out).mono ?_); (case side1 => exact crT HR0_1.out HB.out); (case side2 => exact HC0_1.out); rintro e w20 ⟨rfl, hb⟩; refine ⟨_, rfl, ?_⟩; replace BK500 := bS BK500 hb; replace HB := hS HB hb; (try clear hb hb2 hk hi)))
   go_meet
   case rel => exact ⟨_, (true), rdT, H', ⟨by first | omega | exact Nat.le_refl _⟩, kpT BK500.out, ⟨hbT HB.out⟩⟩
 case rest =>
  clear HC2; (try clear p2 c3 c5 c7 c9 hcz10_0 hcz10_1 hcz10_2 hcz10_3 hcz12_0 hcz12_1 hcz12_2 hcz12_3 hcz13_0 hcz13_1 hcz13_2 hcz13_3 hcz15_0 hcz15_1 hcz15_2 hcz15_3 hcz16_0 hcz16_1 hcz16_2 hcz16_3 hcz18_0 hcz18_1 hcz18_2 hcz18_3 hcz19_0 hcz19_1 hcz19_2 hcz19_3 hfz10_0 hfz10_1 hfz10_2 hfz10_3 hfz12_0 hfz12_1 hfz12_2 hfz12_3 hfz13_0 hfz13_1 hfz13_2 hfz13_3 hfz15_0 hfz15_1 hfz15_2 hfz15_3 hfz16_0 hfz16_1 hfz16_2 hfz16_3 hfz18_0 hfz18_1 hfz18_2 hfz18_3 hfz19_0 hfz19_1 hfz19_2 hfz19_3); obtain ⟨kq, x30_1, rfl, HA, HJ1, BK500, HB⟩ := hcut
  cases kq with
  | zero => exact absurd HA.out (by simp [impl_IsTableau.j0])
  | succ kj1 =>
   have H := HA.out; clear HA
   simp only [impl_IsTableau.j0] at H
   by_cases c21 : x30_1 = true
   ·subst c21
    rw [if_pos rfl] at H; have H1 := H; clear H; have H := H1; clear H1
    obtain rfl := oI H
    go_wp2
    go_ret
    exact ⟨rlT, hbT HB.out⟩
   ·replace c21 := eE c21
    subst c21; rw [if_neg nF] at H; have H' := asT H; clear H
    have hcz22_0 := bc0 BK500.out
    have hcz22_1 := bc1 BK500.out
    have hcz22_2 := bc2 BK500.out
    have hcz22_3 := bc3 BK500.out
    have hfz22_0 := blk_frozen BK500.out 0; have hfz22_1 := blk_frozen BK500.out 1; have hfz22_2 := blk_frozen BK500.out 2; have hfz22_3 := blk_frozen BK500.out 3
    go_wp2
    go_loopg [34] kj1 (fun kq v34 w' => ∃ (x34_2 : Int), v34 = .int .i64 x34_2 ∧ Aside0 (impl_IsTableau.l0 kq l0_2 (l0_2.length : Int) x34_2 a0_0 l0_1 l0_2 l0_3 = some r) ∧ Aside0 (kq ≤ kj1) ∧ Aside0 (w'.heap[gb500]? = some (.cells #[.string a0_0, (.slice A0_1 l0_1.length c0_1), (.slice A0_2 l0_2.length c0_2), (.slice A0_3 l0_3.length c0_3)] 27 (0, 0))) ∧ Aside0 (Below w.heap.size w w'))
    case atStart => exact ⟨(0), rdT, H', ⟨Nat.le_refl _⟩, kpT BK500.out, ⟨hbT HB.out⟩⟩
    case round =>
     clear H'; (try clear c2 p2 c3 c5 c7 c9 c21 hcz10_0 hcz10_1 hcz10_2 hcz10_3 hcz12_0 hcz12_1 hcz12_2 hcz12_3 hcz13_0 hcz13_1 hcz13_2 hcz13_3 hcz15_0 hcz15_1 hcz15_2 hcz15_3 hcz16_0 hcz16_1 hcz16_2 hcz16_3 hcz18_0 hcz18_1 hcz18_2 hcz18_3 hcz19_0 hcz19_1 hcz19_2 hcz19_3 hcz22_0 hcz22_1 hcz22_2 hcz22_3 hfz10_0 hfz10_1 hfz10_2 hfz10_3 hfz12_0 hfz12_1 hfz12_2 hfz12_3 hfz13_0 hfz13_1 hfz13_2 hfz13_3 hfz15_0 hfz15_1 hfz15_2 hfz15_3 hfz16_0 hfz16_1 hfz16_2 hfz16_3 hfz18_0 hfz18_1 hfz18_2 hfz18_3 hfz19_0 hfz19_1 hfz19_2 hfz19_3 hfz22_0 hfz22_1 hfz22_2 hfz22_3 p2); obtain ⟨x34_2, rfl, HA, HK2, BK500, HB⟩ := hrel
     cases gk with
     | zero => exact absurd HA.out (by simp [impl_IsTableau.l0])
     | succ k2 =>
      have H := HA.out; clear HA
      simp only [impl_IsTableau.l0] at H
      by_cases c23 : x34_2 < (l0_2.length : Int)
      ·rw [if_pos c23] at H
       have c23b0 : decide (x34_2 < (l0_2.length : Int)) = true := dt c23
       clear c23
       by_cases c24 : 0 ≤ x34_2
       ·rw [if_pos c24] at H
        have c24b0 : decide (0 ≤ x34_2) = true := dt c24
        clear c24
        by_cases c25 : x34_2 < (l0_2.length : Int)
        ·rw [if_pos c25] at H
         have c25b0 : decide (x34_2 < (l0_2.length : Int)) = true := dt c25
         clear c25; obtain ⟨t506, A26, H⟩ := be H
         by_cases c27 : t506 = true
         ·subst c27
          rw [if_pos rfl] at H; obtain ⟨t507, A28, H⟩ := be H
          by_cases c29 : t507.toList = a0_0.toList
          ·rw [if_pos c29] at H
           have c29b0 : (t507.toList == a0_0.toList) = true := eC c29
           have c29b1 : (t507.toList != a0_0.toList) = false := eA c29
           clear c29
           by_cases c30 : x34_2 < (l0_3.length : Int)
           ·rw [if_pos c30] at H
            have c30b0 : decide (x34_2 < (l0_3.length : Int)) = true := dt c30
            clear c30; obtain ⟨t509, A31, H⟩ := be H; obtain ⟨t512, A32, H⟩ := be H
            by_cases c33 : t512 = true
            ·subst c33
             rw [if_pos rfl] at H; have H' := asT H; clear H
             have p504 : 0 ≤ (x34_2 : Int) := dT asmT
             have q504 : x34_2 < (l0_2.length : Int) := dT asmT
             obtain ⟨ad504, A504_0, c504_0, e504, hx504_0, hl504_0, hi504_0⟩ := at_T60 HR0_2.out x34_2 p504 q504
             cases e504
             replace hx504_0 := hbc HB.out hx504_0; have HR504_0 := asT hi504_0; have HC504_0 := asT hl504_0; clear hi504_0 hl504_0; replace p504 := eq_true p504; replace q504 := eq_true q504
             try go_wp2_with (first | ((with_reducible refine gate_dst (N := 4) rfl ?_); (try (refine gate_guard (by rfl) ?_; dsimp only)); refine boxT (N := 4) (cs := #[.slice none 0 0]) (t := 60) ?_; intro gb505 hg w34 hbox hb; have BK505 := asT (hbox); have GW505 := asT (geT hg HB.out); have GE505 := asT (geT hg HB.out); replace HB := hS HB hb; have NB500_505 := asT ((by rw [hg]; exact Nat.ne_of_lt (blk_lt (g := gb500) (o := .cells #[.string a0_0, .slice A0_1 l0_1.length c0_1, .slice (some ad504) l0_2.length c0_2, .slice A0_3 l0_3.length c0_3] 27 (0, 0)) (bkT BK500.out)) : gb500 ≠ gb505)); have NB505_500 := asT ((by rw [hg]; exact Nat.ne_of_gt (blk_lt (g := gb500) (o := .cells #[.string a0_0, .slice A0_1 l0_1.length c0_1, .slice (some ad504) l0_2.length c0_2, .slice A0_3 l0_3.length c0_3] 27 (0, 0)) (bkT BK500.out)) : gb505 ≠ gb500)); replace BK500 := bS BK500 hb; clear hb hbox hg; have hnb35 := NB505_500.out; have hnc35 := NB500_505.out; obtain ⟨hcz36_0, hfz36_0⟩ := bx1 BK505.out))
             have n0_ : Aside0 ((w34.setCell ⟨gb505, 0, none⟩ (.slice A504_0 ((rd_T60 l0_2 x34_2).f0).length c504_0)).heap[gb500]? = some (.cells #[.string a0_0, .slice A0_1 l0_1.length c0_1, .slice (some ad504) l0_2.length c0_2, .slice A0_3 l0_3.length c0_3] 27 (0, 0))) := ⟨by (with_reducible repeat (first | refine blk_drewN ?_ _ | refine blk_drew ?_ | refine blk_alloc ?_ _)); refine blk_far ?_ NB500_505.out _; (with_reducible repeat (first | refine blk_drewN ?_ _ | refine blk_drew ?_ | refine blk_alloc ?_ _)); exact BK500.out⟩
             have n1_ : Aside0 ((w34.setCell ⟨gb505, 0, none⟩ (.slice A504_0 ((rd_T60 l0_2 x34_2).f0).length c504_0)).heap[gb505]? = some (.cells #[.slice A504_0 ((rd_T60 l0_2 x34_2).f0).length c504_0] 60 (0, 0))) := ⟨by (with_reducible repeat (first | refine blk_drewN ?_ _ | refine blk_drew ?_ | refine blk_alloc ?_ _)); refine blk_put (cs := #[.slice none 0 0]) ?_ 0 _ rfl; (with_reducible repeat (first | refine blk_drewN ?_ _ | refine blk_drew ?_ | refine blk_alloc ?_ _)); exact BK505.out⟩
             have n2_ : Aside0 (Below w.heap.size w (w34.setCell ⟨gb505, 0, none⟩ (.slice A504_0 ((rd_T60 l0_2 x34_2).f0).length c504_0))) := ⟨hbT HB.out⟩
             (try clear BK500); (try clear BK505 HB)
             generalize (w34.setCell ⟨gb505, 0, none⟩ (.slice A504_0 ((rd_T60 l0_2 x34_2).f0).length c504_0)) = w37 at n0_ n1_ n2_ ⊢
             have BK500 := n0_; have BK505 := n1_; have HB := n2_; clear n0_ n1_ n2_; replace BK500 := asT (blk_drew BK500.out); replace BK505 := asT (blk_drew BK505.out); replace HB := asT (below_drew1 HB.out)
             have p508 : 0 ≤ (x34_2 : Int) := dT asmT
             have q508 : x34_2 < (l0_3.length : Int) := dT asmT
             obtain ⟨ad508, A508_0, c508_0, e508, hx508_0, hl508_0, hi508_0⟩ := at_L6 HR0_3.out x34_2 p508 q508; have hw508_0 := hx508_0
             cases e508
             replace hx508_0 := hbc HB.out hx508_0; have HR508_0 := asT hi508_0; have HC508_0 := asT hl508_0; clear hi508_0 hl508_0; replace p508 := eq_true p508; replace q508 := eq_true q508
             refine start_ (n := 23) (S := fun w' => w'.cell? ⟨gb505, 0, none⟩ = some (.slice A504_0 ((rd_T60 l0_2 x34_2).f0).length c504_0) ∧ w'.cell? ⟨gb500, 0, none⟩ = some (.string a0_0) ∧ w'.cell? ⟨gb500, 1, none⟩ = some (.slice A0_1 l0_1.length c0_1) ∧ w'.cell? ⟨gb500, 2, none⟩ = some (.slice (some ad504) l0_2.length c0_2) ∧ w'.cell? ⟨gb500, 3, none⟩ = some (.slice (some ad508) l0_3.length c0_3) ∧ w'.cell? (ad508.add (x34_2).toNat) = some (.slice A508_0 (rd_L6 l0_3 x34_2).length c508_0)) (ds := []) (bA 23 0) (by kernel_rfl) rfl rfl ⟨bc0 BK505.out, bc0 BK500.out, bc1 BK500.out, bc2 BK500.out, bc3 BK500.out, (hbc HB.out hw508_0 :)⟩ (fun hHeld => ?_); refine with_tabW impl_IsTableau.tab6 impl_IsTableau.bits6 (fun HT_ HW_ => ?_)
             generalize w37.drew = w38 at BK500 BK505 HB HR508_0 hx508_0 hHeld ⊢
             refine tA 0 39 23 1 HT_.out HW_.out hHeld ?_ rfl rfl
             refine oA 1 40 23 3 HT_.out (fun K hK => ?_) rfl rfl
             refine goes_ Tryz.func85 (by kernel_rfl) rfl #[.agg #[.slice A504_0 ((rd_T60 l0_2 x34_2).f0).length c504_0]] (by rfl) rfl rfl eqT ?_
             (with_reducible refine (impl_IsCandidate.calls k2 _ _ ((rd_T60 l0_2 x34_2).f0) true _ ?side1 ?side2 A26.out).mono ?_); (case side1 => exact crT HR504_0.out HB.out); (case side2 => exact HC504_0.out); rintro e w39 ⟨rfl, hb⟩; refine ⟨_, rfl, ?_⟩; replace BK500 := bS BK500 hb; replace BK505 := bS BK505 hb; replace HB := hS HB hb; (try clear hb hb2 hk hi)
             refine hK.out _ _ ⟨bc0 BK505.out, bc0 BK500.out, bc1 BK500.out, bc2 BK500.out, bc3 BK500.out, (hbc HB.out hw508_0 :)⟩ (fun hHeld => ?_)
             clear hK K
             refine nB 40 ?_ rfl; refine pA 2 41 23 7 HT_.out ?_ rfl rfl; refine pA 3 42 23 15 HT_.out ?_ rfl rfl; refine pA 6 45 23 79 HT_.out ?_ rfl rfl; refine tA 4 43 23 95 HT_.out HW_.out hHeld ?_ rfl rfl; refine tA 7 46 23 223 HT_.out HW_.out hHeld ?_ rfl rfl
             refine oA 5 44 23 255 HT_.out (fun K hK => ?_) rfl rfl
             refine goes_ Tryz.func95 (by kernel_rfl) rfl #[.agg #[.slice A504_0 ((rd_T60 l0_2 x34_2).f0).length c504_0]] (by rfl) rfl rfl eqT ?_
             (with_reducible refine (impl_InputOf.calls k2 _ _ ((rd_T60 l0_2 x34_2).f0) t507 _ ?side1 ?side2 A28.out).mono ?_); (case side1 => exact crT HR504_0.out HB.out); (case side2 => exact HC504_0.out); rintro e w40 ⟨rfl, hb⟩; refine ⟨_, rfl, ?_⟩; replace BK500 := bS BK500 hb; replace BK505 := bS BK505 hb; replace HB := hS HB hb; (try clear hb hb2 hk hi)
             refine hK.out _ _ ⟨bc0 BK505.out, bc0 BK500.out, bc1 BK500.out, bc2 BK500.out, bc3 BK500.out, (hbc HB.out hw508_0 :)⟩ (fun hHeld => ?_)
             clear hK K
             refine nB 44 ?_ rfl; refine pA 8 47 23 511 HT_.out ?_ rfl rfl; refine pA 9 48 23 1023 HT_.out ?_ rfl rfl; refine pA 10 49 23 2047 HT_.out ?_ rfl rfl; refine pA 11 50 23 4095 HT_.out ?_ rfl rfl; refine pA 13 52 23 12287 HT_.out ?_ rfl rfl; refine pA 16 55 23 77823 HT_.out ?_ rfl rfl; refine tA 12 51 23 81919 HT_.out HW_.out hHeld ?_ rfl rfl; refine pA 14 53 23 98303 HT_.out ?_ rfl rfl; refine tA 15 54 23 131071 HT_.out HW_.out hHeld ?_ rfl rfl; refine tA 17 56 23 262143 HT_.out HW_.out hHeld ?_ rfl rfl; refine tA 18 57 23 524287 HT_.out HW_.out hHeld ?_ rfl rfl
             refine oA 19 58 23 1048575 HT_.out (fun K hK => ?_) rfl rfl
             refine goes_ Tryz.func43 (by kernel_rfl) rfl #[.slice A0_1 l0_1.length c0_1, .agg #[.slice A504_0 ((rd_T60 l0_2 x34_2).f0).length c504_0]] (by rfl) rfl rfl eqT ?_
             (with_reducible refine (impl_ProfileOf.calls k2 _ _ l0_1 _ _ ((rd_T60 l0_2 x34_2).f0) t509 _ ?side1 ?side2 ?side3 ?side4 A31.out).mono ?_); (case side1 => exact crT HR0_1.out HB.out); (case side2 => exact HC0_1.out); (case side3 => exact crT HR504_0.out HB.out); (case side4 => exact HC504_0.out); rintro e w41 ⟨v510, rfl, ho0, hb⟩; refine ⟨_, rfl, ?_⟩; have HO511 := asT (Kd.R_lower ho0 (below_size (hbT HB.out))); replace BK500 := bS BK500 hb; replace BK505 := bS BK505 hb; replace HB := hS HB hb; (try clear hb hb2 hk hi ho0); obtain ⟨Ao42, co42, eo42⟩ := Kd.R_slice HO511.out; (first | subst eo42 | (injection eo42 with f1_ f2_ f3_; have f4_ := f1_.symm; have f5_ := f3_.symm; clear f1_ f2_ f3_; subst f4_; subst f5_))
             refine hK.out _ _ ⟨bc0 BK505.out, bc0 BK500.out, bc1 BK500.out, bc2 BK500.out, bc3 BK500.out, (hbc HB.out hw508_0 :)⟩ (fun hHeld => ?_)
             clear hK K
             refine nB 58 ?_ rfl
             refine oA 20 59 23 2097151 HT_.out (fun K hK => ?_) rfl rfl
             refine goes_ Tryz.func60 (by kernel_rfl) rfl #[.slice A508_0 (rd_L6 l0_3 x34_2).length c508_0, .slice Ao42 t509.length co42] (by rfl) rfl rfl eqT ?_
             (with_reducible refine (slices_Equal_int_int.calls k2 _ _ (rd_L6 l0_3 x34_2) _ _ t509 true _ ?side1 ?side2 ?side3 ?side4 A32.out).mono ?_); (case side1 => exact crT HR508_0.out HB.out); (case side2 => exact HC508_0.out); (case side3 => repeat (first | exact (Kd.R_reads' HO511.out).2.2 | (with_reducible refine Kd.C_alloc ?_ _) | (with_reducible refine Kd.C_drewN ?_ _) | (with_reducible refine Kd.C_drew ?_))); (case side4 => exact (Kd.R_reads' HO511.out).2.1); rintro e w' ⟨rfl, ⟨nd, rfl⟩⟩; refine ⟨_, rfl, ?_⟩
             refine hK.out _ _ ⟨bc0 BK505.out, bc0 BK500.out, bc1 BK500.out, bc2 BK500.out, bc3 BK500.out, (hbc HB.out hw508_0 :)⟩ (fun hHeld => ?_)
             clear hK K
             refine nB 59 ?_ rfl; refine pA 21 60 23 4194303 HT_.out ?_ rfl rfl; refine pA 22 61 23 8388607 HT_.out ?_ rfl rfl
             refine done_ (done_of HT_.out (by kernel_rfl)) ?_
             try go_wp2
             go_roundg k2
             case measure => have := HJ1.out; have := HK2.out; omega
             case rel => exact ⟨(wrap64 (x34_2 + 1)), rdT, H', ⟨by have := HJ1.out; have := HK2.out; omega⟩, kpT BK500.out, ⟨hbT HB.out⟩⟩
            ·replace c33 := eE c33
             subst c33; rw [if_neg nF] at H; have H1 := H; clear H; have H := H1; clear H1
             obtain rfl := oI H
             have p504 : 0 ≤ (x34_2 : Int) := dT asmT
             have q504 : x34_2 < (l0_2.length : Int) := dT asmT
             obtain ⟨ad504, A504_0, c504_0, e504, hx504_0, hl504_0, hi504_0⟩ := at_T60 HR0_2.out x34_2 p504 q504
             cases e504
             replace hx504_0 := hbc HB.out hx504_0; have HR504_0 := asT hi504_0; have HC504_0 := asT hl504_0; clear hi504_0 hl504_0; replace p504 := eq_true p504; replace q504 := eq_true q504
             try go_wp2_with (first | ((with_reducible refine gate_dst (N := 4) rfl ?_); (try (refine gate_guard (by rfl) ?_; dsimp only)); refine boxT (N := 4) (cs := #[.slice none 0 0]) (t := 60) ?_; intro gb505 hg w43 hbox hb; have BK505 := asT (hbox); have GW505 := asT (geT hg HB.out); have GE505 := asT (geT hg HB.out); replace HB := hS HB hb; have NB500_505 := asT ((by rw [hg]; exact Nat.ne_of_lt (blk_lt (g := gb500) (o := .cells #[.string a0_0, .slice A0_1 l0_1.length c0_1, .slice (some ad504) l0_2.length c0_2, .slice A0_3 l0_3.length c0_3] 27 (0, 0)) (bkT BK500.out)) : gb500 ≠ gb505)); have NB505_500 := asT ((by rw [hg]; exact Nat.ne_of_gt (blk_lt (g := gb500) (o := .cells #[.string a0_0, .slice A0_1 l0_1.length c0_1, .slice (some ad504) l0_2.length c0_2, .slice A0_3 l0_3.length c0_3] 27 (0, 0)) (bkT BK500.out)) : gb505 ≠ gb500)); replace BK500 := bS BK500 hb; clear hb hbox hg; have hnb44 := NB505_500.out; have hnc44 := NB500_505.out; obtain ⟨hcz45_0, hfz45_0⟩ := bx1 BK505.out))
             have n0_ : Aside0 ((w43.setCell ⟨gb505, 0, none⟩ (.slice A504_0 ((rd_T60 l0_2 x34_2).f0).length c504_0)).heap[gb500]? = some (.cells #[.string a0_0, .slice A0_1 l0_1.length c0_1, .slice (some ad504) l0_2.length c0_2, .slice A0_3 l0_3.length c0_3] 27 (0, 0))) := ⟨by (with_reducible repeat (first | refine blk_drewN ?_ _ | refine blk_drew ?_ | refine blk_alloc ?_ _)); refine blk_far ?_ NB500_505.out _; (with_reducible repeat (first | refine blk_drewN ?_ _ | refine blk_drew ?_ | refine blk_alloc ?_ _)); exact BK500.out⟩
             have n1_ : Aside0 ((w43.setCell ⟨gb505, 0, none⟩ (.slice A504_0 ((rd_T60 l0_2 x34_2).f0).length c504_0)).heap[gb505]? = some (.cells #[.slice A504_0 ((rd_T60 l0_2 x34_2).f0).length c504_0] 60 (0, 0))) := ⟨by (with_reducible repeat (first | refine blk_drewN ?_ _ | refine blk_drew ?_ | refine blk_alloc ?_ _)); refine blk_put (cs := #[.slice none 0 0]) ?_ 0 _ rfl; (with_reducible repeat (first | refine blk_drewN ?_ _ | refine blk_drew ?_ | refine blk_alloc ?_ _)); exact BK505.out⟩
             have n2_ : Aside0 (Below w.heap.size w (w43.setCell ⟨gb505, 0, none⟩ (.slice A504_0 ((rd_T60 l0_2 x34_2).f0).length c504_0))) := ⟨hbT HB.out⟩
             (try clear BK500); (try clear BK505 HB)
             generalize (w43.setCell ⟨gb505, 0, none⟩ (.slice A504_0 ((rd_T60 l0_2 x34_2).f0).length c504_0)) = w46 at n0_ n1_ n2_ ⊢
             have BK500 := n0_; have BK505 := n1_; have HB := n2_; clear n0_ n1_ n2_; replace BK500 := asT (blk_drew BK500.out); replace BK505 := asT (blk_drew BK505.out); replace HB := asT (below_drew1 HB.out)
             have p508 : 0 ≤ (x34_2 : Int) := dT asmT
             have q508 : x34_2 < (l0_3.length : Int) := dT asmT
             obtain ⟨ad508, A508_0, c508_0, e508, hx508_0, hl508_0, hi508_0⟩ := at_L6 HR0_3.out x34_2 p508 q508; have hw508_0 := hx508_0
             cases e508
             replace hx508_0 := hbc HB.out hx508_0; have HR508_0 := asT hi508_0; have HC508_0 := asT hl508_0; clear hi508_0 hl508_0; replace p508 := eq_true p508; replace q508 := eq_true q508
             refine start_ (n := 23) (S := fun w' => w'.cell? ⟨gb505, 0, none⟩ = some (.slice A504_0 ((rd_T60 l0_2 x34_2).f0).length c504_0) ∧ w'.cell? ⟨gb500, 0, none⟩ = some (.string a0_0) ∧ w'.cell? ⟨gb500, 1, none⟩ = some (.slice A0_1 l0_1.length c0_1) ∧ w'.cell? ⟨gb500, 2, none⟩ = some (.slice (some ad504) l0_2.length c0_2) ∧ w'.cell? ⟨gb500, 3, none⟩ = some (.slice (some ad508) l0_3.length c0_3) ∧ w'.cell? (ad508.add (x34_2).toNat) = some (.slice A508_0 (rd_L6 l0_3 x34_2).length c508_0)) (ds := []) (bA 23 0) (by kernel_rfl) rfl rfl ⟨bc0 BK505.out, bc0 BK500.out, bc1 BK500.out, bc2 BK500.out, bc3 BK500.out, (hbc HB.out hw508_0 :)⟩ (fun hHeld => ?_); refine with_tabW impl_IsTableau.tab6 impl_IsTableau.bits6 (fun HT_ HW_ => ?_)
             generalize w46.drew = w47 at BK500 BK505 HB HR508_0 hx508_0 hHeld ⊢
             refine tA 0 39 23 1 HT_.out HW_.out hHeld ?_ rfl rfl
             refine oA 1 40 23 3 HT_.out (fun K hK => ?_) rfl rfl
             refine goes_ Tryz.func85 (by kernel_rfl) rfl #[.agg #[.slice A504_0 ((rd_T60 l0_2 x34_2).f0).length c504_0]] (by rfl) rfl rfl eqT ?_
             (with_reducible refine (impl_IsCandidate.calls k2 _ _ ((rd_T60 l0_2 x34_2).f0) true _ ?side1 ?side2 A26.out).mono ?_); (case side1 => exact crT HR504_0.out HB.out); (case side2 => exact HC504_0.out); rintro e w48 ⟨rfl, hb⟩; refine ⟨_, rfl, ?_⟩; replace BK500 := bS BK500 hb; replace BK505 := bS BK505 hb; replace HB := hS HB hb; (try clear hb hb2 hk hi)
             refine hK.out _ _ ⟨bc0 BK505.out, bc0 BK500.out, bc1 BK500.out, bc2 BK500.out, bc3 BK500.out, (hbc HB.out hw508_0 :)⟩ (fun hHeld => ?_)
             clear hK K
             refine nB 40 ?_ rfl; refine pA 2 41 23 7 HT_.out ?_ rfl rfl; refine pA 3 42 23 15 HT_.out ?_ rfl rfl; refine pA 6 45 23 79 HT_.out ?_ rfl rfl; refine tA 4 43 23 95 HT_.out HW_.out hHeld ?_ rfl rfl; refine tA 7 46 23 223 HT_.out HW_.out hHeld ?_ rfl rfl
             refine oA 5 44 23 255 HT_.out (fun K hK => ?_) rfl rfl
             refine goes_ Tryz.func95 (by kernel_rfl) rfl #[.agg #[.slice A504_0 ((rd_T60 l0_2 x34_2).f0).length c504_0]] (by rfl) rfl rfl eqT ?_
             (with_reducible refine (impl_InputOf.calls k2 _ _ ((rd_T60 l0_2 x34_2).f0) t507 _ ?side1 ?side2 A28.out).mono ?_); (case side1 => exact crT HR504_0.out HB.out); (case side2 => exact HC504_0.out); rintro e w49 ⟨rfl, hb⟩; refine ⟨_, rfl, ?_⟩; replace BK500 := bS BK500 hb; replace BK505 := bS BK505 hb; replace HB := hS HB hb; (try clear hb hb2 hk hi)
             refine hK.out _ _ ⟨bc0 BK505.out, bc0 BK500.out, bc1 BK500.out, bc2 BK500.out, bc3 BK500.out, (hbc HB.out hw508_0 :)⟩ (fun hHeld => ?_)
             clear hK K
             refine nB 44 ?_ rfl; refine pA 8 47 23 511 HT_.out ?_ rfl rfl; refine pA 9 48 23 1023 HT_.out ?_ rfl rfl; refine pA 10 49 23 2047 HT_.out ?_ rfl rfl; refine pA 11 50 23 4095 HT_.out ?_ rfl rfl; refine pA 13 52 23 12287 HT_.out ?_ rfl rfl; refine pA 16 55 23 77823 HT_.out ?_ rfl rfl; refine tA 12 51 23 81919 HT_.out HW_.out hHeld ?_ rfl rfl; refine pA 14 53 23 98303 HT_.out ?_ rfl rfl; refine tA 15 54 23 131071 HT_.out HW_.out hHeld ?_ rfl rfl; refine tA 17 56 23 262143 HT_.out HW_.out hHeld ?_ rfl rfl; refine tA 18 57 23 524287 HT_.out HW_.out hHeld ?_ rfl rfl
             refine oA 19 58 23 1048575 HT_.out (fun K hK => ?_) rfl rfl
             refine goes_ Tryz.func43 (by kernel_rfl) rfl #[.slice A0_1 l0_1.length c0_1, .agg #[.slice A504_0 ((rd_T60 l0_2 x34_2).f0).length c504_0]] (by rfl) rfl rfl eqT ?_
             (with_reducible refine (impl_ProfileOf.calls k2 _ _ l0_1 _ _ ((rd_T60 l0_2 x34_2).f0) t509 _ ?side1 ?side2 ?side3 ?side4 A31.out).mono ?_); (case side1 => exact crT HR0_1.out HB.out); (case side2 => exact HC0_1.out); (case side3 => exact crT HR504_0.out HB.out); (case side4 => exact HC504_0.out); rintro e w50 ⟨v510, rfl, ho0, hb⟩; refine ⟨_, rfl, ?_⟩; have HO511 := asT (Kd.R_lower ho0 (below_size (hbT HB.out))); replace BK500 := bS BK500 hb; replace BK505 := bS BK505 hb; replace HB := hS HB hb; (try clear hb hb2 hk hi ho0); obtain ⟨Ao51, co51, eo51⟩ := Kd.R_slice HO511.out; (first | subst eo51 | (injection eo51 with f1_ f2_ f3_; have f4_ := f1_.symm; have f5_ := f3_.symm; clear f1_ f2_ f3_; subst f4_; subst f5_))
             refine hK.out _ _ ⟨bc0 BK505.out, bc0 BK500.out, bc1 BK500.out, bc2 BK500.out, bc3 BK500.out, (hbc HB.out hw508_0 :)⟩ (fun hHeld => ?_)
             clear hK K
             refine nB 58 ?_ rfl
             refine oA 20 59 23 2097151 HT_.out (fun K hK => ?_) rfl rfl
             refine goes_ Tryz.func60 (by kernel_rfl) rfl #[.slice A508_0 (rd_L6 l0_3 x34_2).length c508_0, .slice Ao51 t509.length co51] (by rfl) rfl rfl eqT ?_
             (with_reducible refine (slices_Equal_int_int.calls k2 _ _ (rd_L6 l0_3 x34_2) _ _ t509 false _ ?side1 ?side2 ?side3 ?side4 A32.out).mono ?_); (case side1 => exact crT HR508_0.out HB.out); (case side2 => exact HC508_0.out); (case side3 => repeat (first | exact (Kd.R_reads' HO511.out).2.2 | (with_reducible refine Kd.C_alloc ?_ _) | (with_reducible refine Kd.C_drewN ?_ _) | (with_reducible refine Kd.C_drew ?_))); (case side4 => exact (Kd.R_reads' HO511.out).2.1); rintro e w' ⟨rfl, ⟨nd, rfl⟩⟩; refine ⟨_, rfl, ?_⟩
             refine hK.out _ _ ⟨bc0 BK505.out, bc0 BK500.out, bc1 BK500.out, bc2 BK500.out, bc3 BK500.out, (hbc HB.out hw508_0 :)⟩ (fun hHeld => ?_)
             clear hK K
             refine nB 59 ?_ rfl; refine pA 21 60 23 4194303 HT_.out ?_ rfl rfl; refine pA 22 61 23 8388607 HT_.out ?_ rfl rfl
             refine done_ (done_of HT_.out (by kernel_rfl)) ?_
             try go_wp2
             go_ret
             exact ⟨rlT, hbT HB.out⟩
           ·rw [if_neg c30] at H
            exact absurd H (by simp)
          ·rw [if_neg c29] at H
           have c29b0 : (t507.toList == a0_0.toList) = false := eB c29
           have c29b1 : (t507.toList != a0_0.toList) = true := eD c29
           obtain rfl := oI H
           have p504 : 0 ≤ (x34_2 : Int) := dT asmT
           have q504 : x34_2 < (l0_2.length : Int) := dT asmT
           obtain ⟨ad504, A504_0, c504_0, e504, hx504_0, hl504_0, hi504_0⟩ := at_T60 HR0_2.out x34_2 p504 q504
           cases e504
           replace hx504_0 := hbc HB.out hx504_0; have HR504_0 := asT hi504_0; have HC504_0 := asT hl504_0; clear hi504_0 hl504_0; replace p504 := eq_true p504; replace q504 := eq_true q504
           try go_wp2_with (first | ((with_reducible refine gate_dst (N := 4) rfl ?_); (try (refine gate_guard (by rfl) ?_; dsimp only)); refine boxT (N := 4) (cs := #[.slice none 0 0]) (t := 60) ?_; intro gb505 hg w52 hbox hb; have BK505 := asT (hbox); have GW505 := asT (geT hg HB.out); have GE505 := asT (geT hg HB.out); replace HB := hS HB hb; have NB500_505 := asT ((by rw [hg]; exact Nat.ne_of_lt (blk_lt (g := gb500) (o := .cells #[.string a0_0, .slice A0_1 l0_1.length c0_1, .slice (some ad504) l0_2.length c0_2, .slice A0_3 l0_3.length c0_3] 27 (0, 0)) (bkT BK500.out)) : gb500 ≠ gb505)); have NB505_500 := asT ((by rw [hg]; exact Nat.ne_of_gt (blk_lt (g := gb500) (o := .cells #[.string a0_0, .slice A0_1 l0_1.length c0_1, .slice (some ad504) l0_2.length c0_2, .slice A0_3 l0_3.length c0_3] 27 (0, 0)) (bkT BK500.out)) : gb505 ≠ gb500)); replace BK500 := bS BK500 hb; clear hb hbox hg; have hnb53 := NB505_500.out; have hnc53 := NB500_505.out; obtain ⟨hcz54_0, hfz54_0⟩ := bx1 BK505.out))
           have n0_ : Aside0 ((w52.setCell ⟨gb505, 0, none⟩ (.slice A504_0 ((rd_T60 l0_2 x34_2).f0).length c504_0)).heap[gb500]? = some (.cells #[.string a0_0, .slice A0_1 l0_1.length c0_1, .slice (some ad504) l0_2.length c0_2, .slice A0_3 l0_3.length c0_3] 27 (0, 0))) := ⟨by (with_reducible repeat (first | refine blk_drewN ?_ _ | refine blk_drew ?_ | refine blk_alloc ?_ _)); refine blk_far ?_ NB500_505.out _; (with_reducible repeat (first | refine blk_drewN ?_ _ | refine blk_drew ?_ | refine blk_alloc ?_ _)); exact BK500.out⟩
           have n1_ : Aside0 ((w52.setCell ⟨gb505, 0, none⟩ (.slice A504_0 ((rd_T60 l0_2 x34_2).f0).length c504_0)).heap[gb505]? = some (.cells #[.slice A504_0 ((rd_T60 l0_2 x34_2).f0).length c504_0] 60 (0, 0))) := ⟨by (with_reducible repeat (first | refine blk_drewN ?_ _ | refine blk_drew ?_ | refine blk_alloc ?_ _)); refine blk_put (cs := #[.slice none 0 0]) ?_ 0 _ rfl; (with_reducible repeat (first | refine blk_drewN ?_ _ | refine blk_drew ?_ | refine blk_alloc ?_ _)); exact BK505.out⟩
           have n2_ : Aside0 (Below w.heap.size w (w52.setCell ⟨gb505, 0, none⟩ (.slice A504_0 ((rd_T60 l0_2 x34_2).f0).length c504_0))) := ⟨hbT HB.out⟩
           (try clear BK500); (try clear BK505 HB)
           generalize (w52.setCell ⟨gb505, 0, none⟩ (.slice A504_0 ((rd_T60 l0_2 x34_2).f0).length c504_0)) = w55 at n0_ n1_ n2_ ⊢
           have BK500 := n0_; have BK505 := n1_; have HB := n2_; clear n0_ n1_ n2_; replace BK500 := asT (blk_drew BK500.out); replace BK505 := asT (blk_drew BK505.out); replace HB := asT (below_drew1 HB.out)
           refine start_ (n := 23) (S := fun w' => w'.cell? ⟨gb505, 0, none⟩ = some (.slice A504_0 ((rd_T60 l0_2 x34_2).f0).length c504_0) ∧ w'.cell? ⟨gb500, 0, none⟩ = some (.string a0_0) ∧ w'.cell? ⟨gb500, 1, none⟩ = some (.slice A0_1 l0_1.length c0_1) ∧ w'.cell? ⟨gb500, 2, none⟩ = some (.slice (some ad504) l0_2.length c0_2) ∧ w'.cell? ⟨gb500, 3, none⟩ = some (.slice A0_3 l0_3.length c0_3)) (ds := []) (bA 23 0) (by kernel_rfl) rfl rfl ⟨bc0 BK505.out, bc0 BK500.out, bc1 BK500.out, bc2 BK500.out, bc3 BK500.out⟩ (fun hHeld => ?_); refine with_tabW impl_IsTableau.tab6 impl_IsTableau.bits6 (fun HT_ HW_ => ?_)
           generalize w55.drew = w56 at BK500 BK505 HB hHeld ⊢
           refine tA 0 39 23 1 HT_.out HW_.out hHeld ?_ rfl rfl
           refine oA 1 40 23 3 HT_.out (fun K hK => ?_) rfl rfl
           refine goes_ Tryz.func85 (by kernel_rfl) rfl #[.agg #[.slice A504_0 ((rd_T60 l0_2 x34_2).f0).length c504_0]] (by rfl) rfl rfl eqT ?_
           (with_reducible refine (impl_IsCandidate.calls k2 _ _ ((rd_T60 l0_2 x34_2).f0) true _ ?side1 ?side2 A26.out).mono ?_); (case side1 => exact crT HR504_0.out HB.out); (case side2 => exact HC504_0.out); rintro e w57 ⟨rfl, hb⟩; refine ⟨_, rfl, ?_⟩; replace BK500 := bS BK500 hb; replace BK505 := bS BK505 hb; replace HB := hS HB hb; (try clear hb hb2 hk hi)
           refine hK.out _ _ ⟨bc0 BK505.out, bc0 BK500.out, bc1 BK500.out, bc2 BK500.out, bc3 BK500.out⟩ (fun hHeld => ?_)
           clear hK K
           refine nB 40 ?_ rfl; refine pA 2 41 23 7 HT_.out ?_ rfl rfl; refine pA 3 42 23 15 HT_.out ?_ rfl rfl; refine pA 6 45 23 79 HT_.out ?_ rfl rfl; refine tA 4 43 23 95 HT_.out HW_.out hHeld ?_ rfl rfl; refine tA 7 46 23 223 HT_.out HW_.out hHeld ?_ rfl rfl
           refine oA 5 44 23 255 HT_.out (fun K hK => ?_) rfl rfl
           refine goes_ Tryz.func95 (by kernel_rfl) rfl #[.agg #[.slice A504_0 ((rd_T60 l0_2 x34_2).f0).length c504_0]] (by rfl) rfl rfl eqT ?_
           (with_reducible refine (impl_InputOf.calls k2 _ _ ((rd_T60 l0_2 x34_2).f0) t507 _ ?side1 ?side2 A28.out).mono ?_); (case side1 => exact crT HR504_0.out HB.out); (case side2 => exact HC504_0.out); rintro e w58 ⟨rfl, hb⟩; refine ⟨_, rfl, ?_⟩; replace BK500 := bS BK500 hb; replace BK505 := bS BK505 hb; replace HB := hS HB hb; (try clear hb hb2 hk hi)
           refine hK.out _ _ ⟨bc0 BK505.out, bc0 BK500.out, bc1 BK500.out, bc2 BK500.out, bc3 BK500.out⟩ (fun hHeld => ?_)
           clear hK K
           refine nB 44 ?_ rfl; refine pA 8 47 23 511 HT_.out ?_ rfl rfl; refine pA 9 48 23 1023 HT_.out ?_ rfl rfl; refine pA 10 49 23 2047 HT_.out ?_ rfl rfl; refine uA 11 50 23 4095 HT_.out ?_ rfl rfl; refine uA 12 51 23 8191 HT_.out ?_ rfl rfl; refine uA 13 52 23 16383 HT_.out ?_ rfl rfl; refine uA 14 53 23 32767 HT_.out ?_ rfl rfl; refine uA 15 54 23 65535 HT_.out ?_ rfl rfl; refine uA 16 55 23 131071 HT_.out ?_ rfl rfl; refine uA 17 56 23 262143 HT_.out ?_ rfl rfl; refine uA 18 57 23 524287 HT_.out ?_ rfl rfl; refine uA 19 58 23 1048575 HT_.out ?_ rfl rfl; refine uA 20 59 23 2097151 HT_.out ?_ rfl rfl; refine uA 21 60 23 4194303 HT_.out ?_ rfl rfl; refine pA 22 61 23 8388607 HT_.out ?_ rfl rfl
           refine done_ (done_of HT_.out (by kernel_rfl)) ?_
           try go_wp2
           go_ret
           exact ⟨rlT, hbT HB.out⟩
         ·replace c27 := eE c27
          subst c27; rw [if_neg nF] at H; have H1 := H; clear H; have H := H1; clear H1
          obtain rfl := oI H
          have p504 : 0 ≤ (x34_2 : Int) := dT asmT
          have q504 : x34_2 < (l0_2.length : Int) := dT asmT
          obtain ⟨ad504, A504_0, c504_0, e504, hx504_0, hl504_0, hi504_0⟩ := at_T60 HR0_2.out x34_2 p504 q504
          cases e504
          replace hx504_0 := hbc HB.out hx504_0; have HR504_0 := asT hi504_0; have HC504_0 := asT hl504_0; clear hi504_0 hl504_0; replace p504 := eq_true p504; replace q504 := eq_true q504
          try go_wp2_with (first | ((with_reducible refine gate_dst (N := 4) rfl ?_); (try (refine gate_guard (by rfl) ?_; dsimp only)); refine boxT (N := 4) (cs := #[.slice none 0 0]) (t := 60) ?_; intro gb505 hg w59 hbox hb; have BK505 := asT (hbox); have GW505 := asT (geT hg HB.out); have GE505 := asT (geT hg HB.out); replace HB := hS HB hb; have NB500_505 := asT ((by rw [hg]; exact Nat.ne_of_lt (blk_lt (g := gb500) (o := .cells #[.string a0_0, .slice A0_1 l0_1.length c0_1, .slice (some ad504) l0_2.length c0_2, .slice A0_3 l0_3.length c0_3] 27 (0, 0)) (bkT BK500.out)) : gb500 ≠ gb505)); have NB505_500 := asT ((by rw [hg]; exact Nat.ne_of_gt (blk_lt (g := gb500) (o := .cells #[.string a0_0, .slice A0_1 l0_1.length c0_1, .slice (some ad504) l0_2.length c0_2, .slice A0_3 l0_3.length c0_3] 27 (0, 0)) (bkT BK500.out)) : gb505 ≠ gb500)); replace BK500 := bS BK500 hb; clear hb hbox hg; have hnb60 := NB505_500.out; have hnc60 := NB500_505.out; obtain ⟨hcz61_0, hfz61_0⟩ := bx1 BK505.out))
          have n0_ : Aside0 ((w59.setCell ⟨gb505, 0, none⟩ (.slice A504_0 ((rd_T60 l0_2 x34_2).f0).length c504_0)).heap[gb500]? = some (.cells #[.string a0_0, .slice A0_1 l0_1.length c0_1, .slice (some ad504) l0_2.length c0_2, .slice A0_3 l0_3.length c0_3] 27 (0, 0))) := ⟨by (with_reducible repeat (first | refine blk_drewN ?_ _ | refine blk_drew ?_ | refine blk_alloc ?_ _)); refine blk_far ?_ NB500_505.out _; (with_reducible repeat (first | refine blk_drewN ?_ _ | refine blk_drew ?_ | refine blk_alloc ?_ _)); exact BK500.out⟩
          have n1_ : Aside0 ((w59.setCell ⟨gb505, 0, none⟩ (.slice A504_0 ((rd_T60 l0_2 x34_2).f0).length c504_0)).heap[gb505]? = some (.cells #[.slice A504_0 ((rd_T60 l0_2 x34_2).f0).length c504_0] 60 (0, 0))) := ⟨by (with_reducible repeat (first | refine blk_drewN ?_ _ | refine blk_drew ?_ | refine blk_alloc ?_ _)); refine blk_put (cs := #[.slice none 0 0]) ?_ 0 _ rfl; (with_reducible repeat (first | refine blk_drewN ?_ _ | refine blk_drew ?_ | refine blk_alloc ?_ _)); exact BK505.out⟩
          have n2_ : Aside0 (Below w.heap.size w (w59.setCell ⟨gb505, 0, none⟩ (.slice A504_0 ((rd_T60 l0_2 x34_2).f0).length c504_0))) := ⟨hbT HB.out⟩
          (try clear BK500); (try clear BK505 HB)
          generalize (w59.setCell ⟨gb505, 0, none⟩ (.slice A504_0 ((rd_T60 l0_2 x34_2).f0).length c504_0)) = w62 at n0_ n1_ n2_ ⊢
          have BK500 := n0_; have BK505 := n1_; have HB := n2_; clear n0_ n1_ n2_; replace BK500 := asT (blk_drew BK500.out); replace BK505 := asT (blk_drew BK505.out); replace HB := asT (below_drew1 HB.out)
          refine start_ (n := 23) (S := fun w' => w'.cell? ⟨gb505, 0, none⟩ = some (.slice A504_0 ((rd_T60 l0_2 x34_2).f0).length c504_0)) (ds := []) (bA 23 0) (by kernel_rfl) rfl rfl ((blk_cell BK505.out 0).trans rfl) (fun hHeld => ?_); refine with_tabW impl_IsTableau.tab6 impl_IsTableau.bits6 (fun HT_ HW_ => ?_)
          generalize w62.drew = w63 at BK500 BK505 HB hHeld ⊢
          refine tA 0 39 23 1 HT_.out HW_.out hHeld ?_ rfl rfl
          refine oA 1 40 23 3 HT_.out (fun K hK => ?_) rfl rfl
          refine goes_ Tryz.func85 (by kernel_rfl) rfl #[.agg #[.slice A504_0 ((rd_T60 l0_2 x34_2).f0).length c504_0]] (by rfl) rfl rfl eqT ?_
          (with_reducible refine (impl_IsCandidate.calls k2 _ _ ((rd_T60 l0_2 x34_2).f0) false _ ?side1 ?side2 A26.out).mono ?_); (case side1 => exact crT HR504_0.out HB.out); (case side2 => exact HC504_0.out); rintro e w64 ⟨rfl, hb⟩; refine ⟨_, rfl, ?_⟩; replace BK500 := bS BK500 hb; replace BK505 := bS BK505 hb; replace HB := hS HB hb; (try clear hb hb2 hk hi)
          refine hK.out _ _ ((blk_cell BK505.out 0).trans rfl) (fun hHeld => ?_)
          clear hK K
          refine nB 40 ?_ rfl; refine pA 2 41 23 7 HT_.out ?_ rfl rfl; refine pA 3 42 23 15 HT_.out ?_ rfl rfl; refine uA 4 43 23 31 HT_.out ?_ rfl rfl; refine uA 5 44 23 63 HT_.out ?_ rfl rfl; refine uA 6 45 23 127 HT_.out ?_ rfl rfl; refine uA 7 46 23 255 HT_.out ?_ rfl rfl; refine uA 8 47 23 511 HT_.out ?_ rfl rfl; refine pA 9 48 23 1023 HT_.out ?_ rfl rfl; refine pA 10 49 23 2047 HT_.out ?_ rfl rfl; refine uA 11 50 23 4095 HT_.out ?_ rfl rfl; refine uA 12 51 23 8191 HT_.out ?_ rfl rfl; refine uA 13 52 23 16383 HT_.out ?_ rfl rfl; refine uA 14 53 23 32767 HT_.out ?_ rfl rfl; refine uA 15 54 23 65535 HT_.out ?_ rfl rfl; refine uA 16 55 23 131071 HT_.out ?_ rfl rfl; refine uA 17 56 23 262143 HT_.out ?_ rfl rfl; refine uA 18 57 23 524287 HT_.out ?_ rfl rfl; refine uA 19 58 23 1048575 HT_.out ?_ rfl rfl; refine uA 20 59 23 2097151 HT_.out ?_ rfl rfl; refine uA 21 60 23 4194303 HT_.out ?_ rfl rfl; refine pA 22 61 23 8388607 HT_.out ?_ rfl rfl
          refine done_ (done_of HT_.out (by kernel_rfl)) ?_
          try go_wp2
          go_ret
          exact ⟨rlT, hbT HB.out⟩
        ·rw [if_neg c25] at H
         exact absurd H (by simp)
       ·rw [if_neg c24] at H
        exact absurd H (by simp)
      ·rw [if_neg c23] at H
       have c23b0 : decide (x34_2 < (l0_2.length : Int)) = false := df c23
       clear c23
       obtain rfl := oI H
       go_wp2
       go_ret
       exact ⟨rlT, hbT HB.out⟩
def impl_isStrict.l0 : Nat → List Int → Int → List Int → Int → Int → Option (Bool)
 | 0, _, _, _, _, _ => none
 | k + 1, x0, x1, x7, x8, x9 => if x9 < x8 then (if 0 ≤ x9 then (if x9 < (x7.length : Int) then ((impl_within.f (rd x7 x9) 0 (wrap64 (x1 - 1))).bind fun t514 => (if t514 = true then (if x9 > 0 then (if 0 ≤ (wrap64 (x9 - 1)) then (if (wrap64 (x9 - 1)) < (x0.length : Int) then (if (rd x7 x9) ≤ (rd x0 (wrap64 (x9 - 1))) then (some false) else (impl_isStrict.l0 k x0 x1 x7 x8 (wrap64 (x9 + 1)))) else (none)) else (none)) else (impl_isStrict.l0 k x0 x1 x7 x8 (wrap64 (x9 + 1)))) else (some false))) else (none)) else (none)) else (some true)
def impl_isStrict.f (k : Nat) (l0 : List Int) (a1 : Int) : Option (Bool) := impl_isStrict.l0 k l0 a1 l0 (l0.length : Int) 0
theorem impl_isStrict.mono_l : ∀ k, (∀ y0 y1 y2 y3 y4, LeO (impl_isStrict.l0 k y0 y1 y2 y3 y4) (impl_isStrict.l0 (k + 1) y0 y1 y2 y3 y4))
 | 0 => fun _ _ _ _ _ r h => by simp [impl_isStrict.l0] at h
 | k + 1 => by
  have ih0 := impl_isStrict.mono_l k
  ·intro y0 y1 y2 y3 y4
   unfold impl_isStrict.l0
   with_reducible repeat' first | exact ih0 _ _ _ _ _ | exact LeO.refl _ | exact LeO.none _ | refine LeO.ite ?_ ?_ | refine LeO.bind ?_ (fun _ => ?_)
theorem impl_isStrict.mono : ∀ a0 a1 k, LeO (impl_isStrict.f k a0 a1) (impl_isStrict.f (k + 1) a0 a1) := by
 intro a0 a1 k
 have ih0 := impl_isStrict.mono_l k
 unfold impl_isStrict.f
 with_reducible repeat' first | exact ih0 _ _ _ _ _ | exact LeO.refl _ | exact LeO.none _ | refine LeO.ite ?_ ?_ | refine LeO.bind ?_ (fun _ => ?_)
theorem impl_isStrict.calls (k : Nat) (A0 : Option Addr) (c0 : Nat) (l0 : List Int) (a1 : Int) (r : Bool) (w : World) (hr0 : Kd.C (Kd.int .i64) w A0 l0.length l0) (hc0 : l0.length ≤ c0) (h : impl_isStrict.f k l0 a1 = some r) :
  Calls Tryz.prog 102 #[.slice A0 l0.length c0, .int .i64 a1] w fun e w' => e = .returned (.bool r) ∧ Drawn0 w w' := by
 have HR0 := asT hr0; have HC0 := asT hc0; clear hr0 hc0; have H := h; unfold impl_isStrict.f at H; clear h; have H' := asT H; clear H
 go_enter Tryz.func102, Tryz.ntmps102
 go_wp2
 go_loopg [9] k (fun kq v9 w' => ∃ (x9_1 : Int), v9 = .int .i64 x9_1 ∧ Aside0 (impl_isStrict.l0 kq l0 a1 l0 (l0.length : Int) x9_1 = some r) ∧ Aside0 (kq ≤ k) ∧ Drawn0 w w')
 case atStart => exact ⟨(0), rdT, H', ⟨Nat.le_refl _⟩, drT⟩
 case round =>
  clear H'; (try clear c1 p2); obtain ⟨x9_1, rfl, HA, HK1, ⟨m1, rfl⟩⟩ := hrel
  cases gk with
  | zero => exact absurd HA.out (by simp [impl_isStrict.l0])
  | succ k1 =>
   have H := HA.out; clear HA
   simp only [impl_isStrict.l0] at H
   by_cases c3 : x9_1 < (l0.length : Int)
   ·rw [if_pos c3] at H
    have c3b0 : decide (x9_1 < (l0.length : Int)) = true := dt c3
    clear c3
    by_cases c4 : 0 ≤ x9_1
    ·rw [if_pos c4] at H
     have c4b0 : decide (0 ≤ x9_1) = true := dt c4
     clear c4
     by_cases c5 : x9_1 < (l0.length : Int)
     ·rw [if_pos c5] at H
      have c5b0 : decide (x9_1 < (l0.length : Int)) = true := dt c5
      clear c5; obtain ⟨t514, A6, H⟩ := be H
      by_cases c7 : t514 = true
      ·subst c7
       rw [if_pos rfl] at H; have H1 := H; clear H; have H := H1; clear H1
       by_cases c8 : x9_1 > 0
       ·rw [if_pos c8] at H
        have c8b0 : decide (0 < x9_1) = true := dt c8
        clear c8; obtain ⟨ji9, hji9⟩ : ∃ j_ : Int, (wrap64 (x9_1 - 1)) = j_ := ⟨_, rfl⟩
        replace H : (if 0 ≤ (ji9) then (if (ji9) < (l0.length : Int) then (if (rd l0 x9_1) ≤ (rd l0 (ji9)) then (some false) else (impl_isStrict.l0 k1 l0 a1 l0 (l0.length : Int) (wrap64 (x9_1 + 1)))) else (none)) else (none)) = some r := by first | (rw [hji9] at H; exact H) | (simp only [hji9] at H ⊢; exact H)
        (try rw [hji9] at A6)
        have hji9w : (IntKind.i64.wrap (x9_1 - 1)) = ji9 := (i64_w _).trans hji9
        by_cases c10 : 0 ≤ (ji9)
        ·rw [if_pos c10] at H
         have c10b0 : decide (0 ≤ (ji9)) = true := dt c10
         clear c10
         by_cases c11 : (ji9) < (l0.length : Int)
         ·rw [if_pos c11] at H
          have c11b0 : decide ((ji9) < (l0.length : Int)) = true := dt c11
          clear c11
          by_cases c12 : (rd l0 x9_1) ≤ (rd l0 (ji9))
          ·rw [if_pos c12] at H
           have c12b0 : decide ((rd l0 x9_1) ≤ (rd l0 (ji9))) = true := dt c12
           clear c12
           obtain rfl := oI H
           have p513 : 0 ≤ (x9_1 : Int) := dT asmT
           have q513 : x9_1 < (l0.length : Int) := dT asmT
           obtain ⟨ad513, e513, hx513_0⟩ := Kd.at_int HR0.out x9_1 p513 q513
           cases e513
           replace p513 := eq_true p513; replace q513 := eq_true q513
           go_wp2_with (first | ((with_reducible refine gate_callee (f := 82) rfl ?_); refine goesL_ (some 17) rfl rfl Tryz.func82 (by kernel_rfl) rfl #[.int .i64 (rd l0 x9_1), .int .i64 0, .int .i64 (wrap64 (a1 - 1))] rfl eqT ?_; (with_reducible refine (impl_within.calls (rd l0 x9_1) 0 (wrap64 (a1 - 1)) true _ A6.out).mono ?_); rintro e w' ⟨rfl, ⟨nd, rfl⟩⟩; refine ⟨_, rfl, ?_⟩; have p515 : 0 ≤ ((ji9) : Int) := dT asmT; have q515 : (ji9) < (l0.length : Int) := dT asmT; obtain ⟨ad515, e515, hx515_0⟩ := Kd.at_int HR0.out (ji9) p515 q515; obtain rfl : ad513 = ad515 := (by injection e515); replace p515 := eq_true p515; replace q515 := eq_true q515))
           go_ret
           exact ⟨by first | rfl | (simp; done) | (simp only [← hji9] <;> (first | rfl | simp)) | (simp [*]; done), drT⟩
          ·rw [if_neg c12] at H
           have c12b0 : decide ((rd l0 x9_1) ≤ (rd l0 (ji9))) = false := df c12
           clear c12; have H' := asT H; clear H
           have p513 : 0 ≤ (x9_1 : Int) := dT asmT
           have q513 : x9_1 < (l0.length : Int) := dT asmT
           obtain ⟨ad513, e513, hx513_0⟩ := Kd.at_int HR0.out x9_1 p513 q513
           cases e513
           replace p513 := eq_true p513; replace q513 := eq_true q513
           go_wp2_with (first | ((with_reducible refine gate_callee (f := 82) rfl ?_); refine goesL_ (some 17) rfl rfl Tryz.func82 (by kernel_rfl) rfl #[.int .i64 (rd l0 x9_1), .int .i64 0, .int .i64 (wrap64 (a1 - 1))] rfl eqT ?_; (with_reducible refine (impl_within.calls (rd l0 x9_1) 0 (wrap64 (a1 - 1)) true _ A6.out).mono ?_); rintro e w' ⟨rfl, ⟨nd, rfl⟩⟩; refine ⟨_, rfl, ?_⟩; have p515 : 0 ≤ ((ji9) : Int) := dT asmT; have q515 : (ji9) < (l0.length : Int) := dT asmT; obtain ⟨ad515, e515, hx515_0⟩ := Kd.at_int HR0.out (ji9) p515 q515; obtain rfl : ad513 = ad515 := (by injection e515); replace p515 := eq_true p515; replace q515 := eq_true q515))
           go_roundg k1
           case measure => have := HK1.out; omega
           case rel => exact ⟨(wrap64 (x9_1 + 1)), rdT, H', ⟨by have := HK1.out; omega⟩, drT⟩
         ·rw [if_neg c11] at H
          exact absurd H (by simp)
        ·rw [if_neg c10] at H
         exact absurd H (by simp)
       ·rw [if_neg c8] at H
        have c8b0 : decide (0 < x9_1) = false := df c8
        clear c8; have H' := asT H; clear H
        have p513 : 0 ≤ (x9_1 : Int) := dT asmT
        have q513 : x9_1 < (l0.length : Int) := dT asmT
        obtain ⟨ad513, e513, hx513_0⟩ := Kd.at_int HR0.out x9_1 p513 q513
        cases e513
        replace p513 := eq_true p513; replace q513 := eq_true q513
        go_wp2_with (first | ((with_reducible refine gate_callee (f := 82) rfl ?_); refine goesL_ (some 17) rfl rfl Tryz.func82 (by kernel_rfl) rfl #[.int .i64 (rd l0 x9_1), .int .i64 0, .int .i64 (wrap64 (a1 - 1))] rfl eqT ?_; (with_reducible refine (impl_within.calls (rd l0 x9_1) 0 (wrap64 (a1 - 1)) true _ A6.out).mono ?_); rintro e w' ⟨rfl, ⟨nd, rfl⟩⟩; refine ⟨_, rfl, ?_⟩))
        go_roundg k1
        case measure => have := HK1.out; omega
        case rel => exact ⟨(wrap64 (x9_1 + 1)), rdT, H', ⟨by have := HK1.out; omega⟩, drT⟩
      ·replace c7 := eE c7
       subst c7; rw [if_neg nF] at H; have H1 := H; clear H; have H := H1; clear H1
       obtain rfl := oI H
       have p513 : 0 ≤ (x9_1 : Int) := dT asmT
       have q513 : x9_1 < (l0.length : Int) := dT asmT
       obtain ⟨ad513, e513, hx513_0⟩ := Kd.at_int HR0.out x9_1 p513 q513
       cases e513
       replace p513 := eq_true p513; replace q513 := eq_true q513
       go_wp2_with (first | ((with_reducible refine gate_callee (f := 82) rfl ?_); refine goesL_ (some 17) rfl rfl Tryz.func82 (by kernel_rfl) rfl #[.int .i64 (rd l0 x9_1), .int .i64 0, .int .i64 (wrap64 (a1 - 1))] rfl eqT ?_; (with_reducible refine (impl_within.calls (rd l0 x9_1) 0 (wrap64 (a1 - 1)) false _ A6.out).mono ?_); rintro e w' ⟨rfl, ⟨nd, rfl⟩⟩; refine ⟨_, rfl, ?_⟩))
       go_ret
       exact ⟨rdT, drT⟩
     ·rw [if_neg c5] at H
      exact absurd H (by simp)
    ·rw [if_neg c4] at H
     exact absurd H (by simp)
   ·rw [if_neg c3] at H
    have c3b0 : decide (x9_1 < (l0.length : Int)) = false := df c3
    clear c3
    obtain rfl := oI H
    go_wp2
    go_ret
    exact ⟨rdT, drT⟩
def cmp_isNaN_int.f (a0 : Int) : Option (Bool) := some (a0 != a0)
theorem cmp_isNaN_int.calls (a0 : Int) (r : Bool) (w : World) (h : cmp_isNaN_int.f a0 = some r) :
  Calls Tryz.prog 200 #[.int .i64 a0] w fun e w' => e = .returned (.bool r) ∧ Drawn0 w w' := by
 have H := h; unfold cmp_isNaN_int.f at H; clear h
 obtain rfl := oI H
 go_enter Tryz.func200, Tryz.ntmps200
 go_wp2
 go_ret
 exact ⟨rdT, drT⟩
def cmp_Less_int.f (a0 : Int) (a1 : Int) : Option (Bool) := (cmp_isNaN_int.f a0).bind fun t516 => (if t516 = true then ((cmp_isNaN_int.f a1).bind fun t517 => (if t517 = true then (some (decide (a0 < a1))) else (some true))) else (some (decide (a0 < a1))))
theorem cmp_Less_int.calls (a0 : Int) (a1 : Int) (r : Bool) (w : World) (h : cmp_Less_int.f a0 a1 = some r) :
  Calls Tryz.prog 189 #[.int .i64 a0, .int .i64 a1] w fun e w' => e = .returned (.bool r) ∧ Drawn0 w w' := by
 have H := h; unfold cmp_Less_int.f at H; clear h; obtain ⟨t516, A3, H⟩ := be H
 by_cases c4 : t516 = true
 ·subst c4
  rw [if_pos rfl] at H; obtain ⟨t517, A5, H⟩ := be H
  by_cases c6 : t517 = true
  ·subst c6
   rw [if_pos rfl] at H; have H1 := H; clear H; have H := H1; clear H1
   obtain rfl := oI H
   go_enter Tryz.func189, Tryz.ntmps189
   go_wp2_with (first | ((with_reducible refine gate_callee (f := 200) rfl ?_); refine goesL_ (some 6) rfl rfl Tryz.func200 (by kernel_rfl) rfl #[.int .i64 a0] rfl eqT ?_; (with_reducible refine (cmp_isNaN_int.calls a0 true _ A3.out).mono ?_); rintro e w' ⟨rfl, ⟨nd, rfl⟩⟩; refine ⟨_, rfl, ?_⟩) | (go_at_call 200; (with_reducible refine (cmp_isNaN_int.calls a1 true _ A5.out).mono ?_); rintro e w' ⟨rfl, ⟨nd, rfl⟩⟩))
   go_ret
   exact ⟨rdT, drT⟩
  ·replace c6 := eE c6
   subst c6; rw [if_neg nF] at H; have H1 := H; clear H; have H := H1; clear H1
   obtain rfl := oI H
   go_enter Tryz.func189, Tryz.ntmps189
   go_wp2_with (first | ((with_reducible refine gate_callee (f := 200) rfl ?_); refine goesL_ (some 6) rfl rfl Tryz.func200 (by kernel_rfl) rfl #[.int .i64 a0] rfl eqT ?_; (with_reducible refine (cmp_isNaN_int.calls a0 true _ A3.out).mono ?_); rintro e w' ⟨rfl, ⟨nd, rfl⟩⟩; refine ⟨_, rfl, ?_⟩) | (go_at_call 200; (with_reducible refine (cmp_isNaN_int.calls a1 false _ A5.out).mono ?_); rintro e w' ⟨rfl, ⟨nd, rfl⟩⟩))
   go_ret
   exact ⟨rdT, drT⟩
 ·replace c4 := eE c4
  subst c4; rw [if_neg nF] at H; have H1 := H; clear H; have H := H1; clear H1
  obtain rfl := oI H
  go_enter Tryz.func189, Tryz.ntmps189
  go_wp2_with (first | ((with_reducible refine gate_callee (f := 200) rfl ?_); refine goesL_ (some 6) rfl rfl Tryz.func200 (by kernel_rfl) rfl #[.int .i64 a0] rfl eqT ?_; (with_reducible refine (cmp_isNaN_int.calls a0 false _ A3.out).mono ?_); rintro e w' ⟨rfl, ⟨nd, rfl⟩⟩; refine ⟨_, rfl, ?_⟩))
  go_ret
  exact ⟨rdT, drT⟩
mutual
def slices_insertionSortOrdered_int.l0 : Nat → List Int → Int → Int → Int → Option (List Int)
 | 0, _, _, _, _ => none
 | k + 1, x0, x1, x2, x6 => if x6 < x2 then (slices_insertionSortOrdered_int.l1 k x0 x1 x2 x6 x6) else (some x0)
def slices_insertionSortOrdered_int.l1 : Nat → List Int → Int → Int → Int → Int → Option (List Int)
 | 0, _, _, _, _, _ => none
 | k + 1, x0, x1, x2, x6, x7 => if x7 > x1 then (if 0 ≤ x7 then (if x7 < (x0.length : Int) then (if 0 ≤ (wrap64 (x7 - 1)) then (if (wrap64 (x7 - 1)) < (x0.length : Int) then ((cmp_Less_int.f (rd x0 x7) (rd x0 (wrap64 (x7 - 1)))).bind fun t520 => (if t520 = true then (slices_insertionSortOrdered_int.l1 k ((x0.set (x7 : Int).toNat (rd x0 (wrap64 (x7 - 1)))).set ((wrap64 (x7 - 1)) : Int).toNat (rd x0 x7)) x1 x2 x6 (wrap64 (x7 - 1))) else (slices_insertionSortOrdered_int.l0 k x0 x1 x2 (wrap64 (x6 + 1))))) else (none)) else (none)) else (none)) else (none)) else (slices_insertionSortOrdered_int.l0 k x0 x1 x2 (wrap64 (x6 + 1)))
end
def slices_insertionSortOrdered_int.f (k : Nat) (l0 : List Int) (a1 : Int) (a2 : Int) : Option (List Int) := slices_insertionSortOrdered_int.l0 k l0 a1 a2 (wrap64 (a1 + 1))
theorem slices_insertionSortOrdered_int.mono_l : ∀ k, (∀ y0 y1 y2 y3, LeO (slices_insertionSortOrdered_int.l0 k y0 y1 y2 y3) (slices_insertionSortOrdered_int.l0 (k + 1) y0 y1 y2 y3)) ∧ (∀ y0 y1 y2 y3 y4, LeO (slices_insertionSortOrdered_int.l1 k y0 y1 y2 y3 y4) (slices_insertionSortOrdered_int.l1 (k + 1) y0 y1 y2 y3 y4))
 | 0 => ⟨fun _ _ _ _ r h => by simp [slices_insertionSortOrdered_int.l0] at h, fun _ _ _ _ _ r h => by simp [slices_insertionSortOrdered_int.l1] at h⟩
 | k + 1 => by
  obtain ⟨ih0, ih1⟩ := slices_insertionSortOrdered_int.mono_l k; refine ⟨?_, ?_⟩
  ·intro y0 y1 y2 y3
   unfold slices_insertionSortOrdered_int.l0
   with_reducible repeat' first | exact ih0 _ _ _ _ | exact ih1 _ _ _ _ _ | exact LeO.refl _ | exact LeO.none _ | refine LeO.ite ?_ ?_ | refine LeO.bind ?_ (fun _ => ?_)
  ·intro y0 y1 y2 y3 y4
   unfold slices_insertionSortOrdered_int.l1
   with_reducible repeat' first | exact ih0 _ _ _ _ | exact ih1 _ _ _ _ _ | exact LeO.refl _ | exact LeO.none _ | refine LeO.ite ?_ ?_ | refine LeO.bind ?_ (fun _ => ?_)
theorem slices_insertionSortOrdered_int.mono : ∀ a0 a1 a2 k, LeO (slices_insertionSortOrdered_int.f k a0 a1 a2) (slices_insertionSortOrdered_int.f (k + 1) a0 a1 a2) := by
 intro a0 a1 a2 k
 obtain ⟨ih0, ih1⟩ := slices_insertionSortOrdered_int.mono_l k
 unfold slices_insertionSortOrdered_int.f
 with_reducible repeat' first | exact ih0 _ _ _ _ | exact ih1 _ _ _ _ _ | exact LeO.refl _ | exact LeO.none _ | refine LeO.ite ?_ ?_ | refine LeO.bind ?_ (fun _ => ?_)
def slices_insertionSortOrdered_int.T4 : Bool × List (List Nat × List Nat) := (true, [([], []), ([], []), ([0, 1], [0, 1]), ([2], [2]), ([3], [3]), ([3], [3]), ([4, 5, 3], [3, 4, 5]), ([6, 3], [3, 6]), ([3], [3]), ([3], [3]), ([9, 3], [3, 9]), ([8, 10, 3], [3, 8, 10]), ([11, 3], [3, 11]), ([7, 12, 3, 3], [3, 7, 12]), ([3, 13], [3, 13])])
def slices_insertionSortOrdered_int.B4 : List Nat := [0, 0, 3, 7, 15, 15, 63, 127, 15, 15, 527, 1807, 3855, 8191, 16383]
theorem slices_insertionSortOrdered_int.tab4 : rtab .any (opsOf Tryz.f183 4) = slices_insertionSortOrdered_int.T4 := by kernel_rfl
theorem slices_insertionSortOrdered_int.bits4 : waitsOk slices_insertionSortOrdered_int.T4.2 slices_insertionSortOrdered_int.B4 = true := by kernel_rfl
def slices_insertionSortOrdered_int.T6 : Bool × List (List Nat × List Nat) := (true, [([], []), ([], []), ([], []), ([], []), ([3], [3]), ([], []), ([], []), ([6], [6]), ([5, 7], [5, 7]), ([8], [8]), ([], []), ([], []), ([10, 11], [10, 11]), ([12], [12]), ([0, 1, 0, 1, 5, 6, 7, 8, 9, 13], [0, 1]), ([14, 9, 0, 1, 5, 6, 7, 8, 9, 13], [9, 14]), ([2, 4, 0, 1, 2, 3, 4, 5, 6, 7, 8, 9, 10, 11, 12, 13, 14, 15], [2, 4]), ([16, 13, 15, 0, 1, 2, 3, 4, 5, 6, 7, 8, 9, 10, 11, 12, 13, 14, 15], [13, 16])])
def slices_insertionSortOrdered_int.B6 : List Nat := [0, 0, 0, 0, 8, 0, 0, 64, 224, 480, 0, 0, 3072, 7168, 16355, 32739, 65535, 131071]
theorem slices_insertionSortOrdered_int.tab6 : rtab .any (opsOf Tryz.f183 6) = slices_insertionSortOrdered_int.T6 := by kernel_rfl
theorem slices_insertionSortOrdered_int.bits6 : waitsOk slices_insertionSortOrdered_int.T6.2 slices_insertionSortOrdered_int.B6 = true := by kernel_rfl
theorem slices_insertionSortOrdered_int.calls (k : Nat) (P0_ : Nat → Prop) (u9000_ : Value) (l0 : List Int) (a1 : Int) (a2 : Int) (r : List Int) (w0 w : World) (hB : Below w0.heap.size w0 w) (ho0 : Kd.R (Kd.int .i64) 3 w w0.heap.size P0_ u9000_ l0) (h : slices_insertionSortOrdered_int.f k l0 a1 a2 = some r) :
  Calls Tryz.prog 183 #[u9000_, .int .i64 a1, .int .i64 a2] w fun e w' => e = .returned (.tuple #[]) ∧ Kd.R (Kd.int .i64) 3 w' w0.heap.size (fun k_ => (P0_ k_ ∨ w.heap.size ≤ k_)) u9000_ r ∧ Below w0.heap.size w0 w' ∧ Kept w w' (fun k_ => P0_ k_) := by
 have HO0 := asT (show Kd.R (Kd.int .i64) 3 w w0.heap.size (fun k_ => (P0_ k_ ∨ w.heap.size ≤ k_)) u9000_ l0 from Kd.R_mono ho0 (fun k_ hk => (.inl hk))); have HK := asT (Kept.refl w (fun k_ => P0_ k_)); have HW0 := asT hB.size; have HB := asT hB; clear hB; have H := h; unfold slices_insertionSortOrdered_int.f at H; clear h; have H' := asT H; clear H
 go_enter Tryz.func183, Tryz.ntmps183
 go_wp2
 go_loopg [6] k (fun kq v6 w' => ∃ (x0_1 : List Int) (x6_1 : Int), v6 = .int .i64 x6_1 ∧ Aside0 (slices_insertionSortOrdered_int.l0 kq x0_1 a1 a2 x6_1 = some r) ∧ Aside0 (kq ≤ k) ∧ Aside0 (Kd.R (Kd.int .i64) 3 w' w0.heap.size (fun k_ => (P0_ k_ ∨ w.heap.size ≤ k_)) u9000_ x0_1) ∧ Aside0 (Kept w w' (fun k_ => P0_ k_)) ∧ Aside0 (Below w0.heap.size w0 w'))
 case atStart => exact ⟨(l0), (wrap64 (a1 + 1)), rdT, H', ⟨Nat.le_refl _⟩, ⟨by (with_reducible repeat (first | apply Kd.R_alloc | apply Kd.R_drewN | apply Kd.R_drew)); exact HO0.out⟩, ⟨by repeat (first | (with_reducible first | exact HK.out | apply Kept.alloc | apply Kept.drewN | apply Kept.drew) | exact HK.out)⟩, ⟨hbT HB.out⟩⟩
 case round =>
  clear H'; (try clear c1 p2); obtain ⟨x0_1, x6_1, rfl, HA, HK1, HO_0, HK, HB⟩ := hrel
  cases gk with
  | zero => exact absurd HA.out (by simp [slices_insertionSortOrdered_int.l0])
  | succ k1 =>
   have H := HA.out; clear HA
   simp only [slices_insertionSortOrdered_int.l0] at H
   by_cases c4 : x6_1 < a2
   ·rw [if_pos c4] at H
    have c4b0 : decide (x6_1 < a2) = true := dt c4
    clear c4; have H' := asT H; clear H
    go_wp2
    go_loopg [7] k1 (fun kq v7 w' => ∃ (x0_2 : List Int) (x7_2 : Int), v7 = .int .i64 x7_2 ∧ Aside0 (slices_insertionSortOrdered_int.l1 kq x0_2 a1 a2 x6_1 x7_2 = some r) ∧ Aside0 (kq ≤ k1) ∧ Aside0 (Kd.R (Kd.int .i64) 3 w' w0.heap.size (fun k_ => (P0_ k_ ∨ w.heap.size ≤ k_)) u9000_ x0_2) ∧ Aside0 (Kept w w' (fun k_ => P0_ k_)) ∧ Aside0 (Below w0.heap.size w0 w'))
    case atStart => exact ⟨(x0_1), (x6_1), rdT, H', ⟨Nat.le_refl _⟩, ⟨by (with_reducible repeat (first | apply Kd.R_alloc | apply Kd.R_drewN | apply Kd.R_drew)); exact HO_0.out⟩, ⟨by repeat (first | (with_reducible first | exact HK.out | apply Kept.alloc | apply Kept.drewN | apply Kept.drew) | exact HK.out)⟩, ⟨hbT HB.out⟩⟩
    case round =>
     clear H'; (try clear c1 p2 c4 c4b0 p2); obtain ⟨x0_2, x7_2, rfl, HA, HK2, HO_0, HK, HB⟩ := hrel
     cases gk with
     | zero => exact absurd HA.out (by simp [slices_insertionSortOrdered_int.l1])
     | succ k2 =>
      have H := HA.out; clear HA
      simp only [slices_insertionSortOrdered_int.l1] at H
      by_cases c5 : x7_2 > a1
      ·rw [if_pos c5] at H
       have c5b0 : decide (a1 < x7_2) = true := dt c5
       clear c5
       by_cases c6 : 0 ≤ x7_2
       ·rw [if_pos c6] at H
        have c6b0 : decide (0 ≤ x7_2) = true := dt c6
        clear c6
        by_cases c7 : x7_2 < (x0_2.length : Int)
        ·rw [if_pos c7] at H
         have c7b0 : decide (x7_2 < (x0_2.length : Int)) = true := dt c7
         clear c7; obtain ⟨ji8, hji8⟩ : ∃ j_ : Int, (wrap64 (x7_2 - 1)) = j_ := ⟨_, rfl⟩
         replace H : (if 0 ≤ (ji8) then (if (ji8) < (x0_2.length : Int) then ((cmp_Less_int.f (rd x0_2 x7_2) (rd x0_2 (ji8))).bind fun t520 => (if t520 = true then (slices_insertionSortOrdered_int.l1 k2 ((x0_2.set (x7_2 : Int).toNat (rd x0_2 (ji8))).set ((ji8) : Int).toNat (rd x0_2 x7_2)) a1 a2 x6_1 ji8) else (slices_insertionSortOrdered_int.l0 k2 x0_2 a1 a2 (wrap64 (x6_1 + 1))))) else (none)) else (none)) = some r := by first | (rw [hji8] at H; exact H) | (simp only [hji8] at H ⊢; exact H)
         have hji8w : (IntKind.i64.wrap (x7_2 - 1)) = ji8 := (i64_w _).trans hji8
         by_cases c9 : 0 ≤ (ji8)
         ·rw [if_pos c9] at H
          have c9b0 : decide (0 ≤ (ji8)) = true := dt c9
          clear c9
          by_cases c10 : (ji8) < (x0_2.length : Int)
          ·rw [if_pos c10] at H
           have c10b0 : decide ((ji8) < (x0_2.length : Int)) = true := dt c10
           clear c10; obtain ⟨t520, A11, H⟩ := be H
           by_cases c12 : t520 = true
           ·subst c12
            rw [if_pos rfl] at H; obtain ⟨y523, hy523⟩ : ∃ y_ : List Int, y_ = (x0_2.set (x7_2 : Int).toNat (rd x0_2 (ji8))) := ⟨_, rfl⟩
            replace H : (slices_insertionSortOrdered_int.l1 k2 (y523.set ((ji8) : Int).toNat (rd x0_2 x7_2)) a1 a2 x6_1 ji8) = some r := by first | (rw [hy523]; with_reducible exact H) | (have H2_ := (Option.bind_some _ _).symm.trans H; rw [hy523]; with_reducible exact H2_) | (have H2_ := (Option.bind_some _ _).symm.trans H; with_reducible exact H2_) | with_reducible exact H | (rw [hy523]; exact H) | exact H
            have Ny523 := asT hy523; clear hy523; obtain ⟨y524, hy524⟩ : ∃ y_ : List Int, y_ = (y523.set ((ji8) : Int).toNat (rd x0_2 x7_2)) := ⟨_, rfl⟩
            replace H : (slices_insertionSortOrdered_int.l1 k2 y524 a1 a2 x6_1 ji8) = some r := by first | (rw [hy524]; with_reducible exact H) | (have H2_ := (Option.bind_some _ _).symm.trans H; rw [hy524]; with_reducible exact H2_) | (have H2_ := (Option.bind_some _ _).symm.trans H; with_reducible exact H2_) | with_reducible exact H | (rw [hy524]; exact H) | exact H
            have Ny524 := asT hy524; clear hy524; have H' := asT H; clear H
            try go_wp2
            replace HO_0 := asT (Kd.R_drew HO_0.out); replace HK := asT (Kept.drew HK.out); replace HB := asT (below_drew1 HB.out); obtain ⟨Ao16, co16, eo16⟩ := Kd.R_slice HO_0.out; (first | subst eo16 | (injection eo16 with f1_ f2_ f3_; have f4_ := f1_.symm; have f5_ := f3_.symm; clear f1_ f2_ f3_; subst f4_; subst f5_))
            have p518 : 0 ≤ (x7_2 : Int) := dT asmT
            have q518 : x7_2 < (x0_2.length : Int) := dT asmT
            obtain ⟨ad518, e518, hx518_0⟩ := Kd.at_int (Kd.R_reads' HO_0.out).2.2 x7_2 p518 q518
            cases e518
            replace p518 := eq_true p518; replace q518 := eq_true q518
            have p519 : 0 ≤ ((ji8) : Int) := dT asmT
            have q519 : (ji8) < (x0_2.length : Int) := dT asmT
            obtain ⟨ad519, e519, hx519_0⟩ := Kd.at_int (Kd.R_reads' HO_0.out).2.2 (ji8) p519 q519
            obtain rfl : ad518 = ad519 := (by injection e519)
            replace p519 := eq_true p519; replace q519 := eq_true q519
            refine start_ (n := 15) (S := fun w' => w'.cell? (ad518.add (x7_2).toNat) = some (.int .i64 (rd x0_2 x7_2)) ∧ w'.cell? (ad518.add ((ji8)).toNat) = some (.int .i64 (rd x0_2 (ji8)))) (ds := []) (bA 15 0) (by kernel_rfl) rfl rfl ⟨hx518_0, hx519_0⟩ (fun hHeld => ?_); refine with_tabW slices_insertionSortOrdered_int.tab4 slices_insertionSortOrdered_int.bits4 (fun HT_ HW_ => ?_)
            generalize wr.drew = w15 at HO_0 HK HB hx518_0 hx519_0 hHeld ⊢
            refine pA 0 16 15 1 HT_.out ?_ rfl rfl; refine pA 1 17 15 3 HT_.out ?_ rfl rfl; refine pA 2 18 15 7 HT_.out ?_ rfl rfl; refine pA 3 19 15 15 HT_.out ?_ rfl rfl; refine pA 4 20 15 31 HT_.out ?_ rfl rfl; refine pA 5 21 15 63 HT_.out ?_ rfl rfl; refine pA 6 22 15 127 HT_.out ?_ rfl rfl; refine pA 8 24 15 383 HT_.out ?_ rfl rfl; refine pA 9 25 15 895 HT_.out ?_ rfl rfl; refine pA 10 26 15 1919 HT_.out ?_ rfl rfl; refine pA 11 27 15 3967 HT_.out ?_ rfl rfl; refine tA 7 23 15 4095 HT_.out HW_.out hHeld ?_ rfl rfl; refine tA 12 28 15 8191 HT_.out HW_.out hHeld ?_ rfl rfl
            refine oA 13 29 15 16383 HT_.out (fun K hK => ?_) rfl rfl
            refine goes_ Tryz.func189 (by kernel_rfl) rfl #[.int .i64 (rd x0_2 x7_2), .int .i64 (rd x0_2 (ji8))] (by rfl) rfl rfl (by (try simp only [List.map_toArray, List.map_cons, List.map_nil]); first | done | (simp only [hji8]; rfl) | rfl | (simp only [List.length_drop, List.length_take]; rfl)) ?_
            (with_reducible refine (cmp_Less_int.calls (rd x0_2 x7_2) (rd x0_2 (ji8)) true _ A11.out).mono ?_); rintro e w' ⟨rfl, ⟨nd, rfl⟩⟩; refine ⟨_, rfl, ?_⟩
            refine hK.out _ _ ⟨hHeld.1, hHeld.2⟩ (fun hHeld => ?_)
            clear hK K
            refine nB 29 ?_ rfl; refine pA 14 30 15 32767 HT_.out ?_ rfl rfl
            refine done_ (done_of HT_.out (by kernel_rfl)) ?_
            try go_wp2
            (try (rw [drewN_self w15]; generalize hq_ : World.drewN w15 _ = w15; have n0_ : Aside0 (Kd.R (Kd.int .i64) 3 w15 w0.heap.size (fun k_ => (P0_ k_ ∨ w.heap.size ≤ k_)) (.slice (some ad518) x0_2.length co16) x0_2) := ⟨by rw [← hq_]; exact (roT HO_0.out)⟩; have n1_ : Aside0 (Kept w w15 (fun k_ => P0_ k_)) := ⟨by rw [← hq_]; exact (by repeat (first | (with_reducible first | exact HK.out | apply Kept.alloc | apply Kept.drewN | apply Kept.drew) | exact HK.out))⟩; have n2_ : Aside0 (Below w0.heap.size w0 w15) := ⟨by rw [← hq_]; exact (hbT HB.out)⟩; clear HO_0 HK HB hq_; have HO_0 := n0_; have HK := n1_; have HB := n2_; clear n0_ n1_ n2_))
            replace HO_0 := asT (Kd.R_drew HO_0.out); replace HK := asT (Kept.drew HK.out); replace HB := asT (below_drew1 HB.out)
            have p521 : 0 ≤ ((ji8) : Int) := dT asmT
            have q521 : (ji8) < (x0_2.length : Int) := dT asmT
            obtain ⟨ad521, e521, hx521_0⟩ := Kd.at_int (Kd.R_reads' HO_0.out).2.2 (ji8) p521 q521
            obtain rfl : ad518 = ad521 := (by injection e521)
            replace p521 := eq_true p521; replace q521 := eq_true q521
            have p522 : 0 ≤ (x7_2 : Int) := dT asmT
            have q522 : x7_2 < (x0_2.length : Int) := dT asmT
            obtain ⟨ad522, e522, hx522_0⟩ := Kd.at_int (Kd.R_reads' HO_0.out).2.2 x7_2 p522 q522
            obtain rfl : ad518 = ad522 := (by injection e522)
            replace p522 := eq_true p522; replace q522 := eq_true q522
            have p13 : 0 ≤ (x7_2 : Int) := dT asmT
            have q13 : (x7_2 : Int) < ((x0_2.length : Int) : Int) := dT asmT
            obtain ⟨go13, co13, eo13, gb13, gl13, cl13, HG13⟩ := Kd.R_form HO_0.out (by omega)
            (first | cases eo13 | (injection eo13 with ea_ en_ ec_; (first | subst ea_ | (injection ea_ with ea_; subst ea_)); subst ec_; clear en_))
            have GB13 := asT gb13; have GG13 := asT HG13; clear gb13 gl13 HG13; have HMgo13 := asT (show (P0_ go13 ∨ w.heap.size ≤ go13) from (HO_0.out.1 _ rfl))
            (first | simp only [add_plain] at hx518_0 | skip)
            (first | simp only [add_plain] at hx519_0 | skip)
            (first | simp only [add_plain] at hx521_0 | skip)
            (first | simp only [add_plain] at hx522_0 | skip)
            obtain ⟨hx13_0, hf13_0⟩ := Kd.R_celln 0 HO_0.out (x7_2 : Int) p13 q13; replace p13 := eq_true p13; replace q13 := eq_true q13; have HP18 := Kd.R_putn HO_0.out (x7_2 : Int) (rd x0_2 (ji8)); rw [← Ny523.out] at HP18; have HQ18 := asT HP18; clear HP18
            have p14 : 0 ≤ ((ji8) : Int) := dT asmT
            have q14 : ((ji8) : Int) < ((x0_2.length : Int) : Int) := dT asmT
            obtain ⟨hx14_0, hf14_0⟩ := Kd.R_celln 0 HQ18.out ((ji8) : Int) p14 q14; replace p14 := eq_true p14; replace q14 := eq_true q14; have HP19 := Kd.R_putn HQ18.out ((ji8) : Int) (rd x0_2 x7_2); rw [← Ny524.out] at HP19; have HQ19 := asT HP19; clear HP19
            refine start_ (n := 18) (S := fun w' => w'.cell? ⟨go13, ((ji8)).toNat, none⟩ = some (.int .i64 (rd x0_2 (ji8))) ∧ w'.cell? ⟨go13, (x7_2).toNat, none⟩ = some (.int .i64 (rd x0_2 x7_2))) (ds := [15, 17]) (bA 18 0) (by kernel_rfl) rfl rfl ⟨hx521_0, hx522_0⟩ (fun hHeld => ?_); refine with_tabW slices_insertionSortOrdered_int.tab6 slices_insertionSortOrdered_int.bits6 (fun HT_ HW_ => ?_)
            generalize w15.drew = w17 at HO_0 HK HB GG13 HQ18 HQ19 hf13_0 hf14_0 hx13_0 hx14_0 hx518_0 hx519_0 hx521_0 hx522_0 hHeld ⊢
            refine pA 0 33 18 1 HT_.out ?_ rfl rfl; refine pA 1 34 18 3 HT_.out ?_ rfl rfl; refine pA 2 35 18 7 HT_.out ?_ rfl rfl; refine pA 3 36 18 15 HT_.out ?_ rfl rfl; refine pA 4 37 18 31 HT_.out ?_ rfl rfl; refine pA 5 38 18 63 HT_.out ?_ rfl rfl; refine pA 6 39 18 127 HT_.out ?_ rfl rfl; refine pA 7 40 18 255 HT_.out ?_ rfl rfl; refine pA 8 41 18 511 HT_.out ?_ rfl rfl; refine pA 10 43 18 1535 HT_.out ?_ rfl rfl; refine pA 11 44 18 3583 HT_.out ?_ rfl rfl; refine pA 12 45 18 7679 HT_.out ?_ rfl rfl; refine tA 9 42 18 8191 HT_.out HW_.out hHeld ?_ rfl rfl; refine tA 13 46 18 16383 HT_.out HW_.out hHeld ?_ rfl rfl; refine pA 14 47 18 32767 HT_.out ?_ rfl rfl
            refine last_ (i := 15) (N := none) (bA 18 65535) rfl rfl (one_of HT_.out (by kernel_rfl)) (by decide) (fun K hK => ?_)
            refine skip_ (w1 := ?_) (by rfl) rfl ?_ ?_
            rotate_left
            ·go_simp
             rfl
            refine hK.out _ _ ?_
            clear hK K
            refine pA 16 48 18 131071 HT_.out ?_ rfl rfl
            refine last_ (i := 17) (N := none) (bA 18 262143) rfl rfl (one_of HT_.out (by kernel_rfl)) (by decide) (fun K hK => ?_)
            refine skip_ (w1 := ?_) (by rfl) rfl ?_ ?_
            rotate_left
            ·go_simp
             rfl
            refine hK.out _ _ ?_
            clear hK K
            refine done_ (done_of HT_.out (by kernel_rfl)) ?_
            try go_wp2
            go_roundg k2
            case measure => have := HK1.out; have := HK2.out; omega
            case rel => exact ⟨(y524), (ji8), (by first | rfl | (simp; done) | (simp only [← hji8] <;> (first | rfl | simp)) | (simp [*]; done)), H', ⟨by have := HK1.out; have := HK2.out; omega⟩, ⟨by (with_reducible repeat (first | apply Kd.R_alloc | apply Kd.R_drewN | apply Kd.R_drew)); exact HQ19.out⟩, ⟨by repeat (first | (with_reducible first | exact HK.out | apply Kept.alloc | apply Kept.drewN | apply Kept.drew | refine Kept.setCell ?_ HMgo13.out _ | refine Kept.setCell ?_ HMgo13.out _) | exact HK.out)⟩, ⟨by repeat (first | (with_reducible first | exact HB.out | apply below_alloc | apply pw_below_drewN | apply below_drew1 | refine below_set ?_ GB13.out | refine below_set ?_ GB13.out) | exact HB.out)⟩⟩
           ·replace c12 := eE c12
            subst c12; rw [if_neg nF] at H; have H' := asT H; clear H
            try go_wp2
            replace HO_0 := asT (Kd.R_drew HO_0.out); replace HK := asT (Kept.drew HK.out); replace HB := asT (below_drew1 HB.out); obtain ⟨Ao21, co21, eo21⟩ := Kd.R_slice HO_0.out; (first | subst eo21 | (injection eo21 with f1_ f2_ f3_; have f4_ := f1_.symm; have f5_ := f3_.symm; clear f1_ f2_ f3_; subst f4_; subst f5_))
            have p518 : 0 ≤ (x7_2 : Int) := dT asmT
            have q518 : x7_2 < (x0_2.length : Int) := dT asmT
            obtain ⟨ad518, e518, hx518_0⟩ := Kd.at_int (Kd.R_reads' HO_0.out).2.2 x7_2 p518 q518
            cases e518
            replace p518 := eq_true p518; replace q518 := eq_true q518
            have p519 : 0 ≤ ((ji8) : Int) := dT asmT
            have q519 : (ji8) < (x0_2.length : Int) := dT asmT
            obtain ⟨ad519, e519, hx519_0⟩ := Kd.at_int (Kd.R_reads' HO_0.out).2.2 (ji8) p519 q519
            obtain rfl : ad518 = ad519 := (by injection e519)
            replace p519 := eq_true p519; replace q519 := eq_true q519
            refine start_ (n := 15) (S := fun w' => w'.cell? (ad518.add (x7_2).toNat) = some (.int .i64 (rd x0_2 x7_2)) ∧ w'.cell? (ad518.add ((ji8)).toNat) = some (.int .i64 (rd x0_2 (ji8)))) (ds := []) (bA 15 0) (by kernel_rfl) rfl rfl ⟨hx518_0, hx519_0⟩ (fun hHeld => ?_); refine with_tabW slices_insertionSortOrdered_int.tab4 slices_insertionSortOrdered_int.bits4 (fun HT_ HW_ => ?_)
            generalize wr.drew = w20 at HO_0 HK HB hx518_0 hx519_0 hHeld ⊢
            refine pA 0 16 15 1 HT_.out ?_ rfl rfl; refine pA 1 17 15 3 HT_.out ?_ rfl rfl; refine pA 2 18 15 7 HT_.out ?_ rfl rfl; refine pA 3 19 15 15 HT_.out ?_ rfl rfl; refine pA 4 20 15 31 HT_.out ?_ rfl rfl; refine pA 5 21 15 63 HT_.out ?_ rfl rfl; refine pA 6 22 15 127 HT_.out ?_ rfl rfl; refine pA 8 24 15 383 HT_.out ?_ rfl rfl; refine pA 9 25 15 895 HT_.out ?_ rfl rfl; refine pA 10 26 15 1919 HT_.out ?_ rfl rfl; refine pA 11 27 15 3967 HT_.out ?_ rfl rfl; refine tA 7 23 15 4095 HT_.out HW_.out hHeld ?_ rfl rfl; refine tA 12 28 15 8191 HT_.out HW_.out hHeld ?_ rfl rfl
            refine oA 13 29 15 16383 HT_.out (fun K hK => ?_) rfl rfl
            refine goes_ Tryz.func189 (by kernel_rfl) rfl #[.int .i64 (rd x0_2 x7_2), .int .i64 (rd x0_2 (ji8))] (by rfl) rfl rfl (by (try simp only [List.map_toArray, List.map_cons, List.map_nil]); first | done | (simp only [hji8]; rfl) | rfl | (simp only [List.length_drop, List.length_take]; rfl)) ?_
            (with_reducible refine (cmp_Less_int.calls (rd x0_2 x7_2) (rd x0_2 (ji8)) false _ A11.out).mono ?_); rintro e w' ⟨rfl, ⟨nd, rfl⟩⟩; refine ⟨_, rfl, ?_⟩
            refine hK.out _ _ ⟨hHeld.1, hHeld.2⟩ (fun hHeld => ?_)
            clear hK K
            refine nB 29 ?_ rfl; refine pA 14 30 15 32767 HT_.out ?_ rfl rfl
            refine done_ (done_of HT_.out (by kernel_rfl)) ?_
            try go_wp2
            go_roundg k2
            case measure => have := HK1.out; have := HK2.out; omega
            case rel => exact ⟨(x0_2), (wrap64 (x6_1 + 1)), rdT, H', ⟨by have := HK1.out; have := HK2.out; omega⟩, ⟨by (with_reducible repeat (first | apply Kd.R_alloc | apply Kd.R_drewN | apply Kd.R_drew)); exact HO_0.out⟩, ⟨by repeat (first | (with_reducible first | exact HK.out | apply Kept.alloc | apply Kept.drewN | apply Kept.drew) | exact HK.out)⟩, ⟨hbT HB.out⟩⟩
          ·rw [if_neg c10] at H
           exact absurd H (by simp)
         ·rw [if_neg c9] at H
          exact absurd H (by simp)
        ·rw [if_neg c7] at H
         exact absurd H (by simp)
       ·rw [if_neg c6] at H
        exact absurd H (by simp)
      ·rw [if_neg c5] at H
       have c5b0 : decide (a1 < x7_2) = false := df c5
       clear c5; have H' := asT H; clear H
       try go_wp2
       replace HO_0 := asT (Kd.R_drew HO_0.out); replace HK := asT (Kept.drew HK.out); replace HB := asT (below_drew1 HB.out)
       refine start_ (n := 15) (S := fun w' => True) (ds := []) (bA 15 0) (by kernel_rfl) rfl rfl trivial (fun hHeld => ?_); refine with_tabW slices_insertionSortOrdered_int.tab4 slices_insertionSortOrdered_int.bits4 (fun HT_ HW_ => ?_)
       generalize wr.drew = w22 at HO_0 HK HB hHeld ⊢
       refine pA 0 16 15 1 HT_.out ?_ rfl rfl; refine pA 1 17 15 3 HT_.out ?_ rfl rfl; refine pA 2 18 15 7 HT_.out ?_ rfl rfl; refine pA 3 19 15 15 HT_.out ?_ rfl rfl; refine uA 4 20 15 31 HT_.out ?_ rfl rfl; refine uA 5 21 15 63 HT_.out ?_ rfl rfl; refine uA 6 22 15 127 HT_.out ?_ rfl rfl; refine uA 7 23 15 255 HT_.out ?_ rfl rfl; refine uA 8 24 15 511 HT_.out ?_ rfl rfl; refine uA 9 25 15 1023 HT_.out ?_ rfl rfl; refine uA 10 26 15 2047 HT_.out ?_ rfl rfl; refine uA 11 27 15 4095 HT_.out ?_ rfl rfl; refine uA 12 28 15 8191 HT_.out ?_ rfl rfl; refine uA 13 29 15 16383 HT_.out ?_ rfl rfl; refine pA 14 30 15 32767 HT_.out ?_ rfl rfl
       refine done_ (done_of HT_.out (by kernel_rfl)) ?_
       try go_wp2
       go_roundg k2
       case measure => have := HK1.out; have := HK2.out; omega
       case rel => exact ⟨(x0_2), (wrap64 (x6_1 + 1)), rdT, H', ⟨by have := HK1.out; have := HK2.out; omega⟩, ⟨by (with_reducible repeat (first | apply Kd.R_alloc | apply Kd.R_drewN | apply Kd.R_drew)); exact HO_0.out⟩, ⟨by repeat (first | (with_reducible first | exact HK.out | apply Kept.alloc | apply Kept.drewN | apply Kept.drew) | exact HK.out)⟩, ⟨hbT HB.out⟩⟩
   ·rw [if_neg c4] at H
    have c4b0 : decide (x6_1 < a2) = false := df c4
    clear c4
    obtain rfl := oI H
    go_wp2
    first | go_end0 | ((try simp only [Exit.inBlock, Exit.then]); refine bodyPost_ret (results_none rfl _ _ _) rfl ?_)
    exact ⟨rlT, by (with_reducible repeat (first | apply Kd.R_alloc | apply Kd.R_drewN | apply Kd.R_drew)); exact HO_0.out, hbT HB.out, by repeat (first | (with_reducible first | exact HK.out | apply Kept.alloc | apply Kept.drewN | apply Kept.drew) | exact HK.out)⟩
end Go.Proofs.YtlmfpkiaikjlbaaGreat.PFnExactWinnersOf
