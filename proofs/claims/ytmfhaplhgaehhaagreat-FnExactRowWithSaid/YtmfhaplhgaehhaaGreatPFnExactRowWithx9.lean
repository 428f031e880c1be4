-- Made by gen.py (a program of this session) out of the translation; Lean checks it.
import Derived.Test.YtmfhaplhgaehhaaGreatPFnExactRowWithx0
import Derived.Test.YtmfhaplhgaehhaaGreatPFnExactRowWithx6
import Derived.Test.YtmfhaplhgaehhaaGreatPFnExactRowWithx7
import Derived.Test.YtmfhaplhgaehhaaGreatPFnExactRowWithx8
namespace Go.Proofs.YtmfhaplhgaehhaaGreat.PFnExactRowWith
open Go.RowKit Go.Proofs.YtmfhaplhgaehhaaGreatB Go.Proofs.YtmfhaplhgaehhaaGreatW.PrintWords Go.Proofs.YtmfhaplhgaehhaaGreatW.PrintLast Go.Proofs.YtmfhaplhgaehhaaGreatW.PrintMore
attribute [local go_sem] max2_int min2_int max_two min_two max_three min_three max_four min_four   -- for this text's walks alone
set_option linter.unusedVariables false
set_option linter.unusedSimpArgs false

/-! ### impl_IsTableau: function 25 -/
mutual
def impl_IsTableau.j0 : Nat → Bool → ByteArray → List ByteArray → List (S48) → List (List Int) → Option (Bool)
 | 0, _, _, _, _, _ => none
 | k + 1, x30, x452000, x452001, x452002, x452003 => if x30 = true then (some false) else (impl_IsTableau.l0 k x452002 (x452002.length : Int) 0 x452000 x452001 x452002 x452003)
def impl_IsTableau.l0 : Nat → List (S48) → Int → Int → ByteArray → List ByteArray → List (S48) → List (List Int) → Option (Bool)
 | 0, _, _, _, _, _, _, _ => none
 | k + 1, x32, x33, x34, x452000, x452001, x452002, x452003 => if x34 < x33 then (if 0 ≤ x34 then (if x34 < (x32.length : Int) then ((impl_IsCandidate.f k ((rd_T48 x32 x34).f0)).bind fun t457 => (if t457 = true then ((impl_InputOf.f k ((rd_T48 x32 x34).f0)).bind fun t458 => (if t458.toList = x452000.toList then (if x34 < (x452003.length : Int) then ((impl_ProfileOf.f k x452001 ((rd_T48 x32 x34).f0)).bind fun t460 => ((slices_Equal_int_int.f k (rd_L6 x452003 x34) t460).bind fun t463 => (if t463 = true then (impl_IsTableau.l0 k x32 x33 (wrap64 (x34 + 1)) x452000 x452001 x452002 x452003) else (some false)))) else (none)) else (some false))) else (some false))) else (none)) else (none)) else (some true)
end
def impl_IsTableau.f (k : Nat) (a0_0 : ByteArray) (l0_1 : List ByteArray) (l0_2 : List (S48)) (l0_3 : List (List Int)) : Option (Bool) := (impl_AreConstraints.f k l0_1).bind fun t452 => (if t452 = true then ((impl_IsForm.f k a0_0).bind fun t453 => (if t453 = true then ((impl_within.f (l0_2.length : Int) 1 250).bind fun t454 => (if t454 = true then (impl_IsTableau.j0 k ((l0_3.length : Int) != (l0_2.length : Int)) a0_0 l0_1 l0_2 l0_3) else (impl_IsTableau.j0 k true a0_0 l0_1 l0_2 l0_3))) else (impl_IsTableau.j0 k true a0_0 l0_1 l0_2 l0_3))) else (impl_IsTableau.j0 k true a0_0 l0_1 l0_2 l0_3))
theorem impl_IsTableau.mono_l : ∀ k, (∀ y0 y1 y2 y3 y4, LeO (impl_IsTableau.j0 k y0 y1 y2 y3 y4) (impl_IsTableau.j0 (k + 1) y0 y1 y2 y3 y4)) ∧ (∀ y0 y1 y2 y3 y4 y5 y6, LeO (impl_IsTableau.l0 k y0 y1 y2 y3 y4 y5 y6) (impl_IsTableau.l0 (k + 1) y0 y1 y2 y3 y4 y5 y6))
 | 0 => ⟨fun _ _ _ _ _ r h => by simp [impl_IsTableau.j0] at h, fun _ _ _ _ _ _ _ r h => by simp [impl_IsTableau.l0] at h⟩
 | k + 1 => by
  obtain ⟨ih0, ih1⟩ := impl_IsTableau.mono_l k; refine ⟨?_, ?_⟩
  ·intro y0 y1 y2 y3 y4
   unfold impl_IsTableau.j0
   with_reducible repeat' first | exact ih0 _ _ _ _ _ | exact ih1 _ _ _ _ _ _ _ | exact impl_AreConstraints.mono _ _ | exact impl_InputOf.mono _ _ | exact impl_IsCandidate.mono _ _ | exact impl_IsForm.mono _ _ | exact impl_ProfileOf.mono _ _ _ | exact slices_Equal_int_int.mono _ _ _ | exact LeO.refl _ | exact LeO.none _ | refine LeO.ite ?_ ?_ | refine LeO.bind ?_ (fun _ => ?_)
  ·intro y0 y1 y2 y3 y4 y5 y6
   unfold impl_IsTableau.l0
   with_reducible repeat' first | exact ih0 _ _ _ _ _ | exact ih1 _ _ _ _ _ _ _ | exact impl_AreConstraints.mono _ _ | exact impl_InputOf.mono _ _ | exact impl_IsCandidate.mono _ _ | exact impl_IsForm.mono _ _ | exact impl_ProfileOf.mono _ _ _ | exact slices_Equal_int_int.mono _ _ _ | exact LeO.refl _ | exact LeO.none _ | refine LeO.ite ?_ ?_ | refine LeO.bind ?_ (fun _ => ?_)
theorem impl_IsTableau.mono : ∀ a0 a1 a2 a3 k, LeO (impl_IsTableau.f k a0 a1 a2 a3) (impl_IsTableau.f (k + 1) a0 a1 a2 a3) := by
 intro a0 a1 a2 a3 k
 obtain ⟨ih0, ih1⟩ := impl_IsTableau.mono_l k
 unfold impl_IsTableau.f
 with_reducible repeat' first | exact ih0 _ _ _ _ _ | exact ih1 _ _ _ _ _ _ _ | exact impl_AreConstraints.mono _ _ | exact impl_InputOf.mono _ _ | exact impl_IsCandidate.mono _ _ | exact impl_IsForm.mono _ _ | exact impl_ProfileOf.mono _ _ _ | exact slices_Equal_int_int.mono _ _ _ | exact LeO.refl _ | exact LeO.none _ | refine LeO.ite ?_ ?_ | refine LeO.bind ?_ (fun _ => ?_)
def impl_IsTableau.T6 : Bool × List (List Nat × List Nat) := (true, [([], []), ([0], [0]), ([1], [1]), ([2, 1], [2]), ([3], [3]), ([4, 3, 3], [3, 4]), ([3], [3]), ([6, 3], [3, 6]), ([5, 7, 3], [3, 5, 7]), ([3, 8], [3, 8]), ([9, 5], [9]), ([10], [10]), ([11, 10], [10, 11]), ([10], [10]), ([12, 13, 10], [10, 12, 13]), ([14, 10], [10, 14]), ([10], [10]), ([16, 10], [10, 16]), ([10], [10]), ([17, 18, 10, 10], [10, 17, 18]), ([15, 19, 19, 10], [10, 15, 19]), ([20, 10], [10, 20]), ([10, 21], [10, 21])])
def impl_IsTableau.B6 : List Nat := [0, 1, 3, 7, 15, 31, 15, 79, 255, 511, 1023, 2047, 4095, 2047, 16383, 32767, 2047, 67583, 2047, 460799, 1048575, 2097151, 4194303]
theorem impl_IsTableau.tab6 : rtab .any (opsOf Tryz.f25 6) = impl_IsTableau.T6 := by kernel_rfl
theorem impl_IsTableau.bits6 : waitsOk impl_IsTableau.T6.2 impl_IsTableau.B6 = true := by kernel_rfl
set_option maxHeartbeats 8000000 in
set_option maxRecDepth 100000 in
theorem impl_IsTableau.calls (k : Nat) (a0_0 : ByteArray) (A0_1 : Option Addr) (c0_1 : Nat) (l0_1 : List ByteArray) (A0_2 : Option Addr) (c0_2 : Nat) (l0_2 : List (S48)) (A0_3 : Option Addr) (c0_3 : Nat) (l0_3 : List (List Int)) (r : Bool) (w : World) (hr0_1 : Kd.C Kd.string w A0_1 l0_1.length l0_1) (hc0_1 : l0_1.length ≤ c0_1) (hr0_2 : Kd.C k48 w A0_2 l0_2.length l0_2) (hc0_2 : l0_2.length ≤ c0_2) (hr0_3 : Kd.C (Kd.slice 3 (Kd.int .i64)) w A0_3 l0_3.length l0_3) (hc0_3 : l0_3.length ≤ c0_3) (h : impl_IsTableau.f k a0_0 l0_1 l0_2 l0_3 = some r) :
  Calls Tryz.prog 25 #[.agg #[.string a0_0, .slice A0_1 l0_1.length c0_1, .slice A0_2 l0_2.length c0_2, .slice A0_3 l0_3.length c0_3]] w fun e w' => e = .returned (.bool r) ∧ Below w.heap.size w w' := by
 have hu31 := Tryz.underlying31; have hu48 := Tryz.underlying48; have HR0_1 := Aside0.mk hr0_1; have HC0_1 := Aside0.mk hc0_1; clear hr0_1 hc0_1; have HR0_2 := Aside0.mk hr0_2; have HC0_2 := Aside0.mk hc0_2; clear hr0_2 hc0_2; have HR0_3 := Aside0.mk hr0_3; have HC0_3 := Aside0.mk hc0_3; clear hr0_3 hc0_3; have HB := asT (Below.refl w.heap.size w); have H := h; unfold impl_IsTableau.f at H; clear h; have HC2 := Aside0.mk H; clear H
 go_enter Tryz.func25, Tryz.ntmps25
 go_upto_region 1 with (first | ((with_reducible refine gate_dst (N := 1) rfl ?_); (try (refine gate_guard (by rfl) ?_; dsimp only)); refine boxT (N := 1) (cs := #[.string a0_0, .slice A0_1 l0_1.length c0_1, .slice A0_2 l0_2.length c0_2, .slice A0_3 l0_3.length c0_3]) (t := 31) ?_; intro gb451 hg w3 hbox hb; have BK451 := asT hbox; have GW451 := asT (geT hg HB.out); have GE451 := GW451; replace HB := hS HB hb; clear hb hbox hg))
 (try simp only [Act.put, sA, sZ, sS])
 go_cut [30] (fun v30 wc => ∃ (kq : Nat) (x30_1 : Bool), v30 = .bool x30_1 ∧ Aside0 (impl_IsTableau.j0 kq x30_1 a0_0 l0_1 l0_2 l0_3 = some r) ∧ Aside0 (kq ≤ k) ∧ Aside0 (wc.heap[gb451]? = some (.cells #[.string a0_0, (.slice A0_1 l0_1.length c0_1), (.slice A0_2 l0_2.length c0_2), (.slice A0_3 l0_3.length c0_3)] 31 (0, 0))) ∧ Aside0 (Below w.heap.size w wc))
 case first =>
  have H := HC2.out; clear HC2; obtain ⟨t452, A4, H⟩ := be H
  by_cases c5 : t452 = true
  ·subst c5
   rw [if_pos rfl] at H; obtain ⟨t453, A6, H⟩ := be H
   by_cases c7 : t453 = true
   ·subst c7
    rw [if_pos rfl] at H; obtain ⟨t454, A8, H⟩ := be H
    by_cases c9 : t454 = true
    ·subst c9
     rw [if_pos rfl] at H; have H' := Aside0.mk H; clear H
     have hcz10_0 := bc0 BK451.out
     have hcz10_1 := bc1 BK451.out
     have hcz10_2 := bc2 BK451.out
     have hcz10_3 := bc3 BK451.out
     have hfz10_0 := blk_frozen BK451.out 0; have hfz10_1 := blk_frozen BK451.out 1; have hfz10_2 := blk_frozen BK451.out 2; have hfz10_3 := blk_frozen BK451.out 3
     go_wp2_with (first | ((with_reducible refine gate_callee (f := 34) rfl ?_); refine goesL_ (some 7) rfl rfl Tryz.func34 (by kernel_rfl) rfl #[.slice A0_1 l0_1.length c0_1] rfl eqT ?_; (with_reducible refine (impl_AreConstraints.calls k _ _ l0_1 true _ ?side1 ?side2 A4.out).mono ?_); (case side1 => exact crT HR0_1.out HB.out); (case side2 => exact HC0_1.out); rintro e w11 ⟨rfl, hb⟩; refine ⟨_, rfl, ?_⟩; replace BK451 := bS BK451 hb; replace HB := hS HB hb; (try clear hb hb2 hk hi); obtain ⟨hcz12_0, hcz12_1, hcz12_2, hcz12_3, hfz12_0, hfz12_1, hfz12_2, hfz12_3⟩ := bx4 BK451.out) | (go_at_call 35; (with_reducible refine (impl_IsForm.calls k a0_0 true _ A6.out).mono ?_); rintro e w' ⟨rfl, ⟨nd, rfl⟩⟩) | (go_at_call 54; (with_reducible refine (impl_within.calls (l0_2.length : Int) 1 250 true _ A8.out).mono ?_); rintro e w' ⟨rfl, ⟨nd, rfl⟩⟩))
     go_meet
     case rel => exact ⟨_, (((l0_3.length : Int) != (l0_2.length : Int))), rdT, H', ⟨by first | omega | exact Nat.le_refl _⟩, ⟨by (with_reducible repeat (first | refine blk_drewN ?_ _ | refine blk_drew ?_ | refine blk_alloc ?_ _)); exact BK451.out⟩, ⟨hbT HB.out⟩⟩
    ·replace c9 := Bool.eq_false_iff.mpr c9
     subst c9; rw [if_neg nF] at H; have H' := Aside0.mk H; clear H
     have hcz13_0 := bc0 BK451.out
     have hcz13_1 := bc1 BK451.out
     have hcz13_2 := bc2 BK451.out
     have hcz13_3 := bc3 BK451.out
     have hfz13_0 := blk_frozen BK451.out 0; have hfz13_1 := blk_frozen BK451.out 1; have hfz13_2 := blk_frozen BK451.out 2; have hfz13_3 := blk_frozen BK451.out 3
     go_wp2_with (first | ((with_reducible refine gate_callee (f := 34) rfl ?_); refine goesL_ (some 7) rfl rfl Tryz.func34 (by kernel_rfl) rfl #[.slice A0_1 l0_1.length c0_1] rfl eqT ?_; (with_reducible refine (impl_AreConstraints.calls k _ _ l0_1 true _ ?side1 ?side2 A4.out).mono ?_); (case side1 => exact crT HR0_1.out HB.out); (case side2 => exact HC0_1.out); rintro e w14 ⟨rfl, hb⟩; refine ⟨_, rfl, ?_⟩; replace BK451 := bS BK451 hb; replace HB := hS HB hb; (try clear hb hb2 hk hi); obtain ⟨hcz15_0, hcz15_1, hcz15_2, hcz15_3, hfz15_0, hfz15_1, hfz15_2, hfz15_3⟩ := bx4 BK451.out) | (go_at_call 35; (with_reducible refine (impl_IsForm.calls k a0_0 true _ A6.out).mono ?_); rintro e w' ⟨rfl, ⟨nd, rfl⟩⟩) | (go_at_call 54; (with_reducible refine (impl_within.calls (l0_2.length : Int) 1 250 false _ A8.out).mono ?_); rintro e w' ⟨rfl, ⟨nd, rfl⟩⟩))
     go_meet
     case rel => exact ⟨_, (true), rdT, H', ⟨by first | omega | exact Nat.le_refl _⟩, ⟨by (with_reducible repeat (first | refine blk_drewN ?_ _ | refine blk_drew ?_ | refine blk_alloc ?_ _)); exact BK451.out⟩, ⟨hbT HB.out⟩⟩
   ·replace c7 := Bool.eq_false_iff.mpr c7
    subst c7; rw [if_neg nF] at H; have H' := Aside0.mk H; clear H
    have hcz16_0 := bc0 BK451.out
    have hcz16_1 := bc1 BK451.out
    have hcz16_2 := bc2 BK451.out
    have hcz16_3 := bc3 BK451.out
    have hfz16_0 := blk_frozen BK451.out 0; have hfz16_1 := blk_frozen BK451.out 1; have hfz16_2 := blk_frozen BK451.out 2; have hfz16_3 := blk_frozen BK451.out 3
    go_wp2_with (first | ((with_reducible refine gate_callee (f := 34) rfl ?_); refine goesL_ (some 7) rfl rfl Tryz.func34 (by kernel_rfl) rfl #[.slice A0_1 l0_1.length c0_1] rfl eqT ?_; (with_reducible refine (impl_AreConstraints.calls k _ _ l0_1 true _ ?side1 ?side2 A4.out).mono ?_); (case side1 => exact crT HR0_1.out HB.out); (case side2 => exact HC0_1.out); rintro e w17 ⟨rfl, hb⟩; refine ⟨_, rfl, ?_⟩; replace BK451 := bS BK451 hb; replace HB := hS HB hb; (try clear hb hb2 hk hi); obtain ⟨hcz18_0, hcz18_1, hcz18_2, hcz18_3, hfz18_0, hfz18_1, hfz18_2, hfz18_3⟩ := bx4 BK451.out) | (go_at_call 35; (with_reducible refine (impl_IsForm.calls k a0_0 false _ A6.out).mono ?_); rintro e w' ⟨rfl, ⟨nd, rfl⟩⟩))
    go_meet
    case rel => exact ⟨_, (true), rdT, H', ⟨by first | omega | exact Nat.le_refl _⟩, ⟨by (with_reducible repeat (first | refine blk_drewN ?_ _ | refine blk_drew ?_ | refine blk_alloc ?_ _)); exact BK451.out⟩, ⟨hbT HB.out⟩⟩
  ·replace c5 := Bool.eq_false_iff.mpr c5
   subst c5; rw [if_neg nF] at H; have H' := Aside0.mk H; clear H
   have hcz19_0 := bc0 BK451.out
   have hcz19_1 := bc1 BK451.out
   have hcz19_2 := bc2 BK451.out
   have hcz19_3 := bc3 BK451.out
   have hfz19_0 := blk_frozen BK451.out 0; have hfz19_1 := blk_frozen BK451.out 1; have hfz19_2 := blk_frozen BK451.out 2; have hfz19_3 := blk_frozen BK451.out 3
   go_wp2_with (first | ((with_reducible refine gate_callee (f := 34) rfl ?_); refine goesL_ (some 7) rfl rfl Tryz.func34 (by kernel_rfl) rfl #[.slice A0_1 l0_1.length c0_1] rfl eqT ?_; (with_reducible refine (impl_AreConstraints.calls k _ _ l0_1 false _ ?side1 ?side2 A4.out).mono ?_); (case side1 => exact crT HR0_1.out HB.out); (case side2 => exact HC0_1.out); rintro e w20 ⟨rfl, hb⟩; refine ⟨_, rfl, ?_⟩; replace BK451 := bS BK451 hb; replace HB := hS HB hb; (try clear hb hb2 hk hi)))
   go_meet
   case rel => exact ⟨_, (true), rdT, H', ⟨by first | omega | exact Nat.le_refl _⟩, ⟨by (with_reducible repeat (first | refine blk_drewN ?_ _ | refine blk_drew ?_ | refine blk_alloc ?_ _)); exact BK451.out⟩, ⟨hbT HB.out⟩⟩
 case rest =>
  clear HC2; (try clear c2 p2 c3 c5 c7 c9 hcz10_0 hcz10_1 hcz10_2 hcz10_3 hcz12_0 hcz12_1 hcz12_2 hcz12_3 hcz13_0 hcz13_1 hcz13_2 hcz13_3 hcz15_0 hcz15_1 hcz15_2 hcz15_3 hcz16_0 hcz16_1 hcz16_2 hcz16_3 hcz18_0 hcz18_1 hcz18_2 hcz18_3 hcz19_0 hcz19_1 hcz19_2 hcz19_3 hfz10_0 hfz10_1 hfz10_2 hfz10_3 hfz12_0 hfz12_1 hfz12_2 hfz12_3 hfz13_0 hfz13_1 hfz13_2 hfz13_3 hfz15_0 hfz15_1 hfz15_2 hfz15_3 hfz16_0 hfz16_1 hfz16_2 hfz16_3 hfz18_0 hfz18_1 hfz18_2 hfz18_3 hfz19_0 hfz19_1 hfz19_2 hfz19_3); obtain ⟨kq, x30_1, rfl, HA, HJ1, BK451, HB⟩ := hcut
  cases kq with
  | zero => exact absurd HA.out (by simp [impl_IsTableau.j0])
  | succ kj1 =>
   have H := HA.out; clear HA
   simp only [impl_IsTableau.j0] at H
   by_cases c21 : x30_1 = true
   ·subst c21
    rw [if_pos rfl] at H; have H1 := H; clear H; have H := H1; clear H1
    obtain rfl := Option.some.inj H
    go_wp2
    go_ret
    exact ⟨rlT, hbT HB.out⟩
   ·replace c21 := Bool.eq_false_iff.mpr c21
    subst c21; rw [if_neg nF] at H; have H' := Aside0.mk H; clear H
    have hcz22_0 := bc0 BK451.out
    have hcz22_1 := bc1 BK451.out
    have hcz22_2 := bc2 BK451.out
    have hcz22_3 := bc3 BK451.out
    have hfz22_0 := blk_frozen BK451.out 0; have hfz22_1 := blk_frozen BK451.out 1; have hfz22_2 := blk_frozen BK451.out 2; have hfz22_3 := blk_frozen BK451.out 3
    go_wp2
    go_loopg [34] kj1 (fun kq v34 w' => ∃ (x34_2 : Int), v34 = .int .i64 x34_2 ∧ Aside0 (impl_IsTableau.l0 kq l0_2 (l0_2.length : Int) x34_2 a0_0 l0_1 l0_2 l0_3 = some r) ∧ Aside0 (kq ≤ kj1) ∧ Aside0 (w'.heap[gb451]? = some (.cells #[.string a0_0, (.slice A0_1 l0_1.length c0_1), (.slice A0_2 l0_2.length c0_2), (.slice A0_3 l0_3.length c0_3)] 31 (0, 0))) ∧ Aside0 (Below w.heap.size w w'))
    case atStart => exact ⟨(0), rdT, H', ⟨Nat.le_refl _⟩, ⟨by (with_reducible repeat (first | refine blk_drewN ?_ _ | refine blk_drew ?_ | refine blk_alloc ?_ _)); exact BK451.out⟩, ⟨hbT HB.out⟩⟩
    case round =>
     clear H'; (try clear c2 p2 c3 c5 c7 c9 c21 hcz10_0 hcz10_1 hcz10_2 hcz10_3 hcz12_0 hcz12_1 hcz12_2 hcz12_3 hcz13_0 hcz13_1 hcz13_2 hcz13_3 hcz15_0 hcz15_1 hcz15_2 hcz15_3 hcz16_0 hcz16_1 hcz16_2 hcz16_3 hcz18_0 hcz18_1 hcz18_2 hcz18_3 hcz19_0 hcz19_1 hcz19_2 hcz19_3 hcz22_0 hcz22_1 hcz22_2 hcz22_3 hfz10_0 hfz10_1 hfz10_2 hfz10_3 hfz12_0 hfz12_1 hfz12_2 hfz12_3 hfz13_0 hfz13_1 hfz13_2 hfz13_3 hfz15_0 hfz15_1 hfz15_2 hfz15_3 hfz16_0 hfz16_1 hfz16_2 hfz16_3 hfz18_0 hfz18_1 hfz18_2 hfz18_3 hfz19_0 hfz19_1 hfz19_2 hfz19_3 hfz22_0 hfz22_1 hfz22_2 hfz22_3 p2); obtain ⟨x34_2, rfl, HA, HK2, BK451, HB⟩ := hrel
     cases gk with
     | zero => exact absurd HA.out (by simp [impl_IsTableau.l0])
     | succ k2 =>
      have H := HA.out; clear HA
      simp only [impl_IsTableau.l0] at H
      by_cases c23 : x34_2 < (l0_2.length : Int)
      ·rw [if_pos c23] at H
       have c23b0 : decide (x34_2 < (l0_2.length : Int)) = true := decide_eq_true c23
       clear c23
       by_cases c24 : 0 ≤ x34_2
       ·rw [if_pos c24] at H
        have c24b0 : decide (0 ≤ x34_2) = true := decide_eq_true c24
        clear c24
        by_cases c25 : x34_2 < (l0_2.length : Int)
        ·rw [if_pos c25] at H
         have c25b0 : decide (x34_2 < (l0_2.length : Int)) = true := decide_eq_true c25
         clear c25; obtain ⟨t457, A26, H⟩ := be H
         by_cases c27 : t457 = true
         ·subst c27
          rw [if_pos rfl] at H; obtain ⟨t458, A28, H⟩ := be H
          by_cases c29 : t458.toList = a0_0.toList
          ·rw [if_pos c29] at H
           have c29b0 : (t458.toList == a0_0.toList) = true := beq_iff_eq.mpr c29
           have c29b1 : (t458.toList != a0_0.toList) = false := bne_eq_false_iff_eq.mpr c29
           clear c29
           by_cases c30 : x34_2 < (l0_3.length : Int)
           ·rw [if_pos c30] at H
            have c30b0 : decide (x34_2 < (l0_3.length : Int)) = true := decide_eq_true c30
            clear c30; obtain ⟨t460, A31, H⟩ := be H; obtain ⟨t463, A32, H⟩ := be H
            by_cases c33 : t463 = true
            ·subst c33
             rw [if_pos rfl] at H; have H' := Aside0.mk H; clear H
             have p455 : 0 ≤ (x34_2 : Int) := of_decide_eq_true asmT
             have q455 : x34_2 < (l0_2.length : Int) := of_decide_eq_true asmT
             obtain ⟨ad455, A455_0, c455_0, e455, hx455_0, hl455_0, hi455_0⟩ := at_T48 HR0_2.out x34_2 p455 q455
             cases e455
             replace hx455_0 := hbc HB.out hx455_0; have HR455_0 := Aside0.mk hi455_0; have HC455_0 := Aside0.mk hl455_0; clear hi455_0 hl455_0; replace p455 := eq_true p455; replace q455 := eq_true q455
             try go_wp2_with (first | ((with_reducible refine gate_dst (N := 4) rfl ?_); (try (refine gate_guard (by rfl) ?_; dsimp only)); refine boxT (N := 4) (cs := #[.slice none 0 0]) (t := 48) ?_; intro gb456 hg w34 hbox hb; have BK456 := asT (hbox); have GW456 := asT (geT hg HB.out); have GE456 := asT (geT hg HB.out); replace HB := hS HB hb; have NB451_456 := asT ((by rw [hg]; exact Nat.ne_of_lt (blk_lt (g := gb451) (o := .cells #[.string a0_0, .slice A0_1 l0_1.length c0_1, .slice (some ad455) l0_2.length c0_2, .slice A0_3 l0_3.length c0_3] 31 (0, 0)) (bkT BK451.out)) : gb451 ≠ gb456)); have NB456_451 := asT ((by rw [hg]; exact Nat.ne_of_gt (blk_lt (g := gb451) (o := .cells #[.string a0_0, .slice A0_1 l0_1.length c0_1, .slice (some ad455) l0_2.length c0_2, .slice A0_3 l0_3.length c0_3] 31 (0, 0)) (bkT BK451.out)) : gb456 ≠ gb451)); replace BK451 := bS BK451 hb; clear hb hbox hg; have hnb35 := NB456_451.out; have hnc35 := NB451_456.out; obtain ⟨hcz36_0, hfz36_0⟩ := bx1 BK456.out))
             have n0_ : Aside0 ((w34.setCell ⟨gb456, 0, none⟩ (.slice A455_0 ((rd_T48 l0_2 x34_2).f0).length c455_0)).heap[gb451]? = some (.cells #[.string a0_0, .slice A0_1 l0_1.length c0_1, .slice (some ad455) l0_2.length c0_2, .slice A0_3 l0_3.length c0_3] 31 (0, 0))) := ⟨by (with_reducible repeat (first | refine blk_drewN ?_ _ | refine blk_drew ?_ | refine blk_alloc ?_ _)); refine blk_far ?_ NB451_456.out _; (with_reducible repeat (first | refine blk_drewN ?_ _ | refine blk_drew ?_ | refine blk_alloc ?_ _)); exact BK451.out⟩
             have n1_ : Aside0 ((w34.setCell ⟨gb456, 0, none⟩ (.slice A455_0 ((rd_T48 l0_2 x34_2).f0).length c455_0)).heap[gb456]? = some (.cells #[.slice A455_0 ((rd_T48 l0_2 x34_2).f0).length c455_0] 48 (0, 0))) := ⟨by (with_reducible repeat (first | refine blk_drewN ?_ _ | refine blk_drew ?_ | refine blk_alloc ?_ _)); refine blk_put (cs := #[.slice none 0 0]) ?_ 0 _ rfl; (with_reducible repeat (first | refine blk_drewN ?_ _ | refine blk_drew ?_ | refine blk_alloc ?_ _)); exact BK456.out⟩
             have n2_ : Aside0 (Below w.heap.size w (w34.setCell ⟨gb456, 0, none⟩ (.slice A455_0 ((rd_T48 l0_2 x34_2).f0).length c455_0))) := ⟨hbT HB.out⟩
             (try clear BK451); (try clear BK456 HB)
             generalize (w34.setCell ⟨gb456, 0, none⟩ (.slice A455_0 ((rd_T48 l0_2 x34_2).f0).length c455_0)) = w37 at n0_ n1_ n2_ ⊢
             have BK451 := n0_; have BK456 := n1_; have HB := n2_; clear n0_ n1_ n2_; replace BK451 := asT (blk_drew BK451.out); replace BK456 := asT (blk_drew BK456.out); replace HB := asT (below_drew1 HB.out)
             have p459 : 0 ≤ (x34_2 : Int) := of_decide_eq_true asmT
             have q459 : x34_2 < (l0_3.length : Int) := of_decide_eq_true asmT
             obtain ⟨ad459, A459_0, c459_0, e459, hx459_0, hl459_0, hi459_0⟩ := at_L6 HR0_3.out x34_2 p459 q459; have hw459_0 := hx459_0
             cases e459
             replace hx459_0 := hbc HB.out hx459_0; have HR459_0 := Aside0.mk hi459_0; have HC459_0 := Aside0.mk hl459_0; clear hi459_0 hl459_0; replace p459 := eq_true p459; replace q459 := eq_true q459
             refine start_ (n := 23) (S := fun w' => w'.cell? ⟨gb456, 0, none⟩ = some (.slice A455_0 ((rd_T48 l0_2 x34_2).f0).length c455_0) ∧ w'.cell? ⟨gb451, 0, none⟩ = some (.string a0_0) ∧ w'.cell? ⟨gb451, 1, none⟩ = some (.slice A0_1 l0_1.length c0_1) ∧ w'.cell? ⟨gb451, 2, none⟩ = some (.slice (some ad455) l0_2.length c0_2) ∧ w'.cell? ⟨gb451, 3, none⟩ = some (.slice (some ad459) l0_3.length c0_3) ∧ w'.cell? (ad459.add (x34_2).toNat) = some (.slice A459_0 (rd_L6 l0_3 x34_2).length c459_0)) (ds := []) (bA 23 0) (by kernel_rfl) rfl rfl ⟨bc0 BK456.out, bc0 BK451.out, bc1 BK451.out, bc2 BK451.out, bc3 BK451.out, (hbc HB.out hw459_0 :)⟩ (fun hHeld => ?_); refine with_tabW impl_IsTableau.tab6 impl_IsTableau.bits6 (fun HT_ HW_ => ?_)
             generalize w37.drew = w38 at BK451 BK456 HB HR459_0 hx459_0 hHeld ⊢
             refine tA 0 39 23 1 HT_.out HW_.out hHeld ?_ rfl rfl
             refine oA 1 40 23 3 HT_.out (fun K hK => ?_) rfl rfl
             refine goes_ Tryz.func55 (by kernel_rfl) rfl #[.agg #[.slice A455_0 ((rd_T48 l0_2 x34_2).f0).length c455_0]] (by rfl) rfl rfl eqT ?_
             (with_reducible refine (impl_IsCandidate.calls k2 _ _ ((rd_T48 l0_2 x34_2).f0) true _ ?side1 ?side2 A26.out).mono ?_); (case side1 => exact crT HR455_0.out HB.out); (case side2 => exact HC455_0.out); rintro e w39 ⟨rfl, hb⟩; refine ⟨_, rfl, ?_⟩; replace BK451 := bS BK451 hb; replace BK456 := bS BK456 hb; replace HB := hS HB hb; (try clear hb hb2 hk hi)
             refine hK.out _ _ ⟨bc0 BK456.out, bc0 BK451.out, bc1 BK451.out, bc2 BK451.out, bc3 BK451.out, (hbc HB.out hw459_0 :)⟩ (fun hHeld => ?_)
             clear hK K
             refine nB 40 ?_ rfl; refine pA 2 41 23 7 HT_.out ?_ rfl rfl; refine pA 3 42 23 15 HT_.out ?_ rfl rfl; refine pA 6 45 23 79 HT_.out ?_ rfl rfl; refine tA 4 43 23 95 HT_.out HW_.out hHeld ?_ rfl rfl; refine tA 7 46 23 223 HT_.out HW_.out hHeld ?_ rfl rfl
             refine oA 5 44 23 255 HT_.out (fun K hK => ?_) rfl rfl
             refine goes_ Tryz.func56 (by kernel_rfl) rfl #[.agg #[.slice A455_0 ((rd_T48 l0_2 x34_2).f0).length c455_0]] (by rfl) rfl rfl eqT ?_
             (with_reducible refine (impl_InputOf.calls k2 _ _ ((rd_T48 l0_2 x34_2).f0) t458 _ ?side1 ?side2 A28.out).mono ?_); (case side1 => exact crT HR455_0.out HB.out); (case side2 => exact HC455_0.out); rintro e w40 ⟨rfl, hb⟩; refine ⟨_, rfl, ?_⟩; replace BK451 := bS BK451 hb; replace BK456 := bS BK456 hb; replace HB := hS HB hb; (try clear hb hb2 hk hi)
             refine hK.out _ _ ⟨bc0 BK456.out, bc0 BK451.out, bc1 BK451.out, bc2 BK451.out, bc3 BK451.out, (hbc HB.out hw459_0 :)⟩ (fun hHeld => ?_)
             clear hK K
             refine nB 44 ?_ rfl; refine pA 8 47 23 511 HT_.out ?_ rfl rfl; refine pA 9 48 23 1023 HT_.out ?_ rfl rfl; refine pA 10 49 23 2047 HT_.out ?_ rfl rfl; refine pA 11 50 23 4095 HT_.out ?_ rfl rfl; refine pA 13 52 23 12287 HT_.out ?_ rfl rfl; refine pA 16 55 23 77823 HT_.out ?_ rfl rfl; refine tA 12 51 23 81919 HT_.out HW_.out hHeld ?_ rfl rfl; refine pA 14 53 23 98303 HT_.out ?_ rfl rfl; refine tA 15 54 23 131071 HT_.out HW_.out hHeld ?_ rfl rfl; refine tA 17 56 23 262143 HT_.out HW_.out hHeld ?_ rfl rfl; refine tA 18 57 23 524287 HT_.out HW_.out hHeld ?_ rfl rfl
             refine oA 19 58 23 1048575 HT_.out (fun K hK => ?_) rfl rfl
             refine goes_ Tryz.func38 (by kernel_rfl) rfl #[.slice A0_1 l0_1.length c0_1, .agg #[.slice A455_0 ((rd_T48 l0_2 x34_2).f0).length c455_0]] (by rfl) rfl rfl eqT ?_
             (with_reducible refine (impl_ProfileOf.calls k2 _ _ l0_1 _ _ ((rd_T48 l0_2 x34_2).f0) t460 _ ?side1 ?side2 ?side3 ?side4 A31.out).mono ?_); (case side1 => exact crT HR0_1.out HB.out); (case side2 => exact HC0_1.out); (case side3 => exact crT HR455_0.out HB.out); (case side4 => exact HC455_0.out); rintro e w41 ⟨v461, rfl, ho0, hb⟩; refine ⟨_, rfl, ?_⟩; have HO462 := asT (Kd.R_lower ho0 (below_size (hbT HB.out))); replace BK451 := bS BK451 hb; replace BK456 := bS BK456 hb; replace HB := hS HB hb; (try clear hb hb2 hk hi ho0); obtain ⟨Ao42, co42, eo42⟩ := Kd.R_slice HO462.out; (first | subst eo42 | (injection eo42 with f1_ f2_ f3_; have f4_ := f1_.symm; have f5_ := f3_.symm; clear f1_ f2_ f3_; subst f4_; subst f5_))
             refine hK.out _ _ ⟨bc0 BK456.out, bc0 BK451.out, bc1 BK451.out, bc2 BK451.out, bc3 BK451.out, (hbc HB.out hw459_0 :)⟩ (fun hHeld => ?_)
             clear hK K
             refine nB 58 ?_ rfl
             refine oA 20 59 23 2097151 HT_.out (fun K hK => ?_) rfl rfl
             refine goes_ Tryz.func57 (by kernel_rfl) rfl #[.slice A459_0 (rd_L6 l0_3 x34_2).length c459_0, .slice Ao42 t460.length co42] (by rfl) rfl rfl eqT ?_
             (with_reducible refine (slices_Equal_int_int.calls k2 _ _ (rd_L6 l0_3 x34_2) _ _ t460 true _ ?side1 ?side2 ?side3 ?side4 A32.out).mono ?_); (case side1 => exact crT HR459_0.out HB.out); (case side2 => exact HC459_0.out); (case side3 => repeat (first | exact (Kd.R_reads' HO462.out).2.2 | (with_reducible refine Kd.C_alloc ?_ _) | (with_reducible refine Kd.C_drewN ?_ _) | (with_reducible refine Kd.C_drew ?_))); (case side4 => exact (Kd.R_reads' HO462.out).2.1); rintro e w' ⟨rfl, ⟨nd, rfl⟩⟩; refine ⟨_, rfl, ?_⟩
             refine hK.out _ _ ⟨bc0 BK456.out, bc0 BK451.out, bc1 BK451.out, bc2 BK451.out, bc3 BK451.out, (hbc HB.out hw459_0 :)⟩ (fun hHeld => ?_)
             clear hK K
             refine nB 59 ?_ rfl; refine pA 21 60 23 4194303 HT_.out ?_ rfl rfl; refine pA 22 61 23 8388607 HT_.out ?_ rfl rfl
             refine done_ (done_of HT_.out (by kernel_rfl)) ?_
             try go_wp2
             go_roundg k2
             case measure => have := HJ1.out; have := HK2.out; omega
             case rel => exact ⟨(wrap64 (x34_2 + 1)), rdT, H', ⟨by have := HJ1.out; have := HK2.out; omega⟩, ⟨by (with_reducible repeat (first | refine blk_drewN ?_ _ | refine blk_drew ?_ | refine blk_alloc ?_ _)); exact BK451.out⟩, ⟨hbT HB.out⟩⟩
            ·replace c33 := Bool.eq_false_iff.mpr c33
             subst c33; rw [if_neg nF] at H; have H1 := H; clear H; have H := H1; clear H1
             obtain rfl := Option.some.inj H
             have p455 : 0 ≤ (x34_2 : Int) := of_decide_eq_true asmT
             have q455 : x34_2 < (l0_2.length : Int) := of_decide_eq_true asmT
             obtain ⟨ad455, A455_0, c455_0, e455, hx455_0, hl455_0, hi455_0⟩ := at_T48 HR0_2.out x34_2 p455 q455
             cases e455
             replace hx455_0 := hbc HB.out hx455_0; have HR455_0 := Aside0.mk hi455_0; have HC455_0 := Aside0.mk hl455_0; clear hi455_0 hl455_0; replace p455 := eq_true p455; replace q455 := eq_true q455
             try go_wp2_with (first | ((with_reducible refine gate_dst (N := 4) rfl ?_); (try (refine gate_guard (by rfl) ?_; dsimp only)); refine boxT (N := 4) (cs := #[.slice none 0 0]) (t := 48) ?_; intro gb456 hg w43 hbox hb; have BK456 := asT (hbox); have GW456 := asT (geT hg HB.out); have GE456 := asT (geT hg HB.out); replace HB := hS HB hb; have NB451_456 := asT ((by rw [hg]; exact Nat.ne_of_lt (blk_lt (g := gb451) (o := .cells #[.string a0_0, .slice A0_1 l0_1.length c0_1, .slice (some ad455) l0_2.length c0_2, .slice A0_3 l0_3.length c0_3] 31 (0, 0)) (bkT BK451.out)) : gb451 ≠ gb456)); have NB456_451 := asT ((by rw [hg]; exact Nat.ne_of_gt (blk_lt (g := gb451) (o := .cells #[.string a0_0, .slice A0_1 l0_1.length c0_1, .slice (some ad455) l0_2.length c0_2, .slice A0_3 l0_3.length c0_3] 31 (0, 0)) (bkT BK451.out)) : gb456 ≠ gb451)); replace BK451 := bS BK451 hb; clear hb hbox hg; have hnb44 := NB456_451.out; have hnc44 := NB451_456.out; obtain ⟨hcz45_0, hfz45_0⟩ := bx1 BK456.out))
             have n0_ : Aside0 ((w43.setCell ⟨gb456, 0, none⟩ (.slice A455_0 ((rd_T48 l0_2 x34_2).f0).length c455_0)).heap[gb451]? = some (.cells #[.string a0_0, .slice A0_1 l0_1.length c0_1, .slice (some ad455) l0_2.length c0_2, .slice A0_3 l0_3.length c0_3] 31 (0, 0))) := ⟨by (with_reducible repeat (first | refine blk_drewN ?_ _ | refine blk_drew ?_ | refine blk_alloc ?_ _)); refine blk_far ?_ NB451_456.out _; (with_reducible repeat (first | refine blk_drewN ?_ _ | refine blk_drew ?_ | refine blk_alloc ?_ _)); exact BK451.out⟩
             have n1_ : Aside0 ((w43.setCell ⟨gb456, 0, none⟩ (.slice A455_0 ((rd_T48 l0_2 x34_2).f0).length c455_0)).heap[gb456]? = some (.cells #[.slice A455_0 ((rd_T48 l0_2 x34_2).f0).length c455_0] 48 (0, 0))) := ⟨by (with_reducible repeat (first | refine blk_drewN ?_ _ | refine blk_drew ?_ | refine blk_alloc ?_ _)); refine blk_put (cs := #[.slice none 0 0]) ?_ 0 _ rfl; (with_reducible repeat (first | refine blk_drewN ?_ _ | refine blk_drew ?_ | refine blk_alloc ?_ _)); exact BK456.out⟩
             have n2_ : Aside0 (Below w.heap.size w (w43.setCell ⟨gb456, 0, none⟩ (.slice A455_0 ((rd_T48 l0_2 x34_2).f0).length c455_0))) := ⟨hbT HB.out⟩
             (try clear BK451); (try clear BK456 HB)
             generalize (w43.setCell ⟨gb456, 0, none⟩ (.slice A455_0 ((rd_T48 l0_2 x34_2).f0).length c455_0)) = w46 at n0_ n1_ n2_ ⊢
             have BK451 := n0_; have BK456 := n1_; have HB := n2_; clear n0_ n1_ n2_; replace BK451 := asT (blk_drew BK451.out); replace BK456 := asT (blk_drew BK456.out); replace HB := asT (below_drew1 HB.out)
             have p459 : 0 ≤ (x34_2 : Int) := of_decide_eq_true asmT
             have q459 : x34_2 < (l0_3.length : Int) := of_decide_eq_true asmT
             obtain ⟨ad459, A459_0, c459_0, e459, hx459_0, hl459_0, hi459_0⟩ := at_L6 HR0_3.out x34_2 p459 q459; have hw459_0 := hx459_0
             cases e459
             replace hx459_0 := hbc HB.out hx459_0; have HR459_0 := Aside0.mk hi459_0; have HC459_0 := Aside0.mk hl459_0; clear hi459_0 hl459_0; replace p459 := eq_true p459; replace q459 := eq_true q459
             refine start_ (n := 23) (S := fun w' => w'.cell? ⟨gb456, 0, none⟩ = some (.slice A455_0 ((rd_T48 l0_2 x34_2).f0).length c455_0) ∧ w'.cell? ⟨gb451, 0, none⟩ = some (.string a0_0) ∧ w'.cell? ⟨gb451, 1, none⟩ = some (.slice A0_1 l0_1.length c0_1) ∧ w'.cell? ⟨gb451, 2, none⟩ = some (.slice (some ad455) l0_2.length c0_2) ∧ w'.cell? ⟨gb451, 3, none⟩ = some (.slice (some ad459) l0_3.length c0_3) ∧ w'.cell? (ad459.add (x34_2).toNat) = some (.slice A459_0 (rd_L6 l0_3 x34_2).length c459_0)) (ds := []) (bA 23 0) (by kernel_rfl) rfl rfl ⟨bc0 BK456.out, bc0 BK451.out, bc1 BK451.out, bc2 BK451.out, bc3 BK451.out, (hbc HB.out hw459_0 :)⟩ (fun hHeld => ?_); refine with_tabW impl_IsTableau.tab6 impl_IsTableau.bits6 (fun HT_ HW_ => ?_)
             generalize w46.drew = w47 at BK451 BK456 HB HR459_0 hx459_0 hHeld ⊢
             refine tA 0 39 23 1 HT_.out HW_.out hHeld ?_ rfl rfl
             refine oA 1 40 23 3 HT_.out (fun K hK => ?_) rfl rfl
             refine goes_ Tryz.func55 (by kernel_rfl) rfl #[.agg #[.slice A455_0 ((rd_T48 l0_2 x34_2).f0).length c455_0]] (by rfl) rfl rfl eqT ?_
             (with_reducible refine (impl_IsCandidate.calls k2 _ _ ((rd_T48 l0_2 x34_2).f0) true _ ?side1 ?side2 A26.out).mono ?_); (case side1 => exact crT HR455_0.out HB.out); (case side2 => exact HC455_0.out); rintro e w48 ⟨rfl, hb⟩; refine ⟨_, rfl, ?_⟩; replace BK451 := bS BK451 hb; replace BK456 := bS BK456 hb; replace HB := hS HB hb; (try clear hb hb2 hk hi)
             refine hK.out _ _ ⟨bc0 BK456.out, bc0 BK451.out, bc1 BK451.out, bc2 BK451.out, bc3 BK451.out, (hbc HB.out hw459_0 :)⟩ (fun hHeld => ?_)
             clear hK K
             refine nB 40 ?_ rfl; refine pA 2 41 23 7 HT_.out ?_ rfl rfl; refine pA 3 42 23 15 HT_.out ?_ rfl rfl; refine pA 6 45 23 79 HT_.out ?_ rfl rfl; refine tA 4 43 23 95 HT_.out HW_.out hHeld ?_ rfl rfl; refine tA 7 46 23 223 HT_.out HW_.out hHeld ?_ rfl rfl
             refine oA 5 44 23 255 HT_.out (fun K hK => ?_) rfl rfl
             refine goes_ Tryz.func56 (by kernel_rfl) rfl #[.agg #[.slice A455_0 ((rd_T48 l0_2 x34_2).f0).length c455_0]] (by rfl) rfl rfl eqT ?_
             (with_reducible refine (impl_InputOf.calls k2 _ _ ((rd_T48 l0_2 x34_2).f0) t458 _ ?side1 ?side2 A28.out).mono ?_); (case side1 => exact crT HR455_0.out HB.out); (case side2 => exact HC455_0.out); rintro e w49 ⟨rfl, hb⟩; refine ⟨_, rfl, ?_⟩; replace BK451 := bS BK451 hb; replace BK456 := bS BK456 hb; replace HB := hS HB hb; (try clear hb hb2 hk hi)
             refine hK.out _ _ ⟨bc0 BK456.out, bc0 BK451.out, bc1 BK451.out, bc2 BK451.out, bc3 BK451.out, (hbc HB.out hw459_0 :)⟩ (fun hHeld => ?_)
             clear hK K
             refine nB 44 ?_ rfl; refine pA 8 47 23 511 HT_.out ?_ rfl rfl; refine pA 9 48 23 1023 HT_.out ?_ rfl rfl; refine pA 10 49 23 2047 HT_.out ?_ rfl rfl; refine pA 11 50 23 4095 HT_.out ?_ rfl rfl; refine pA 13 52 23 12287 HT_.out ?_ rfl rfl; refine pA 16 55 23 77823 HT_.out ?_ rfl rfl; refine tA 12 51 23 81919 HT_.out HW_.out hHeld ?_ rfl rfl; refine pA 14 53 23 98303 HT_.out ?_ rfl rfl; refine tA 15 54 23 131071 HT_.out HW_.out hHeld ?_ rfl rfl; refine tA 17 56 23 262143 HT_.out HW_.out hHeld ?_ rfl rfl; refine tA 18 57 23 524287 HT_.out HW_.out hHeld ?_ rfl rfl
             refine oA 19 58 23 1048575 HT_.out (fun K hK => ?_) rfl rfl
             refine goes_ Tryz.func38 (by kernel_rfl) rfl #[.slice A0_1 l0_1.length c0_1, .agg #[.slice A455_0 ((rd_T48 l0_2 x34_2).f0).length c455_0]] (by rfl) rfl rfl eqT ?_
             (with_reducible refine (impl_ProfileOf.calls k2 _ _ l0_1 _ _ ((rd_T48 l0_2 x34_2).f0) t460 _ ?side1 ?side2 ?side3 ?side4 A31.out).mono ?_); (case side1 => exact crT HR0_1.out HB.out); (case side2 => exact HC0_1.out); (case side3 => exact crT HR455_0.out HB.out); (case side4 => exact HC455_0.out); rintro e w50 ⟨v461, rfl, ho0, hb⟩; refine ⟨_, rfl, ?_⟩; have HO462 := asT (Kd.R_lower ho0 (below_size (hbT HB.out))); replace BK451 := bS BK451 hb; replace BK456 := bS BK456 hb; replace HB := hS HB hb; (try clear hb hb2 hk hi ho0); obtain ⟨Ao51, co51, eo51⟩ := Kd.R_slice HO462.out; (first | subst eo51 | (injection eo51 with f1_ f2_ f3_; have f4_ := f1_.symm; have f5_ := f3_.symm; clear f1_ f2_ f3_; subst f4_; subst f5_))
             refine hK.out _ _ ⟨bc0 BK456.out, bc0 BK451.out, bc1 BK451.out, bc2 BK451.out, bc3 BK451.out, (hbc HB.out hw459_0 :)⟩ (fun hHeld => ?_)
             clear hK K
             refine nB 58 ?_ rfl
             refine oA 20 59 23 2097151 HT_.out (fun K hK => ?_) rfl rfl
             refine goes_ Tryz.func57 (by kernel_rfl) rfl #[.slice A459_0 (rd_L6 l0_3 x34_2).length c459_0, .slice Ao51 t460.length co51] (by rfl) rfl rfl eqT ?_
             (with_reducible refine (slices_Equal_int_int.calls k2 _ _ (rd_L6 l0_3 x34_2) _ _ t460 false _ ?side1 ?side2 ?side3 ?side4 A32.out).mono ?_); (case side1 => exact crT HR459_0.out HB.out); (case side2 => exact HC459_0.out); (case side3 => repeat (first | exact (Kd.R_reads' HO462.out).2.2 | (with_reducible refine Kd.C_alloc ?_ _) | (with_reducible refine Kd.C_drewN ?_ _) | (with_reducible refine Kd.C_drew ?_))); (case side4 => exact (Kd.R_reads' HO462.out).2.1); rintro e w' ⟨rfl, ⟨nd, rfl⟩⟩; refine ⟨_, rfl, ?_⟩
             refine hK.out _ _ ⟨bc0 BK456.out, bc0 BK451.out, bc1 BK451.out, bc2 BK451.out, bc3 BK451.out, (hbc HB.out hw459_0 :)⟩ (fun hHeld => ?_)
             clear hK K
             refine nB 59 ?_ rfl; refine pA 21 60 23 4194303 HT_.out ?_ rfl rfl; refine pA 22 61 23 8388607 HT_.out ?_ rfl rfl
             refine done_ (done_of HT_.out (by kernel_rfl)) ?_
             try go_wp2
             go_ret
             exact ⟨rlT, hbT HB.out⟩
           ·rw [if_neg c30] at H
            exact absurd H (by simp)
          ·rw [if_neg c29] at H
           have c29b0 : (t458.toList == a0_0.toList) = false := beq_eq_false_iff_ne.mpr c29
           have c29b1 : (t458.toList != a0_0.toList) = true := bne_iff_ne.mpr c29
           obtain rfl := Option.some.inj H
           have p455 : 0 ≤ (x34_2 : Int) := of_decide_eq_true asmT
           have q455 : x34_2 < (l0_2.length : Int) := of_decide_eq_true asmT
           obtain ⟨ad455, A455_0, c455_0, e455, hx455_0, hl455_0, hi455_0⟩ := at_T48 HR0_2.out x34_2 p455 q455
           cases e455
           replace hx455_0 := hbc HB.out hx455_0; have HR455_0 := Aside0.mk hi455_0; have HC455_0 := Aside0.mk hl455_0; clear hi455_0 hl455_0; replace p455 := eq_true p455; replace q455 := eq_true q455
           try go_wp2_with (first | ((with_reducible refine gate_dst (N := 4) rfl ?_); (try (refine gate_guard (by rfl) ?_; dsimp only)); refine boxT (N := 4) (cs := #[.slice none 0 0]) (t := 48) ?_; intro gb456 hg w52 hbox hb; have BK456 := asT (hbox); have GW456 := asT (geT hg HB.out); have GE456 := asT (geT hg HB.out); replace HB := hS HB hb; have NB451_456 := asT ((by rw [hg]; exact Nat.ne_of_lt (blk_lt (g := gb451) (o := .cells #[.string a0_0, .slice A0_1 l0_1.length c0_1, .slice (some ad455) l0_2.length c0_2, .slice A0_3 l0_3.length c0_3] 31 (0, 0)) (bkT BK451.out)) : gb451 ≠ gb456)); have NB456_451 := asT ((by rw [hg]; exact Nat.ne_of_gt (blk_lt (g := gb451) (o := .cells #[.string a0_0, .slice A0_1 l0_1.length c0_1, .slice (some ad455) l0_2.length c0_2, .slice A0_3 l0_3.length c0_3] 31 (0, 0)) (bkT BK451.out)) : gb456 ≠ gb451)); replace BK451 := bS BK451 hb; clear hb hbox hg; have hnb53 := NB456_451.out; have hnc53 := NB451_456.out; obtain ⟨hcz54_0, hfz54_0⟩ := bx1 BK456.out))
           have n0_ : Aside0 ((w52.setCell ⟨gb456, 0, none⟩ (.slice A455_0 ((rd_T48 l0_2 x34_2).f0).length c455_0)).heap[gb451]? = some (.cells #[.string a0_0, .slice A0_1 l0_1.length c0_1, .slice (some ad455) l0_2.length c0_2, .slice A0_3 l0_3.length c0_3] 31 (0, 0))) := ⟨by (with_reducible repeat (first | refine blk_drewN ?_ _ | refine blk_drew ?_ | refine blk_alloc ?_ _)); refine blk_far ?_ NB451_456.out _; (with_reducible repeat (first | refine blk_drewN ?_ _ | refine blk_drew ?_ | refine blk_alloc ?_ _)); exact BK451.out⟩
           have n1_ : Aside0 ((w52.setCell ⟨gb456, 0, none⟩ (.slice A455_0 ((rd_T48 l0_2 x34_2).f0).length c455_0)).heap[gb456]? = some (.cells #[.slice A455_0 ((rd_T48 l0_2 x34_2).f0).length c455_0] 48 (0, 0))) := ⟨by (with_reducible repeat (first | refine blk_drewN ?_ _ | refine blk_drew ?_ | refine blk_alloc ?_ _)); refine blk_put (cs := #[.slice none 0 0]) ?_ 0 _ rfl; (with_reducible repeat (first | refine blk_drewN ?_ _ | refine blk_drew ?_ | refine blk_alloc ?_ _)); exact BK456.out⟩
           have n2_ : Aside0 (Below w.heap.size w (w52.setCell ⟨gb456, 0, none⟩ (.slice A455_0 ((rd_T48 l0_2 x34_2).f0).length c455_0))) := ⟨hbT HB.out⟩
           (try clear BK451); (try clear BK456 HB)
           generalize (w52.setCell ⟨gb456, 0, none⟩ (.slice A455_0 ((rd_T48 l0_2 x34_2).f0).length c455_0)) = w55 at n0_ n1_ n2_ ⊢
           have BK451 := n0_; have BK456 := n1_; have HB := n2_; clear n0_ n1_ n2_; replace BK451 := asT (blk_drew BK451.out); replace BK456 := asT (blk_drew BK456.out); replace HB := asT (below_drew1 HB.out)
           refine start_ (n := 23) (S := fun w' => w'.cell? ⟨gb456, 0, none⟩ = some (.slice A455_0 ((rd_T48 l0_2 x34_2).f0).length c455_0) ∧ w'.cell? ⟨gb451, 0, none⟩ = some (.string a0_0) ∧ w'.cell? ⟨gb451, 1, none⟩ = some (.slice A0_1 l0_1.length c0_1) ∧ w'.cell? ⟨gb451, 2, none⟩ = some (.slice (some ad455) l0_2.length c0_2) ∧ w'.cell? ⟨gb451, 3, none⟩ = some (.slice A0_3 l0_3.length c0_3)) (ds := []) (bA 23 0) (by kernel_rfl) rfl rfl ⟨bc0 BK456.out, bc0 BK451.out, bc1 BK451.out, bc2 BK451.out, bc3 BK451.out⟩ (fun hHeld => ?_); refine with_tabW impl_IsTableau.tab6 impl_IsTableau.bits6 (fun HT_ HW_ => ?_)
           generalize w55.drew = w56 at BK451 BK456 HB hHeld ⊢
           refine tA 0 39 23 1 HT_.out HW_.out hHeld ?_ rfl rfl
           refine oA 1 40 23 3 HT_.out (fun K hK => ?_) rfl rfl
           refine goes_ Tryz.func55 (by kernel_rfl) rfl #[.agg #[.slice A455_0 ((rd_T48 l0_2 x34_2).f0).length c455_0]] (by rfl) rfl rfl eqT ?_
           (with_reducible refine (impl_IsCandidate.calls k2 _ _ ((rd_T48 l0_2 x34_2).f0) true _ ?side1 ?side2 A26.out).mono ?_); (case side1 => exact crT HR455_0.out HB.out); (case side2 => exact HC455_0.out); rintro e w57 ⟨rfl, hb⟩; refine ⟨_, rfl, ?_⟩; replace BK451 := bS BK451 hb; replace BK456 := bS BK456 hb; replace HB := hS HB hb; (try clear hb hb2 hk hi)
           refine hK.out _ _ ⟨bc0 BK456.out, bc0 BK451.out, bc1 BK451.out, bc2 BK451.out, bc3 BK451.out⟩ (fun hHeld => ?_)
           clear hK K
           refine nB 40 ?_ rfl; refine pA 2 41 23 7 HT_.out ?_ rfl rfl; refine pA 3 42 23 15 HT_.out ?_ rfl rfl; refine pA 6 45 23 79 HT_.out ?_ rfl rfl; refine tA 4 43 23 95 HT_.out HW_.out hHeld ?_ rfl rfl; refine tA 7 46 23 223 HT_.out HW_.out hHeld ?_ rfl rfl
           refine oA 5 44 23 255 HT_.out (fun K hK => ?_) rfl rfl
           refine goes_ Tryz.func56 (by kernel_rfl) rfl #[.agg #[.slice A455_0 ((rd_T48 l0_2 x34_2).f0).length c455_0]] (by rfl) rfl rfl eqT ?_
           (with_reducible refine (impl_InputOf.calls k2 _ _ ((rd_T48 l0_2 x34_2).f0) t458 _ ?side1 ?side2 A28.out).mono ?_); (case side1 => exact crT HR455_0.out HB.out); (case side2 => exact HC455_0.out); rintro e w58 ⟨rfl, hb⟩; refine ⟨_, rfl, ?_⟩; replace BK451 := bS BK451 hb; replace BK456 := bS BK456 hb; replace HB := hS HB hb; (try clear hb hb2 hk hi)
           refine hK.out _ _ ⟨bc0 BK456.out, bc0 BK451.out, bc1 BK451.out, bc2 BK451.out, bc3 BK451.out⟩ (fun hHeld => ?_)
           clear hK K
           refine nB 44 ?_ rfl; refine pA 8 47 23 511 HT_.out ?_ rfl rfl; refine pA 9 48 23 1023 HT_.out ?_ rfl rfl; refine pA 10 49 23 2047 HT_.out ?_ rfl rfl; refine uA 11 50 23 4095 HT_.out ?_ rfl rfl; refine uA 12 51 23 8191 HT_.out ?_ rfl rfl; refine uA 13 52 23 16383 HT_.out ?_ rfl rfl; refine uA 14 53 23 32767 HT_.out ?_ rfl rfl; refine uA 15 54 23 65535 HT_.out ?_ rfl rfl; refine uA 16 55 23 131071 HT_.out ?_ rfl rfl; refine uA 17 56 23 262143 HT_.out ?_ rfl rfl; refine uA 18 57 23 524287 HT_.out ?_ rfl rfl; refine uA 19 58 23 1048575 HT_.out ?_ rfl rfl; refine uA 20 59 23 2097151 HT_.out ?_ rfl rfl; refine uA 21 60 23 4194303 HT_.out ?_ rfl rfl; refine pA 22 61 23 8388607 HT_.out ?_ rfl rfl
           refine done_ (done_of HT_.out (by kernel_rfl)) ?_
           try go_wp2
           go_ret
           exact ⟨rlT, hbT HB.out⟩
         ·replace c27 := Bool.eq_false_iff.mpr c27
          subst c27; rw [if_neg nF] at H; have H1 := H; clear H; have H := H1; clear H1
          obtain rfl := Option.some.inj H
          have p455 : 0 ≤ (x34_2 : Int) := of_decide_eq_true asmT
          have q455 : x34_2 < (l0_2.length : Int) := of_decide_eq_true asmT
          obtain ⟨ad455, A455_0, c455_0, e455, hx455_0, hl455_0, hi455_0⟩ := at_T48 HR0_2.out x34_2 p455 q455
          cases e455
          replace hx455_0 := hbc HB.out hx455_0; have HR455_0 := Aside0.mk hi455_0; have HC455_0 := Aside0.mk hl455_0; clear hi455_0 hl455_0; replace p455 := eq_true p455; replace q455 := eq_true q455
          try go_wp2_with (first | ((with_reducible refine gate_dst (N := 4) rfl ?_); (try (refine gate_guard (by rfl) ?_; dsimp only)); refine boxT (N := 4) (cs := #[.slice none 0 0]) (t := 48) ?_; intro gb456 hg w59 hbox hb; have BK456 := asT (hbox); have GW456 := asT (geT hg HB.out); have GE456 := asT (geT hg HB.out); replace HB := hS HB hb; have NB451_456 := asT ((by rw [hg]; exact Nat.ne_of_lt (blk_lt (g := gb451) (o := .cells #[.string a0_0, .slice A0_1 l0_1.length c0_1, .slice (some ad455) l0_2.length c0_2, .slice A0_3 l0_3.length c0_3] 31 (0, 0)) (bkT BK451.out)) : gb451 ≠ gb456)); have NB456_451 := asT ((by rw [hg]; exact Nat.ne_of_gt (blk_lt (g := gb451) (o := .cells #[.string a0_0, .slice A0_1 l0_1.length c0_1, .slice (some ad455) l0_2.length c0_2, .slice A0_3 l0_3.length c0_3] 31 (0, 0)) (bkT BK451.out)) : gb456 ≠ gb451)); replace BK451 := bS BK451 hb; clear hb hbox hg; have hnb60 := NB456_451.out; have hnc60 := NB451_456.out; obtain ⟨hcz61_0, hfz61_0⟩ := bx1 BK456.out))
          have n0_ : Aside0 ((w59.setCell ⟨gb456, 0, none⟩ (.slice A455_0 ((rd_T48 l0_2 x34_2).f0).length c455_0)).heap[gb451]? = some (.cells #[.string a0_0, .slice A0_1 l0_1.length c0_1, .slice (some ad455) l0_2.length c0_2, .slice A0_3 l0_3.length c0_3] 31 (0, 0))) := ⟨by (with_reducible repeat (first | refine blk_drewN ?_ _ | refine blk_drew ?_ | refine blk_alloc ?_ _)); refine blk_far ?_ NB451_456.out _; (with_reducible repeat (first | refine blk_drewN ?_ _ | refine blk_drew ?_ | refine blk_alloc ?_ _)); exact BK451.out⟩
          have n1_ : Aside0 ((w59.setCell ⟨gb456, 0, none⟩ (.slice A455_0 ((rd_T48 l0_2 x34_2).f0).length c455_0)).heap[gb456]? = some (.cells #[.slice A455_0 ((rd_T48 l0_2 x34_2).f0).length c455_0] 48 (0, 0))) := ⟨by (with_reducible repeat (first | refine blk_drewN ?_ _ | refine blk_drew ?_ | refine blk_alloc ?_ _)); refine blk_put (cs := #[.slice none 0 0]) ?_ 0 _ rfl; (with_reducible repeat (first | refine blk_drewN ?_ _ | refine blk_drew ?_ | refine blk_alloc ?_ _)); exact BK456.out⟩
          have n2_ : Aside0 (Below w.heap.size w (w59.setCell ⟨gb456, 0, none⟩ (.slice A455_0 ((rd_T48 l0_2 x34_2).f0).length c455_0))) := ⟨hbT HB.out⟩
          (try clear BK451); (try clear BK456 HB)
          generalize (w59.setCell ⟨gb456, 0, none⟩ (.slice A455_0 ((rd_T48 l0_2 x34_2).f0).length c455_0)) = w62 at n0_ n1_ n2_ ⊢
          have BK451 := n0_; have BK456 := n1_; have HB := n2_; clear n0_ n1_ n2_; replace BK451 := asT (blk_drew BK451.out); replace BK456 := asT (blk_drew BK456.out); replace HB := asT (below_drew1 HB.out)
          refine start_ (n := 23) (S := fun w' => w'.cell? ⟨gb456, 0, none⟩ = some (.slice A455_0 ((rd_T48 l0_2 x34_2).f0).length c455_0)) (ds := []) (bA 23 0) (by kernel_rfl) rfl rfl ((blk_cell BK456.out 0).trans rfl) (fun hHeld => ?_); refine with_tabW impl_IsTableau.tab6 impl_IsTableau.bits6 (fun HT_ HW_ => ?_)
          generalize w62.drew = w63 at BK451 BK456 HB hHeld ⊢
          refine tA 0 39 23 1 HT_.out HW_.out hHeld ?_ rfl rfl
          refine oA 1 40 23 3 HT_.out (fun K hK => ?_) rfl rfl
          refine goes_ Tryz.func55 (by kernel_rfl) rfl #[.agg #[.slice A455_0 ((rd_T48 l0_2 x34_2).f0).length c455_0]] (by rfl) rfl rfl eqT ?_
          (with_reducible refine (impl_IsCandidate.calls k2 _ _ ((rd_T48 l0_2 x34_2).f0) false _ ?side1 ?side2 A26.out).mono ?_); (case side1 => exact crT HR455_0.out HB.out); (case side2 => exact HC455_0.out); rintro e w64 ⟨rfl, hb⟩; refine ⟨_, rfl, ?_⟩; replace BK451 := bS BK451 hb; replace BK456 := bS BK456 hb; replace HB := hS HB hb; (try clear hb hb2 hk hi)
          refine hK.out _ _ ((blk_cell BK456.out 0).trans rfl) (fun hHeld => ?_)
          clear hK K
          refine nB 40 ?_ rfl; refine pA 2 41 23 7 HT_.out ?_ rfl rfl; refine pA 3 42 23 15 HT_.out ?_ rfl rfl; refine uA 4 43 23 31 HT_.out ?_ rfl rfl; refine uA 5 44 23 63 HT_.out ?_ rfl rfl; refine uA 6 45 23 127 HT_.out ?_ rfl rfl; refine uA 7 46 23 255 HT_.out ?_ rfl rfl; refine uA 8 47 23 511 HT_.out ?_ rfl rfl; refine pA 9 48 23 1023 HT_.out ?_ rfl rfl; refine pA 10 49 23 2047 HT_.out ?_ rfl rfl; refine uA 11 50 23 4095 HT_.out ?_ rfl rfl; refine uA 12 51 23 8191 HT_.out ?_ rfl rfl; refine uA 13 52 23 16383 HT_.out ?_ rfl rfl; refine uA 14 53 23 32767 HT_.out ?_ rfl rfl; refine uA 15 54 23 65535 HT_.out ?_ rfl rfl; refine uA 16 55 23 131071 HT_.out ?_ rfl rfl; refine uA 17 56 23 262143 HT_.out ?_ rfl rfl; refine uA 18 57 23 524287 HT_.out ?_ rfl rfl; refine uA 19 58 23 1048575 HT_.out ?_ rfl rfl; refine uA 20 59 23 2097151 HT_.out ?_ rfl rfl; refine uA 21 60 23 4194303 HT_.out ?_ rfl rfl; refine pA 22 61 23 8388607 HT_.out ?_ rfl rfl
          refine done_ (done_of HT_.out (by kernel_rfl)) ?_
          try go_wp2
          go_ret
          exact ⟨rlT, hbT HB.out⟩
        ·rw [if_neg c25] at H
         exact absurd H (by simp)
       ·rw [if_neg c24] at H
        exact absurd H (by simp)
      ·rw [if_neg c23] at H
       have c23b0 : decide (x34_2 < (l0_2.length : Int)) = false := decide_eq_false c23
       clear c23
       obtain rfl := Option.some.inj H
       go_wp2
       go_ret
       exact ⟨rlT, hbT HB.out⟩

/-! ### impl_CountEdits: function 27 -/
def impl_CountEdits.l0 : Nat → Int → List (S70) → Int → Int → Option (Int)
 | 0, _, _, _, _ => none
 | k + 1, x3, x7, x8, x9 => if x9 < x8 then (if 0 ≤ x9 then (if x9 < (x7.length : Int) then (if ((rd_T70 x7 x9).f0) = ((rd_T70 x7 x9).f1) then (impl_CountEdits.l0 k x3 x7 x8 (wrap64 (x9 + 1))) else (impl_CountEdits.l0 k (wrap64 (x3 + 1)) x7 x8 (wrap64 (x9 + 1)))) else (none)) else (none)) else (some x3)
def impl_CountEdits.f (k : Nat) (l0_0 : List (S70)) : Option (Int) := impl_CountEdits.l0 k 0 l0_0 (l0_0.length : Int) 0
theorem impl_CountEdits.mono_l : ∀ k, (∀ y0 y1 y2 y3, LeO (impl_CountEdits.l0 k y0 y1 y2 y3) (impl_CountEdits.l0 (k + 1) y0 y1 y2 y3))
 | 0 => fun _ _ _ _ r h => by simp [impl_CountEdits.l0] at h
 | k + 1 => by
  have ih0 := impl_CountEdits.mono_l k
  ·intro y0 y1 y2 y3
   unfold impl_CountEdits.l0
   with_reducible repeat' first | exact ih0 _ _ _ _ | exact LeO.refl _ | exact LeO.none _ | refine LeO.ite ?_ ?_ | refine LeO.bind ?_ (fun _ => ?_)
theorem impl_CountEdits.mono : ∀ a0 k, LeO (impl_CountEdits.f k a0) (impl_CountEdits.f (k + 1) a0) := by
 intro a0 k
 have ih0 := impl_CountEdits.mono_l k
 unfold impl_CountEdits.f
 with_reducible repeat' first | exact ih0 _ _ _ _ | exact LeO.refl _ | exact LeO.none _ | refine LeO.ite ?_ ?_ | refine LeO.bind ?_ (fun _ => ?_)
set_option maxHeartbeats 8000000 in
set_option maxRecDepth 100000 in
theorem impl_CountEdits.calls (k : Nat) (A0_0 : Option Addr) (c0_0 : Nat) (l0_0 : List (S70)) (r : Int) (w : World) (hr0_0 : Kd.C k70 w A0_0 l0_0.length l0_0) (hc0_0 : l0_0.length ≤ c0_0) (h : impl_CountEdits.f k l0_0 = some r) :
  Calls Tryz.prog 27 #[.agg #[.slice A0_0 l0_0.length c0_0]] w fun e w' => e = .returned (.int .i64 r) ∧ Below w.heap.size w w' := by
 have hu48 := Tryz.underlying48; have hu70 := Tryz.underlying70; have HR0_0 := Aside0.mk hr0_0; have HC0_0 := Aside0.mk hc0_0; clear hr0_0 hc0_0; have HB := asT (Below.refl w.heap.size w); have H := h; unfold impl_CountEdits.f at H; clear h; have H' := Aside0.mk H; clear H
 go_enter Tryz.func27, Tryz.ntmps27
 go_wp2_with (first | ((with_reducible refine gate_dst (N := 1) rfl ?_); refine boxT (N := 1) (cs := #[.slice A0_0 l0_0.length c0_0]) (t := 48) ?_; intro gb464 hg w2 hbox hb; have BK464 := asT hbox; have GW464 := asT (geT hg HB.out); have GE464 := GW464; replace HB := hS HB hb; clear hb hbox hg; obtain ⟨hcz3_0, hfz3_0⟩ := bx1 BK464.out))
 go_loopg [3, 9] k (fun kq v3 v9 w' => ∃ (x3_1 : Int) (x9_1 : Int), v3 = .int .i64 x3_1 ∧ v9 = .int .i64 x9_1 ∧ Aside0 (impl_CountEdits.l0 kq x3_1 l0_0 (l0_0.length : Int) x9_1 = some r) ∧ Aside0 (kq ≤ k) ∧ Aside0 (w'.heap[gb464]? = some (.cells #[(.slice A0_0 l0_0.length c0_0)] 48 (0, 0))) ∧ Aside0 (Below w.heap.size w w'))
 case atStart => exact ⟨(0), (0), rdT, rdT, H', ⟨Nat.le_refl _⟩, ⟨by (with_reducible repeat (first | refine blk_drewN ?_ _ | refine blk_drew ?_ | refine blk_alloc ?_ _)); exact BK464.out⟩, ⟨hbT HB.out⟩⟩
 case round =>
  clear H'; (try clear c2 p2 hcz3_0 hfz3_0); obtain ⟨x3_1, x9_1, rfl, rfl, HA, HK1, BK464, HB⟩ := hrel
  cases gk with
  | zero => exact absurd HA.out (by simp [impl_CountEdits.l0])
  | succ k1 =>
   have H := HA.out; clear HA
   simp only [impl_CountEdits.l0] at H
   by_cases c4 : x9_1 < (l0_0.length : Int)
   ·rw [if_pos c4] at H
    have c4b0 : decide (x9_1 < (l0_0.length : Int)) = true := decide_eq_true c4
    clear c4
    by_cases c5 : 0 ≤ x9_1
    ·rw [if_pos c5] at H
     have c5b0 : decide (0 ≤ x9_1) = true := decide_eq_true c5
     clear c5
     by_cases c6 : x9_1 < (l0_0.length : Int)
     ·rw [if_pos c6] at H
      have c6b0 : decide (x9_1 < (l0_0.length : Int)) = true := decide_eq_true c6
      clear c6
      by_cases c7 : ((rd_T70 l0_0 x9_1).f0) = ((rd_T70 l0_0 x9_1).f1)
      ·rw [if_pos c7] at H
       have c7b0 : (((rd_T70 l0_0 x9_1).f0) == ((rd_T70 l0_0 x9_1).f1)) = true := beq_iff_eq.mpr c7
       have c7b1 : (((rd_T70 l0_0 x9_1).f0) != ((rd_T70 l0_0 x9_1).f1)) = false := bne_eq_false_iff_eq.mpr c7
       clear c7; have H' := Aside0.mk H; clear H
       have p465 : 0 ≤ (x9_1 : Int) := of_decide_eq_true asmT
       have q465 : x9_1 < (l0_0.length : Int) := of_decide_eq_true asmT
       obtain ⟨ad465, e465, hx465_0, hx465_1⟩ := at_T70 HR0_0.out x9_1 p465 q465
       cases e465
       replace hx465_0 := hbc HB.out hx465_0; replace hx465_1 := hbc HB.out hx465_1; replace p465 := eq_true p465; replace q465 := eq_true q465
       go_wp2_with (first | ((with_reducible refine gate_dst (N := 5) rfl ?_); refine boxT (N := 5) (cs := #[.int .u8 0, .int .u8 0]) (t := 70) ?_; intro gb466 hg w8 hbox hb; have BK466 := asT (hbox); have GW466 := asT (geT hg HB.out); have GE466 := asT (geT hg HB.out); replace HB := hS HB hb; have NB464_466 := asT ((by rw [hg]; exact Nat.ne_of_lt (blk_lt (g := gb464) (o := .cells #[.slice (some ad465) l0_0.length c0_0] 48 (0, 0)) (bkT BK464.out)) : gb464 ≠ gb466)); have NB466_464 := asT ((by rw [hg]; exact Nat.ne_of_gt (blk_lt (g := gb464) (o := .cells #[.slice (some ad465) l0_0.length c0_0] 48 (0, 0)) (bkT BK464.out)) : gb466 ≠ gb464)); replace BK464 := bS BK464 hb; clear hb hbox hg; have hnb9 := NB466_464.out; have hnc9 := NB464_466.out; obtain ⟨hcz10_0, hcz10_1, hfz10_0, hfz10_1⟩ := bx2 BK466.out))
       go_roundg k1
       case measure => have := HK1.out; omega
       case rel => exact ⟨(x3_1), (wrap64 (x9_1 + 1)), rdT, rdT, H', ⟨by have := HK1.out; omega⟩, ⟨by (with_reducible repeat (first | refine blk_drewN ?_ _ | refine blk_drew ?_ | refine blk_alloc ?_ _)); refine blk_far ?_ NB464_466.out _; (with_reducible repeat (first | refine blk_drewN ?_ _ | refine blk_drew ?_ | refine blk_alloc ?_ _)); refine blk_far ?_ NB464_466.out _; (with_reducible repeat (first | refine blk_drewN ?_ _ | refine blk_drew ?_ | refine blk_alloc ?_ _)); exact BK464.out⟩, ⟨hbT HB.out⟩⟩
      ·rw [if_neg c7] at H
       have c7b0 : (((rd_T70 l0_0 x9_1).f0) == ((rd_T70 l0_0 x9_1).f1)) = false := beq_eq_false_iff_ne.mpr c7
       have c7b1 : (((rd_T70 l0_0 x9_1).f0) != ((rd_T70 l0_0 x9_1).f1)) = true := bne_iff_ne.mpr c7
       have H' := Aside0.mk H; clear H
       have p465 : 0 ≤ (x9_1 : Int) := of_decide_eq_true asmT
       have q465 : x9_1 < (l0_0.length : Int) := of_decide_eq_true asmT
       obtain ⟨ad465, e465, hx465_0, hx465_1⟩ := at_T70 HR0_0.out x9_1 p465 q465
       cases e465
       replace hx465_0 := hbc HB.out hx465_0; replace hx465_1 := hbc HB.out hx465_1; replace p465 := eq_true p465; replace q465 := eq_true q465
       go_wp2_with (first | ((with_reducible refine gate_dst (N := 5) rfl ?_); refine boxT (N := 5) (cs := #[.int .u8 0, .int .u8 0]) (t := 70) ?_; intro gb466 hg w11 hbox hb; have BK466 := asT (hbox); have GW466 := asT (geT hg HB.out); have GE466 := asT (geT hg HB.out); replace HB := hS HB hb; have NB464_466 := asT ((by rw [hg]; exact Nat.ne_of_lt (blk_lt (g := gb464) (o := .cells #[.slice (some ad465) l0_0.length c0_0] 48 (0, 0)) (bkT BK464.out)) : gb464 ≠ gb466)); have NB466_464 := asT ((by rw [hg]; exact Nat.ne_of_gt (blk_lt (g := gb464) (o := .cells #[.slice (some ad465) l0_0.length c0_0] 48 (0, 0)) (bkT BK464.out)) : gb466 ≠ gb464)); replace BK464 := bS BK464 hb; clear hb hbox hg; have hnb12 := NB466_464.out; have hnc12 := NB464_466.out; obtain ⟨hcz13_0, hcz13_1, hfz13_0, hfz13_1⟩ := bx2 BK466.out))
       go_roundg k1
       case measure => have := HK1.out; omega
       case rel => exact ⟨(wrap64 (x3_1 + 1)), (wrap64 (x9_1 + 1)), rdT, rdT, H', ⟨by have := HK1.out; omega⟩, ⟨by (with_reducible repeat (first | refine blk_drewN ?_ _ | refine blk_drew ?_ | refine blk_alloc ?_ _)); refine blk_far ?_ NB464_466.out _; (with_reducible repeat (first | refine blk_drewN ?_ _ | refine blk_drew ?_ | refine blk_alloc ?_ _)); refine blk_far ?_ NB464_466.out _; (with_reducible repeat (first | refine blk_drewN ?_ _ | refine blk_drew ?_ | refine blk_alloc ?_ _)); exact BK464.out⟩, ⟨hbT HB.out⟩⟩
     ·rw [if_neg c6] at H
      exact absurd H (by simp)
    ·rw [if_neg c5] at H
     exact absurd H (by simp)
   ·rw [if_neg c4] at H
    have c4b0 : decide (x9_1 < (l0_0.length : Int)) = false := decide_eq_false c4
    clear c4
    obtain rfl := Option.some.inj H
    go_wp2
    go_ret
    exact ⟨rlT, hbT HB.out⟩

/-! ### impl_RowWith: function 8 -/
def impl_RowWith.l0 : Nat → ByteArray → Int → List (S48) → Int → Int → ByteArray → List ByteArray → List (S48) → List (List Int) → Option (Int)
 | 0, _, _, _, _, _, _, _, _, _ => none
 | k + 1, x1, x5, x12, x13, x14, x468000, x468001, x468002, x468003 => if x14 < x13 then (if 0 ≤ x14 then (if x14 < (x12.length : Int) then ((impl_OutputOf.f k ((rd_T48 x12 x14).f0)).bind fun t471 => (if t471.toList = x1.toList then (if x5 < 0 then (impl_RowWith.l0 k x1 x14 x12 x13 (wrap64 (x14 + 1)) x468000 x468001 x468002 x468003) else ((impl_CountEdits.f k ((rd_T48 x12 x14).f0)).bind fun t472 => (if 0 ≤ x5 then (if x5 < (x468002.length : Int) then ((impl_CountEdits.f k ((rd_T48 x468002 x5).f0)).bind fun t474 => (if t472 < t474 then (impl_RowWith.l0 k x1 x14 x12 x13 (wrap64 (x14 + 1)) x468000 x468001 x468002 x468003) else (impl_RowWith.l0 k x1 x5 x12 x13 (wrap64 (x14 + 1)) x468000 x468001 x468002 x468003))) else (none)) else (none)))) else (impl_RowWith.l0 k x1 x5 x12 x13 (wrap64 (x14 + 1)) x468000 x468001 x468002 x468003))) else (none)) else (none)) else (some x5)
def impl_RowWith.f (k : Nat) (a0_0 : ByteArray) (l0_1 : List ByteArray) (l0_2 : List (S48)) (l0_3 : List (List Int)) (a1 : ByteArray) : Option (Int) := (impl_IsTableau.f k a0_0 l0_1 l0_2 l0_3).bind fun t468 => (if t468 = true then (impl_RowWith.l0 k a1 (-1) l0_2 (l0_2.length : Int) 0 a0_0 l0_1 l0_2 l0_3) else (some (-1)))
theorem impl_RowWith.mono_l : ∀ k, (∀ y0 y1 y2 y3 y4 y5 y6 y7 y8, LeO (impl_RowWith.l0 k y0 y1 y2 y3 y4 y5 y6 y7 y8) (impl_RowWith.l0 (k + 1) y0 y1 y2 y3 y4 y5 y6 y7 y8))
 | 0 => fun _ _ _ _ _ _ _ _ _ r h => by simp [impl_RowWith.l0] at h
 | k + 1 => by
  have ih0 := impl_RowWith.mono_l k
  ·intro y0 y1 y2 y3 y4 y5 y6 y7 y8
   unfold impl_RowWith.l0
   with_reducible repeat' first | exact ih0 _ _ _ _ _ _ _ _ _ | exact impl_CountEdits.mono _ _ | exact impl_IsTableau.mono _ _ _ _ _ | exact impl_OutputOf.mono _ _ | exact LeO.refl _ | exact LeO.none _ | refine LeO.ite ?_ ?_ | refine LeO.bind ?_ (fun _ => ?_)
theorem impl_RowWith.mono : ∀ a0 a1 a2 a3 a4 k, LeO (impl_RowWith.f k a0 a1 a2 a3 a4) (impl_RowWith.f (k + 1) a0 a1 a2 a3 a4) := by
 intro a0 a1 a2 a3 a4 k
 have ih0 := impl_RowWith.mono_l k
 unfold impl_RowWith.f
 with_reducible repeat' first | exact ih0 _ _ _ _ _ _ _ _ _ | exact impl_CountEdits.mono _ _ | exact impl_IsTableau.mono _ _ _ _ _ | exact impl_OutputOf.mono _ _ | exact LeO.refl _ | exact LeO.none _ | refine LeO.ite ?_ ?_ | refine LeO.bind ?_ (fun _ => ?_)
def impl_RowWith.T7 : Bool × List (List Nat × List Nat) := (true, [([], []), ([0], [0]), ([], []), ([1, 2], [1, 2]), ([3, 1], [3]), ([4], [4]), ([5, 4], [4, 5]), ([6, 4, 4], [4, 6]), ([7], [7]), ([8, 7, 7], [7, 8]), ([7], [7]), ([10, 7], [7, 10]), ([7], [7]), ([11, 12, 7], [7, 11, 12]), ([13, 7], [7, 13]), ([14, 9, 7], [7, 14]), ([9, 15, 7], [7, 9, 15]), ([7, 16, 4], [4, 7, 16]), ([4, 17], [4, 17])])
def impl_RowWith.B7 : List Nat := [0, 1, 0, 7, 15, 31, 63, 127, 255, 511, 255, 1279, 255, 7423, 15615, 32767, 65535, 131071, 262143]
theorem impl_RowWith.tab7 : rtab .any (opsOf Tryz.f8 7) = impl_RowWith.T7 := by kernel_rfl
theorem impl_RowWith.bits7 : waitsOk impl_RowWith.T7.2 impl_RowWith.B7 = true := by kernel_rfl
set_option maxHeartbeats 8000000 in
set_option maxRecDepth 100000 in
theorem impl_RowWith.calls (k : Nat) (a0_0 : ByteArray) (A0_1 : Option Addr) (c0_1 : Nat) (l0_1 : List ByteArray) (A0_2 : Option Addr) (c0_2 : Nat) (l0_2 : List (S48)) (A0_3 : Option Addr) (c0_3 : Nat) (l0_3 : List (List Int)) (a1 : ByteArray) (r : Int) (w : World) (hr0_1 : Kd.C Kd.string w A0_1 l0_1.length l0_1) (hc0_1 : l0_1.length ≤ c0_1) (hr0_2 : Kd.C k48 w A0_2 l0_2.length l0_2) (hc0_2 : l0_2.length ≤ c0_2) (hr0_3 : Kd.C (Kd.slice 3 (Kd.int .i64)) w A0_3 l0_3.length l0_3) (hc0_3 : l0_3.length ≤ c0_3) (h : impl_RowWith.f k a0_0 l0_1 l0_2 l0_3 a1 = some r) :
  Calls Tryz.prog 8 #[.agg #[.string a0_0, .slice A0_1 l0_1.length c0_1, .slice A0_2 l0_2.length c0_2, .slice A0_3 l0_3.length c0_3], .string a1] w fun e w' => e = .returned (.int .i64 r) ∧ Below w.heap.size w w' := by
 have hu31 := Tryz.underlying31; have hu48 := Tryz.underlying48; have HR0_1 := Aside0.mk hr0_1; have HC0_1 := Aside0.mk hc0_1; clear hr0_1 hc0_1; have HR0_2 := Aside0.mk hr0_2; have HC0_2 := Aside0.mk hc0_2; clear hr0_2 hc0_2; have HR0_3 := Aside0.mk hr0_3; have HC0_3 := Aside0.mk hc0_3; clear hr0_3 hc0_3; have HB := asT (Below.refl w.heap.size w); have H := h; unfold impl_RowWith.f at H; clear h; obtain ⟨t468, A3, H⟩ := be H
 by_cases c4 : t468 = true
 ·subst c4
  rw [if_pos rfl] at H; have H' := Aside0.mk H; clear H
  go_enter Tryz.func8, Tryz.ntmps8
  go_wp2_with (first | ((with_reducible refine gate_dst (N := 2) rfl ?_); refine boxT (N := 2) (cs := #[.string a0_0, .slice A0_1 l0_1.length c0_1, .slice A0_2 l0_2.length c0_2, .slice A0_3 l0_3.length c0_3]) (t := 31) ?_; intro gb467 hg w5 hbox hb; have BK467 := asT hbox; have GW467 := asT (geT hg HB.out); have GE467 := GW467; replace HB := hS HB hb; clear hb hbox hg; obtain ⟨hcz6_0, hcz6_1, hcz6_2, hcz6_3, hfz6_0, hfz6_1, hfz6_2, hfz6_3⟩ := bx4 BK467.out) | ((with_reducible refine gate_callee (f := 25) rfl ?_); refine goesL_ (some 9) rfl rfl Tryz.func25 (by kernel_rfl) rfl #[.agg #[.string a0_0, .slice A0_1 l0_1.length c0_1, .slice A0_2 l0_2.length c0_2, .slice A0_3 l0_3.length c0_3]] rfl eqT ?_; (with_reducible refine (impl_IsTableau.calls k a0_0 _ _ l0_1 _ _ l0_2 _ _ l0_3 true _ ?side1 ?side2 ?side3 ?side4 ?side5 ?side6 A3.out).mono ?_); (case side1 => exact crT HR0_1.out HB.out); (case side2 => exact HC0_1.out); (case side3 => exact crT HR0_2.out HB.out); (case side4 => exact HC0_2.out); (case side5 => exact crT HR0_3.out HB.out); (case side6 => exact HC0_3.out); rintro e w7 ⟨rfl, hb⟩; refine ⟨_, rfl, ?_⟩; replace BK467 := bS BK467 hb; replace HB := hS HB hb; (try clear hb hb2 hk hi); obtain ⟨hcz8_0, hcz8_1, hcz8_2, hcz8_3, hfz8_0, hfz8_1, hfz8_2, hfz8_3⟩ := bx4 BK467.out))
  go_loopg [5, 14] k (fun kq v5 v14 w' => ∃ (x5_1 : Int) (x14_1 : Int), v5 = .int .i64 x5_1 ∧ v14 = .int .i64 x14_1 ∧ Aside0 (impl_RowWith.l0 kq a1 x5_1 l0_2 (l0_2.length : Int) x14_1 a0_0 l0_1 l0_2 l0_3 = some r) ∧ Aside0 (kq ≤ k) ∧ Aside0 (w'.heap[gb467]? = some (.cells #[.string a0_0, (.slice A0_1 l0_1.length c0_1), (.slice A0_2 l0_2.length c0_2), (.slice A0_3 l0_3.length c0_3)] 31 (0, 0))) ∧ Aside0 (Below w.heap.size w w'))
  case atStart => exact ⟨((-1)), (0), rdT, rdT, H', ⟨Nat.le_refl _⟩, ⟨by (with_reducible repeat (first | refine blk_drewN ?_ _ | refine blk_drew ?_ | refine blk_alloc ?_ _)); exact BK467.out⟩, ⟨hbT HB.out⟩⟩
  case round =>
   clear H'; (try clear c2 p2 c4 c8 hcz6_0 hcz6_1 hcz6_2 hcz6_3 hcz8_0 hcz8_1 hcz8_2 hcz8_3 hfz6_0 hfz6_1 hfz6_2 hfz6_3 hfz8_0 hfz8_1 hfz8_2 hfz8_3); obtain ⟨x5_1, x14_1, rfl, rfl, HA, HK1, BK467, HB⟩ := hrel
   cases gk with
   | zero => exact absurd HA.out (by simp [impl_RowWith.l0])
   | succ k1 =>
    have H := HA.out; clear HA
    simp only [impl_RowWith.l0] at H
    by_cases c9 : x14_1 < (l0_2.length : Int)
    ·rw [if_pos c9] at H
     have c9b0 : decide (x14_1 < (l0_2.length : Int)) = true := decide_eq_true c9
     clear c9
     by_cases c10 : 0 ≤ x14_1
     ·rw [if_pos c10] at H
      have c10b0 : decide (0 ≤ x14_1) = true := decide_eq_true c10
      clear c10
      by_cases c11 : x14_1 < (l0_2.length : Int)
      ·rw [if_pos c11] at H
       have c11b0 : decide (x14_1 < (l0_2.length : Int)) = true := decide_eq_true c11
       clear c11; obtain ⟨t471, A12, H⟩ := be H
       by_cases c13 : t471.toList = a1.toList
       ·rw [if_pos c13] at H
        have c13b0 : (t471.toList == a1.toList) = true := beq_iff_eq.mpr c13
        have c13b1 : (t471.toList != a1.toList) = false := bne_eq_false_iff_eq.mpr c13
        clear c13
        by_cases c14 : x5_1 < 0
        ·rw [if_pos c14] at H
         have c14b0 : decide (x5_1 < 0) = true := decide_eq_true c14
         clear c14; have H' := Aside0.mk H; clear H
         have p469 : 0 ≤ (x14_1 : Int) := of_decide_eq_true asmT
         have q469 : x14_1 < (l0_2.length : Int) := of_decide_eq_true asmT
         obtain ⟨ad469, A469_0, c469_0, e469, hx469_0, hl469_0, hi469_0⟩ := at_T48 HR0_2.out x14_1 p469 q469
         cases e469
         replace hx469_0 := hbc HB.out hx469_0; have HR469_0 := Aside0.mk hi469_0; have HC469_0 := Aside0.mk hl469_0; clear hi469_0 hl469_0; replace p469 := eq_true p469; replace q469 := eq_true q469
         try go_wp2_with (first | ((with_reducible refine gate_dst (N := 7) rfl ?_); refine boxT (N := 7) (cs := #[.slice none 0 0]) (t := 48) ?_; intro gb470 hg w15 hbox hb; have BK470 := asT (hbox); have GW470 := asT (geT hg HB.out); have GE470 := asT (geT hg HB.out); replace HB := hS HB hb; have NB467_470 := asT ((by rw [hg]; exact Nat.ne_of_lt (blk_lt (g := gb467) (o := .cells #[.string a0_0, .slice A0_1 l0_1.length c0_1, .slice (some ad469) l0_2.length c0_2, .slice A0_3 l0_3.length c0_3] 31 (0, 0)) (bkT BK467.out)) : gb467 ≠ gb470)); have NB470_467 := asT ((by rw [hg]; exact Nat.ne_of_gt (blk_lt (g := gb467) (o := .cells #[.string a0_0, .slice A0_1 l0_1.length c0_1, .slice (some ad469) l0_2.length c0_2, .slice A0_3 l0_3.length c0_3] 31 (0, 0)) (bkT BK467.out)) : gb470 ≠ gb467)); replace BK467 := bS BK467 hb; clear hb hbox hg; have hnb16 := NB470_467.out; have hnc16 := NB467_470.out; obtain ⟨hcz17_0, hfz17_0⟩ := bx1 BK470.out))
         have n0_ : Aside0 ((w15.setCell ⟨gb470, 0, none⟩ (.slice A469_0 ((rd_T48 l0_2 x14_1).f0).length c469_0)).heap[gb467]? = some (.cells #[.string a0_0, .slice A0_1 l0_1.length c0_1, .slice (some ad469) l0_2.length c0_2, .slice A0_3 l0_3.length c0_3] 31 (0, 0))) := ⟨by (with_reducible repeat (first | refine blk_drewN ?_ _ | refine blk_drew ?_ | refine blk_alloc ?_ _)); refine blk_far ?_ NB467_470.out _; (with_reducible repeat (first | refine blk_drewN ?_ _ | refine blk_drew ?_ | refine blk_alloc ?_ _)); exact BK467.out⟩
         have n1_ : Aside0 ((w15.setCell ⟨gb470, 0, none⟩ (.slice A469_0 ((rd_T48 l0_2 x14_1).f0).length c469_0)).heap[gb470]? = some (.cells #[.slice A469_0 ((rd_T48 l0_2 x14_1).f0).length c469_0] 48 (0, 0))) := ⟨by (with_reducible repeat (first | refine blk_drewN ?_ _ | refine blk_drew ?_ | refine blk_alloc ?_ _)); refine blk_put (cs := #[.slice none 0 0]) ?_ 0 _ rfl; (with_reducible repeat (first | refine blk_drewN ?_ _ | refine blk_drew ?_ | refine blk_alloc ?_ _)); exact BK470.out⟩
         have n2_ : Aside0 (Below w.heap.size w (w15.setCell ⟨gb470, 0, none⟩ (.slice A469_0 ((rd_T48 l0_2 x14_1).f0).length c469_0))) := ⟨hbT HB.out⟩
         (try clear BK467); (try clear BK470 HB)
         generalize (w15.setCell ⟨gb470, 0, none⟩ (.slice A469_0 ((rd_T48 l0_2 x14_1).f0).length c469_0)) = w18 at n0_ n1_ n2_ ⊢
         have BK467 := n0_; have BK470 := n1_; have HB := n2_; clear n0_ n1_ n2_; replace BK467 := asT (blk_drew BK467.out); replace BK470 := asT (blk_drew BK470.out); replace HB := asT (below_drew1 HB.out)
         refine start_ (n := 19) (S := fun w' => w'.cell? ⟨gb470, 0, none⟩ = some (.slice A469_0 ((rd_T48 l0_2 x14_1).f0).length c469_0)) (ds := []) (bA 19 0) (by kernel_rfl) rfl rfl ((blk_cell BK470.out 0).trans rfl) (fun hHeld => ?_); refine with_tabW impl_RowWith.tab7 impl_RowWith.bits7 (fun HT_ HW_ => ?_)
         generalize w18.drew = w19 at BK467 BK470 HB hHeld ⊢
         refine pA 2 21 19 4 HT_.out ?_ rfl rfl; refine tA 0 19 19 5 HT_.out HW_.out hHeld ?_ rfl rfl
         refine oA 1 20 19 7 HT_.out (fun K hK => ?_) rfl rfl
         refine goes_ Tryz.func26 (by kernel_rfl) rfl #[.agg #[.slice A469_0 ((rd_T48 l0_2 x14_1).f0).length c469_0]] (by rfl) rfl rfl eqT ?_
         (with_reducible refine (impl_OutputOf.calls k1 _ _ ((rd_T48 l0_2 x14_1).f0) t471 _ ?side1 ?side2 A12.out).mono ?_); (case side1 => exact crT HR469_0.out HB.out); (case side2 => exact HC469_0.out); rintro e w20 ⟨rfl, hb⟩; refine ⟨_, rfl, ?_⟩; replace BK467 := bS BK467 hb; replace BK470 := bS BK470 hb; replace HB := hS HB hb; (try clear hb hb2 hk hi)
         refine hK.out _ _ ((blk_cell BK470.out 0).trans rfl) (fun hHeld => ?_)
         clear hK K
         refine nB 20 ?_ rfl; refine pA 3 22 19 15 HT_.out ?_ rfl rfl; refine pA 4 23 19 31 HT_.out ?_ rfl rfl; refine pA 5 24 19 63 HT_.out ?_ rfl rfl; refine pA 6 25 19 127 HT_.out ?_ rfl rfl; refine pA 7 26 19 255 HT_.out ?_ rfl rfl; refine uA 8 27 19 511 HT_.out ?_ rfl rfl; refine uA 9 28 19 1023 HT_.out ?_ rfl rfl; refine uA 10 29 19 2047 HT_.out ?_ rfl rfl; refine uA 11 30 19 4095 HT_.out ?_ rfl rfl; refine uA 12 31 19 8191 HT_.out ?_ rfl rfl; refine uA 13 32 19 16383 HT_.out ?_ rfl rfl; refine uA 14 33 19 32767 HT_.out ?_ rfl rfl; refine uA 15 34 19 65535 HT_.out ?_ rfl rfl; refine uA 16 35 19 131071 HT_.out ?_ rfl rfl; refine pA 17 36 19 262143 HT_.out ?_ rfl rfl; refine pA 18 37 19 524287 HT_.out ?_ rfl rfl
         refine done_ (done_of HT_.out (by kernel_rfl)) ?_
         try go_wp2
         go_roundg k1
         case measure => have := HK1.out; omega
         case rel => exact ⟨(x14_1), (wrap64 (x14_1 + 1)), rdT, rdT, H', ⟨by have := HK1.out; omega⟩, ⟨by (with_reducible repeat (first | refine blk_drewN ?_ _ | refine blk_drew ?_ | refine blk_alloc ?_ _)); exact BK467.out⟩, ⟨hbT HB.out⟩⟩
        ·rw [if_neg c14] at H
         have c14b0 : decide (x5_1 < 0) = false := decide_eq_false c14
         clear c14; obtain ⟨t472, A21, H⟩ := be H
         by_cases c22 : 0 ≤ x5_1
         ·rw [if_pos c22] at H
          have c22b0 : decide (0 ≤ x5_1) = true := decide_eq_true c22
          clear c22
          by_cases c23 : x5_1 < (l0_2.length : Int)
          ·rw [if_pos c23] at H
           have c23b0 : decide (x5_1 < (l0_2.length : Int)) = true := decide_eq_true c23
           clear c23; obtain ⟨t474, A24, H⟩ := be H
           by_cases c25 : t472 < t474
           ·rw [if_pos c25] at H
            have c25b0 : decide (t472 < t474) = true := decide_eq_true c25
            clear c25; have H' := Aside0.mk H; clear H
            have p469 : 0 ≤ (x14_1 : Int) := of_decide_eq_true asmT
            have q469 : x14_1 < (l0_2.length : Int) := of_decide_eq_true asmT
            obtain ⟨ad469, A469_0, c469_0, e469, hx469_0, hl469_0, hi469_0⟩ := at_T48 HR0_2.out x14_1 p469 q469
            cases e469
            replace hx469_0 := hbc HB.out hx469_0; have HR469_0 := Aside0.mk hi469_0; have HC469_0 := Aside0.mk hl469_0; clear hi469_0 hl469_0; replace p469 := eq_true p469; replace q469 := eq_true q469
            try go_wp2_with (first | ((with_reducible refine gate_dst (N := 7) rfl ?_); refine boxT (N := 7) (cs := #[.slice none 0 0]) (t := 48) ?_; intro gb470 hg w26 hbox hb; have BK470 := asT (hbox); have GW470 := asT (geT hg HB.out); have GE470 := asT (geT hg HB.out); replace HB := hS HB hb; have NB467_470 := asT ((by rw [hg]; exact Nat.ne_of_lt (blk_lt (g := gb467) (o := .cells #[.string a0_0, .slice A0_1 l0_1.length c0_1, .slice (some ad469) l0_2.length c0_2, .slice A0_3 l0_3.length c0_3] 31 (0, 0)) (bkT BK467.out)) : gb467 ≠ gb470)); have NB470_467 := asT ((by rw [hg]; exact Nat.ne_of_gt (blk_lt (g := gb467) (o := .cells #[.string a0_0, .slice A0_1 l0_1.length c0_1, .slice (some ad469) l0_2.length c0_2, .slice A0_3 l0_3.length c0_3] 31 (0, 0)) (bkT BK467.out)) : gb470 ≠ gb467)); replace BK467 := bS BK467 hb; clear hb hbox hg; have hnb27 := NB470_467.out; have hnc27 := NB467_470.out; obtain ⟨hcz28_0, hfz28_0⟩ := bx1 BK470.out))
            have n0_ : Aside0 ((w26.setCell ⟨gb470, 0, none⟩ (.slice A469_0 ((rd_T48 l0_2 x14_1).f0).length c469_0)).heap[gb467]? = some (.cells #[.string a0_0, .slice A0_1 l0_1.length c0_1, .slice (some ad469) l0_2.length c0_2, .slice A0_3 l0_3.length c0_3] 31 (0, 0))) := ⟨by (with_reducible repeat (first | refine blk_drewN ?_ _ | refine blk_drew ?_ | refine blk_alloc ?_ _)); refine blk_far ?_ NB467_470.out _; (with_reducible repeat (first | refine blk_drewN ?_ _ | refine blk_drew ?_ | refine blk_alloc ?_ _)); exact BK467.out⟩
            have n1_ : Aside0 ((w26.setCell ⟨gb470, 0, none⟩ (.slice A469_0 ((rd_T48 l0_2 x14_1).f0).length c469_0)).heap[gb470]? = some (.cells #[.slice A469_0 ((rd_T48 l0_2 x14_1).f0).length c469_0] 48 (0, 0))) := ⟨by (with_reducible repeat (first | refine blk_drewN ?_ _ | refine blk_drew ?_ | refine blk_alloc ?_ _)); refine blk_put (cs := #[.slice none 0 0]) ?_ 0 _ rfl; (with_reducible repeat (first | refine blk_drewN ?_ _ | refine blk_drew ?_ | refine blk_alloc ?_ _)); exact BK470.out⟩
            have n2_ : Aside0 (Below w.heap.size w (w26.setCell ⟨gb470, 0, none⟩ (.slice A469_0 ((rd_T48 l0_2 x14_1).f0).length c469_0))) := ⟨hbT HB.out⟩
            (try clear BK467); (try clear BK470 HB)
            generalize (w26.setCell ⟨gb470, 0, none⟩ (.slice A469_0 ((rd_T48 l0_2 x14_1).f0).length c469_0)) = w29 at n0_ n1_ n2_ ⊢
            have BK467 := n0_; have BK470 := n1_; have HB := n2_; clear n0_ n1_ n2_; replace BK467 := asT (blk_drew BK467.out); replace BK470 := asT (blk_drew BK470.out); replace HB := asT (below_drew1 HB.out)
            have p473 : 0 ≤ (x5_1 : Int) := of_decide_eq_true asmT
            have q473 : x5_1 < (l0_2.length : Int) := of_decide_eq_true asmT
            obtain ⟨ad473, A473_0, c473_0, e473, hx473_0, hl473_0, hi473_0⟩ := at_T48 HR0_2.out x5_1 p473 q473; have hw473_0 := hx473_0
            obtain rfl : ad469 = ad473 := (by injection e473)
            replace hx473_0 := hbc HB.out hx473_0; have HR473_0 := Aside0.mk hi473_0; have HC473_0 := Aside0.mk hl473_0; clear hi473_0 hl473_0; replace p473 := eq_true p473; replace q473 := eq_true q473
            refine start_ (n := 19) (S := fun w' => w'.cell? ⟨gb470, 0, none⟩ = some (.slice A469_0 ((rd_T48 l0_2 x14_1).f0).length c469_0) ∧ w'.cell? ⟨gb467, 0, none⟩ = some (.string a0_0) ∧ w'.cell? ⟨gb467, 1, none⟩ = some (.slice A0_1 l0_1.length c0_1) ∧ w'.cell? ⟨gb467, 2, none⟩ = some (.slice (some ad469) l0_2.length c0_2) ∧ w'.cell? ⟨gb467, 3, none⟩ = some (.slice A0_3 l0_3.length c0_3) ∧ w'.cell? (ad469.add (x5_1).toNat) = some (.slice A473_0 ((rd_T48 l0_2 x5_1).f0).length c473_0)) (ds := []) (bA 19 0) (by kernel_rfl) rfl rfl ⟨bc0 BK470.out, bc0 BK467.out, bc1 BK467.out, bc2 BK467.out, bc3 BK467.out, (hbc HB.out hw473_0 :)⟩ (fun hHeld => ?_); refine with_tabW impl_RowWith.tab7 impl_RowWith.bits7 (fun HT_ HW_ => ?_)
            generalize w29.drew = w30 at BK467 BK470 HB HR473_0 hx473_0 hHeld ⊢
            refine pA 2 21 19 4 HT_.out ?_ rfl rfl; refine tA 0 19 19 5 HT_.out HW_.out hHeld ?_ rfl rfl
            refine oA 1 20 19 7 HT_.out (fun K hK => ?_) rfl rfl
            refine goes_ Tryz.func26 (by kernel_rfl) rfl #[.agg #[.slice A469_0 ((rd_T48 l0_2 x14_1).f0).length c469_0]] (by rfl) rfl rfl eqT ?_
            (with_reducible refine (impl_OutputOf.calls k1 _ _ ((rd_T48 l0_2 x14_1).f0) t471 _ ?side1 ?side2 A12.out).mono ?_); (case side1 => exact crT HR469_0.out HB.out); (case side2 => exact HC469_0.out); rintro e w31 ⟨rfl, hb⟩; refine ⟨_, rfl, ?_⟩; replace BK467 := bS BK467 hb; replace BK470 := bS BK470 hb; replace HB := hS HB hb; (try clear hb hb2 hk hi)
            refine hK.out _ _ ⟨bc0 BK470.out, bc0 BK467.out, bc1 BK467.out, bc2 BK467.out, bc3 BK467.out, (hbc HB.out hw473_0 :)⟩ (fun hHeld => ?_)
            clear hK K
            refine nB 20 ?_ rfl; refine pA 3 22 19 15 HT_.out ?_ rfl rfl; refine pA 4 23 19 31 HT_.out ?_ rfl rfl; refine pA 5 24 19 63 HT_.out ?_ rfl rfl; refine pA 6 25 19 127 HT_.out ?_ rfl rfl; refine pA 7 26 19 255 HT_.out ?_ rfl rfl; refine pA 10 29 19 1279 HT_.out ?_ rfl rfl; refine pA 12 31 19 5375 HT_.out ?_ rfl rfl; refine tA 8 27 19 5631 HT_.out HW_.out hHeld ?_ rfl rfl; refine tA 11 30 19 7679 HT_.out HW_.out hHeld ?_ rfl rfl; refine pA 13 32 19 15871 HT_.out ?_ rfl rfl; refine tA 14 33 19 32255 HT_.out HW_.out hHeld ?_ rfl rfl
            refine oA 9 28 19 32767 HT_.out (fun K hK => ?_) rfl rfl
            refine goes_ Tryz.func27 (by kernel_rfl) rfl #[.agg #[.slice A469_0 ((rd_T48 l0_2 x14_1).f0).length c469_0]] (by rfl) rfl rfl eqT ?_
            (with_reducible refine (impl_CountEdits.calls k1 _ _ ((rd_T48 l0_2 x14_1).f0) t472 _ ?side1 ?side2 A21.out).mono ?_); (case side1 => exact crT HR469_0.out HB.out); (case side2 => exact HC469_0.out); rintro e w32 ⟨rfl, hb⟩; refine ⟨_, rfl, ?_⟩; replace BK467 := bS BK467 hb; replace BK470 := bS BK470 hb; replace HB := hS HB hb; (try clear hb hb2 hk hi)
            refine hK.out _ _ ⟨bc0 BK470.out, bc0 BK467.out, bc1 BK467.out, bc2 BK467.out, bc3 BK467.out, (hbc HB.out hw473_0 :)⟩ (fun hHeld => ?_)
            clear hK K
            refine nB 28 ?_ rfl
            refine oA 15 34 19 65535 HT_.out (fun K hK => ?_) rfl rfl
            refine goes_ Tryz.func27 (by kernel_rfl) rfl #[.agg #[.slice A473_0 ((rd_T48 l0_2 x5_1).f0).length c473_0]] (by rfl) rfl rfl eqT ?_
            (with_reducible refine (impl_CountEdits.calls k1 _ _ ((rd_T48 l0_2 x5_1).f0) t474 _ ?side1 ?side2 A24.out).mono ?_); (case side1 => exact crT HR473_0.out HB.out); (case side2 => exact HC473_0.out); rintro e w33 ⟨rfl, hb⟩; refine ⟨_, rfl, ?_⟩; replace BK467 := bS BK467 hb; replace BK470 := bS BK470 hb; replace HB := hS HB hb; (try clear hb hb2 hk hi)
            refine hK.out _ _ ⟨bc0 BK470.out, bc0 BK467.out, bc1 BK467.out, bc2 BK467.out, bc3 BK467.out, (hbc HB.out hw473_0 :)⟩ (fun hHeld => ?_)
            clear hK K
            refine nB 34 ?_ rfl; refine pA 16 35 19 131071 HT_.out ?_ rfl rfl; refine pA 17 36 19 262143 HT_.out ?_ rfl rfl; refine pA 18 37 19 524287 HT_.out ?_ rfl rfl
            refine done_ (done_of HT_.out (by kernel_rfl)) ?_
            try go_wp2
            go_roundg k1
            case measure => have := HK1.out; omega
            case rel => exact ⟨(x14_1), (wrap64 (x14_1 + 1)), rdT, rdT, H', ⟨by have := HK1.out; omega⟩, ⟨by (with_reducible repeat (first | refine blk_drewN ?_ _ | refine blk_drew ?_ | refine blk_alloc ?_ _)); exact BK467.out⟩, ⟨hbT HB.out⟩⟩
           ·rw [if_neg c25] at H
            have c25b0 : decide (t472 < t474) = false := decide_eq_false c25
            clear c25; have H' := Aside0.mk H; clear H
            have p469 : 0 ≤ (x14_1 : Int) := of_decide_eq_true asmT
            have q469 : x14_1 < (l0_2.length : Int) := of_decide_eq_true asmT
            obtain ⟨ad469, A469_0, c469_0, e469, hx469_0, hl469_0, hi469_0⟩ := at_T48 HR0_2.out x14_1 p469 q469
            cases e469
            replace hx469_0 := hbc HB.out hx469_0; have HR469_0 := Aside0.mk hi469_0; have HC469_0 := Aside0.mk hl469_0; clear hi469_0 hl469_0; replace p469 := eq_true p469; replace q469 := eq_true q469
            try go_wp2_with (first | ((with_reducible refine gate_dst (N := 7) rfl ?_); refine boxT (N := 7) (cs := #[.slice none 0 0]) (t := 48) ?_; intro gb470 hg w34 hbox hb; have BK470 := asT (hbox); have GW470 := asT (geT hg HB.out); have GE470 := asT (geT hg HB.out); replace HB := hS HB hb; have NB467_470 := asT ((by rw [hg]; exact Nat.ne_of_lt (blk_lt (g := gb467) (o := .cells #[.string a0_0, .slice A0_1 l0_1.length c0_1, .slice (some ad469) l0_2.length c0_2, .slice A0_3 l0_3.length c0_3] 31 (0, 0)) (bkT BK467.out)) : gb467 ≠ gb470)); have NB470_467 := asT ((by rw [hg]; exact Nat.ne_of_gt (blk_lt (g := gb467) (o := .cells #[.string a0_0, .slice A0_1 l0_1.length c0_1, .slice (some ad469) l0_2.length c0_2, .slice A0_3 l0_3.length c0_3] 31 (0, 0)) (bkT BK467.out)) : gb470 ≠ gb467)); replace BK467 := bS BK467 hb; clear hb hbox hg; have hnb35 := NB470_467.out; have hnc35 := NB467_470.out; obtain ⟨hcz36_0, hfz36_0⟩ := bx1 BK470.out))
            have n0_ : Aside0 ((w34.setCell ⟨gb470, 0, none⟩ (.slice A469_0 ((rd_T48 l0_2 x14_1).f0).length c469_0)).heap[gb467]? = some (.cells #[.string a0_0, .slice A0_1 l0_1.length c0_1, .slice (some ad469) l0_2.length c0_2, .slice A0_3 l0_3.length c0_3] 31 (0, 0))) := ⟨by (with_reducible repeat (first | refine blk_drewN ?_ _ | refine blk_drew ?_ | refine blk_alloc ?_ _)); refine blk_far ?_ NB467_470.out _; (with_reducible repeat (first | refine blk_drewN ?_ _ | refine blk_drew ?_ | refine blk_alloc ?_ _)); exact BK467.out⟩
            have n1_ : Aside0 ((w34.setCell ⟨gb470, 0, none⟩ (.slice A469_0 ((rd_T48 l0_2 x14_1).f0).length c469_0)).heap[gb470]? = some (.cells #[.slice A469_0 ((rd_T48 l0_2 x14_1).f0).length c469_0] 48 (0, 0))) := ⟨by (with_reducible repeat (first | refine blk_drewN ?_ _ | refine blk_drew ?_ | refine blk_alloc ?_ _)); refine blk_put (cs := #[.slice none 0 0]) ?_ 0 _ rfl; (with_reducible repeat (first | refine blk_drewN ?_ _ | refine blk_drew ?_ | refine blk_alloc ?_ _)); exact BK470.out⟩
            have n2_ : Aside0 (Below w.heap.size w (w34.setCell ⟨gb470, 0, none⟩ (.slice A469_0 ((rd_T48 l0_2 x14_1).f0).length c469_0))) := ⟨hbT HB.out⟩
            (try clear BK467); (try clear BK470 HB)
            generalize (w34.setCell ⟨gb470, 0, none⟩ (.slice A469_0 ((rd_T48 l0_2 x14_1).f0).length c469_0)) = w37 at n0_ n1_ n2_ ⊢
            have BK467 := n0_; have BK470 := n1_; have HB := n2_; clear n0_ n1_ n2_; replace BK467 := asT (blk_drew BK467.out); replace BK470 := asT (blk_drew BK470.out); replace HB := asT (below_drew1 HB.out)
            have p473 : 0 ≤ (x5_1 : Int) := of_decide_eq_true asmT
            have q473 : x5_1 < (l0_2.length : Int) := of_decide_eq_true asmT
            obtain ⟨ad473, A473_0, c473_0, e473, hx473_0, hl473_0, hi473_0⟩ := at_T48 HR0_2.out x5_1 p473 q473; have hw473_0 := hx473_0
            obtain rfl : ad469 = ad473 := (by injection e473)
            replace hx473_0 := hbc HB.out hx473_0; have HR473_0 := Aside0.mk hi473_0; have HC473_0 := Aside0.mk hl473_0; clear hi473_0 hl473_0; replace p473 := eq_true p473; replace q473 := eq_true q473
            refine start_ (n := 19) (S := fun w' => w'.cell? ⟨gb470, 0, none⟩ = some (.slice A469_0 ((rd_T48 l0_2 x14_1).f0).length c469_0) ∧ w'.cell? ⟨gb467, 0, none⟩ = some (.string a0_0) ∧ w'.cell? ⟨gb467, 1, none⟩ = some (.slice A0_1 l0_1.length c0_1) ∧ w'.cell? ⟨gb467, 2, none⟩ = some (.slice (some ad469) l0_2.length c0_2) ∧ w'.cell? ⟨gb467, 3, none⟩ = some (.slice A0_3 l0_3.length c0_3) ∧ w'.cell? (ad469.add (x5_1).toNat) = some (.slice A473_0 ((rd_T48 l0_2 x5_1).f0).length c473_0)) (ds := []) (bA 19 0) (by kernel_rfl) rfl rfl ⟨bc0 BK470.out, bc0 BK467.out, bc1 BK467.out, bc2 BK467.out, bc3 BK467.out, (hbc HB.out hw473_0 :)⟩ (fun hHeld => ?_); refine with_tabW impl_RowWith.tab7 impl_RowWith.bits7 (fun HT_ HW_ => ?_)
            generalize w37.drew = w38 at BK467 BK470 HB HR473_0 hx473_0 hHeld ⊢
            refine pA 2 21 19 4 HT_.out ?_ rfl rfl; refine tA 0 19 19 5 HT_.out HW_.out hHeld ?_ rfl rfl
            refine oA 1 20 19 7 HT_.out (fun K hK => ?_) rfl rfl
            refine goes_ Tryz.func26 (by kernel_rfl) rfl #[.agg #[.slice A469_0 ((rd_T48 l0_2 x14_1).f0).length c469_0]] (by rfl) rfl rfl eqT ?_
            (with_reducible refine (impl_OutputOf.calls k1 _ _ ((rd_T48 l0_2 x14_1).f0) t471 _ ?side1 ?side2 A12.out).mono ?_); (case side1 => exact crT HR469_0.out HB.out); (case side2 => exact HC469_0.out); rintro e w39 ⟨rfl, hb⟩; refine ⟨_, rfl, ?_⟩; replace BK467 := bS BK467 hb; replace BK470 := bS BK470 hb; replace HB := hS HB hb; (try clear hb hb2 hk hi)
            refine hK.out _ _ ⟨bc0 BK470.out, bc0 BK467.out, bc1 BK467.out, bc2 BK467.out, bc3 BK467.out, (hbc HB.out hw473_0 :)⟩ (fun hHeld => ?_)
            clear hK K
            refine nB 20 ?_ rfl; refine pA 3 22 19 15 HT_.out ?_ rfl rfl; refine pA 4 23 19 31 HT_.out ?_ rfl rfl; refine pA 5 24 19 63 HT_.out ?_ rfl rfl; refine pA 6 25 19 127 HT_.out ?_ rfl rfl; refine pA 7 26 19 255 HT_.out ?_ rfl rfl; refine pA 10 29 19 1279 HT_.out ?_ rfl rfl; refine pA 12 31 19 5375 HT_.out ?_ rfl rfl; refine tA 8 27 19 5631 HT_.out HW_.out hHeld ?_ rfl rfl; refine tA 11 30 19 7679 HT_.out HW_.out hHeld ?_ rfl rfl; refine pA 13 32 19 15871 HT_.out ?_ rfl rfl; refine tA 14 33 19 32255 HT_.out HW_.out hHeld ?_ rfl rfl
            refine oA 9 28 19 32767 HT_.out (fun K hK => ?_) rfl rfl
            refine goes_ Tryz.func27 (by kernel_rfl) rfl #[.agg #[.slice A469_0 ((rd_T48 l0_2 x14_1).f0).length c469_0]] (by rfl) rfl rfl eqT ?_
            (with_reducible refine (impl_CountEdits.calls k1 _ _ ((rd_T48 l0_2 x14_1).f0) t472 _ ?side1 ?side2 A21.out).mono ?_); (case side1 => exact crT HR469_0.out HB.out); (case side2 => exact HC469_0.out); rintro e w40 ⟨rfl, hb⟩; refine ⟨_, rfl, ?_⟩; replace BK467 := bS BK467 hb; replace BK470 := bS BK470 hb; replace HB := hS HB hb; (try clear hb hb2 hk hi)
            refine hK.out _ _ ⟨bc0 BK470.out, bc0 BK467.out, bc1 BK467.out, bc2 BK467.out, bc3 BK467.out, (hbc HB.out hw473_0 :)⟩ (fun hHeld => ?_)
            clear hK K
            refine nB 28 ?_ rfl
            refine oA 15 34 19 65535 HT_.out (fun K hK => ?_) rfl rfl
            refine goes_ Tryz.func27 (by kernel_rfl) rfl #[.agg #[.slice A473_0 ((rd_T48 l0_2 x5_1).f0).length c473_0]] (by rfl) rfl rfl eqT ?_
            (with_reducible refine (impl_CountEdits.calls k1 _ _ ((rd_T48 l0_2 x5_1).f0) t474 _ ?side1 ?side2 A24.out).mono ?_); (case side1 => exact crT HR473_0.out HB.out); (case side2 => exact HC473_0.out); rintro e w41 ⟨rfl, hb⟩; refine ⟨_, rfl, ?_⟩; replace BK467 := bS BK467 hb; replace BK470 := bS BK470 hb; replace HB := hS HB hb; (try clear hb hb2 hk hi)
            refine hK.out _ _ ⟨bc0 BK470.out, bc0 BK467.out, bc1 BK467.out, bc2 BK467.out, bc3 BK467.out, (hbc HB.out hw473_0 :)⟩ (fun hHeld => ?_)
            clear hK K
            refine nB 34 ?_ rfl; refine pA 16 35 19 131071 HT_.out ?_ rfl rfl; refine pA 17 36 19 262143 HT_.out ?_ rfl rfl; refine pA 18 37 19 524287 HT_.out ?_ rfl rfl
            refine done_ (done_of HT_.out (by kernel_rfl)) ?_
            try go_wp2
            go_roundg k1
            case measure => have := HK1.out; omega
            case rel => exact ⟨(x5_1), (wrap64 (x14_1 + 1)), rdT, rdT, H', ⟨by have := HK1.out; omega⟩, ⟨by (with_reducible repeat (first | refine blk_drewN ?_ _ | refine blk_drew ?_ | refine blk_alloc ?_ _)); exact BK467.out⟩, ⟨hbT HB.out⟩⟩
          ·rw [if_neg c23] at H
           exact absurd H (by simp)
         ·rw [if_neg c22] at H
          exact absurd H (by simp)
       ·rw [if_neg c13] at H
        have c13b0 : (t471.toList == a1.toList) = false := beq_eq_false_iff_ne.mpr c13
        have c13b1 : (t471.toList != a1.toList) = true := bne_iff_ne.mpr c13
        have H' := Aside0.mk H; clear H
        have p469 : 0 ≤ (x14_1 : Int) := of_decide_eq_true asmT
        have q469 : x14_1 < (l0_2.length : Int) := of_decide_eq_true asmT
        obtain ⟨ad469, A469_0, c469_0, e469, hx469_0, hl469_0, hi469_0⟩ := at_T48 HR0_2.out x14_1 p469 q469
        cases e469
        replace hx469_0 := hbc HB.out hx469_0; have HR469_0 := Aside0.mk hi469_0; have HC469_0 := Aside0.mk hl469_0; clear hi469_0 hl469_0; replace p469 := eq_true p469; replace q469 := eq_true q469
        try go_wp2_with (first | ((with_reducible refine gate_dst (N := 7) rfl ?_); refine boxT (N := 7) (cs := #[.slice none 0 0]) (t := 48) ?_; intro gb470 hg w42 hbox hb; have BK470 := asT (hbox); have GW470 := asT (geT hg HB.out); have GE470 := asT (geT hg HB.out); replace HB := hS HB hb; have NB467_470 := asT ((by rw [hg]; exact Nat.ne_of_lt (blk_lt (g := gb467) (o := .cells #[.string a0_0, .slice A0_1 l0_1.length c0_1, .slice (some ad469) l0_2.length c0_2, .slice A0_3 l0_3.length c0_3] 31 (0, 0)) (bkT BK467.out)) : gb467 ≠ gb470)); have NB470_467 := asT ((by rw [hg]; exact Nat.ne_of_gt (blk_lt (g := gb467) (o := .cells #[.string a0_0, .slice A0_1 l0_1.length c0_1, .slice (some ad469) l0_2.length c0_2, .slice A0_3 l0_3.length c0_3] 31 (0, 0)) (bkT BK467.out)) : gb470 ≠ gb467)); replace BK467 := bS BK467 hb; clear hb hbox hg; have hnb43 := NB470_467.out; have hnc43 := NB467_470.out; obtain ⟨hcz44_0, hfz44_0⟩ := bx1 BK470.out))
        have n0_ : Aside0 ((w42.setCell ⟨gb470, 0, none⟩ (.slice A469_0 ((rd_T48 l0_2 x14_1).f0).length c469_0)).heap[gb467]? = some (.cells #[.string a0_0, .slice A0_1 l0_1.length c0_1, .slice (some ad469) l0_2.length c0_2, .slice A0_3 l0_3.length c0_3] 31 (0, 0))) := ⟨by (with_reducible repeat (first | refine blk_drewN ?_ _ | refine blk_drew ?_ | refine blk_alloc ?_ _)); refine blk_far ?_ NB467_470.out _; (with_reducible repeat (first | refine blk_drewN ?_ _ | refine blk_drew ?_ | refine blk_alloc ?_ _)); exact BK467.out⟩
        have n1_ : Aside0 ((w42.setCell ⟨gb470, 0, none⟩ (.slice A469_0 ((rd_T48 l0_2 x14_1).f0).length c469_0)).heap[gb470]? = some (.cells #[.slice A469_0 ((rd_T48 l0_2 x14_1).f0).length c469_0] 48 (0, 0))) := ⟨by (with_reducible repeat (first | refine blk_drewN ?_ _ | refine blk_drew ?_ | refine blk_alloc ?_ _)); refine blk_put (cs := #[.slice none 0 0]) ?_ 0 _ rfl; (with_reducible repeat (first | refine blk_drewN ?_ _ | refine blk_drew ?_ | refine blk_alloc ?_ _)); exact BK470.out⟩
        have n2_ : Aside0 (Below w.heap.size w (w42.setCell ⟨gb470, 0, none⟩ (.slice A469_0 ((rd_T48 l0_2 x14_1).f0).length c469_0))) := ⟨hbT HB.out⟩
        (try clear BK467); (try clear BK470 HB)
        generalize (w42.setCell ⟨gb470, 0, none⟩ (.slice A469_0 ((rd_T48 l0_2 x14_1).f0).length c469_0)) = w45 at n0_ n1_ n2_ ⊢
        have BK467 := n0_; have BK470 := n1_; have HB := n2_; clear n0_ n1_ n2_; replace BK467 := asT (blk_drew BK467.out); replace BK470 := asT (blk_drew BK470.out); replace HB := asT (below_drew1 HB.out)
        refine start_ (n := 19) (S := fun w' => w'.cell? ⟨gb470, 0, none⟩ = some (.slice A469_0 ((rd_T48 l0_2 x14_1).f0).length c469_0)) (ds := []) (bA 19 0) (by kernel_rfl) rfl rfl ((blk_cell BK470.out 0).trans rfl) (fun hHeld => ?_); refine with_tabW impl_RowWith.tab7 impl_RowWith.bits7 (fun HT_ HW_ => ?_)
        generalize w45.drew = w46 at BK467 BK470 HB hHeld ⊢
        refine pA 2 21 19 4 HT_.out ?_ rfl rfl; refine tA 0 19 19 5 HT_.out HW_.out hHeld ?_ rfl rfl
        refine oA 1 20 19 7 HT_.out (fun K hK => ?_) rfl rfl
        refine goes_ Tryz.func26 (by kernel_rfl) rfl #[.agg #[.slice A469_0 ((rd_T48 l0_2 x14_1).f0).length c469_0]] (by rfl) rfl rfl eqT ?_
        (with_reducible refine (impl_OutputOf.calls k1 _ _ ((rd_T48 l0_2 x14_1).f0) t471 _ ?side1 ?side2 A12.out).mono ?_); (case side1 => exact crT HR469_0.out HB.out); (case side2 => exact HC469_0.out); rintro e w47 ⟨rfl, hb⟩; refine ⟨_, rfl, ?_⟩; replace BK467 := bS BK467 hb; replace BK470 := bS BK470 hb; replace HB := hS HB hb; (try clear hb hb2 hk hi)
        refine hK.out _ _ ((blk_cell BK470.out 0).trans rfl) (fun hHeld => ?_)
        clear hK K
        refine nB 20 ?_ rfl; refine pA 3 22 19 15 HT_.out ?_ rfl rfl; refine pA 4 23 19 31 HT_.out ?_ rfl rfl; refine uA 5 24 19 63 HT_.out ?_ rfl rfl; refine uA 6 25 19 127 HT_.out ?_ rfl rfl; refine uA 7 26 19 255 HT_.out ?_ rfl rfl; refine uA 8 27 19 511 HT_.out ?_ rfl rfl; refine uA 9 28 19 1023 HT_.out ?_ rfl rfl; refine uA 10 29 19 2047 HT_.out ?_ rfl rfl; refine uA 11 30 19 4095 HT_.out ?_ rfl rfl; refine uA 12 31 19 8191 HT_.out ?_ rfl rfl; refine uA 13 32 19 16383 HT_.out ?_ rfl rfl; refine uA 14 33 19 32767 HT_.out ?_ rfl rfl; refine uA 15 34 19 65535 HT_.out ?_ rfl rfl; refine uA 16 35 19 131071 HT_.out ?_ rfl rfl; refine uA 17 36 19 262143 HT_.out ?_ rfl rfl; refine pA 18 37 19 524287 HT_.out ?_ rfl rfl
        refine done_ (done_of HT_.out (by kernel_rfl)) ?_
        try go_wp2
        go_roundg k1
        case measure => have := HK1.out; omega
        case rel => exact ⟨(x5_1), (wrap64 (x14_1 + 1)), rdT, rdT, H', ⟨by have := HK1.out; omega⟩, ⟨by (with_reducible repeat (first | refine blk_drewN ?_ _ | refine blk_drew ?_ | refine blk_alloc ?_ _)); exact BK467.out⟩, ⟨hbT HB.out⟩⟩
      ·rw [if_neg c11] at H
       exact absurd H (by simp)
     ·rw [if_neg c10] at H
      exact absurd H (by simp)
    ·rw [if_neg c9] at H
     have c9b0 : decide (x14_1 < (l0_2.length : Int)) = false := decide_eq_false c9
     clear c9
     obtain rfl := Option.some.inj H
     go_wp2
     go_ret
     exact ⟨rlT, hbT HB.out⟩
 ·replace c4 := Bool.eq_false_iff.mpr c4
  subst c4; rw [if_neg nF] at H; have H1 := H; clear H; have H := H1; clear H1
  obtain rfl := Option.some.inj H
  go_enter Tryz.func8, Tryz.ntmps8
  go_wp2_with (first | ((with_reducible refine gate_dst (N := 2) rfl ?_); refine boxT (N := 2) (cs := #[.string a0_0, .slice A0_1 l0_1.length c0_1, .slice A0_2 l0_2.length c0_2, .slice A0_3 l0_3.length c0_3]) (t := 31) ?_; intro gb467 hg w48 hbox hb; have BK467 := asT hbox; have GW467 := asT (geT hg HB.out); have GE467 := GW467; replace HB := hS HB hb; clear hb hbox hg; obtain ⟨hcz49_0, hcz49_1, hcz49_2, hcz49_3, hfz49_0, hfz49_1, hfz49_2, hfz49_3⟩ := bx4 BK467.out) | ((with_reducible refine gate_callee (f := 25) rfl ?_); refine goesL_ (some 9) rfl rfl Tryz.func25 (by kernel_rfl) rfl #[.agg #[.string a0_0, .slice A0_1 l0_1.length c0_1, .slice A0_2 l0_2.length c0_2, .slice A0_3 l0_3.length c0_3]] rfl eqT ?_; (with_reducible refine (impl_IsTableau.calls k a0_0 _ _ l0_1 _ _ l0_2 _ _ l0_3 false _ ?side1 ?side2 ?side3 ?side4 ?side5 ?side6 A3.out).mono ?_); (case side1 => exact crT HR0_1.out HB.out); (case side2 => exact HC0_1.out); (case side3 => exact crT HR0_2.out HB.out); (case side4 => exact HC0_2.out); (case side5 => exact crT HR0_3.out HB.out); (case side6 => exact HC0_3.out); rintro e w50 ⟨rfl, hb⟩; refine ⟨_, rfl, ?_⟩; replace BK467 := bS BK467 hb; replace HB := hS HB hb; (try clear hb hb2 hk hi)))
  go_ret
  exact ⟨rlT, hbT HB.out⟩

/-! ### laws_eqStringS: function 14 -/
def laws_eqStringS.l0 : Nat → List ByteArray → List ByteArray → Int → Option (Bool)
 | 0, _, _, _ => none
 | k + 1, x0, x1, x5 => if x5 < (x0.length : Int) then (if 0 ≤ x5 then (if x5 < (x1.length : Int) then (if (rdOf ByteArray.empty x0 x5).toList = (rdOf ByteArray.empty x1 x5).toList then (laws_eqStringS.l0 k x0 x1 (wrap64 (x5 + 1))) else (some false)) else (none)) else (none)) else (some true)
def laws_eqStringS.f (k : Nat) (l0 : List ByteArray) (l1 : List ByteArray) : Option (Bool) := if (l0.length : Int) = (l1.length : Int) then (laws_eqStringS.l0 k l0 l1 0) else (some false)
theorem laws_eqStringS.mono_l : ∀ k, (∀ y0 y1 y2, LeO (laws_eqStringS.l0 k y0 y1 y2) (laws_eqStringS.l0 (k + 1) y0 y1 y2))
 | 0 => fun _ _ _ r h => by simp [laws_eqStringS.l0] at h
 | k + 1 => by
  have ih0 := laws_eqStringS.mono_l k
  ·intro y0 y1 y2
   unfold laws_eqStringS.l0
   with_reducible repeat' first | exact ih0 _ _ _ | exact LeO.refl _ | exact LeO.none _ | refine LeO.ite ?_ ?_ | refine LeO.bind ?_ (fun _ => ?_)
theorem laws_eqStringS.mono : ∀ a0 a1 k, LeO (laws_eqStringS.f k a0 a1) (laws_eqStringS.f (k + 1) a0 a1) := by
 intro a0 a1 k
 have ih0 := laws_eqStringS.mono_l k
 unfold laws_eqStringS.f
 with_reducible repeat' first | exact ih0 _ _ _ | exact LeO.refl _ | exact LeO.none _ | refine LeO.ite ?_ ?_ | refine LeO.bind ?_ (fun _ => ?_)
set_option maxHeartbeats 8000000 in
set_option maxRecDepth 100000 in
theorem laws_eqStringS.calls (k : Nat) (A0 : Option Addr) (c0 : Nat) (l0 : List ByteArray) (A1 : Option Addr) (c1 : Nat) (l1 : List ByteArray) (r : Bool) (w : World) (hr0 : Kd.C Kd.string w A0 l0.length l0) (hc0 : l0.length ≤ c0) (hr1 : Kd.C Kd.string w A1 l1.length l1) (hc1 : l1.length ≤ c1) (h : laws_eqStringS.f k l0 l1 = some r) :
  Calls Tryz.prog 14 #[.slice A0 l0.length c0, .slice A1 l1.length c1] w fun e w' => e = .returned (.bool r) ∧ Drawn0 w w' := by
 have HR0 := Aside0.mk hr0; have HC0 := Aside0.mk hc0; clear hr0 hc0; have HR1 := Aside0.mk hr1; have HC1 := Aside0.mk hc1; clear hr1 hc1; have H := h; unfold laws_eqStringS.f at H; clear h
 by_cases c3 : (l0.length : Int) = (l1.length : Int)
 ·rw [if_pos c3] at H
  have c3b0 : ((l0.length : Int) == (l1.length : Int)) = true := beq_iff_eq.mpr c3
  have c3b1 : ((l0.length : Int) != (l1.length : Int)) = false := bne_eq_false_iff_eq.mpr c3
  have c3b2 : (l0.length == l1.length) = true := by first | simpa using c3 | (simp at c3 ⊢; omega)
  clear c3; have H' := Aside0.mk H; clear H
  go_enter Tryz.func14, Tryz.ntmps14
  go_wp2
  repeat (go_quiet (fail); try go_wp2)
  go_loopg [5] k (fun kq v5 w' => ∃ (x5_1 : Int), v5 = .int .i64 x5_1 ∧ Aside0 (laws_eqStringS.l0 kq l0 l1 x5_1 = some r) ∧ Aside0 (kq ≤ k) ∧ Drawn0 w w')
  case atStart => exact ⟨(0), rdT, H', ⟨Nat.le_refl _⟩, drT⟩
  case round =>
   clear H'; (try clear c1 p2 c3 c3b0 c3b1 c3b2); obtain ⟨x5_1, rfl, HA, HK1, ⟨m1, rfl⟩⟩ := hrel
   cases gk with
   | zero => exact absurd HA.out (by simp [laws_eqStringS.l0])
   | succ k1 =>
    have H := HA.out; clear HA
    simp only [laws_eqStringS.l0] at H
    by_cases c4 : x5_1 < (l0.length : Int)
    ·rw [if_pos c4] at H
     have c4b0 : decide (x5_1 < (l0.length : Int)) = true := decide_eq_true c4
     clear c4
     by_cases c5 : 0 ≤ x5_1
     ·rw [if_pos c5] at H
      have c5b0 : decide (0 ≤ x5_1) = true := decide_eq_true c5
      clear c5
      by_cases c6 : x5_1 < (l1.length : Int)
      ·rw [if_pos c6] at H
       have c6b0 : decide (x5_1 < (l1.length : Int)) = true := decide_eq_true c6
       clear c6
       by_cases c7 : (rdOf ByteArray.empty l0 x5_1).toList = (rdOf ByteArray.empty l1 x5_1).toList
       ·rw [if_pos c7] at H
        have c7b0 : ((rdOf ByteArray.empty l0 x5_1).toList == (rdOf ByteArray.empty l1 x5_1).toList) = true := beq_iff_eq.mpr c7
        have c7b1 : ((rdOf ByteArray.empty l0 x5_1).toList != (rdOf ByteArray.empty l1 x5_1).toList) = false := bne_eq_false_iff_eq.mpr c7
        clear c7; have H' := Aside0.mk H; clear H
        have p475 : 0 ≤ (x5_1 : Int) := of_decide_eq_true asmT
        have q475 : x5_1 < (l0.length : Int) := of_decide_eq_true asmT
        obtain ⟨ad475, e475, hx475_0⟩ := Kd.at_string HR0.out x5_1 p475 q475
        cases e475
        replace p475 := eq_true p475; replace q475 := eq_true q475
        have p476 : 0 ≤ (x5_1 : Int) := of_decide_eq_true asmT
        have q476 : x5_1 < (l1.length : Int) := of_decide_eq_true asmT
        obtain ⟨ad476, e476, hx476_0⟩ := Kd.at_string HR1.out x5_1 p476 q476
        cases e476
        replace p476 := eq_true p476; replace q476 := eq_true q476
        go_wp2
        repeat (go_quiet (fail); try go_wp2)
        go_roundg k1
        case measure => have := HK1.out; omega
        case rel => exact ⟨(wrap64 (x5_1 + 1)), rdT, H', ⟨by have := HK1.out; omega⟩, drT⟩
       ·rw [if_neg c7] at H
        have c7b0 : ((rdOf ByteArray.empty l0 x5_1).toList == (rdOf ByteArray.empty l1 x5_1).toList) = false := beq_eq_false_iff_ne.mpr c7
        have c7b1 : ((rdOf ByteArray.empty l0 x5_1).toList != (rdOf ByteArray.empty l1 x5_1).toList) = true := bne_iff_ne.mpr c7
        obtain rfl := Option.some.inj H
        have p475 : 0 ≤ (x5_1 : Int) := of_decide_eq_true asmT
        have q475 : x5_1 < (l0.length : Int) := of_decide_eq_true asmT
        obtain ⟨ad475, e475, hx475_0⟩ := Kd.at_string HR0.out x5_1 p475 q475
        cases e475
        replace p475 := eq_true p475; replace q475 := eq_true q475
        have p476 : 0 ≤ (x5_1 : Int) := of_decide_eq_true asmT
        have q476 : x5_1 < (l1.length : Int) := of_decide_eq_true asmT
        obtain ⟨ad476, e476, hx476_0⟩ := Kd.at_string HR1.out x5_1 p476 q476
        cases e476
        replace p476 := eq_true p476; replace q476 := eq_true q476
        go_wp2
        repeat (go_quiet (fail); try go_wp2)
        go_ret
        exact ⟨rdT, drT⟩
      ·rw [if_neg c6] at H
       exact absurd H (by simp)
     ·rw [if_neg c5] at H
      exact absurd H (by simp)
    ·rw [if_neg c4] at H
     have c4b0 : decide (x5_1 < (l0.length : Int)) = false := decide_eq_false c4
     clear c4
     obtain rfl := Option.some.inj H
     go_wp2
     repeat (go_quiet (fail); try go_wp2)
     go_ret
     exact ⟨rdT, drT⟩
 ·rw [if_neg c3] at H
  have c3b0 : ((l0.length : Int) == (l1.length : Int)) = false := beq_eq_false_iff_ne.mpr c3
  have c3b1 : ((l0.length : Int) != (l1.length : Int)) = true := bne_iff_ne.mpr c3
  have c3b2 : (l0.length == l1.length) = false := by first | simpa using c3 | (simp at c3 ⊢; omega)
  obtain rfl := Option.some.inj H
  go_enter Tryz.func14, Tryz.ntmps14
  go_wp2
  repeat (go_quiet (fail); try go_wp2)
  go_ret
  exact ⟨rdT, drT⟩

/-! ### laws_eqLink: function 111 -/
def laws_eqLink.f (a0_0 : Int) (a0_1 : Int) (a1_0 : Int) (a1_1 : Int) : Option (Bool) := if a0_0 = a1_0 then (if a0_1 = a1_1 then (some true) else (some false)) else (some false)
set_option maxHeartbeats 8000000 in
set_option maxRecDepth 100000 in
theorem laws_eqLink.calls (a0_0 : Int) (a0_1 : Int) (a1_0 : Int) (a1_1 : Int) (r : Bool) (w : World) (h : laws_eqLink.f a0_0 a0_1 a1_0 a1_1 = some r) :
  Calls Tryz.prog 111 #[.agg #[.int .u8 a0_0, .int .u8 a0_1], .agg #[.int .u8 a1_0, .int .u8 a1_1]] w fun e w' => e = .returned (.bool r) ∧ Below w.heap.size w w' := by
 have hu70 := Tryz.underlying70; have HB := asT (Below.refl w.heap.size w); have H := h; unfold laws_eqLink.f at H; clear h
 by_cases c3 : a0_0 = a1_0
 ·rw [if_pos c3] at H
  have c3b0 : (a0_0 == a1_0) = true := beq_iff_eq.mpr c3
  have c3b1 : (a0_0 != a1_0) = false := bne_eq_false_iff_eq.mpr c3
  clear c3
  by_cases c4 : a0_1 = a1_1
  ·rw [if_pos c4] at H
   have c4b0 : (a0_1 == a1_1) = true := beq_iff_eq.mpr c4
   have c4b1 : (a0_1 != a1_1) = false := bne_eq_false_iff_eq.mpr c4
   clear c4
   obtain rfl := Option.some.inj H
   go_enter Tryz.func111, Tryz.ntmps111
   go_wp2_with (first | ((with_reducible refine gate_dst (N := 2) rfl ?_); refine boxT (N := 2) (cs := #[.int .u8 a0_0, .int .u8 a0_1]) (t := 70) ?_; intro gb477 hg w5 hbox hb; have BK477 := asT hbox; have GW477 := asT (geT hg HB.out); have GE477 := GW477; replace HB := hS HB hb; clear hb hbox hg) | ((with_reducible refine gate_dst (N := 3) rfl ?_); refine boxT (N := 3) (cs := #[.int .u8 a1_0, .int .u8 a1_1]) (t := 70) ?_; intro gb478 hg w6 hbox hb; have BK478 := asT (hbox); have GW478 := asT (geT hg HB.out); have GE478 := asT (geT hg HB.out); replace HB := hS HB hb; have NB477_478 := asT ((by rw [hg]; exact Nat.ne_of_lt (blk_lt (bkT BK477.out)) : gb477 ≠ gb478)); have NB478_477 := asT ((by rw [hg]; exact Nat.ne_of_gt (blk_lt (bkT BK477.out)) : gb478 ≠ gb477)); replace BK477 := bS BK477 hb; clear hb hbox hg; have hnb7 := NB477_478.out; have hnc7 := NB478_477.out; obtain ⟨hcz8_0, hcz8_1, hfz8_0, hfz8_1⟩ := bx2 BK477.out; obtain ⟨hcz9_0, hcz9_1, hfz9_0, hfz9_1⟩ := bx2 BK478.out))
   go_ret
   exact ⟨rlT, hbT HB.out⟩
  ·rw [if_neg c4] at H
   have c4b0 : (a0_1 == a1_1) = false := beq_eq_false_iff_ne.mpr c4
   have c4b1 : (a0_1 != a1_1) = true := bne_iff_ne.mpr c4
   obtain rfl := Option.some.inj H
   go_enter Tryz.func111, Tryz.ntmps111
   go_wp2_with (first | ((with_reducible refine gate_dst (N := 2) rfl ?_); refine boxT (N := 2) (cs := #[.int .u8 a0_0, .int .u8 a0_1]) (t := 70) ?_; intro gb477 hg w10 hbox hb; have BK477 := asT hbox; have GW477 := asT (geT hg HB.out); have GE477 := GW477; replace HB := hS HB hb; clear hb hbox hg) | ((with_reducible refine gate_dst (N := 3) rfl ?_); refine boxT (N := 3) (cs := #[.int .u8 a1_0, .int .u8 a1_1]) (t := 70) ?_; intro gb478 hg w11 hbox hb; have BK478 := asT (hbox); have GW478 := asT (geT hg HB.out); have GE478 := asT (geT hg HB.out); replace HB := hS HB hb; have NB477_478 := asT ((by rw [hg]; exact Nat.ne_of_lt (blk_lt (bkT BK477.out)) : gb477 ≠ gb478)); have NB478_477 := asT ((by rw [hg]; exact Nat.ne_of_gt (blk_lt (bkT BK477.out)) : gb478 ≠ gb477)); replace BK477 := bS BK477 hb; clear hb hbox hg; have hnb12 := NB477_478.out; have hnc12 := NB478_477.out; obtain ⟨hcz13_0, hcz13_1, hfz13_0, hfz13_1⟩ := bx2 BK477.out; obtain ⟨hcz14_0, hcz14_1, hfz14_0, hfz14_1⟩ := bx2 BK478.out))
   go_ret
   exact ⟨rlT, hbT HB.out⟩
 ·rw [if_neg c3] at H
  have c3b0 : (a0_0 == a1_0) = false := beq_eq_false_iff_ne.mpr c3
  have c3b1 : (a0_0 != a1_0) = true := bne_iff_ne.mpr c3
  obtain rfl := Option.some.inj H
  go_enter Tryz.func111, Tryz.ntmps111
  go_wp2_with (first | ((with_reducible refine gate_dst (N := 2) rfl ?_); refine boxT (N := 2) (cs := #[.int .u8 a0_0, .int .u8 a0_1]) (t := 70) ?_; intro gb477 hg w15 hbox hb; have BK477 := asT hbox; have GW477 := asT (geT hg HB.out); have GE477 := GW477; replace HB := hS HB hb; clear hb hbox hg) | ((with_reducible refine gate_dst (N := 3) rfl ?_); refine boxT (N := 3) (cs := #[.int .u8 a1_0, .int .u8 a1_1]) (t := 70) ?_; intro gb478 hg w16 hbox hb; have BK478 := asT (hbox); have GW478 := asT (geT hg HB.out); have GE478 := asT (geT hg HB.out); replace HB := hS HB hb; have NB477_478 := asT ((by rw [hg]; exact Nat.ne_of_lt (blk_lt (bkT BK477.out)) : gb477 ≠ gb478)); have NB478_477 := asT ((by rw [hg]; exact Nat.ne_of_gt (blk_lt (bkT BK477.out)) : gb478 ≠ gb477)); replace BK477 := bS BK477 hb; clear hb hbox hg; have hnb17 := NB477_478.out; have hnc17 := NB478_477.out; obtain ⟨hcz18_0, hcz18_1, hfz18_0, hfz18_1⟩ := bx2 BK477.out; obtain ⟨hcz19_0, hcz19_1, hfz19_0, hfz19_1⟩ := bx2 BK478.out))
  go_ret
  exact ⟨rlT, hbT HB.out⟩

end Go.Proofs.YtmfhaplhgaehhaaGreat.PFnExactRowWith
