-- Made by gen.py (a program of this session) out of the translation; Lean checks it.
import Derived.Test.YtmfhaplhgaehhaaGreatPFnExactRowWithx0
import Derived.Test.YtmfhaplhgaehhaaGreatPFnExactRowWithx1
import Derived.Test.YtmfhaplhgaehhaaGreatPFnExactRowWithx2
import Derived.Test.YtmfhaplhgaehhaaGreatPFnExactRowWithx4
namespace Go.Proofs.YtmfhaplhgaehhaaGreat.PFnExactRowWith
open Go.RowKit Go.Proofs.YtmfhaplhgaehhaaGreatB Go.Proofs.YtmfhaplhgaehhaaGreatW.PrintWords Go.Proofs.YtmfhaplhgaehhaaGreatW.PrintLast Go.Proofs.YtmfhaplhgaehhaaGreatW.PrintMore
attribute [local go_sem] max2_int min2_int max_two min_two max_three min_three max_four min_four   -- for this text's walks alone
set_option linter.unusedVariables false
set_option linter.unusedSimpArgs false

/-! ### spec_IsTableau: function 20 -/
mutual
def spec_IsTableau.j0 : Nat → Bool → ByteArray → List ByteArray → List (S48) → List (List Int) → Option (Bool)
 | 0, _, _, _, _, _ => none
 | k + 1, x29, x228000, x228001, x228002, x228003 => if x29 = true then (some false) else (spec_IsTableau.l0 k 0 x228000 x228001 x228002 x228003)
def spec_IsTableau.l0 : Nat → Int → ByteArray → List ByteArray → List (S48) → List (List Int) → Option (Bool)
 | 0, _, _, _, _, _ => none
 | k + 1, x3, x228000, x228001, x228002, x228003 => if x3 < (x228002.length : Int) then (if 0 ≤ x3 then ((spec_InputOf.f k ((rd_T48 x228002 x3).f0)).bind fun t232 => (if t232.toList = x228000.toList then ((spec_IsCandidate.f k ((rd_T48 x228002 x3).f0)).bind fun t234 => (if t234 = true then (if x3 < (x228003.length : Int) then ((spec_ProfileOf.f k x228001 ((rd_T48 x228002 x3).f0)).bind fun t237 => ((spec_l11Same.f k (rd_L6 x228003 x3) t237).bind fun t240 => (if t240 = true then (spec_IsTableau.l0 k (wrap64 (x3 + 1)) x228000 x228001 x228002 x228003) else (some false)))) else (none)) else (some false))) else (some false))) else (none)) else (some true)
end
def spec_IsTableau.f (k : Nat) (a0_0 : ByteArray) (l0_1 : List ByteArray) (l0_2 : List (S48)) (l0_3 : List (List Int)) : Option (Bool) := (spec_AreConstraints.f k l0_1).bind fun t228 => (if t228 = true then ((spec_IsForm.f k a0_0).bind fun t229 => (if t229 = true then ((spec_l1In.f (l0_2.length : Int) 1 250).bind fun t230 => (if t230 = true then (spec_IsTableau.j0 k ((l0_3.length : Int) != (l0_2.length : Int)) a0_0 l0_1 l0_2 l0_3) else (spec_IsTableau.j0 k true a0_0 l0_1 l0_2 l0_3))) else (spec_IsTableau.j0 k true a0_0 l0_1 l0_2 l0_3))) else (spec_IsTableau.j0 k true a0_0 l0_1 l0_2 l0_3))
theorem spec_IsTableau.mono_l : ∀ k, (∀ y0 y1 y2 y3 y4, LeO (spec_IsTableau.j0 k y0 y1 y2 y3 y4) (spec_IsTableau.j0 (k + 1) y0 y1 y2 y3 y4)) ∧ (∀ y0 y1 y2 y3 y4, LeO (spec_IsTableau.l0 k y0 y1 y2 y3 y4) (spec_IsTableau.l0 (k + 1) y0 y1 y2 y3 y4))
 | 0 => ⟨fun _ _ _ _ _ r h => by simp [spec_IsTableau.j0] at h, fun _ _ _ _ _ r h => by simp [spec_IsTableau.l0] at h⟩
 | k + 1 => by
  obtain ⟨ih0, ih1⟩ := spec_IsTableau.mono_l k; refine ⟨?_, ?_⟩
  ·intro y0 y1 y2 y3 y4
   unfold spec_IsTableau.j0
   with_reducible repeat' first | exact ih0 _ _ _ _ _ | exact ih1 _ _ _ _ _ | exact spec_AreConstraints.mono _ _ | exact spec_InputOf.mono _ _ | exact spec_IsCandidate.mono _ _ | exact spec_IsForm.mono _ _ | exact spec_ProfileOf.mono _ _ _ | exact spec_l11Same.mono _ _ _ | exact LeO.refl _ | exact LeO.none _ | refine LeO.ite ?_ ?_ | refine LeO.bind ?_ (fun _ => ?_)
  ·intro y0 y1 y2 y3 y4
   unfold spec_IsTableau.l0
   with_reducible repeat' first | exact ih0 _ _ _ _ _ | exact ih1 _ _ _ _ _ | exact spec_AreConstraints.mono _ _ | exact spec_InputOf.mono _ _ | exact spec_IsCandidate.mono _ _ | exact spec_IsForm.mono _ _ | exact spec_ProfileOf.mono _ _ _ | exact spec_l11Same.mono _ _ _ | exact LeO.refl _ | exact LeO.none _ | refine LeO.ite ?_ ?_ | refine LeO.bind ?_ (fun _ => ?_)
theorem spec_IsTableau.mono : ∀ a0 a1 a2 a3 k, LeO (spec_IsTableau.f k a0 a1 a2 a3) (spec_IsTableau.f (k + 1) a0 a1 a2 a3) := by
 intro a0 a1 a2 a3 k
 obtain ⟨ih0, ih1⟩ := spec_IsTableau.mono_l k
 unfold spec_IsTableau.f
 with_reducible repeat' first | exact ih0 _ _ _ _ _ | exact ih1 _ _ _ _ _ | exact spec_AreConstraints.mono _ _ | exact spec_InputOf.mono _ _ | exact spec_IsCandidate.mono _ _ | exact spec_IsForm.mono _ _ | exact spec_ProfileOf.mono _ _ _ | exact spec_l11Same.mono _ _ _ | exact LeO.refl _ | exact LeO.none _ | refine LeO.ite ?_ ?_ | refine LeO.bind ?_ (fun _ => ?_)
def spec_IsTableau.T6 : Bool × List (List Nat × List Nat) := (true, [([], []), ([0], [0]), ([], []), ([1, 2], [1, 2]), ([3], [3]), ([4], [4]), ([], []), ([6], [6]), ([5, 7], [5, 7]), ([8, 5], [8]), ([9], [9]), ([10, 9], [9, 10]), ([9], [9]), ([11, 12, 9], [9, 11, 12]), ([13, 9], [9, 13]), ([14, 9, 9], [9, 14]), ([15, 9], [9, 15]), ([9, 16], [9, 16]), ([17, 15], [17]), ([18], [18]), ([19, 18], [18, 19]), ([18], [18]), ([20, 21, 18], [18, 20, 21]), ([22, 18], [18, 22]), ([18], [18]), ([24, 18], [18, 24]), ([18], [18]), ([26, 18], [18, 26]), ([18], [18]), ([27, 28, 18], [18, 27, 28]), ([29, 18], [18, 29]), ([25, 30, 18, 18], [18, 25, 30]), ([23, 31, 31, 18], [18, 23, 31]), ([32, 18], [18, 32]), ([18, 33], [18, 33])])
def spec_IsTableau.B6 : List Nat := [0, 1, 0, 7, 15, 31, 0, 64, 255, 511, 1023, 2047, 1023, 8191, 16383, 32767, 65535, 131071, 262143, 524287, 1048575, 524287, 4194303, 8388607, 524287, 17301503, 524287, 67633151, 524287, 470286335, 1007157247, 2131230719, 4294967295, 8589934591, 17179869183]
theorem spec_IsTableau.tab6 : rtab .any (opsOf Tryz.f20 6) = spec_IsTableau.T6 := by kernel_rfl
theorem spec_IsTableau.bits6 : waitsOk spec_IsTableau.T6.2 spec_IsTableau.B6 = true := by kernel_rfl
set_option maxHeartbeats 8000000 in
set_option maxRecDepth 100000 in
theorem spec_IsTableau.calls (k : Nat) (a0_0 : ByteArray) (A0_1 : Option Addr) (c0_1 : Nat) (l0_1 : List ByteArray) (A0_2 : Option Addr) (c0_2 : Nat) (l0_2 : List (S48)) (A0_3 : Option Addr) (c0_3 : Nat) (l0_3 : List (List Int)) (r : Bool) (w : World) (hr0_1 : Kd.C Kd.string w A0_1 l0_1.length l0_1) (hc0_1 : l0_1.length ≤ c0_1) (hr0_2 : Kd.C k48 w A0_2 l0_2.length l0_2) (hc0_2 : l0_2.length ≤ c0_2) (hr0_3 : Kd.C (Kd.slice 3 (Kd.int .i64)) w A0_3 l0_3.length l0_3) (hc0_3 : l0_3.length ≤ c0_3) (h : spec_IsTableau.f k a0_0 l0_1 l0_2 l0_3 = some r) :
  Calls Tryz.prog 20 #[.agg #[.string a0_0, .slice A0_1 l0_1.length c0_1, .slice A0_2 l0_2.length c0_2, .slice A0_3 l0_3.length c0_3]] w fun e w' => e = .returned (.bool r) ∧ Below w.heap.size w w' := by
 have hu31 := Tryz.underlying31; have hu48 := Tryz.underlying48; have HR0_1 := Aside0.mk hr0_1; have HC0_1 := Aside0.mk hc0_1; clear hr0_1 hc0_1; have HR0_2 := Aside0.mk hr0_2; have HC0_2 := Aside0.mk hc0_2; clear hr0_2 hc0_2; have HR0_3 := Aside0.mk hr0_3; have HC0_3 := Aside0.mk hc0_3; clear hr0_3 hc0_3; have HB := asT (Below.refl w.heap.size w); have H := h; unfold spec_IsTableau.f at H; clear h; have HC2 := Aside0.mk H; clear H
 go_enter Tryz.func20, Tryz.ntmps20
 go_upto_region 1 with (first | ((with_reducible refine gate_dst (N := 1) rfl ?_); (try (refine gate_guard (by rfl) ?_; dsimp only)); refine boxT (N := 1) (cs := #[.string a0_0, .slice A0_1 l0_1.length c0_1, .slice A0_2 l0_2.length c0_2, .slice A0_3 l0_3.length c0_3]) (t := 31) ?_; intro gb227 hg w3 hbox hb; have BK227 := asT hbox; have GW227 := asT (geT hg HB.out); have GE227 := GW227; replace HB := hS HB hb; clear hb hbox hg))
 (try simp only [Act.put, sA, sZ, sS])
 go_cut [29] (fun v29 wc => ∃ (kq : Nat) (x29_1 : Bool), v29 = .bool x29_1 ∧ Aside0 (spec_IsTableau.j0 kq x29_1 a0_0 l0_1 l0_2 l0_3 = some r) ∧ Aside0 (kq ≤ k) ∧ Aside0 (wc.heap[gb227]? = some (.cells #[.string a0_0, (.slice A0_1 l0_1.length c0_1), (.slice A0_2 l0_2.length c0_2), (.slice A0_3 l0_3.length c0_3)] 31 (0, 0))) ∧ Aside0 (Below w.heap.size w wc))
 case first =>
  have H := HC2.out; clear HC2; obtain ⟨t228, A4, H⟩ := be H
  by_cases c5 : t228 = true
  ·subst c5
   rw [if_pos rfl] at H; obtain ⟨t229, A6, H⟩ := be H
   by_cases c7 : t229 = true
   ·subst c7
    rw [if_pos rfl] at H; obtain ⟨t230, A8, H⟩ := be H
    by_cases c9 : t230 = true
    ·subst c9
     rw [if_pos rfl] at H; have H' := Aside0.mk H; clear H
     have hcz10_0 := bc0 BK227.out
     have hcz10_1 := bc1 BK227.out
     have hcz10_2 := bc2 BK227.out
     have hcz10_3 := bc3 BK227.out
     have hfz10_0 := blk_frozen BK227.out 0; have hfz10_1 := blk_frozen BK227.out 1; have hfz10_2 := blk_frozen BK227.out 2; have hfz10_3 := blk_frozen BK227.out 3
     go_wp2_with (first | ((with_reducible refine gate_callee (f := 30) rfl ?_); refine goesL_ (some 6) rfl rfl Tryz.func30 (by kernel_rfl) rfl #[.slice A0_1 l0_1.length c0_1] rfl eqT ?_; (with_reducible refine (spec_AreConstraints.calls k _ _ l0_1 true _ ?side1 ?side2 A4.out).mono ?_); (case side1 => exact crT HR0_1.out HB.out); (case side2 => exact HC0_1.out); rintro e w11 ⟨rfl, hb⟩; refine ⟨_, rfl, ?_⟩; replace BK227 := bS BK227 hb; replace HB := hS HB hb; (try clear hb hb2 hk hi); obtain ⟨hcz12_0, hcz12_1, hcz12_2, hcz12_3, hfz12_0, hfz12_1, hfz12_2, hfz12_3⟩ := bx4 BK227.out) | (go_at_call 31; (with_reducible refine (spec_IsForm.calls k a0_0 true _ A6.out).mono ?_); rintro e w' ⟨rfl, ⟨nd, rfl⟩⟩) | (go_at_call 47; (with_reducible refine (spec_l1In.calls (l0_2.length : Int) 1 250 true _ A8.out).mono ?_); rintro e w' ⟨rfl, ⟨nd, rfl⟩⟩))
     go_meet
     case rel => exact ⟨_, (((l0_3.length : Int) != (l0_2.length : Int))), rdT, H', ⟨by first | omega | exact Nat.le_refl _⟩, ⟨by (with_reducible repeat (first | refine blk_drewN ?_ _ | refine blk_drew ?_ | refine blk_alloc ?_ _)); exact BK227.out⟩, ⟨hbT HB.out⟩⟩
    ·replace c9 := Bool.eq_false_iff.mpr c9
     subst c9; rw [if_neg nF] at H; have H' := Aside0.mk H; clear H
     have hcz13_0 := bc0 BK227.out
     have hcz13_1 := bc1 BK227.out
     have hcz13_2 := bc2 BK227.out
     have hcz13_3 := bc3 BK227.out
     have hfz13_0 := blk_frozen BK227.out 0; have hfz13_1 := blk_frozen BK227.out 1; have hfz13_2 := blk_frozen BK227.out 2; have hfz13_3 := blk_frozen BK227.out 3
     go_wp2_with (first | ((with_reducible refine gate_callee (f := 30) rfl ?_); refine goesL_ (some 6) rfl rfl Tryz.func30 (by kernel_rfl) rfl #[.slice A0_1 l0_1.length c0_1] rfl eqT ?_; (with_reducible refine (spec_AreConstraints.calls k _ _ l0_1 true _ ?side1 ?side2 A4.out).mono ?_); (case side1 => exact crT HR0_1.out HB.out); (case side2 => exact HC0_1.out); rintro e w14 ⟨rfl, hb⟩; refine ⟨_, rfl, ?_⟩; replace BK227 := bS BK227 hb; replace HB := hS HB hb; (try clear hb hb2 hk hi); obtain ⟨hcz15_0, hcz15_1, hcz15_2, hcz15_3, hfz15_0, hfz15_1, hfz15_2, hfz15_3⟩ := bx4 BK227.out) | (go_at_call 31; (with_reducible refine (spec_IsForm.calls k a0_0 true _ A6.out).mono ?_); rintro e w' ⟨rfl, ⟨nd, rfl⟩⟩) | (go_at_call 47; (with_reducible refine (spec_l1In.calls (l0_2.length : Int) 1 250 false _ A8.out).mono ?_); rintro e w' ⟨rfl, ⟨nd, rfl⟩⟩))
     go_meet
     case rel => exact ⟨_, (true), rdT, H', ⟨by first | omega | exact Nat.le_refl _⟩, ⟨by (with_reducible repeat (first | refine blk_drewN ?_ _ | refine blk_drew ?_ | refine blk_alloc ?_ _)); exact BK227.out⟩, ⟨hbT HB.out⟩⟩
   ·replace c7 := Bool.eq_false_iff.mpr c7
    subst c7; rw [if_neg nF] at H; have H' := Aside0.mk H; clear H
    have hcz16_0 := bc0 BK227.out
    have hcz16_1 := bc1 BK227.out
    have hcz16_2 := bc2 BK227.out
    have hcz16_3 := bc3 BK227.out
    have hfz16_0 := blk_frozen BK227.out 0; have hfz16_1 := blk_frozen BK227.out 1; have hfz16_2 := blk_frozen BK227.out 2; have hfz16_3 := blk_frozen BK227.out 3
    go_wp2_with (first | ((with_reducible refine gate_callee (f := 30) rfl ?_); refine goesL_ (some 6) rfl rfl Tryz.func30 (by kernel_rfl) rfl #[.slice A0_1 l0_1.length c0_1] rfl eqT ?_; (with_reducible refine (spec_AreConstraints.calls k _ _ l0_1 true _ ?side1 ?side2 A4.out).mono ?_); (case side1 => exact crT HR0_1.out HB.out); (case side2 => exact HC0_1.out); rintro e w17 ⟨rfl, hb⟩; refine ⟨_, rfl, ?_⟩; replace BK227 := bS BK227 hb; replace HB := hS HB hb; (try clear hb hb2 hk hi); obtain ⟨hcz18_0, hcz18_1, hcz18_2, hcz18_3, hfz18_0, hfz18_1, hfz18_2, hfz18_3⟩ := bx4 BK227.out) | (go_at_call 31; (with_reducible refine (spec_IsForm.calls k a0_0 false _ A6.out).mono ?_); rintro e w' ⟨rfl, ⟨nd, rfl⟩⟩))
    go_meet
    case rel => exact ⟨_, (true), rdT, H', ⟨by first | omega | exact Nat.le_refl _⟩, ⟨by (with_reducible repeat (first | refine blk_drewN ?_ _ | refine blk_drew ?_ | refine blk_alloc ?_ _)); exact BK227.out⟩, ⟨hbT HB.out⟩⟩
  ·replace c5 := Bool.eq_false_iff.mpr c5
   subst c5; rw [if_neg nF] at H; have H' := Aside0.mk H; clear H
   have hcz19_0 := bc0 BK227.out
   have hcz19_1 := bc1 BK227.out
   have hcz19_2 := bc2 BK227.out
   have hcz19_3 := bc3 BK227.out
   have hfz19_0 := blk_frozen BK227.out 0; have hfz19_1 := blk_frozen BK227.out 1; have hfz19_2 := blk_frozen BK227.out 2; have hfz19_3 := blk_frozen BK227.out 3
   go_wp2_with (first | ((with_reducible refine gate_callee (f := 30) rfl ?_); refine goesL_ (some 6) rfl rfl Tryz.func30 (by kernel_rfl) rfl #[.slice A0_1 l0_1.length c0_1] rfl eqT ?_; (with_reducible refine (spec_AreConstraints.calls k _ _ l0_1 false _ ?side1 ?side2 A4.out).mono ?_); (case side1 => exact crT HR0_1.out HB.out); (case side2 => exact HC0_1.out); rintro e w20 ⟨rfl, hb⟩; refine ⟨_, rfl, ?_⟩; replace BK227 := bS BK227 hb; replace HB := hS HB hb; (try clear hb hb2 hk hi)))
   go_meet
   case rel => exact ⟨_, (true), rdT, H', ⟨by first | omega | exact Nat.le_refl _⟩, ⟨by (with_reducible repeat (first | refine blk_drewN ?_ _ | refine blk_drew ?_ | refine blk_alloc ?_ _)); exact BK227.out⟩, ⟨hbT HB.out⟩⟩
 case rest =>
  clear HC2; (try clear c2 p2 c3 c5 c7 c9 c20 hcz10_0 hcz10_1 hcz10_2 hcz10_3 hcz12_0 hcz12_1 hcz12_2 hcz12_3 hcz13_0 hcz13_1 hcz13_2 hcz13_3 hcz15_0 hcz15_1 hcz15_2 hcz15_3 hcz16_0 hcz16_1 hcz16_2 hcz16_3 hcz18_0 hcz18_1 hcz18_2 hcz18_3 hcz19_0 hcz19_1 hcz19_2 hcz19_3 hfz10_0 hfz10_1 hfz10_2 hfz10_3 hfz12_0 hfz12_1 hfz12_2 hfz12_3 hfz13_0 hfz13_1 hfz13_2 hfz13_3 hfz15_0 hfz15_1 hfz15_2 hfz15_3 hfz16_0 hfz16_1 hfz16_2 hfz16_3 hfz18_0 hfz18_1 hfz18_2 hfz18_3 hfz19_0 hfz19_1 hfz19_2 hfz19_3); obtain ⟨kq, x29_1, rfl, HA, HJ1, BK227, HB⟩ := hcut
  cases kq with
  | zero => exact absurd HA.out (by simp [spec_IsTableau.j0])
  | succ kj1 =>
   have H := HA.out; clear HA
   simp only [spec_IsTableau.j0] at H
   by_cases c21 : x29_1 = true
   ·subst c21
    rw [if_pos rfl] at H; have H1 := H; clear H; have H := H1; clear H1
    obtain rfl := Option.some.inj H
    go_wp2
    go_ret
    exact ⟨rlT, hbT HB.out⟩
   ·replace c21 := Bool.eq_false_iff.mpr c21
    subst c21; rw [if_neg nF] at H; have H' := Aside0.mk H; clear H
    go_wp2
    go_loopg [3] kj1 (fun kq v3 w' => ∃ (x3_2 : Int), v3 = .int .i64 x3_2 ∧ Aside0 (spec_IsTableau.l0 kq x3_2 a0_0 l0_1 l0_2 l0_3 = some r) ∧ Aside0 (kq ≤ kj1) ∧ Aside0 (w'.heap[gb227]? = some (.cells #[.string a0_0, (.slice A0_1 l0_1.length c0_1), (.slice A0_2 l0_2.length c0_2), (.slice A0_3 l0_3.length c0_3)] 31 (0, 0))) ∧ Aside0 (Below w.heap.size w w'))
    case atStart => exact ⟨(0), rdT, H', ⟨Nat.le_refl _⟩, ⟨by (with_reducible repeat (first | refine blk_drewN ?_ _ | refine blk_drew ?_ | refine blk_alloc ?_ _)); exact BK227.out⟩, ⟨hbT HB.out⟩⟩
    case round =>
     clear H'; (try clear c2 p2 c3 c5 c7 c9 c20 c21 hcz10_0 hcz10_1 hcz10_2 hcz10_3 hcz12_0 hcz12_1 hcz12_2 hcz12_3 hcz13_0 hcz13_1 hcz13_2 hcz13_3 hcz15_0 hcz15_1 hcz15_2 hcz15_3 hcz16_0 hcz16_1 hcz16_2 hcz16_3 hcz18_0 hcz18_1 hcz18_2 hcz18_3 hcz19_0 hcz19_1 hcz19_2 hcz19_3 hfz10_0 hfz10_1 hfz10_2 hfz10_3 hfz12_0 hfz12_1 hfz12_2 hfz12_3 hfz13_0 hfz13_1 hfz13_2 hfz13_3 hfz15_0 hfz15_1 hfz15_2 hfz15_3 hfz16_0 hfz16_1 hfz16_2 hfz16_3 hfz18_0 hfz18_1 hfz18_2 hfz18_3 hfz19_0 hfz19_1 hfz19_2 hfz19_3 p2); obtain ⟨x3_2, rfl, HA, HK2, BK227, HB⟩ := hrel
     cases gk with
     | zero => exact absurd HA.out (by simp [spec_IsTableau.l0])
     | succ k2 =>
      have H := HA.out; clear HA
      simp only [spec_IsTableau.l0] at H
      by_cases c22 : x3_2 < (l0_2.length : Int)
      ·rw [if_pos c22] at H
       have c22b0 : decide (x3_2 < (l0_2.length : Int)) = true := decide_eq_true c22
       clear c22
       by_cases c23 : 0 ≤ x3_2
       ·rw [if_pos c23] at H
        have c23b0 : decide (0 ≤ x3_2) = true := decide_eq_true c23
        clear c23; obtain ⟨t232, A24, H⟩ := be H
        by_cases c25 : t232.toList = a0_0.toList
        ·rw [if_pos c25] at H
         have c25b0 : (t232.toList == a0_0.toList) = true := beq_iff_eq.mpr c25
         have c25b1 : (t232.toList != a0_0.toList) = false := bne_eq_false_iff_eq.mpr c25
         clear c25; obtain ⟨t234, A26, H⟩ := be H
         by_cases c27 : t234 = true
         ·subst c27
          rw [if_pos rfl] at H; have H1 := H; clear H; have H := H1; clear H1
          by_cases c28 : x3_2 < (l0_3.length : Int)
          ·rw [if_pos c28] at H
           have c28b0 : decide (x3_2 < (l0_3.length : Int)) = true := decide_eq_true c28
           clear c28; obtain ⟨t237, A29, H⟩ := be H; obtain ⟨t240, A30, H⟩ := be H
           by_cases c31 : t240 = true
           ·subst c31
            rw [if_pos rfl] at H; have H' := Aside0.mk H; clear H
            have hcz32_0 := bc0 BK227.out
            have hcz32_1 := bc1 BK227.out
            have hcz32_2 := bc2 BK227.out
            have hcz32_3 := bc3 BK227.out
            have hfz32_0 := blk_frozen BK227.out 0; have hfz32_1 := blk_frozen BK227.out 1; have hfz32_2 := blk_frozen BK227.out 2; have hfz32_3 := blk_frozen BK227.out 3
            try go_wp2
            replace BK227 := asT (blk_drew BK227.out); replace HB := asT (below_drew1 HB.out)
            have p231 : 0 ≤ (x3_2 : Int) := of_decide_eq_true asmT
            have q231 : x3_2 < (l0_2.length : Int) := of_decide_eq_true asmT
            obtain ⟨ad231, A231_0, c231_0, e231, hx231_0, hl231_0, hi231_0⟩ := at_T48 HR0_2.out x3_2 p231 q231; have hw231_0 := hx231_0
            cases e231
            replace hx231_0 := hbc HB.out hx231_0; have HR231_0 := Aside0.mk hi231_0; have HC231_0 := Aside0.mk hl231_0; clear hi231_0 hl231_0; replace p231 := eq_true p231; replace q231 := eq_true q231
            have p233 : 0 ≤ (x3_2 : Int) := of_decide_eq_true asmT
            have q233 : x3_2 < (l0_2.length : Int) := of_decide_eq_true asmT
            obtain ⟨ad233, A233_0, c233_0, e233, hx233_0, hl233_0, hi233_0⟩ := at_T48 HR0_2.out x3_2 p233 q233; have hw233_0 := hx233_0
            obtain rfl : ad231 = ad233 := (by injection e233)
            obtain ⟨rfl, rfl⟩ : A231_0 = A233_0 ∧ c231_0 = c233_0 := sameT hw231_0 hw233_0; replace hx233_0 := hbc HB.out hx233_0; have HR233_0 := Aside0.mk hi233_0; have HC233_0 := Aside0.mk hl233_0; clear hi233_0 hl233_0; replace p233 := eq_true p233; replace q233 := eq_true q233
            have p235 : 0 ≤ (x3_2 : Int) := of_decide_eq_true asmT
            have q235 : x3_2 < (l0_3.length : Int) := of_decide_eq_true asmT
            obtain ⟨ad235, A235_0, c235_0, e235, hx235_0, hl235_0, hi235_0⟩ := at_L6 HR0_3.out x3_2 p235 q235; have hw235_0 := hx235_0
            cases e235
            replace hx235_0 := hbc HB.out hx235_0; have HR235_0 := Aside0.mk hi235_0; have HC235_0 := Aside0.mk hl235_0; clear hi235_0 hl235_0; replace p235 := eq_true p235; replace q235 := eq_true q235
            have p236 : 0 ≤ (x3_2 : Int) := of_decide_eq_true asmT
            have q236 : x3_2 < (l0_2.length : Int) := of_decide_eq_true asmT
            obtain ⟨ad236, A236_0, c236_0, e236, hx236_0, hl236_0, hi236_0⟩ := at_T48 HR0_2.out x3_2 p236 q236; have hw236_0 := hx236_0
            obtain rfl : ad231 = ad236 := (by injection e236)
            obtain ⟨rfl, rfl⟩ : A231_0 = A236_0 ∧ c231_0 = c236_0 := sameT hw231_0 hw236_0; replace hx236_0 := hbc HB.out hx236_0; have HR236_0 := Aside0.mk hi236_0; have HC236_0 := Aside0.mk hl236_0; clear hi236_0 hl236_0; replace p236 := eq_true p236; replace q236 := eq_true q236
            refine start_ (n := 35) (S := fun w' => w'.cell? ⟨gb227, 0, none⟩ = some (.string a0_0) ∧ w'.cell? ⟨gb227, 1, none⟩ = some (.slice A0_1 l0_1.length c0_1) ∧ w'.cell? ⟨gb227, 2, none⟩ = some (.slice (some ad231) l0_2.length c0_2) ∧ w'.cell? ⟨gb227, 3, none⟩ = some (.slice (some ad235) l0_3.length c0_3) ∧ w'.cell? (ad231.add (x3_2).toNat) = some (.slice A231_0 ((rd_T48 l0_2 x3_2).f0).length c231_0) ∧ w'.cell? (ad231.add (x3_2).toNat) = some (.slice A231_0 ((rd_T48 l0_2 x3_2).f0).length c231_0) ∧ w'.cell? (ad235.add (x3_2).toNat) = some (.slice A235_0 (rd_L6 l0_3 x3_2).length c235_0) ∧ w'.cell? (ad231.add (x3_2).toNat) = some (.slice A231_0 ((rd_T48 l0_2 x3_2).f0).length c231_0)) (ds := []) (bA 35 0) (by kernel_rfl) rfl rfl ⟨bc0 BK227.out, bc1 BK227.out, bc2 BK227.out, bc3 BK227.out, (hbc HB.out hw231_0 :), (hbc HB.out hw233_0 :), (hbc HB.out hw235_0 :), (hbc HB.out hw236_0 :)⟩ (fun hHeld => ?_); refine with_tabW spec_IsTableau.tab6 spec_IsTableau.bits6 (fun HT_ HW_ => ?_)
            generalize wr.drew = w33 at BK227 HB HR231_0 HR233_0 HR235_0 HR236_0 hx231_0 hx233_0 hx235_0 hx236_0 hHeld ⊢
            refine pA 0 37 35 1 HT_.out ?_ rfl rfl; refine pA 2 39 35 5 HT_.out ?_ rfl rfl; refine pA 6 43 35 69 HT_.out ?_ rfl rfl; refine tA 1 38 35 71 HT_.out HW_.out hHeld ?_ rfl rfl; refine pA 3 40 35 79 HT_.out ?_ rfl rfl; refine tA 4 41 35 95 HT_.out HW_.out hHeld ?_ rfl rfl; refine tA 7 44 35 223 HT_.out HW_.out hHeld ?_ rfl rfl
            refine oA 5 42 35 255 HT_.out (fun K hK => ?_) rfl rfl
            refine goes_ Tryz.func48 (by kernel_rfl) rfl #[.agg #[.slice A231_0 ((rd_T48 l0_2 x3_2).f0).length c231_0]] (by rfl) rfl rfl eqT ?_
            (with_reducible refine (spec_InputOf.calls k2 _ _ ((rd_T48 l0_2 x3_2).f0) t232 _ ?side1 ?side2 A24.out).mono ?_); (case side1 => exact crT HR231_0.out HB.out); (case side2 => exact HC231_0.out); rintro e w34 ⟨rfl, hb⟩; refine ⟨_, rfl, ?_⟩; replace BK227 := bS BK227 hb; replace HB := hS HB hb; (try clear hb hb2 hk hi)
            refine hK.out _ _ ⟨bc0 BK227.out, bc1 BK227.out, bc2 BK227.out, bc3 BK227.out, (hbc HB.out hw231_0 :), (hbc HB.out hw233_0 :), (hbc HB.out hw235_0 :), (hbc HB.out hw236_0 :)⟩ (fun hHeld => ?_)
            clear hK K
            refine nB 42 ?_ rfl; refine pA 8 45 35 511 HT_.out ?_ rfl rfl; refine pA 9 46 35 1023 HT_.out ?_ rfl rfl; refine pA 10 47 35 2047 HT_.out ?_ rfl rfl; refine pA 12 49 35 6143 HT_.out ?_ rfl rfl; refine tA 11 48 35 8191 HT_.out HW_.out hHeld ?_ rfl rfl; refine pA 13 50 35 16383 HT_.out ?_ rfl rfl; refine tA 14 51 35 32767 HT_.out HW_.out hHeld ?_ rfl rfl
            refine oA 15 52 35 65535 HT_.out (fun K hK => ?_) rfl rfl
            refine goes_ Tryz.func49 (by kernel_rfl) rfl #[.agg #[.slice A231_0 ((rd_T48 l0_2 x3_2).f0).length c231_0]] (by rfl) rfl rfl eqT ?_
            (with_reducible refine (spec_IsCandidate.calls k2 _ _ ((rd_T48 l0_2 x3_2).f0) true _ ?side1 ?side2 A26.out).mono ?_); (case side1 => exact crT HR233_0.out HB.out); (case side2 => exact HC233_0.out); rintro e w35 ⟨rfl, hb⟩; refine ⟨_, rfl, ?_⟩; replace BK227 := bS BK227 hb; replace HB := hS HB hb; (try clear hb hb2 hk hi)
            refine hK.out _ _ ⟨bc0 BK227.out, bc1 BK227.out, bc2 BK227.out, bc3 BK227.out, (hbc HB.out hw231_0 :), (hbc HB.out hw233_0 :), (hbc HB.out hw235_0 :), (hbc HB.out hw236_0 :)⟩ (fun hHeld => ?_)
            clear hK K
            refine nB 52 ?_ rfl; refine pA 16 53 35 131071 HT_.out ?_ rfl rfl; refine pA 17 54 35 262143 HT_.out ?_ rfl rfl; refine pA 18 55 35 524287 HT_.out ?_ rfl rfl; refine pA 19 56 35 1048575 HT_.out ?_ rfl rfl; refine pA 21 58 35 3145727 HT_.out ?_ rfl rfl; refine pA 24 61 35 19922943 HT_.out ?_ rfl rfl; refine pA 26 63 35 87031807 HT_.out ?_ rfl rfl; refine pA 28 65 35 355467263 HT_.out ?_ rfl rfl; refine tA 20 57 35 356515839 HT_.out HW_.out hHeld ?_ rfl rfl; refine pA 22 59 35 360710143 HT_.out ?_ rfl rfl; refine tA 23 60 35 369098751 HT_.out HW_.out hHeld ?_ rfl rfl; refine tA 25 62 35 402653183 HT_.out HW_.out hHeld ?_ rfl rfl; refine tA 27 64 35 536870911 HT_.out HW_.out hHeld ?_ rfl rfl; refine pA 29 66 35 1073741823 HT_.out ?_ rfl rfl; refine tA 30 67 35 2147483647 HT_.out HW_.out hHeld ?_ rfl rfl
            refine oA 31 68 35 4294967295 HT_.out (fun K hK => ?_) rfl rfl
            refine goes_ Tryz.func33 (by kernel_rfl) rfl #[.slice A0_1 l0_1.length c0_1, .agg #[.slice A231_0 ((rd_T48 l0_2 x3_2).f0).length c231_0]] (by rfl) rfl rfl eqT ?_
            (with_reducible refine (spec_ProfileOf.calls k2 _ _ l0_1 _ _ ((rd_T48 l0_2 x3_2).f0) t237 _ ?side1 ?side2 ?side3 ?side4 A29.out).mono ?_); (case side1 => exact crT HR0_1.out HB.out); (case side2 => exact HC0_1.out); (case side3 => exact crT HR236_0.out HB.out); (case side4 => exact HC236_0.out); rintro e w36 ⟨v238, rfl, ho0, hb⟩; refine ⟨_, rfl, ?_⟩; have HO239 := asT (Kd.R_lower ho0 (below_size (hbT HB.out))); replace BK227 := bS BK227 hb; replace HB := hS HB hb; (try clear hb hb2 hk hi ho0); obtain ⟨Ao37, co37, eo37⟩ := Kd.R_slice HO239.out; (first | subst eo37 | (injection eo37 with f1_ f2_ f3_; have f4_ := f1_.symm; have f5_ := f3_.symm; clear f1_ f2_ f3_; subst f4_; subst f5_))
            refine hK.out _ _ ⟨bc0 BK227.out, bc1 BK227.out, bc2 BK227.out, bc3 BK227.out, (hbc HB.out hw231_0 :), (hbc HB.out hw233_0 :), (hbc HB.out hw235_0 :), (hbc HB.out hw236_0 :)⟩ (fun hHeld => ?_)
            clear hK K
            refine nB 68 ?_ rfl
            refine oA 32 69 35 8589934591 HT_.out (fun K hK => ?_) rfl rfl
            refine goes_ Tryz.func50 (by kernel_rfl) rfl #[.slice A235_0 (rd_L6 l0_3 x3_2).length c235_0, .slice Ao37 t237.length co37] (by rfl) rfl rfl eqT ?_
            (with_reducible refine (spec_l11Same.calls k2 _ _ (rd_L6 l0_3 x3_2) _ _ t237 true _ ?side1 ?side2 ?side3 ?side4 A30.out).mono ?_); (case side1 => exact crT HR235_0.out HB.out); (case side2 => exact HC235_0.out); (case side3 => repeat (first | exact (Kd.R_reads' HO239.out).2.2 | (with_reducible refine Kd.C_alloc ?_ _) | (with_reducible refine Kd.C_drewN ?_ _) | (with_reducible refine Kd.C_drew ?_))); (case side4 => exact (Kd.R_reads' HO239.out).2.1); rintro e w' ⟨rfl, ⟨nd, rfl⟩⟩; refine ⟨_, rfl, ?_⟩
            refine hK.out _ _ ⟨bc0 BK227.out, bc1 BK227.out, bc2 BK227.out, bc3 BK227.out, (hbc HB.out hw231_0 :), (hbc HB.out hw233_0 :), (hbc HB.out hw235_0 :), (hbc HB.out hw236_0 :)⟩ (fun hHeld => ?_)
            clear hK K
            refine nB 69 ?_ rfl; refine pA 33 70 35 17179869183 HT_.out ?_ rfl rfl; refine pA 34 71 35 34359738367 HT_.out ?_ rfl rfl
            refine done_ (done_of HT_.out (by kernel_rfl)) ?_
            try go_wp2
            go_roundg k2
            case measure => have := HJ1.out; have := HK2.out; omega
            case rel => exact ⟨(wrap64 (x3_2 + 1)), rdT, H', ⟨by have := HJ1.out; have := HK2.out; omega⟩, ⟨by (with_reducible repeat (first | refine blk_drewN ?_ _ | refine blk_drew ?_ | refine blk_alloc ?_ _)); exact BK227.out⟩, ⟨hbT HB.out⟩⟩
           ·replace c31 := Bool.eq_false_iff.mpr c31
            subst c31; rw [if_neg nF] at H; have H1 := H; clear H; have H := H1; clear H1
            obtain rfl := Option.some.inj H
            have hcz38_0 := bc0 BK227.out
            have hcz38_1 := bc1 BK227.out
            have hcz38_2 := bc2 BK227.out
            have hcz38_3 := bc3 BK227.out
            have hfz38_0 := blk_frozen BK227.out 0; have hfz38_1 := blk_frozen BK227.out 1; have hfz38_2 := blk_frozen BK227.out 2; have hfz38_3 := blk_frozen BK227.out 3
            try go_wp2
            replace BK227 := asT (blk_drew BK227.out); replace HB := asT (below_drew1 HB.out)
            have p231 : 0 ≤ (x3_2 : Int) := of_decide_eq_true asmT
            have q231 : x3_2 < (l0_2.length : Int) := of_decide_eq_true asmT
            obtain ⟨ad231, A231_0, c231_0, e231, hx231_0, hl231_0, hi231_0⟩ := at_T48 HR0_2.out x3_2 p231 q231; have hw231_0 := hx231_0
            cases e231
            replace hx231_0 := hbc HB.out hx231_0; have HR231_0 := Aside0.mk hi231_0; have HC231_0 := Aside0.mk hl231_0; clear hi231_0 hl231_0; replace p231 := eq_true p231; replace q231 := eq_true q231
            have p233 : 0 ≤ (x3_2 : Int) := of_decide_eq_true asmT
            have q233 : x3_2 < (l0_2.length : Int) := of_decide_eq_true asmT
            obtain ⟨ad233, A233_0, c233_0, e233, hx233_0, hl233_0, hi233_0⟩ := at_T48 HR0_2.out x3_2 p233 q233; have hw233_0 := hx233_0
            obtain rfl : ad231 = ad233 := (by injection e233)
            obtain ⟨rfl, rfl⟩ : A231_0 = A233_0 ∧ c231_0 = c233_0 := sameT hw231_0 hw233_0; replace hx233_0 := hbc HB.out hx233_0; have HR233_0 := Aside0.mk hi233_0; have HC233_0 := Aside0.mk hl233_0; clear hi233_0 hl233_0; replace p233 := eq_true p233; replace q233 := eq_true q233
            have p235 : 0 ≤ (x3_2 : Int) := of_decide_eq_true asmT
            have q235 : x3_2 < (l0_3.length : Int) := of_decide_eq_true asmT
            obtain ⟨ad235, A235_0, c235_0, e235, hx235_0, hl235_0, hi235_0⟩ := at_L6 HR0_3.out x3_2 p235 q235; have hw235_0 := hx235_0
            cases e235
            replace hx235_0 := hbc HB.out hx235_0; have HR235_0 := Aside0.mk hi235_0; have HC235_0 := Aside0.mk hl235_0; clear hi235_0 hl235_0; replace p235 := eq_true p235; replace q235 := eq_true q235
            have p236 : 0 ≤ (x3_2 : Int) := of_decide_eq_true asmT
            have q236 : x3_2 < (l0_2.length : Int) := of_decide_eq_true asmT
            obtain ⟨ad236, A236_0, c236_0, e236, hx236_0, hl236_0, hi236_0⟩ := at_T48 HR0_2.out x3_2 p236 q236; have hw236_0 := hx236_0
            obtain rfl : ad231 = ad236 := (by injection e236)
            obtain ⟨rfl, rfl⟩ : A231_0 = A236_0 ∧ c231_0 = c236_0 := sameT hw231_0 hw236_0; replace hx236_0 := hbc HB.out hx236_0; have HR236_0 := Aside0.mk hi236_0; have HC236_0 := Aside0.mk hl236_0; clear hi236_0 hl236_0; replace p236 := eq_true p236; replace q236 := eq_true q236
            refine start_ (n := 35) (S := fun w' => w'.cell? ⟨gb227, 0, none⟩ = some (.string a0_0) ∧ w'.cell? ⟨gb227, 1, none⟩ = some (.slice A0_1 l0_1.length c0_1) ∧ w'.cell? ⟨gb227, 2, none⟩ = some (.slice (some ad231) l0_2.length c0_2) ∧ w'.cell? ⟨gb227, 3, none⟩ = some (.slice (some ad235) l0_3.length c0_3) ∧ w'.cell? (ad231.add (x3_2).toNat) = some (.slice A231_0 ((rd_T48 l0_2 x3_2).f0).length c231_0) ∧ w'.cell? (ad231.add (x3_2).toNat) = some (.slice A231_0 ((rd_T48 l0_2 x3_2).f0).length c231_0) ∧ w'.cell? (ad235.add (x3_2).toNat) = some (.slice A235_0 (rd_L6 l0_3 x3_2).length c235_0) ∧ w'.cell? (ad231.add (x3_2).toNat) = some (.slice A231_0 ((rd_T48 l0_2 x3_2).f0).length c231_0)) (ds := []) (bA 35 0) (by kernel_rfl) rfl rfl ⟨bc0 BK227.out, bc1 BK227.out, bc2 BK227.out, bc3 BK227.out, (hbc HB.out hw231_0 :), (hbc HB.out hw233_0 :), (hbc HB.out hw235_0 :), (hbc HB.out hw236_0 :)⟩ (fun hHeld => ?_); refine with_tabW spec_IsTableau.tab6 spec_IsTableau.bits6 (fun HT_ HW_ => ?_)
            generalize wr.drew = w39 at BK227 HB HR231_0 HR233_0 HR235_0 HR236_0 hx231_0 hx233_0 hx235_0 hx236_0 hHeld ⊢
            refine pA 0 37 35 1 HT_.out ?_ rfl rfl; refine pA 2 39 35 5 HT_.out ?_ rfl rfl; refine pA 6 43 35 69 HT_.out ?_ rfl rfl; refine tA 1 38 35 71 HT_.out HW_.out hHeld ?_ rfl rfl; refine pA 3 40 35 79 HT_.out ?_ rfl rfl; refine tA 4 41 35 95 HT_.out HW_.out hHeld ?_ rfl rfl; refine tA 7 44 35 223 HT_.out HW_.out hHeld ?_ rfl rfl
            refine oA 5 42 35 255 HT_.out (fun K hK => ?_) rfl rfl
            refine goes_ Tryz.func48 (by kernel_rfl) rfl #[.agg #[.slice A231_0 ((rd_T48 l0_2 x3_2).f0).length c231_0]] (by rfl) rfl rfl eqT ?_
            (with_reducible refine (spec_InputOf.calls k2 _ _ ((rd_T48 l0_2 x3_2).f0) t232 _ ?side1 ?side2 A24.out).mono ?_); (case side1 => exact crT HR231_0.out HB.out); (case side2 => exact HC231_0.out); rintro e w40 ⟨rfl, hb⟩; refine ⟨_, rfl, ?_⟩; replace BK227 := bS BK227 hb; replace HB := hS HB hb; (try clear hb hb2 hk hi)
            refine hK.out _ _ ⟨bc0 BK227.out, bc1 BK227.out, bc2 BK227.out, bc3 BK227.out, (hbc HB.out hw231_0 :), (hbc HB.out hw233_0 :), (hbc HB.out hw235_0 :), (hbc HB.out hw236_0 :)⟩ (fun hHeld => ?_)
            clear hK K
            refine nB 42 ?_ rfl; refine pA 8 45 35 511 HT_.out ?_ rfl rfl; refine pA 9 46 35 1023 HT_.out ?_ rfl rfl; refine pA 10 47 35 2047 HT_.out ?_ rfl rfl; refine pA 12 49 35 6143 HT_.out ?_ rfl rfl; refine tA 11 48 35 8191 HT_.out HW_.out hHeld ?_ rfl rfl; refine pA 13 50 35 16383 HT_.out ?_ rfl rfl; refine tA 14 51 35 32767 HT_.out HW_.out hHeld ?_ rfl rfl
            refine oA 15 52 35 65535 HT_.out (fun K hK => ?_) rfl rfl
            refine goes_ Tryz.func49 (by kernel_rfl) rfl #[.agg #[.slice A231_0 ((rd_T48 l0_2 x3_2).f0).length c231_0]] (by rfl) rfl rfl eqT ?_
            (with_reducible refine (spec_IsCandidate.calls k2 _ _ ((rd_T48 l0_2 x3_2).f0) true _ ?side1 ?side2 A26.out).mono ?_); (case side1 => exact crT HR233_0.out HB.out); (case side2 => exact HC233_0.out); rintro e w41 ⟨rfl, hb⟩; refine ⟨_, rfl, ?_⟩; replace BK227 := bS BK227 hb; replace HB := hS HB hb; (try clear hb hb2 hk hi)
            refine hK.out _ _ ⟨bc0 BK227.out, bc1 BK227.out, bc2 BK227.out, bc3 BK227.out, (hbc HB.out hw231_0 :), (hbc HB.out hw233_0 :), (hbc HB.out hw235_0 :), (hbc HB.out hw236_0 :)⟩ (fun hHeld => ?_)
            clear hK K
            refine nB 52 ?_ rfl; refine pA 16 53 35 131071 HT_.out ?_ rfl rfl; refine pA 17 54 35 262143 HT_.out ?_ rfl rfl; refine pA 18 55 35 524287 HT_.out ?_ rfl rfl; refine pA 19 56 35 1048575 HT_.out ?_ rfl rfl; refine pA 21 58 35 3145727 HT_.out ?_ rfl rfl; refine pA 24 61 35 19922943 HT_.out ?_ rfl rfl; refine pA 26 63 35 87031807 HT_.out ?_ rfl rfl; refine pA 28 65 35 355467263 HT_.out ?_ rfl rfl; refine tA 20 57 35 356515839 HT_.out HW_.out hHeld ?_ rfl rfl; refine pA 22 59 35 360710143 HT_.out ?_ rfl rfl; refine tA 23 60 35 369098751 HT_.out HW_.out hHeld ?_ rfl rfl; refine tA 25 62 35 402653183 HT_.out HW_.out hHeld ?_ rfl rfl; refine tA 27 64 35 536870911 HT_.out HW_.out hHeld ?_ rfl rfl; refine pA 29 66 35 1073741823 HT_.out ?_ rfl rfl; refine tA 30 67 35 2147483647 HT_.out HW_.out hHeld ?_ rfl rfl
            refine oA 31 68 35 4294967295 HT_.out (fun K hK => ?_) rfl rfl
            refine goes_ Tryz.func33 (by kernel_rfl) rfl #[.slice A0_1 l0_1.length c0_1, .agg #[.slice A231_0 ((rd_T48 l0_2 x3_2).f0).length c231_0]] (by rfl) rfl rfl eqT ?_
            (with_reducible refine (spec_ProfileOf.calls k2 _ _ l0_1 _ _ ((rd_T48 l0_2 x3_2).f0) t237 _ ?side1 ?side2 ?side3 ?side4 A29.out).mono ?_); (case side1 => exact crT HR0_1.out HB.out); (case side2 => exact HC0_1.out); (case side3 => exact crT HR236_0.out HB.out); (case side4 => exact HC236_0.out); rintro e w42 ⟨v238, rfl, ho0, hb⟩; refine ⟨_, rfl, ?_⟩; have HO239 := asT (Kd.R_lower ho0 (below_size (hbT HB.out))); replace BK227 := bS BK227 hb; replace HB := hS HB hb; (try clear hb hb2 hk hi ho0); obtain ⟨Ao43, co43, eo43⟩ := Kd.R_slice HO239.out; (first | subst eo43 | (injection eo43 with f1_ f2_ f3_; have f4_ := f1_.symm; have f5_ := f3_.symm; clear f1_ f2_ f3_; subst f4_; subst f5_))
            refine hK.out _ _ ⟨bc0 BK227.out, bc1 BK227.out, bc2 BK227.out, bc3 BK227.out, (hbc HB.out hw231_0 :), (hbc HB.out hw233_0 :), (hbc HB.out hw235_0 :), (hbc HB.out hw236_0 :)⟩ (fun hHeld => ?_)
            clear hK K
            refine nB 68 ?_ rfl
            refine oA 32 69 35 8589934591 HT_.out (fun K hK => ?_) rfl rfl
            refine goes_ Tryz.func50 (by kernel_rfl) rfl #[.slice A235_0 (rd_L6 l0_3 x3_2).length c235_0, .slice Ao43 t237.length co43] (by rfl) rfl rfl eqT ?_
            (with_reducible refine (spec_l11Same.calls k2 _ _ (rd_L6 l0_3 x3_2) _ _ t237 false _ ?side1 ?side2 ?side3 ?side4 A30.out).mono ?_); (case side1 => exact crT HR235_0.out HB.out); (case side2 => exact HC235_0.out); (case side3 => repeat (first | exact (Kd.R_reads' HO239.out).2.2 | (with_reducible refine Kd.C_alloc ?_ _) | (with_reducible refine Kd.C_drewN ?_ _) | (with_reducible refine Kd.C_drew ?_))); (case side4 => exact (Kd.R_reads' HO239.out).2.1); rintro e w' ⟨rfl, ⟨nd, rfl⟩⟩; refine ⟨_, rfl, ?_⟩
            refine hK.out _ _ ⟨bc0 BK227.out, bc1 BK227.out, bc2 BK227.out, bc3 BK227.out, (hbc HB.out hw231_0 :), (hbc HB.out hw233_0 :), (hbc HB.out hw235_0 :), (hbc HB.out hw236_0 :)⟩ (fun hHeld => ?_)
            clear hK K
            refine nB 69 ?_ rfl; refine pA 33 70 35 17179869183 HT_.out ?_ rfl rfl; refine pA 34 71 35 34359738367 HT_.out ?_ rfl rfl
            refine done_ (done_of HT_.out (by kernel_rfl)) ?_
            try go_wp2
            go_ret
            exact ⟨rlT, hbT HB.out⟩
          ·rw [if_neg c28] at H
           exact absurd H (by simp)
         ·replace c27 := Bool.eq_false_iff.mpr c27
          subst c27; rw [if_neg nF] at H; have H1 := H; clear H; have H := H1; clear H1
          obtain rfl := Option.some.inj H
          have hcz44_0 := bc0 BK227.out
          have hcz44_1 := bc1 BK227.out
          have hcz44_2 := bc2 BK227.out
          have hcz44_3 := bc3 BK227.out
          have hfz44_0 := blk_frozen BK227.out 0; have hfz44_1 := blk_frozen BK227.out 1; have hfz44_2 := blk_frozen BK227.out 2; have hfz44_3 := blk_frozen BK227.out 3
          try go_wp2
          replace BK227 := asT (blk_drew BK227.out); replace HB := asT (below_drew1 HB.out)
          have p231 : 0 ≤ (x3_2 : Int) := of_decide_eq_true asmT
          have q231 : x3_2 < (l0_2.length : Int) := of_decide_eq_true asmT
          obtain ⟨ad231, A231_0, c231_0, e231, hx231_0, hl231_0, hi231_0⟩ := at_T48 HR0_2.out x3_2 p231 q231; have hw231_0 := hx231_0
          cases e231
          replace hx231_0 := hbc HB.out hx231_0; have HR231_0 := Aside0.mk hi231_0; have HC231_0 := Aside0.mk hl231_0; clear hi231_0 hl231_0; replace p231 := eq_true p231; replace q231 := eq_true q231
          have p233 : 0 ≤ (x3_2 : Int) := of_decide_eq_true asmT
          have q233 : x3_2 < (l0_2.length : Int) := of_decide_eq_true asmT
          obtain ⟨ad233, A233_0, c233_0, e233, hx233_0, hl233_0, hi233_0⟩ := at_T48 HR0_2.out x3_2 p233 q233; have hw233_0 := hx233_0
          obtain rfl : ad231 = ad233 := (by injection e233)
          obtain ⟨rfl, rfl⟩ : A231_0 = A233_0 ∧ c231_0 = c233_0 := sameT hw231_0 hw233_0; replace hx233_0 := hbc HB.out hx233_0; have HR233_0 := Aside0.mk hi233_0; have HC233_0 := Aside0.mk hl233_0; clear hi233_0 hl233_0; replace p233 := eq_true p233; replace q233 := eq_true q233
          refine start_ (n := 35) (S := fun w' => w'.cell? ⟨gb227, 0, none⟩ = some (.string a0_0) ∧ w'.cell? ⟨gb227, 1, none⟩ = some (.slice A0_1 l0_1.length c0_1) ∧ w'.cell? ⟨gb227, 2, none⟩ = some (.slice (some ad231) l0_2.length c0_2) ∧ w'.cell? ⟨gb227, 3, none⟩ = some (.slice A0_3 l0_3.length c0_3) ∧ w'.cell? (ad231.add (x3_2).toNat) = some (.slice A231_0 ((rd_T48 l0_2 x3_2).f0).length c231_0) ∧ w'.cell? (ad231.add (x3_2).toNat) = some (.slice A231_0 ((rd_T48 l0_2 x3_2).f0).length c231_0)) (ds := []) (bA 35 0) (by kernel_rfl) rfl rfl ⟨bc0 BK227.out, bc1 BK227.out, bc2 BK227.out, bc3 BK227.out, (hbc HB.out hw231_0 :), (hbc HB.out hw233_0 :)⟩ (fun hHeld => ?_); refine with_tabW spec_IsTableau.tab6 spec_IsTableau.bits6 (fun HT_ HW_ => ?_)
          generalize wr.drew = w45 at BK227 HB HR231_0 HR233_0 hx231_0 hx233_0 hHeld ⊢
          refine pA 0 37 35 1 HT_.out ?_ rfl rfl; refine pA 2 39 35 5 HT_.out ?_ rfl rfl; refine pA 6 43 35 69 HT_.out ?_ rfl rfl; refine tA 1 38 35 71 HT_.out HW_.out hHeld ?_ rfl rfl; refine pA 3 40 35 79 HT_.out ?_ rfl rfl; refine tA 4 41 35 95 HT_.out HW_.out hHeld ?_ rfl rfl; refine tA 7 44 35 223 HT_.out HW_.out hHeld ?_ rfl rfl
          refine oA 5 42 35 255 HT_.out (fun K hK => ?_) rfl rfl
          refine goes_ Tryz.func48 (by kernel_rfl) rfl #[.agg #[.slice A231_0 ((rd_T48 l0_2 x3_2).f0).length c231_0]] (by rfl) rfl rfl eqT ?_
          (with_reducible refine (spec_InputOf.calls k2 _ _ ((rd_T48 l0_2 x3_2).f0) t232 _ ?side1 ?side2 A24.out).mono ?_); (case side1 => exact crT HR231_0.out HB.out); (case side2 => exact HC231_0.out); rintro e w46 ⟨rfl, hb⟩; refine ⟨_, rfl, ?_⟩; replace BK227 := bS BK227 hb; replace HB := hS HB hb; (try clear hb hb2 hk hi)
          refine hK.out _ _ ⟨bc0 BK227.out, bc1 BK227.out, bc2 BK227.out, bc3 BK227.out, (hbc HB.out hw231_0 :), (hbc HB.out hw233_0 :)⟩ (fun hHeld => ?_)
          clear hK K
          refine nB 42 ?_ rfl; refine pA 8 45 35 511 HT_.out ?_ rfl rfl; refine pA 9 46 35 1023 HT_.out ?_ rfl rfl; refine pA 10 47 35 2047 HT_.out ?_ rfl rfl; refine pA 12 49 35 6143 HT_.out ?_ rfl rfl; refine tA 11 48 35 8191 HT_.out HW_.out hHeld ?_ rfl rfl; refine pA 13 50 35 16383 HT_.out ?_ rfl rfl; refine tA 14 51 35 32767 HT_.out HW_.out hHeld ?_ rfl rfl
          refine oA 15 52 35 65535 HT_.out (fun K hK => ?_) rfl rfl
          refine goes_ Tryz.func49 (by kernel_rfl) rfl #[.agg #[.slice A231_0 ((rd_T48 l0_2 x3_2).f0).length c231_0]] (by rfl) rfl rfl eqT ?_
          (with_reducible refine (spec_IsCandidate.calls k2 _ _ ((rd_T48 l0_2 x3_2).f0) false _ ?side1 ?side2 A26.out).mono ?_); (case side1 => exact crT HR233_0.out HB.out); (case side2 => exact HC233_0.out); rintro e w47 ⟨rfl, hb⟩; refine ⟨_, rfl, ?_⟩; replace BK227 := bS BK227 hb; replace HB := hS HB hb; (try clear hb hb2 hk hi)
          refine hK.out _ _ ⟨bc0 BK227.out, bc1 BK227.out, bc2 BK227.out, bc3 BK227.out, (hbc HB.out hw231_0 :), (hbc HB.out hw233_0 :)⟩ (fun hHeld => ?_)
          clear hK K
          refine nB 52 ?_ rfl; refine pA 16 53 35 131071 HT_.out ?_ rfl rfl; refine pA 17 54 35 262143 HT_.out ?_ rfl rfl; refine pA 18 55 35 524287 HT_.out ?_ rfl rfl; refine uA 19 56 35 1048575 HT_.out ?_ rfl rfl; refine uA 20 57 35 2097151 HT_.out ?_ rfl rfl; refine uA 21 58 35 4194303 HT_.out ?_ rfl rfl; refine uA 22 59 35 8388607 HT_.out ?_ rfl rfl; refine uA 23 60 35 16777215 HT_.out ?_ rfl rfl; refine uA 24 61 35 33554431 HT_.out ?_ rfl rfl; refine uA 25 62 35 67108863 HT_.out ?_ rfl rfl; refine uA 26 63 35 134217727 HT_.out ?_ rfl rfl; refine uA 27 64 35 268435455 HT_.out ?_ rfl rfl; refine uA 28 65 35 536870911 HT_.out ?_ rfl rfl; refine uA 29 66 35 1073741823 HT_.out ?_ rfl rfl; refine uA 30 67 35 2147483647 HT_.out ?_ rfl rfl; refine uA 31 68 35 4294967295 HT_.out ?_ rfl rfl; refine uA 32 69 35 8589934591 HT_.out ?_ rfl rfl; refine uA 33 70 35 17179869183 HT_.out ?_ rfl rfl; refine pA 34 71 35 34359738367 HT_.out ?_ rfl rfl
          refine done_ (done_of HT_.out (by kernel_rfl)) ?_
          try go_wp2
          go_ret
          exact ⟨rlT, hbT HB.out⟩
        ·rw [if_neg c25] at H
         have c25b0 : (t232.toList == a0_0.toList) = false := beq_eq_false_iff_ne.mpr c25
         have c25b1 : (t232.toList != a0_0.toList) = true := bne_iff_ne.mpr c25
         obtain rfl := Option.some.inj H
         have hcz48_0 := bc0 BK227.out
         have hcz48_1 := bc1 BK227.out
         have hcz48_2 := bc2 BK227.out
         have hcz48_3 := bc3 BK227.out
         have hfz48_0 := blk_frozen BK227.out 0; have hfz48_1 := blk_frozen BK227.out 1; have hfz48_2 := blk_frozen BK227.out 2; have hfz48_3 := blk_frozen BK227.out 3
         try go_wp2
         replace BK227 := asT (blk_drew BK227.out); replace HB := asT (below_drew1 HB.out)
         have p231 : 0 ≤ (x3_2 : Int) := of_decide_eq_true asmT
         have q231 : x3_2 < (l0_2.length : Int) := of_decide_eq_true asmT
         obtain ⟨ad231, A231_0, c231_0, e231, hx231_0, hl231_0, hi231_0⟩ := at_T48 HR0_2.out x3_2 p231 q231; have hw231_0 := hx231_0
         cases e231
         replace hx231_0 := hbc HB.out hx231_0; have HR231_0 := Aside0.mk hi231_0; have HC231_0 := Aside0.mk hl231_0; clear hi231_0 hl231_0; replace p231 := eq_true p231; replace q231 := eq_true q231
         refine start_ (n := 35) (S := fun w' => w'.cell? ⟨gb227, 0, none⟩ = some (.string a0_0) ∧ w'.cell? ⟨gb227, 1, none⟩ = some (.slice A0_1 l0_1.length c0_1) ∧ w'.cell? ⟨gb227, 2, none⟩ = some (.slice (some ad231) l0_2.length c0_2) ∧ w'.cell? ⟨gb227, 3, none⟩ = some (.slice A0_3 l0_3.length c0_3) ∧ w'.cell? (ad231.add (x3_2).toNat) = some (.slice A231_0 ((rd_T48 l0_2 x3_2).f0).length c231_0)) (ds := []) (bA 35 0) (by kernel_rfl) rfl rfl ⟨bc0 BK227.out, bc1 BK227.out, bc2 BK227.out, bc3 BK227.out, (hbc HB.out hw231_0 :)⟩ (fun hHeld => ?_); refine with_tabW spec_IsTableau.tab6 spec_IsTableau.bits6 (fun HT_ HW_ => ?_)
         generalize wr.drew = w49 at BK227 HB HR231_0 hx231_0 hHeld ⊢
         refine pA 0 37 35 1 HT_.out ?_ rfl rfl; refine pA 2 39 35 5 HT_.out ?_ rfl rfl; refine pA 6 43 35 69 HT_.out ?_ rfl rfl; refine tA 1 38 35 71 HT_.out HW_.out hHeld ?_ rfl rfl; refine pA 3 40 35 79 HT_.out ?_ rfl rfl; refine tA 4 41 35 95 HT_.out HW_.out hHeld ?_ rfl rfl; refine tA 7 44 35 223 HT_.out HW_.out hHeld ?_ rfl rfl
         refine oA 5 42 35 255 HT_.out (fun K hK => ?_) rfl rfl
         refine goes_ Tryz.func48 (by kernel_rfl) rfl #[.agg #[.slice A231_0 ((rd_T48 l0_2 x3_2).f0).length c231_0]] (by rfl) rfl rfl eqT ?_
         (with_reducible refine (spec_InputOf.calls k2 _ _ ((rd_T48 l0_2 x3_2).f0) t232 _ ?side1 ?side2 A24.out).mono ?_); (case side1 => exact crT HR231_0.out HB.out); (case side2 => exact HC231_0.out); rintro e w50 ⟨rfl, hb⟩; refine ⟨_, rfl, ?_⟩; replace BK227 := bS BK227 hb; replace HB := hS HB hb; (try clear hb hb2 hk hi)
         refine hK.out _ _ ⟨bc0 BK227.out, bc1 BK227.out, bc2 BK227.out, bc3 BK227.out, (hbc HB.out hw231_0 :)⟩ (fun hHeld => ?_)
         clear hK K
         refine nB 42 ?_ rfl; refine pA 8 45 35 511 HT_.out ?_ rfl rfl; refine pA 9 46 35 1023 HT_.out ?_ rfl rfl; refine uA 10 47 35 2047 HT_.out ?_ rfl rfl; refine uA 11 48 35 4095 HT_.out ?_ rfl rfl; refine uA 12 49 35 8191 HT_.out ?_ rfl rfl; refine uA 13 50 35 16383 HT_.out ?_ rfl rfl; refine uA 14 51 35 32767 HT_.out ?_ rfl rfl; refine uA 15 52 35 65535 HT_.out ?_ rfl rfl; refine uA 16 53 35 131071 HT_.out ?_ rfl rfl; refine pA 17 54 35 262143 HT_.out ?_ rfl rfl; refine pA 18 55 35 524287 HT_.out ?_ rfl rfl; refine uA 19 56 35 1048575 HT_.out ?_ rfl rfl; refine uA 20 57 35 2097151 HT_.out ?_ rfl rfl; refine uA 21 58 35 4194303 HT_.out ?_ rfl rfl; refine uA 22 59 35 8388607 HT_.out ?_ rfl rfl; refine uA 23 60 35 16777215 HT_.out ?_ rfl rfl; refine uA 24 61 35 33554431 HT_.out ?_ rfl rfl; refine uA 25 62 35 67108863 HT_.out ?_ rfl rfl; refine uA 26 63 35 134217727 HT_.out ?_ rfl rfl; refine uA 27 64 35 268435455 HT_.out ?_ rfl rfl; refine uA 28 65 35 536870911 HT_.out ?_ rfl rfl; refine uA 29 66 35 1073741823 HT_.out ?_ rfl rfl; refine uA 30 67 35 2147483647 HT_.out ?_ rfl rfl; refine uA 31 68 35 4294967295 HT_.out ?_ rfl rfl; refine uA 32 69 35 8589934591 HT_.out ?_ rfl rfl; refine uA 33 70 35 17179869183 HT_.out ?_ rfl rfl; refine pA 34 71 35 34359738367 HT_.out ?_ rfl rfl
         refine done_ (done_of HT_.out (by kernel_rfl)) ?_
         try go_wp2
         go_ret
         exact ⟨rlT, hbT HB.out⟩
       ·rw [if_neg c23] at H
        exact absurd H (by simp)
      ·rw [if_neg c22] at H
       have c22b0 : decide (x3_2 < (l0_2.length : Int)) = false := decide_eq_false c22
       clear c22
       obtain rfl := Option.some.inj H
       have hcz51_0 := bc0 BK227.out
       have hcz51_1 := bc1 BK227.out
       have hcz51_2 := bc2 BK227.out
       have hcz51_3 := bc3 BK227.out
       have hfz51_0 := blk_frozen BK227.out 0; have hfz51_1 := blk_frozen BK227.out 1; have hfz51_2 := blk_frozen BK227.out 2; have hfz51_3 := blk_frozen BK227.out 3
       go_wp2
       go_ret
       exact ⟨rlT, hbT HB.out⟩

/-! ### spec_CountEdits: function 22 -/
def spec_CountEdits.l0 : Nat → Int → Int → List (S70) → Option (Int)
 | 0, _, _, _ => none
 | k + 1, x3, x4, x242000 => if x4 < (x242000.length : Int) then (if 0 ≤ x4 then (if ((rd_T70 x242000 x4).f0) = ((rd_T70 x242000 x4).f1) then (spec_CountEdits.l0 k x3 (wrap64 (x4 + 1)) x242000) else (spec_CountEdits.l0 k (wrap64 (x3 + 1)) (wrap64 (x4 + 1)) x242000)) else (none)) else (some x3)
def spec_CountEdits.f (k : Nat) (l0_0 : List (S70)) : Option (Int) := spec_CountEdits.l0 k 0 0 l0_0
theorem spec_CountEdits.mono_l : ∀ k, (∀ y0 y1 y2, LeO (spec_CountEdits.l0 k y0 y1 y2) (spec_CountEdits.l0 (k + 1) y0 y1 y2))
 | 0 => fun _ _ _ r h => by simp [spec_CountEdits.l0] at h
 | k + 1 => by
  have ih0 := spec_CountEdits.mono_l k
  ·intro y0 y1 y2
   unfold spec_CountEdits.l0
   with_reducible repeat' first | exact ih0 _ _ _ | exact LeO.refl _ | exact LeO.none _ | refine LeO.ite ?_ ?_ | refine LeO.bind ?_ (fun _ => ?_)
theorem spec_CountEdits.mono : ∀ a0 k, LeO (spec_CountEdits.f k a0) (spec_CountEdits.f (k + 1) a0) := by
 intro a0 k
 have ih0 := spec_CountEdits.mono_l k
 unfold spec_CountEdits.f
 with_reducible repeat' first | exact ih0 _ _ _ | exact LeO.refl _ | exact LeO.none _ | refine LeO.ite ?_ ?_ | refine LeO.bind ?_ (fun _ => ?_)
set_option maxHeartbeats 8000000 in
set_option maxRecDepth 100000 in
theorem spec_CountEdits.calls (k : Nat) (A0_0 : Option Addr) (c0_0 : Nat) (l0_0 : List (S70)) (r : Int) (w : World) (hr0_0 : Kd.C k70 w A0_0 l0_0.length l0_0) (hc0_0 : l0_0.length ≤ c0_0) (h : spec_CountEdits.f k l0_0 = some r) :
  Calls Tryz.prog 22 #[.agg #[.slice A0_0 l0_0.length c0_0]] w fun e w' => e = .returned (.int .i64 r) ∧ Below w.heap.size w w' := by
 have hu48 := Tryz.underlying48; have HR0_0 := Aside0.mk hr0_0; have HC0_0 := Aside0.mk hc0_0; clear hr0_0 hc0_0; have HB := asT (Below.refl w.heap.size w); have H := h; unfold spec_CountEdits.f at H; clear h; have H' := Aside0.mk H; clear H
 go_enter Tryz.func22, Tryz.ntmps22
 go_wp2_with (first | ((with_reducible refine gate_dst (N := 1) rfl ?_); refine boxT (N := 1) (cs := #[.slice A0_0 l0_0.length c0_0]) (t := 48) ?_; intro gb241 hg w2 hbox hb; have BK241 := asT hbox; have GW241 := asT (geT hg HB.out); have GE241 := GW241; replace HB := hS HB hb; clear hb hbox hg))
 repeat (go_quiet (first | ((with_reducible refine gate_dst (N := 1) rfl ?_); refine boxT (N := 1) (cs := #[.slice A0_0 l0_0.length c0_0]) (t := 48) ?_; intro gb241 hg w2 hbox hb; have BK241 := asT hbox; have GW241 := asT (geT hg HB.out); have GE241 := GW241; replace HB := hS HB hb; clear hb hbox hg)); try go_wp2_with (first | ((with_reducible refine gate_dst (N := 1) rfl ?_); refine boxT (N := 1) (cs := #[.slice A0_0 l0_0.length c0_0]) (t := 48) ?_; intro gb241 hg w2 hbox hb; have BK241 := asT hbox; have GW241 := asT (geT hg HB.out); have GE241 := GW241; replace HB := hS HB hb; clear hb hbox hg)))
 go_loopg [3, 4] k (fun kq v3 v4 w' => ∃ (x3_1 : Int) (x4_1 : Int), v3 = .int .i64 x3_1 ∧ v4 = .int .i64 x4_1 ∧ Aside0 (spec_CountEdits.l0 kq x3_1 x4_1 l0_0 = some r) ∧ Aside0 (kq ≤ k) ∧ Aside0 (w'.heap[gb241]? = some (.cells #[(.slice A0_0 l0_0.length c0_0)] 48 (0, 0))) ∧ Aside0 (Below w.heap.size w w'))
 case atStart => exact ⟨(0), (0), rdT, rdT, H', ⟨Nat.le_refl _⟩, ⟨by (with_reducible repeat (first | refine blk_drewN ?_ _ | refine blk_drew ?_ | refine blk_alloc ?_ _)); exact BK241.out⟩, ⟨hbT HB.out⟩⟩
 case round =>
  clear H'; (try clear c2 p2); obtain ⟨x3_1, x4_1, rfl, rfl, HA, HK1, BK241, HB⟩ := hrel
  cases gk with
  | zero => exact absurd HA.out (by simp [spec_CountEdits.l0])
  | succ k1 =>
   have H := HA.out; clear HA
   simp only [spec_CountEdits.l0] at H
   by_cases c3 : x4_1 < (l0_0.length : Int)
   ·rw [if_pos c3] at H
    have c3b0 : decide (x4_1 < (l0_0.length : Int)) = true := decide_eq_true c3
    clear c3
    by_cases c4 : 0 ≤ x4_1
    ·rw [if_pos c4] at H
     have c4b0 : decide (0 ≤ x4_1) = true := decide_eq_true c4
     clear c4
     by_cases c5 : ((rd_T70 l0_0 x4_1).f0) = ((rd_T70 l0_0 x4_1).f1)
     ·rw [if_pos c5] at H
      have c5b0 : (((rd_T70 l0_0 x4_1).f0) == ((rd_T70 l0_0 x4_1).f1)) = true := beq_iff_eq.mpr c5
      have c5b1 : (((rd_T70 l0_0 x4_1).f0) != ((rd_T70 l0_0 x4_1).f1)) = false := bne_eq_false_iff_eq.mpr c5
      clear c5; have H' := Aside0.mk H; clear H
      have hcz6_0 := bc0 BK241.out
      have hfz6_0 := blk_frozen BK241.out 0
      have p242 : 0 ≤ (x4_1 : Int) := of_decide_eq_true asmT
      have q242 : x4_1 < (l0_0.length : Int) := of_decide_eq_true asmT
      obtain ⟨ad242, e242, hx242_0, hx242_1⟩ := at_T70 HR0_0.out x4_1 p242 q242
      cases e242
      replace hx242_0 := hbc HB.out hx242_0; replace hx242_1 := hbc HB.out hx242_1; replace p242 := eq_true p242; replace q242 := eq_true q242
      have p243 : 0 ≤ (x4_1 : Int) := of_decide_eq_true asmT
      have q243 : x4_1 < (l0_0.length : Int) := of_decide_eq_true asmT
      obtain ⟨ad243, e243, hx243_0, hx243_1⟩ := at_T70 HR0_0.out x4_1 p243 q243
      obtain rfl : ad242 = ad243 := (by injection e243)
      replace hx243_0 := hbc HB.out hx243_0; replace hx243_1 := hbc HB.out hx243_1; replace p243 := eq_true p243; replace q243 := eq_true q243
      go_wp2
      repeat (go_quiet (fail); try go_wp2)
      go_roundg k1
      case measure => have := HK1.out; omega
      case rel => exact ⟨(x3_1), (wrap64 (x4_1 + 1)), rdT, rdT, H', ⟨by have := HK1.out; omega⟩, ⟨by (with_reducible repeat (first | refine blk_drewN ?_ _ | refine blk_drew ?_ | refine blk_alloc ?_ _)); exact BK241.out⟩, ⟨hbT HB.out⟩⟩
     ·rw [if_neg c5] at H
      have c5b0 : (((rd_T70 l0_0 x4_1).f0) == ((rd_T70 l0_0 x4_1).f1)) = false := beq_eq_false_iff_ne.mpr c5
      have c5b1 : (((rd_T70 l0_0 x4_1).f0) != ((rd_T70 l0_0 x4_1).f1)) = true := bne_iff_ne.mpr c5
      have H' := Aside0.mk H; clear H
      have hcz7_0 := bc0 BK241.out
      have hfz7_0 := blk_frozen BK241.out 0
      have p242 : 0 ≤ (x4_1 : Int) := of_decide_eq_true asmT
      have q242 : x4_1 < (l0_0.length : Int) := of_decide_eq_true asmT
      obtain ⟨ad242, e242, hx242_0, hx242_1⟩ := at_T70 HR0_0.out x4_1 p242 q242
      cases e242
      replace hx242_0 := hbc HB.out hx242_0; replace hx242_1 := hbc HB.out hx242_1; replace p242 := eq_true p242; replace q242 := eq_true q242
      have p243 : 0 ≤ (x4_1 : Int) := of_decide_eq_true asmT
      have q243 : x4_1 < (l0_0.length : Int) := of_decide_eq_true asmT
      obtain ⟨ad243, e243, hx243_0, hx243_1⟩ := at_T70 HR0_0.out x4_1 p243 q243
      obtain rfl : ad242 = ad243 := (by injection e243)
      replace hx243_0 := hbc HB.out hx243_0; replace hx243_1 := hbc HB.out hx243_1; replace p243 := eq_true p243; replace q243 := eq_true q243
      go_wp2
      repeat (go_quiet (fail); try go_wp2)
      go_roundg k1
      case measure => have := HK1.out; omega
      case rel => exact ⟨(wrap64 (x3_1 + 1)), (wrap64 (x4_1 + 1)), rdT, rdT, H', ⟨by have := HK1.out; omega⟩, ⟨by (with_reducible repeat (first | refine blk_drewN ?_ _ | refine blk_drew ?_ | refine blk_alloc ?_ _)); exact BK241.out⟩, ⟨hbT HB.out⟩⟩
    ·rw [if_neg c4] at H
     exact absurd H (by simp)
   ·rw [if_neg c3] at H
    have c3b0 : decide (x4_1 < (l0_0.length : Int)) = false := decide_eq_false c3
    clear c3
    obtain rfl := Option.some.inj H
    have hcz8_0 := bc0 BK241.out
    have hfz8_0 := blk_frozen BK241.out 0
    go_wp2
    repeat (go_quiet (fail); try go_wp2)
    go_ret
    exact ⟨rlT, hbT HB.out⟩

/-! ### spec_RowWith: function 6 -/
mutual
def spec_RowWith.l0 : Nat → ByteArray → Int → Int → ByteArray → List ByteArray → List (S48) → List (List Int) → Option (Int)
 | 0, _, _, _, _, _, _, _ => none
 | k + 1, x1, x5, x6, x245000, x245001, x245002, x245003 => if x6 < (x245002.length : Int) then ((spec_IsTableau.f k x245000 x245001 x245002 x245003).bind fun t245 => (spec_RowWith.j1 k x1 x5 x6 t245 x245000 x245001 x245002 x245003)) else (spec_RowWith.j1 k x1 x5 x6 false x245000 x245001 x245002 x245003)
def spec_RowWith.j1 : Nat → ByteArray → Int → Int → Bool → ByteArray → List ByteArray → List (S48) → List (List Int) → Option (Int)
 | 0, _, _, _, _, _, _, _, _ => none
 | k + 1, x1, x5, x6, x15, x245000, x245001, x245002, x245003 => if x15 = true then (if 0 ≤ x6 then (if x6 < (x245002.length : Int) then ((spec_OutputOf.f k ((rd_T48 x245002 x6).f0)).bind fun t247 => (if t247.toList = x1.toList then (if x5 < 0 then (spec_RowWith.l0 k x1 x6 (wrap64 (x6 + 1)) x245000 x245001 x245002 x245003) else ((spec_CountEdits.f k ((rd_T48 x245002 x6).f0)).bind fun t249 => (if 0 ≤ x5 then (if x5 < (x245002.length : Int) then ((spec_CountEdits.f k ((rd_T48 x245002 x5).f0)).bind fun t251 => (if t249 < t251 then (spec_RowWith.l0 k x1 x6 (wrap64 (x6 + 1)) x245000 x245001 x245002 x245003) else (spec_RowWith.l0 k x1 x5 (wrap64 (x6 + 1)) x245000 x245001 x245002 x245003))) else (none)) else (none)))) else (spec_RowWith.l0 k x1 x5 (wrap64 (x6 + 1)) x245000 x245001 x245002 x245003))) else (none)) else (none)) else (some x5)
end
def spec_RowWith.f (k : Nat) (a0_0 : ByteArray) (l0_1 : List ByteArray) (l0_2 : List (S48)) (l0_3 : List (List Int)) (a1 : ByteArray) : Option (Int) := spec_RowWith.l0 k a1 (-1) 0 a0_0 l0_1 l0_2 l0_3
theorem spec_RowWith.mono_l : ∀ k, (∀ y0 y1 y2 y3 y4 y5 y6, LeO (spec_RowWith.l0 k y0 y1 y2 y3 y4 y5 y6) (spec_RowWith.l0 (k + 1) y0 y1 y2 y3 y4 y5 y6)) ∧ (∀ y0 y1 y2 y3 y4 y5 y6 y7, LeO (spec_RowWith.j1 k y0 y1 y2 y3 y4 y5 y6 y7) (spec_RowWith.j1 (k + 1) y0 y1 y2 y3 y4 y5 y6 y7))
 | 0 => ⟨fun _ _ _ _ _ _ _ r h => by simp [spec_RowWith.l0] at h, fun _ _ _ _ _ _ _ _ r h => by simp [spec_RowWith.j1] at h⟩
 | k + 1 => by
  obtain ⟨ih0, ih1⟩ := spec_RowWith.mono_l k; refine ⟨?_, ?_⟩
  ·intro y0 y1 y2 y3 y4 y5 y6
   unfold spec_RowWith.l0
   with_reducible repeat' first | exact ih0 _ _ _ _ _ _ _ | exact ih1 _ _ _ _ _ _ _ _ | exact spec_CountEdits.mono _ _ | exact spec_IsTableau.mono _ _ _ _ _ | exact spec_OutputOf.mono _ _ | exact LeO.refl _ | exact LeO.none _ | refine LeO.ite ?_ ?_ | refine LeO.bind ?_ (fun _ => ?_)
  ·intro y0 y1 y2 y3 y4 y5 y6 y7
   unfold spec_RowWith.j1
   with_reducible repeat' first | exact ih0 _ _ _ _ _ _ _ | exact ih1 _ _ _ _ _ _ _ _ | exact spec_CountEdits.mono _ _ | exact spec_IsTableau.mono _ _ _ _ _ | exact spec_OutputOf.mono _ _ | exact LeO.refl _ | exact LeO.none _ | refine LeO.ite ?_ ?_ | refine LeO.bind ?_ (fun _ => ?_)
theorem spec_RowWith.mono : ∀ a0 a1 a2 a3 a4 k, LeO (spec_RowWith.f k a0 a1 a2 a3 a4) (spec_RowWith.f (k + 1) a0 a1 a2 a3 a4) := by
 intro a0 a1 a2 a3 a4 k
 obtain ⟨ih0, ih1⟩ := spec_RowWith.mono_l k
 unfold spec_RowWith.f
 with_reducible repeat' first | exact ih0 _ _ _ _ _ _ _ | exact ih1 _ _ _ _ _ _ _ _ | exact spec_CountEdits.mono _ _ | exact spec_IsTableau.mono _ _ _ _ _ | exact spec_OutputOf.mono _ _ | exact LeO.refl _ | exact LeO.none _ | refine LeO.ite ?_ ?_ | refine LeO.bind ?_ (fun _ => ?_)
def spec_RowWith.T5 : Bool × List (List Nat × List Nat) := (true, [([], []), ([0], [0]), ([], []), ([1, 2], [1, 2]), ([3], [3]), ([4], [4]), ([], []), ([5, 6], [5, 6]), ([7, 5], [7]), ([8], [8]), ([9, 8], [8, 9]), ([10, 8, 8], [8, 10]), ([11], [11]), ([12, 11], [11, 12]), ([11], [11]), ([13, 14, 11], [11, 13, 14]), ([15, 11], [11, 15]), ([16, 11, 11], [11, 16]), ([11], [11]), ([18, 11], [11, 18]), ([11], [11]), ([19, 20, 11], [11, 19, 20]), ([21, 11], [11, 21]), ([22, 17, 11], [11, 22]), ([17, 23, 11], [11, 17, 23]), ([11, 24, 8], [8, 11, 24]), ([8, 25], [8, 25])])
def spec_RowWith.B5 : List Nat := [0, 1, 0, 7, 15, 31, 0, 127, 255, 511, 1023, 2047, 4095, 8191, 4095, 32767, 65535, 131071, 4095, 266239, 4095, 1839103, 3936255, 8388607, 16777215, 33554431, 67108863]
theorem spec_RowWith.tab5 : rtab .any (opsOf Tryz.f6 5) = spec_RowWith.T5 := by kernel_rfl
theorem spec_RowWith.bits5 : waitsOk spec_RowWith.T5.2 spec_RowWith.B5 = true := by kernel_rfl
set_option maxHeartbeats 8000000 in
set_option maxRecDepth 100000 in
theorem spec_RowWith.calls (k : Nat) (a0_0 : ByteArray) (A0_1 : Option Addr) (c0_1 : Nat) (l0_1 : List ByteArray) (A0_2 : Option Addr) (c0_2 : Nat) (l0_2 : List (S48)) (A0_3 : Option Addr) (c0_3 : Nat) (l0_3 : List (List Int)) (a1 : ByteArray) (r : Int) (w : World) (hr0_1 : Kd.C Kd.string w A0_1 l0_1.length l0_1) (hc0_1 : l0_1.length ≤ c0_1) (hr0_2 : Kd.C k48 w A0_2 l0_2.length l0_2) (hc0_2 : l0_2.length ≤ c0_2) (hr0_3 : Kd.C (Kd.slice 3 (Kd.int .i64)) w A0_3 l0_3.length l0_3) (hc0_3 : l0_3.length ≤ c0_3) (h : spec_RowWith.f k a0_0 l0_1 l0_2 l0_3 a1 = some r) :
  Calls Tryz.prog 6 #[.agg #[.string a0_0, .slice A0_1 l0_1.length c0_1, .slice A0_2 l0_2.length c0_2, .slice A0_3 l0_3.length c0_3], .string a1] w fun e w' => e = .returned (.int .i64 r) ∧ Below w.heap.size w w' := by
 have hu31 := Tryz.underlying31; have hu48 := Tryz.underlying48; have HR0_1 := Aside0.mk hr0_1; have HC0_1 := Aside0.mk hc0_1; clear hr0_1 hc0_1; have HR0_2 := Aside0.mk hr0_2; have HC0_2 := Aside0.mk hc0_2; clear hr0_2 hc0_2; have HR0_3 := Aside0.mk hr0_3; have HC0_3 := Aside0.mk hc0_3; clear hr0_3 hc0_3; have HB := asT (Below.refl w.heap.size w); have H := h; unfold spec_RowWith.f at H; clear h; have H' := Aside0.mk H; clear H
 go_enter Tryz.func6, Tryz.ntmps6
 go_wp2_with (first | ((with_reducible refine gate_dst (N := 2) rfl ?_); refine boxT (N := 2) (cs := #[.string a0_0, .slice A0_1 l0_1.length c0_1, .slice A0_2 l0_2.length c0_2, .slice A0_3 l0_3.length c0_3]) (t := 31) ?_; intro gb244 hg w3 hbox hb; have BK244 := asT hbox; have GW244 := asT (geT hg HB.out); have GE244 := GW244; replace HB := hS HB hb; clear hb hbox hg))
 go_loopg [5, 6] k (fun kq v5 v6 w' => ∃ (x5_1 : Int) (x6_1 : Int), v5 = .int .i64 x5_1 ∧ v6 = .int .i64 x6_1 ∧ Aside0 (spec_RowWith.l0 kq a1 x5_1 x6_1 a0_0 l0_1 l0_2 l0_3 = some r) ∧ Aside0 (kq ≤ k) ∧ Aside0 (w'.heap[gb244]? = some (.cells #[.string a0_0, (.slice A0_1 l0_1.length c0_1), (.slice A0_2 l0_2.length c0_2), (.slice A0_3 l0_3.length c0_3)] 31 (0, 0))) ∧ Aside0 (Below w.heap.size w w'))
 case atStart => exact ⟨((-1)), (0), rdT, rdT, H', ⟨Nat.le_refl _⟩, ⟨by (with_reducible repeat (first | refine blk_drewN ?_ _ | refine blk_drew ?_ | refine blk_alloc ?_ _)); exact BK244.out⟩, ⟨hbT HB.out⟩⟩
 case round =>
  clear H'; (try clear p2); obtain ⟨x5_1, x6_1, rfl, rfl, HA, HK1, BK244, HB⟩ := hrel
  cases gk with
  | zero => exact absurd HA.out (by simp [spec_RowWith.l0])
  | succ k1 =>
   have H := HA.out; clear HA
   simp only [spec_RowWith.l0] at H
   have HC4 := Aside0.mk H; clear H
   go_upto_region 3 with (fail)
   go_cut [15] (fun v15 wc => ∃ (kq : Nat) (x15_3 : Bool), v15 = .bool x15_3 ∧ Aside0 (spec_RowWith.j1 kq a1 x5_1 x6_1 x15_3 a0_0 l0_1 l0_2 l0_3 = some r) ∧ Aside0 (kq ≤ k1) ∧ Aside0 (wc.heap[gb244]? = some (.cells #[.string a0_0, (.slice A0_1 l0_1.length c0_1), (.slice A0_2 l0_2.length c0_2), (.slice A0_3 l0_3.length c0_3)] 31 (0, 0))) ∧ Aside0 (Below w.heap.size w wc))
   case first =>
    have H := HC4.out; clear HC4
    by_cases c5 : x6_1 < (l0_2.length : Int)
    ·rw [if_pos c5] at H
     have c5b0 : decide (x6_1 < (l0_2.length : Int)) = true := decide_eq_true c5
     clear c5
     (first | rw [c5b0] | (simp only [i64_w, i32_w]; rw [c5b0]) | skip)
     obtain ⟨t245, A6, H⟩ := be H; have H' := Aside0.mk H; clear H
     have hcz7_0 := bc0 BK244.out
     have hcz7_1 := bc1 BK244.out
     have hcz7_2 := bc2 BK244.out
     have hcz7_3 := bc3 BK244.out
     have hfz7_0 := blk_frozen BK244.out 0; have hfz7_1 := blk_frozen BK244.out 1; have hfz7_2 := blk_frozen BK244.out 2; have hfz7_3 := blk_frozen BK244.out 3
     go_wp2_with (first | (go_at_call 20; (with_reducible refine (spec_IsTableau.calls k1 a0_0 _ _ l0_1 _ _ l0_2 _ _ l0_3 t245 _ ?side1 ?side2 ?side3 ?side4 ?side5 ?side6 A6.out).mono ?_); (case side1 => exact crT HR0_1.out HB.out); (case side2 => exact HC0_1.out); (case side3 => exact crT HR0_2.out HB.out); (case side4 => exact HC0_2.out); (case side5 => exact crT HR0_3.out HB.out); (case side6 => exact HC0_3.out); rintro e w8 ⟨rfl, hb⟩; replace BK244 := bS BK244 hb; replace HB := hS HB hb; (try clear hb hb2 hk hi)))
     go_meet
     case rel => exact ⟨_, (t245), rdT, H', ⟨by have := HK1.out; first | omega | exact Nat.le_refl _⟩, ⟨by (with_reducible repeat (first | refine blk_drewN ?_ _ | refine blk_drew ?_ | refine blk_alloc ?_ _)); exact BK244.out⟩, ⟨hbT HB.out⟩⟩
    ·rw [if_neg c5] at H
     have c5b0 : decide (x6_1 < (l0_2.length : Int)) = false := decide_eq_false c5
     clear c5
     (first | rw [c5b0] | (simp only [i64_w, i32_w]; rw [c5b0]) | skip)
     have H' := Aside0.mk H; clear H
     have hcz9_0 := bc0 BK244.out
     have hcz9_1 := bc1 BK244.out
     have hcz9_2 := bc2 BK244.out
     have hcz9_3 := bc3 BK244.out
     have hfz9_0 := blk_frozen BK244.out 0; have hfz9_1 := blk_frozen BK244.out 1; have hfz9_2 := blk_frozen BK244.out 2; have hfz9_3 := blk_frozen BK244.out 3
     go_wp2
     go_meet
     case rel => exact ⟨_, (false), rdT, H', ⟨by have := HK1.out; first | omega | exact Nat.le_refl _⟩, ⟨by (with_reducible repeat (first | refine blk_drewN ?_ _ | refine blk_drew ?_ | refine blk_alloc ?_ _)); exact BK244.out⟩, ⟨hbT HB.out⟩⟩
   case rest =>
    clear HC4; (try clear p2 c5 c5b0 c6 hcz7_0 hcz7_1 hcz7_2 hcz7_3 hcz9_0 hcz9_1 hcz9_2 hcz9_3 hfz7_0 hfz7_1 hfz7_2 hfz7_3 hfz9_0 hfz9_1 hfz9_2 hfz9_3 p2); obtain ⟨kq, x15_3, rfl, HA, HJ3, BK244, HB⟩ := hcut
    cases kq with
    | zero => exact absurd HA.out (by simp [spec_RowWith.j1])
    | succ kj3 =>
     have H := HA.out; clear HA
     simp only [spec_RowWith.j1] at H
     by_cases c10 : x15_3 = true
     ·subst c10
      rw [if_pos rfl] at H; have H1 := H; clear H; have H := H1; clear H1
      by_cases c11 : 0 ≤ x6_1
      ·rw [if_pos c11] at H
       have c11b0 : decide (0 ≤ x6_1) = true := decide_eq_true c11
       clear c11
       by_cases c12 : x6_1 < (l0_2.length : Int)
       ·rw [if_pos c12] at H
        have c12b0 : decide (x6_1 < (l0_2.length : Int)) = true := decide_eq_true c12
        clear c12; obtain ⟨t247, A13, H⟩ := be H
        by_cases c14 : t247.toList = a1.toList
        ·rw [if_pos c14] at H
         have c14b0 : (t247.toList == a1.toList) = true := beq_iff_eq.mpr c14
         have c14b1 : (t247.toList != a1.toList) = false := bne_eq_false_iff_eq.mpr c14
         clear c14
         by_cases c15 : x5_1 < 0
         ·rw [if_pos c15] at H
          have c15b0 : decide (x5_1 < 0) = true := decide_eq_true c15
          clear c15; have H' := Aside0.mk H; clear H
          try go_wp2
          replace BK244 := asT (blk_drew BK244.out); replace HB := asT (below_drew1 HB.out)
          have p246 : 0 ≤ (x6_1 : Int) := of_decide_eq_true asmT
          have q246 : x6_1 < (l0_2.length : Int) := of_decide_eq_true asmT
          obtain ⟨ad246, A246_0, c246_0, e246, hx246_0, hl246_0, hi246_0⟩ := at_T48 HR0_2.out x6_1 p246 q246; have hw246_0 := hx246_0
          cases e246
          replace hx246_0 := hbc HB.out hx246_0; have HR246_0 := Aside0.mk hi246_0; have HC246_0 := Aside0.mk hl246_0; clear hi246_0 hl246_0; replace p246 := eq_true p246; replace q246 := eq_true q246
          refine start_ (n := 27) (S := fun w' => w'.cell? ⟨gb244, 0, none⟩ = some (.string a0_0) ∧ w'.cell? ⟨gb244, 1, none⟩ = some (.slice A0_1 l0_1.length c0_1) ∧ w'.cell? ⟨gb244, 2, none⟩ = some (.slice (some ad246) l0_2.length c0_2) ∧ w'.cell? ⟨gb244, 3, none⟩ = some (.slice A0_3 l0_3.length c0_3) ∧ w'.cell? (ad246.add (x6_1).toNat) = some (.slice A246_0 ((rd_T48 l0_2 x6_1).f0).length c246_0)) (ds := []) (bA 27 0) (by kernel_rfl) rfl rfl ⟨bc0 BK244.out, bc1 BK244.out, bc2 BK244.out, bc3 BK244.out, (hbc HB.out hw246_0 :)⟩ (fun hHeld => ?_); refine with_tabW spec_RowWith.tab5 spec_RowWith.bits5 (fun HT_ HW_ => ?_)
          generalize wc.drew = w16 at BK244 HB HR246_0 hx246_0 hHeld ⊢
          refine pA 0 18 27 1 HT_.out ?_ rfl rfl; refine pA 2 20 27 5 HT_.out ?_ rfl rfl; refine pA 6 24 27 69 HT_.out ?_ rfl rfl; refine tA 1 19 27 71 HT_.out HW_.out hHeld ?_ rfl rfl; refine pA 3 21 27 79 HT_.out ?_ rfl rfl; refine tA 4 22 27 95 HT_.out HW_.out hHeld ?_ rfl rfl
          refine oA 5 23 27 127 HT_.out (fun K hK => ?_) rfl rfl
          refine goes_ Tryz.func21 (by kernel_rfl) rfl #[.agg #[.slice A246_0 ((rd_T48 l0_2 x6_1).f0).length c246_0]] (by rfl) rfl rfl eqT ?_
          (with_reducible refine (spec_OutputOf.calls kj3 _ _ ((rd_T48 l0_2 x6_1).f0) t247 _ ?side1 ?side2 A13.out).mono ?_); (case side1 => exact crT HR246_0.out HB.out); (case side2 => exact HC246_0.out); rintro e w17 ⟨rfl, hb⟩; refine ⟨_, rfl, ?_⟩; replace BK244 := bS BK244 hb; replace HB := hS HB hb; (try clear hb hb2 hk hi)
          refine hK.out _ _ ⟨bc0 BK244.out, bc1 BK244.out, bc2 BK244.out, bc3 BK244.out, (hbc HB.out hw246_0 :)⟩ (fun hHeld => ?_)
          clear hK K
          refine nB 23 ?_ rfl; refine pA 7 25 27 255 HT_.out ?_ rfl rfl; refine pA 8 26 27 511 HT_.out ?_ rfl rfl; refine pA 9 27 27 1023 HT_.out ?_ rfl rfl; refine pA 10 28 27 2047 HT_.out ?_ rfl rfl; refine pA 11 29 27 4095 HT_.out ?_ rfl rfl; refine uA 12 30 27 8191 HT_.out ?_ rfl rfl; refine uA 13 31 27 16383 HT_.out ?_ rfl rfl; refine uA 14 32 27 32767 HT_.out ?_ rfl rfl; refine uA 15 33 27 65535 HT_.out ?_ rfl rfl; refine uA 16 34 27 131071 HT_.out ?_ rfl rfl; refine uA 17 35 27 262143 HT_.out ?_ rfl rfl; refine uA 18 36 27 524287 HT_.out ?_ rfl rfl; refine uA 19 37 27 1048575 HT_.out ?_ rfl rfl; refine uA 20 38 27 2097151 HT_.out ?_ rfl rfl; refine uA 21 39 27 4194303 HT_.out ?_ rfl rfl; refine uA 22 40 27 8388607 HT_.out ?_ rfl rfl; refine uA 23 41 27 16777215 HT_.out ?_ rfl rfl; refine uA 24 42 27 33554431 HT_.out ?_ rfl rfl; refine pA 25 43 27 67108863 HT_.out ?_ rfl rfl; refine pA 26 44 27 134217727 HT_.out ?_ rfl rfl
          refine done_ (done_of HT_.out (by kernel_rfl)) ?_
          try go_wp2
          go_roundg kj3
          case measure => have := HK1.out; have := HJ3.out; omega
          case rel => exact ⟨(x6_1), (wrap64 (x6_1 + 1)), rdT, rdT, H', ⟨by have := HK1.out; have := HJ3.out; omega⟩, ⟨by (with_reducible repeat (first | refine blk_drewN ?_ _ | refine blk_drew ?_ | refine blk_alloc ?_ _)); exact BK244.out⟩, ⟨hbT HB.out⟩⟩
         ·rw [if_neg c15] at H
          have c15b0 : decide (x5_1 < 0) = false := decide_eq_false c15
          clear c15; obtain ⟨t249, A18, H⟩ := be H
          by_cases c19 : 0 ≤ x5_1
          ·rw [if_pos c19] at H
           have c19b0 : decide (0 ≤ x5_1) = true := decide_eq_true c19
           clear c19
           by_cases c20 : x5_1 < (l0_2.length : Int)
           ·rw [if_pos c20] at H
            have c20b0 : decide (x5_1 < (l0_2.length : Int)) = true := decide_eq_true c20
            clear c20; obtain ⟨t251, A21, H⟩ := be H
            by_cases c22 : t249 < t251
            ·rw [if_pos c22] at H
             have c22b0 : decide (t249 < t251) = true := decide_eq_true c22
             clear c22; have H' := Aside0.mk H; clear H
             try go_wp2
             replace BK244 := asT (blk_drew BK244.out); replace HB := asT (below_drew1 HB.out)
             have p246 : 0 ≤ (x6_1 : Int) := of_decide_eq_true asmT
             have q246 : x6_1 < (l0_2.length : Int) := of_decide_eq_true asmT
             obtain ⟨ad246, A246_0, c246_0, e246, hx246_0, hl246_0, hi246_0⟩ := at_T48 HR0_2.out x6_1 p246 q246; have hw246_0 := hx246_0
             cases e246
             replace hx246_0 := hbc HB.out hx246_0; have HR246_0 := Aside0.mk hi246_0; have HC246_0 := Aside0.mk hl246_0; clear hi246_0 hl246_0; replace p246 := eq_true p246; replace q246 := eq_true q246
             have p248 : 0 ≤ (x6_1 : Int) := of_decide_eq_true asmT
             have q248 : x6_1 < (l0_2.length : Int) := of_decide_eq_true asmT
             obtain ⟨ad248, A248_0, c248_0, e248, hx248_0, hl248_0, hi248_0⟩ := at_T48 HR0_2.out x6_1 p248 q248; have hw248_0 := hx248_0
             obtain rfl : ad246 = ad248 := (by injection e248)
             obtain ⟨rfl, rfl⟩ : A246_0 = A248_0 ∧ c246_0 = c248_0 := sameT hw246_0 hw248_0; replace hx248_0 := hbc HB.out hx248_0; have HR248_0 := Aside0.mk hi248_0; have HC248_0 := Aside0.mk hl248_0; clear hi248_0 hl248_0; replace p248 := eq_true p248; replace q248 := eq_true q248
             have p250 : 0 ≤ (x5_1 : Int) := of_decide_eq_true asmT
             have q250 : x5_1 < (l0_2.length : Int) := of_decide_eq_true asmT
             obtain ⟨ad250, A250_0, c250_0, e250, hx250_0, hl250_0, hi250_0⟩ := at_T48 HR0_2.out x5_1 p250 q250; have hw250_0 := hx250_0
             obtain rfl : ad246 = ad250 := (by injection e250)
             replace hx250_0 := hbc HB.out hx250_0; have HR250_0 := Aside0.mk hi250_0; have HC250_0 := Aside0.mk hl250_0; clear hi250_0 hl250_0; replace p250 := eq_true p250; replace q250 := eq_true q250
             refine start_ (n := 27) (S := fun w' => w'.cell? ⟨gb244, 0, none⟩ = some (.string a0_0) ∧ w'.cell? ⟨gb244, 1, none⟩ = some (.slice A0_1 l0_1.length c0_1) ∧ w'.cell? ⟨gb244, 2, none⟩ = some (.slice (some ad246) l0_2.length c0_2) ∧ w'.cell? ⟨gb244, 3, none⟩ = some (.slice A0_3 l0_3.length c0_3) ∧ w'.cell? (ad246.add (x6_1).toNat) = some (.slice A246_0 ((rd_T48 l0_2 x6_1).f0).length c246_0) ∧ w'.cell? (ad246.add (x6_1).toNat) = some (.slice A246_0 ((rd_T48 l0_2 x6_1).f0).length c246_0) ∧ w'.cell? (ad246.add (x5_1).toNat) = some (.slice A250_0 ((rd_T48 l0_2 x5_1).f0).length c250_0)) (ds := []) (bA 27 0) (by kernel_rfl) rfl rfl ⟨bc0 BK244.out, bc1 BK244.out, bc2 BK244.out, bc3 BK244.out, (hbc HB.out hw246_0 :), (hbc HB.out hw248_0 :), (hbc HB.out hw250_0 :)⟩ (fun hHeld => ?_); refine with_tabW spec_RowWith.tab5 spec_RowWith.bits5 (fun HT_ HW_ => ?_)
             generalize wc.drew = w23 at BK244 HB HR246_0 HR248_0 HR250_0 hx246_0 hx248_0 hx250_0 hHeld ⊢
             refine pA 0 18 27 1 HT_.out ?_ rfl rfl; refine pA 2 20 27 5 HT_.out ?_ rfl rfl; refine pA 6 24 27 69 HT_.out ?_ rfl rfl; refine tA 1 19 27 71 HT_.out HW_.out hHeld ?_ rfl rfl; refine pA 3 21 27 79 HT_.out ?_ rfl rfl; refine tA 4 22 27 95 HT_.out HW_.out hHeld ?_ rfl rfl
             refine oA 5 23 27 127 HT_.out (fun K hK => ?_) rfl rfl
             refine goes_ Tryz.func21 (by kernel_rfl) rfl #[.agg #[.slice A246_0 ((rd_T48 l0_2 x6_1).f0).length c246_0]] (by rfl) rfl rfl eqT ?_
             (with_reducible refine (spec_OutputOf.calls kj3 _ _ ((rd_T48 l0_2 x6_1).f0) t247 _ ?side1 ?side2 A13.out).mono ?_); (case side1 => exact crT HR246_0.out HB.out); (case side2 => exact HC246_0.out); rintro e w24 ⟨rfl, hb⟩; refine ⟨_, rfl, ?_⟩; replace BK244 := bS BK244 hb; replace HB := hS HB hb; (try clear hb hb2 hk hi)
             refine hK.out _ _ ⟨bc0 BK244.out, bc1 BK244.out, bc2 BK244.out, bc3 BK244.out, (hbc HB.out hw246_0 :), (hbc HB.out hw248_0 :), (hbc HB.out hw250_0 :)⟩ (fun hHeld => ?_)
             clear hK K
             refine nB 23 ?_ rfl; refine pA 7 25 27 255 HT_.out ?_ rfl rfl; refine pA 8 26 27 511 HT_.out ?_ rfl rfl; refine pA 9 27 27 1023 HT_.out ?_ rfl rfl; refine pA 10 28 27 2047 HT_.out ?_ rfl rfl; refine pA 11 29 27 4095 HT_.out ?_ rfl rfl; refine pA 12 30 27 8191 HT_.out ?_ rfl rfl; refine pA 14 32 27 24575 HT_.out ?_ rfl rfl; refine pA 18 36 27 286719 HT_.out ?_ rfl rfl; refine pA 20 38 27 1335295 HT_.out ?_ rfl rfl; refine tA 13 31 27 1343487 HT_.out HW_.out hHeld ?_ rfl rfl; refine pA 15 33 27 1376255 HT_.out ?_ rfl rfl; refine tA 16 34 27 1441791 HT_.out HW_.out hHeld ?_ rfl rfl; refine tA 19 37 27 1966079 HT_.out HW_.out hHeld ?_ rfl rfl; refine pA 21 39 27 4063231 HT_.out ?_ rfl rfl; refine tA 22 40 27 8257535 HT_.out HW_.out hHeld ?_ rfl rfl
             refine oA 17 35 27 8388607 HT_.out (fun K hK => ?_) rfl rfl
             refine goes_ Tryz.func22 (by kernel_rfl) rfl #[.agg #[.slice A246_0 ((rd_T48 l0_2 x6_1).f0).length c246_0]] (by rfl) rfl rfl eqT ?_
             (with_reducible refine (spec_CountEdits.calls kj3 _ _ ((rd_T48 l0_2 x6_1).f0) t249 _ ?side1 ?side2 A18.out).mono ?_); (case side1 => exact crT HR248_0.out HB.out); (case side2 => exact HC248_0.out); rintro e w25 ⟨rfl, hb⟩; refine ⟨_, rfl, ?_⟩; replace BK244 := bS BK244 hb; replace HB := hS HB hb; (try clear hb hb2 hk hi)
             refine hK.out _ _ ⟨bc0 BK244.out, bc1 BK244.out, bc2 BK244.out, bc3 BK244.out, (hbc HB.out hw246_0 :), (hbc HB.out hw248_0 :), (hbc HB.out hw250_0 :)⟩ (fun hHeld => ?_)
             clear hK K
             refine nB 35 ?_ rfl
             refine oA 23 41 27 16777215 HT_.out (fun K hK => ?_) rfl rfl
             refine goes_ Tryz.func22 (by kernel_rfl) rfl #[.agg #[.slice A250_0 ((rd_T48 l0_2 x5_1).f0).length c250_0]] (by rfl) rfl rfl eqT ?_
             (with_reducible refine (spec_CountEdits.calls kj3 _ _ ((rd_T48 l0_2 x5_1).f0) t251 _ ?side1 ?side2 A21.out).mono ?_); (case side1 => exact crT HR250_0.out HB.out); (case side2 => exact HC250_0.out); rintro e w26 ⟨rfl, hb⟩; refine ⟨_, rfl, ?_⟩; replace BK244 := bS BK244 hb; replace HB := hS HB hb; (try clear hb hb2 hk hi)
             refine hK.out _ _ ⟨bc0 BK244.out, bc1 BK244.out, bc2 BK244.out, bc3 BK244.out, (hbc HB.out hw246_0 :), (hbc HB.out hw248_0 :), (hbc HB.out hw250_0 :)⟩ (fun hHeld => ?_)
             clear hK K
             refine nB 41 ?_ rfl; refine pA 24 42 27 33554431 HT_.out ?_ rfl rfl; refine pA 25 43 27 67108863 HT_.out ?_ rfl rfl; refine pA 26 44 27 134217727 HT_.out ?_ rfl rfl
             refine done_ (done_of HT_.out (by kernel_rfl)) ?_
             try go_wp2
             go_roundg kj3
             case measure => have := HK1.out; have := HJ3.out; omega
             case rel => exact ⟨(x6_1), (wrap64 (x6_1 + 1)), rdT, rdT, H', ⟨by have := HK1.out; have := HJ3.out; omega⟩, ⟨by (with_reducible repeat (first | refine blk_drewN ?_ _ | refine blk_drew ?_ | refine blk_alloc ?_ _)); exact BK244.out⟩, ⟨hbT HB.out⟩⟩
            ·rw [if_neg c22] at H
             have c22b0 : decide (t249 < t251) = false := decide_eq_false c22
             clear c22; have H' := Aside0.mk H; clear H
             try go_wp2
             replace BK244 := asT (blk_drew BK244.out); replace HB := asT (below_drew1 HB.out)
             have p246 : 0 ≤ (x6_1 : Int) := of_decide_eq_true asmT
             have q246 : x6_1 < (l0_2.length : Int) := of_decide_eq_true asmT
             obtain ⟨ad246, A246_0, c246_0, e246, hx246_0, hl246_0, hi246_0⟩ := at_T48 HR0_2.out x6_1 p246 q246; have hw246_0 := hx246_0
             cases e246
             replace hx246_0 := hbc HB.out hx246_0; have HR246_0 := Aside0.mk hi246_0; have HC246_0 := Aside0.mk hl246_0; clear hi246_0 hl246_0; replace p246 := eq_true p246; replace q246 := eq_true q246
             have p248 : 0 ≤ (x6_1 : Int) := of_decide_eq_true asmT
             have q248 : x6_1 < (l0_2.length : Int) := of_decide_eq_true asmT
             obtain ⟨ad248, A248_0, c248_0, e248, hx248_0, hl248_0, hi248_0⟩ := at_T48 HR0_2.out x6_1 p248 q248; have hw248_0 := hx248_0
             obtain rfl : ad246 = ad248 := (by injection e248)
             obtain ⟨rfl, rfl⟩ : A246_0 = A248_0 ∧ c246_0 = c248_0 := sameT hw246_0 hw248_0; replace hx248_0 := hbc HB.out hx248_0; have HR248_0 := Aside0.mk hi248_0; have HC248_0 := Aside0.mk hl248_0; clear hi248_0 hl248_0; replace p248 := eq_true p248; replace q248 := eq_true q248
             have p250 : 0 ≤ (x5_1 : Int) := of_decide_eq_true asmT
             have q250 : x5_1 < (l0_2.length : Int) := of_decide_eq_true asmT
             obtain ⟨ad250, A250_0, c250_0, e250, hx250_0, hl250_0, hi250_0⟩ := at_T48 HR0_2.out x5_1 p250 q250; have hw250_0 := hx250_0
             obtain rfl : ad246 = ad250 := (by injection e250)
             replace hx250_0 := hbc HB.out hx250_0; have HR250_0 := Aside0.mk hi250_0; have HC250_0 := Aside0.mk hl250_0; clear hi250_0 hl250_0; replace p250 := eq_true p250; replace q250 := eq_true q250
             refine start_ (n := 27) (S := fun w' => w'.cell? ⟨gb244, 0, none⟩ = some (.string a0_0) ∧ w'.cell? ⟨gb244, 1, none⟩ = some (.slice A0_1 l0_1.length c0_1) ∧ w'.cell? ⟨gb244, 2, none⟩ = some (.slice (some ad246) l0_2.length c0_2) ∧ w'.cell? ⟨gb244, 3, none⟩ = some (.slice A0_3 l0_3.length c0_3) ∧ w'.cell? (ad246.add (x6_1).toNat) = some (.slice A246_0 ((rd_T48 l0_2 x6_1).f0).length c246_0) ∧ w'.cell? (ad246.add (x6_1).toNat) = some (.slice A246_0 ((rd_T48 l0_2 x6_1).f0).length c246_0) ∧ w'.cell? (ad246.add (x5_1).toNat) = some (.slice A250_0 ((rd_T48 l0_2 x5_1).f0).length c250_0)) (ds := []) (bA 27 0) (by kernel_rfl) rfl rfl ⟨bc0 BK244.out, bc1 BK244.out, bc2 BK244.out, bc3 BK244.out, (hbc HB.out hw246_0 :), (hbc HB.out hw248_0 :), (hbc HB.out hw250_0 :)⟩ (fun hHeld => ?_); refine with_tabW spec_RowWith.tab5 spec_RowWith.bits5 (fun HT_ HW_ => ?_)
             generalize wc.drew = w27 at BK244 HB HR246_0 HR248_0 HR250_0 hx246_0 hx248_0 hx250_0 hHeld ⊢
             refine pA 0 18 27 1 HT_.out ?_ rfl rfl; refine pA 2 20 27 5 HT_.out ?_ rfl rfl; refine pA 6 24 27 69 HT_.out ?_ rfl rfl; refine tA 1 19 27 71 HT_.out HW_.out hHeld ?_ rfl rfl; refine pA 3 21 27 79 HT_.out ?_ rfl rfl; refine tA 4 22 27 95 HT_.out HW_.out hHeld ?_ rfl rfl
             refine oA 5 23 27 127 HT_.out (fun K hK => ?_) rfl rfl
             refine goes_ Tryz.func21 (by kernel_rfl) rfl #[.agg #[.slice A246_0 ((rd_T48 l0_2 x6_1).f0).length c246_0]] (by rfl) rfl rfl eqT ?_
             (with_reducible refine (spec_OutputOf.calls kj3 _ _ ((rd_T48 l0_2 x6_1).f0) t247 _ ?side1 ?side2 A13.out).mono ?_); (case side1 => exact crT HR246_0.out HB.out); (case side2 => exact HC246_0.out); rintro e w28 ⟨rfl, hb⟩; refine ⟨_, rfl, ?_⟩; replace BK244 := bS BK244 hb; replace HB := hS HB hb; (try clear hb hb2 hk hi)
             refine hK.out _ _ ⟨bc0 BK244.out, bc1 BK244.out, bc2 BK244.out, bc3 BK244.out, (hbc HB.out hw246_0 :), (hbc HB.out hw248_0 :), (hbc HB.out hw250_0 :)⟩ (fun hHeld => ?_)
             clear hK K
             refine nB 23 ?_ rfl; refine pA 7 25 27 255 HT_.out ?_ rfl rfl; refine pA 8 26 27 511 HT_.out ?_ rfl rfl; refine pA 9 27 27 1023 HT_.out ?_ rfl rfl; refine pA 10 28 27 2047 HT_.out ?_ rfl rfl; refine pA 11 29 27 4095 HT_.out ?_ rfl rfl; refine pA 12 30 27 8191 HT_.out ?_ rfl rfl; refine pA 14 32 27 24575 HT_.out ?_ rfl rfl; refine pA 18 36 27 286719 HT_.out ?_ rfl rfl; refine pA 20 38 27 1335295 HT_.out ?_ rfl rfl; refine tA 13 31 27 1343487 HT_.out HW_.out hHeld ?_ rfl rfl; refine pA 15 33 27 1376255 HT_.out ?_ rfl rfl; refine tA 16 34 27 1441791 HT_.out HW_.out hHeld ?_ rfl rfl; refine tA 19 37 27 1966079 HT_.out HW_.out hHeld ?_ rfl rfl; refine pA 21 39 27 4063231 HT_.out ?_ rfl rfl; refine tA 22 40 27 8257535 HT_.out HW_.out hHeld ?_ rfl rfl
             refine oA 17 35 27 8388607 HT_.out (fun K hK => ?_) rfl rfl
             refine goes_ Tryz.func22 (by kernel_rfl) rfl #[.agg #[.slice A246_0 ((rd_T48 l0_2 x6_1).f0).length c246_0]] (by rfl) rfl rfl eqT ?_
             (with_reducible refine (spec_CountEdits.calls kj3 _ _ ((rd_T48 l0_2 x6_1).f0) t249 _ ?side1 ?side2 A18.out).mono ?_); (case side1 => exact crT HR248_0.out HB.out); (case side2 => exact HC248_0.out); rintro e w29 ⟨rfl, hb⟩; refine ⟨_, rfl, ?_⟩; replace BK244 := bS BK244 hb; replace HB := hS HB hb; (try clear hb hb2 hk hi)
             refine hK.out _ _ ⟨bc0 BK244.out, bc1 BK244.out, bc2 BK244.out, bc3 BK244.out, (hbc HB.out hw246_0 :), (hbc HB.out hw248_0 :), (hbc HB.out hw250_0 :)⟩ (fun hHeld => ?_)
             clear hK K
             refine nB 35 ?_ rfl
             refine oA 23 41 27 16777215 HT_.out (fun K hK => ?_) rfl rfl
             refine goes_ Tryz.func22 (by kernel_rfl) rfl #[.agg #[.slice A250_0 ((rd_T48 l0_2 x5_1).f0).length c250_0]] (by rfl) rfl rfl eqT ?_
             (with_reducible refine (spec_CountEdits.calls kj3 _ _ ((rd_T48 l0_2 x5_1).f0) t251 _ ?side1 ?side2 A21.out).mono ?_); (case side1 => exact crT HR250_0.out HB.out); (case side2 => exact HC250_0.out); rintro e w30 ⟨rfl, hb⟩; refine ⟨_, rfl, ?_⟩; replace BK244 := bS BK244 hb; replace HB := hS HB hb; (try clear hb hb2 hk hi)
             refine hK.out _ _ ⟨bc0 BK244.out, bc1 BK244.out, bc2 BK244.out, bc3 BK244.out, (hbc HB.out hw246_0 :), (hbc HB.out hw248_0 :), (hbc HB.out hw250_0 :)⟩ (fun hHeld => ?_)
             clear hK K
             refine nB 41 ?_ rfl; refine pA 24 42 27 33554431 HT_.out ?_ rfl rfl; refine pA 25 43 27 67108863 HT_.out ?_ rfl rfl; refine pA 26 44 27 134217727 HT_.out ?_ rfl rfl
             refine done_ (done_of HT_.out (by kernel_rfl)) ?_
             try go_wp2
             go_roundg kj3
             case measure => have := HK1.out; have := HJ3.out; omega
             case rel => exact ⟨(x5_1), (wrap64 (x6_1 + 1)), rdT, rdT, H', ⟨by have := HK1.out; have := HJ3.out; omega⟩, ⟨by (with_reducible repeat (first | refine blk_drewN ?_ _ | refine blk_drew ?_ | refine blk_alloc ?_ _)); exact BK244.out⟩, ⟨hbT HB.out⟩⟩
           ·rw [if_neg c20] at H
            exact absurd H (by simp)
          ·rw [if_neg c19] at H
           exact absurd H (by simp)
        ·rw [if_neg c14] at H
         have c14b0 : (t247.toList == a1.toList) = false := beq_eq_false_iff_ne.mpr c14
         have c14b1 : (t247.toList != a1.toList) = true := bne_iff_ne.mpr c14
         have H' := Aside0.mk H; clear H
         try go_wp2
         replace BK244 := asT (blk_drew BK244.out); replace HB := asT (below_drew1 HB.out)
         have p246 : 0 ≤ (x6_1 : Int) := of_decide_eq_true asmT
         have q246 : x6_1 < (l0_2.length : Int) := of_decide_eq_true asmT
         obtain ⟨ad246, A246_0, c246_0, e246, hx246_0, hl246_0, hi246_0⟩ := at_T48 HR0_2.out x6_1 p246 q246; have hw246_0 := hx246_0
         cases e246
         replace hx246_0 := hbc HB.out hx246_0; have HR246_0 := Aside0.mk hi246_0; have HC246_0 := Aside0.mk hl246_0; clear hi246_0 hl246_0; replace p246 := eq_true p246; replace q246 := eq_true q246
         refine start_ (n := 27) (S := fun w' => w'.cell? ⟨gb244, 0, none⟩ = some (.string a0_0) ∧ w'.cell? ⟨gb244, 1, none⟩ = some (.slice A0_1 l0_1.length c0_1) ∧ w'.cell? ⟨gb244, 2, none⟩ = some (.slice (some ad246) l0_2.length c0_2) ∧ w'.cell? ⟨gb244, 3, none⟩ = some (.slice A0_3 l0_3.length c0_3) ∧ w'.cell? (ad246.add (x6_1).toNat) = some (.slice A246_0 ((rd_T48 l0_2 x6_1).f0).length c246_0)) (ds := []) (bA 27 0) (by kernel_rfl) rfl rfl ⟨bc0 BK244.out, bc1 BK244.out, bc2 BK244.out, bc3 BK244.out, (hbc HB.out hw246_0 :)⟩ (fun hHeld => ?_); refine with_tabW spec_RowWith.tab5 spec_RowWith.bits5 (fun HT_ HW_ => ?_)
         generalize wc.drew = w31 at BK244 HB HR246_0 hx246_0 hHeld ⊢
         refine pA 0 18 27 1 HT_.out ?_ rfl rfl; refine pA 2 20 27 5 HT_.out ?_ rfl rfl; refine pA 6 24 27 69 HT_.out ?_ rfl rfl; refine tA 1 19 27 71 HT_.out HW_.out hHeld ?_ rfl rfl; refine pA 3 21 27 79 HT_.out ?_ rfl rfl; refine tA 4 22 27 95 HT_.out HW_.out hHeld ?_ rfl rfl
         refine oA 5 23 27 127 HT_.out (fun K hK => ?_) rfl rfl
         refine goes_ Tryz.func21 (by kernel_rfl) rfl #[.agg #[.slice A246_0 ((rd_T48 l0_2 x6_1).f0).length c246_0]] (by rfl) rfl rfl eqT ?_
         (with_reducible refine (spec_OutputOf.calls kj3 _ _ ((rd_T48 l0_2 x6_1).f0) t247 _ ?side1 ?side2 A13.out).mono ?_); (case side1 => exact crT HR246_0.out HB.out); (case side2 => exact HC246_0.out); rintro e w32 ⟨rfl, hb⟩; refine ⟨_, rfl, ?_⟩; replace BK244 := bS BK244 hb; replace HB := hS HB hb; (try clear hb hb2 hk hi)
         refine hK.out _ _ ⟨bc0 BK244.out, bc1 BK244.out, bc2 BK244.out, bc3 BK244.out, (hbc HB.out hw246_0 :)⟩ (fun hHeld => ?_)
         clear hK K
         refine nB 23 ?_ rfl; refine pA 7 25 27 255 HT_.out ?_ rfl rfl; refine pA 8 26 27 511 HT_.out ?_ rfl rfl; refine uA 9 27 27 1023 HT_.out ?_ rfl rfl; refine uA 10 28 27 2047 HT_.out ?_ rfl rfl; refine uA 11 29 27 4095 HT_.out ?_ rfl rfl; refine uA 12 30 27 8191 HT_.out ?_ rfl rfl; refine uA 13 31 27 16383 HT_.out ?_ rfl rfl; refine uA 14 32 27 32767 HT_.out ?_ rfl rfl; refine uA 15 33 27 65535 HT_.out ?_ rfl rfl; refine uA 16 34 27 131071 HT_.out ?_ rfl rfl; refine uA 17 35 27 262143 HT_.out ?_ rfl rfl; refine uA 18 36 27 524287 HT_.out ?_ rfl rfl; refine uA 19 37 27 1048575 HT_.out ?_ rfl rfl; refine uA 20 38 27 2097151 HT_.out ?_ rfl rfl; refine uA 21 39 27 4194303 HT_.out ?_ rfl rfl; refine uA 22 40 27 8388607 HT_.out ?_ rfl rfl; refine uA 23 41 27 16777215 HT_.out ?_ rfl rfl; refine uA 24 42 27 33554431 HT_.out ?_ rfl rfl; refine uA 25 43 27 67108863 HT_.out ?_ rfl rfl; refine pA 26 44 27 134217727 HT_.out ?_ rfl rfl
         refine done_ (done_of HT_.out (by kernel_rfl)) ?_
         try go_wp2
         go_roundg kj3
         case measure => have := HK1.out; have := HJ3.out; omega
         case rel => exact ⟨(x5_1), (wrap64 (x6_1 + 1)), rdT, rdT, H', ⟨by have := HK1.out; have := HJ3.out; omega⟩, ⟨by (with_reducible repeat (first | refine blk_drewN ?_ _ | refine blk_drew ?_ | refine blk_alloc ?_ _)); exact BK244.out⟩, ⟨hbT HB.out⟩⟩
       ·rw [if_neg c12] at H
        exact absurd H (by simp)
      ·rw [if_neg c11] at H
       exact absurd H (by simp)
     ·replace c10 := Bool.eq_false_iff.mpr c10
      subst c10; rw [if_neg nF] at H; have H1 := H; clear H; have H := H1; clear H1
      obtain rfl := Option.some.inj H
      go_wp2
      go_ret
      exact ⟨rlT, hbT HB.out⟩

/-! ### laws_toStringS: function 12 -/
def laws_toStringS.l0 : Nat → List ByteArray → List ByteArray → Int → Option (List ByteArray)
 | 0, _, _, _ => none
 | k + 1, x0, x3, x4 => if x4 < (x0.length : Int) then (if 0 ≤ x4 then (if x4 < (x3.length : Int) then (laws_toStringS.l0 k x0 (x3.set (x4 : Int).toNat (rdOf ByteArray.empty x0 x4)) (wrap64 (x4 + 1))) else (none)) else (none)) else (some x3)
def laws_toStringS.f (k : Nat) (l0 : List ByteArray) : Option (List ByteArray) := if 0 ≤ (l0.length : Int) then (if ((l0.length : Int) : Int).toNat ≤ 17592186044416 then (laws_toStringS.l0 k l0 (List.replicate ((l0.length : Int) : Int).toNat (⟨#[]⟩ : ByteArray)) 0) else (none)) else (none)
theorem laws_toStringS.mono_l : ∀ k, (∀ y0 y1 y2, LeO (laws_toStringS.l0 k y0 y1 y2) (laws_toStringS.l0 (k + 1) y0 y1 y2))
 | 0 => fun _ _ _ r h => by simp [laws_toStringS.l0] at h
 | k + 1 => by
  have ih0 := laws_toStringS.mono_l k
  ·intro y0 y1 y2
   unfold laws_toStringS.l0
   with_reducible repeat' first | exact ih0 _ _ _ | exact LeO.refl _ | exact LeO.none _ | refine LeO.ite ?_ ?_ | refine LeO.bind ?_ (fun _ => ?_)
theorem laws_toStringS.mono : ∀ a0 k, LeO (laws_toStringS.f k a0) (laws_toStringS.f (k + 1) a0) := by
 intro a0 k
 have ih0 := laws_toStringS.mono_l k
 unfold laws_toStringS.f
 with_reducible repeat' first | exact ih0 _ _ _ | exact LeO.refl _ | exact LeO.none _ | refine LeO.ite ?_ ?_ | refine LeO.bind ?_ (fun _ => ?_)
set_option maxHeartbeats 8000000 in
set_option maxRecDepth 100000 in
theorem laws_toStringS.calls (k : Nat) (A0 : Option Addr) (c0 : Nat) (l0 : List ByteArray) (r : List ByteArray) (w : World) (hr0 : Kd.C Kd.string w A0 l0.length l0) (hc0 : l0.length ≤ c0) (h : laws_toStringS.f k l0 = some r) :
  Calls Tryz.prog 12 #[.slice A0 l0.length c0] w fun e w' => ∃ v0_ : Value, e = .returned (v0_) ∧ Kd.R Kd.string 9 w' w.heap.size (fun _ => True) v0_ r ∧ Below w.heap.size w w' := by
 have HR0 := Aside0.mk hr0; have HC0 := Aside0.mk hc0; clear hr0 hc0; have HB := asT (Below.refl w.heap.size w); have H := h; unfold laws_toStringS.f at H; clear h
 by_cases c2 : 0 ≤ (l0.length : Int)
 ·rw [if_pos c2] at H
  have c2b0 := eq_true c2
  have c2b1 : decide (0 ≤ (l0.length : Int)) = true := decide_eq_true c2
  clear c2
  by_cases c3 : ((l0.length : Int) : Int).toNat ≤ 17592186044416
  ·rw [if_pos c3] at H
   have c3b0 := eq_true c3
   have c3b1 : decide (((l0.length : Int) : Int).toNat ≤ 17592186044416) = true := decide_eq_true c3
   clear c3; obtain ⟨y252, hy252⟩ : ∃ y_ : List ByteArray, y_ = (List.replicate ((l0.length : Int) : Int).toNat (⟨#[]⟩ : ByteArray)) := ⟨_, rfl⟩
   replace H : (laws_toStringS.l0 k l0 y252 0) = some r := by first | (rw [hy252]; with_reducible exact H) | (have H2_ := (Option.bind_some _ _).symm.trans H; rw [hy252]; with_reducible exact H2_) | (have H2_ := (Option.bind_some _ _).symm.trans H; with_reducible exact H2_) | with_reducible exact H | (rw [hy252]; exact H) | exact H
   have Ny252 := Aside0.mk hy252; clear hy252; have H' := Aside0.mk H; clear H
   go_enter Tryz.func12, Tryz.ntmps12
   go_wp2_with (first | ((with_reducible refine gate_dst (N := 7) rfl ?_); refine Kd.R_make Kd.string _ 9 rfl (N := 7) rfl 22 _ _ rfl (l0.length : Int) rfl rfl Tryz.underlying22 (.string ⟨#[]⟩) 16 info9 rfl (by decide) (by omega) (⟨#[]⟩ : ByteArray) (ok := fun _ => True) (okp := fun _ => True) rfl (fun _ hk => hk) trivial (of_decide_eq_true asmT) (Nat.le_trans (Nat.mul_le_mul_right _ (of_decide_eq_true asmT : (l0.length : Int).toNat ≤ 17592186044416)) (by omega)) (Below.refl _ _) (Nat.le_refl _) ?_; intro v253 w4 ho5 hb hg_ hnew_; clear hg_ hnew_; (first | rw [← Ny252.out] at ho5 | (simp only [Int.reduceToNat] at ho5; rw [← Ny252.out] at ho5)); have HO254 := asT (Kd.R_lower ho5 (below_size (hbT HB.out))); replace HB := hS HB hb; clear hb ho5))
   go_loopg [4] k (fun kq v4 w' => ∃ (x3_1 : List ByteArray) (x4_1 : Int), v4 = .int .i64 x4_1 ∧ Aside0 (laws_toStringS.l0 kq l0 x3_1 x4_1 = some r) ∧ Aside0 (kq ≤ k) ∧ Aside0 (Kd.R Kd.string 9 w' w.heap.size (fun _ => True) v253 x3_1) ∧ Aside0 (Below w.heap.size w w'))
   case atStart => exact ⟨(y252), (0), rdT, H', ⟨Nat.le_refl _⟩, ⟨by (with_reducible repeat (first | apply Kd.R_alloc | apply Kd.R_drewN | apply Kd.R_drew)); exact HO254.out⟩, ⟨hbT HB.out⟩⟩
   case round =>
    clear H'; (try clear c1 c2 c2b0 c2b1 p2 c3 c3b0 c3b1); obtain ⟨x3_1, x4_1, rfl, HA, HK1, HO_3, HB⟩ := hrel
    cases gk with
    | zero => exact absurd HA.out (by simp [laws_toStringS.l0])
    | succ k1 =>
     have H := HA.out; clear HA
     simp only [laws_toStringS.l0] at H
     by_cases c6 : x4_1 < (l0.length : Int)
     ·rw [if_pos c6] at H
      have c6b0 : decide (x4_1 < (l0.length : Int)) = true := decide_eq_true c6
      clear c6
      by_cases c7 : 0 ≤ x4_1
      ·rw [if_pos c7] at H
       have c7b0 : decide (0 ≤ x4_1) = true := decide_eq_true c7
       clear c7
       by_cases c8 : x4_1 < (x3_1.length : Int)
       ·rw [if_pos c8] at H
        have c8b0 : decide (x4_1 < (x3_1.length : Int)) = true := decide_eq_true c8
        clear c8; obtain ⟨y256, hy256⟩ : ∃ y_ : List ByteArray, y_ = (x3_1.set (x4_1 : Int).toNat (rdOf ByteArray.empty l0 x4_1)) := ⟨_, rfl⟩
        replace H : (laws_toStringS.l0 k1 l0 y256 (wrap64 (x4_1 + 1))) = some r := by first | (rw [hy256]; with_reducible exact H) | (have H2_ := (Option.bind_some _ _).symm.trans H; rw [hy256]; with_reducible exact H2_) | (have H2_ := (Option.bind_some _ _).symm.trans H; with_reducible exact H2_) | with_reducible exact H | (rw [hy256]; exact H) | exact H
        have Ny256 := Aside0.mk hy256; clear hy256; have H' := Aside0.mk H; clear H
        have p255 : 0 ≤ (x4_1 : Int) := of_decide_eq_true asmT
        have q255 : x4_1 < (l0.length : Int) := of_decide_eq_true asmT
        obtain ⟨ad255, e255, hx255_0⟩ := Kd.at_string HR0.out x4_1 p255 q255
        cases e255
        replace hx255_0 := hbc HB.out hx255_0; replace p255 := eq_true p255; replace q255 := eq_true q255
        have p9 : 0 ≤ (x4_1 : Int) := of_decide_eq_true asmT
        have q9 : (x4_1 : Int) < ((x3_1.length : Int) : Int) := of_decide_eq_true asmT
        obtain ⟨go9, co9, eo9, gb9, gl9, cl9, HG9⟩ := Kd.R_form HO_3.out (by omega)
        (first | cases eo9 | (injection eo9 with ea_ en_ ec_; (first | subst ea_ | (injection ea_ with ea_; subst ea_)); subst ec_; clear en_))
        have GB9 := Aside0.mk gb9; have GG9 := Aside0.mk HG9; clear gb9 gl9 HG9; obtain ⟨hx9_0, hf9_0⟩ := Kd.R_celln (⟨#[]⟩ : ByteArray) HO_3.out (x4_1 : Int) p9 q9; replace p9 := eq_true p9; replace q9 := eq_true q9; have HP10 := Kd.R_putg HO_3.out (x4_1 : Int) (rdOf ByteArray.empty l0 x4_1)
        go_wp2_with (first | ((with_reducible refine gate_store (t := 9) (p := 20) rfl ?_); refine store_event (t := 9) (p := 20) (v := ?vo_w11) (w1 := (wr.setCell ⟨go9, (x4_1 : Int).toNat, none⟩ (.string (rdOf ByteArray.empty l0 x4_1)))) ?hg ?ho ?hn ?hr ?_; (case ho => rfl); (case hg => rfl); (case hn => rfl); (case hr => first | (go_simp; done) | (go_simp; rfl)); intro w11 hw; have hg : wr.grownBy w11 (some go9) := (by rw [hw]; exact HP10.2); have hp_ : Kd.R Kd.string 9 w11 w.heap.size (fun _ => True) (.slice (some ⟨go9, 0, none⟩) x3_1.length co9) y256 := (by rw [hw, Ny256.out]; exact HP10.1); clear HP10; replace HO_3 := asT (hp_); replace HB := asT ((by rw [hw]; exact below_set (HB.out) GB9.out : Below w.heap.size w w11)); clear hg hw hp_))
        go_roundg k1
        case measure => have := HK1.out; omega
        case rel => exact ⟨(y256), (wrap64 (x4_1 + 1)), rdT, H', ⟨by have := HK1.out; omega⟩, ⟨by (with_reducible repeat (first | apply Kd.R_alloc | apply Kd.R_drewN | apply Kd.R_drew)); exact HO_3.out⟩, ⟨hbT HB.out⟩⟩
       ·rw [if_neg c8] at H
        exact absurd H (by simp)
      ·rw [if_neg c7] at H
       exact absurd H (by simp)
     ·rw [if_neg c6] at H
      have c6b0 : decide (x4_1 < (l0.length : Int)) = false := decide_eq_false c6
      clear c6
      obtain rfl := Option.some.inj H
      go_wp2
      go_ret
      exact ⟨_, rlT, by (with_reducible repeat (first | apply Kd.R_alloc | apply Kd.R_drewN | apply Kd.R_drew)); exact HO_3.out, hbT HB.out⟩
  ·rw [if_neg c3] at H
   exact absurd H (by simp)
 ·rw [if_neg c2] at H
  exact absurd H (by simp)

/-! ### laws_toLink: function 110 -/
def laws_toLink.f (a0_0 : Int) (a0_1 : Int) : Option (Int × Int) := some (a0_0, a0_1)
set_option maxHeartbeats 8000000 in
set_option maxRecDepth 100000 in
theorem laws_toLink.calls (a0_0 : Int) (a0_1 : Int) (r1 : Int) (r2 : Int) (w : World) (h : laws_toLink.f a0_0 a0_1 = some (r1, r2)) :
  Calls Tryz.prog 110 #[.agg #[.int .u8 a0_0, .int .u8 a0_1]] w fun e w' => e = .returned (.agg #[.int .u8 r1, .int .u8 r2]) ∧ Below w.heap.size w w' := by
 have hu96 := Tryz.underlying96; have hu70 := Tryz.underlying70; have HB := asT (Below.refl w.heap.size w); have H := h; unfold laws_toLink.f at H; clear h
 simp only [Option.some.injEq, Prod.mk.injEq] at H
 obtain ⟨rfl, rfl⟩ := H
 go_enter Tryz.func110, Tryz.ntmps110
 go_wp2_with (first | ((with_reducible refine gate_dst (N := 1) rfl ?_); refine boxT (N := 1) (cs := #[.int .u8 a0_0, .int .u8 a0_1]) (t := 96) ?_; intro gb257 hg w2 hbox hb; have BK257 := asT hbox; have GW257 := asT (geT hg HB.out); have GE257 := GW257; replace HB := hS HB hb; clear hb hbox hg) | ((with_reducible refine gate_dst (N := 2) rfl ?_); refine boxT (N := 2) (cs := #[.int .u8 0, .int .u8 0]) (t := 70) ?_; intro gb258 hg w3 hbox hb; have BK258 := asT (hbox); have GW258 := asT (geT hg HB.out); have GE258 := asT (geT hg HB.out); replace HB := hS HB hb; have NB257_258 := asT ((by rw [hg]; exact Nat.ne_of_lt (blk_lt (bkT BK257.out)) : gb257 ≠ gb258)); have NB258_257 := asT ((by rw [hg]; exact Nat.ne_of_gt (blk_lt (bkT BK257.out)) : gb258 ≠ gb257)); replace BK257 := bS BK257 hb; clear hb hbox hg) | ((with_reducible refine gate_dst (N := 3) rfl ?_); refine boxT (N := 3) (cs := #[.int .u8 0, .int .u8 0]) (t := 70) ?_; intro gb259 hg w4 hbox hb; have BK259 := asT (hbox); have GW259 := asT (geT hg HB.out); have GE259 := asT (geT hg HB.out); replace HB := hS HB hb; have NB257_259 := asT ((by rw [hg]; exact Nat.ne_of_lt (blk_lt (bkT BK257.out)) : gb257 ≠ gb259)); have NB259_257 := asT ((by rw [hg]; exact Nat.ne_of_gt (blk_lt (bkT BK257.out)) : gb259 ≠ gb257)); replace BK257 := bS BK257 hb; have NB258_259 := asT ((by rw [hg]; exact Nat.ne_of_lt (blk_lt (bkT BK258.out)) : gb258 ≠ gb259)); have NB259_258 := asT ((by rw [hg]; exact Nat.ne_of_gt (blk_lt (bkT BK258.out)) : gb259 ≠ gb258)); replace BK258 := bS BK258 hb; clear hb hbox hg; have hnb5 := NB257_258.out; have hnc5 := NB258_257.out; have hnb6 := NB257_259.out; have hnc6 := NB259_257.out; obtain ⟨hcz7_0, hcz7_1, hfz7_0, hfz7_1⟩ := bx2 BK257.out; have hnb8 := NB259_258.out; have hnc8 := NB258_259.out; obtain ⟨hcz9_0, hcz9_1, hfz9_0, hfz9_1⟩ := bx2 BK259.out; obtain ⟨hcz10_0, hcz10_1, hfz10_0, hfz10_1⟩ := bx2 BK258.out))
 refine bodyPost_ret (results_cell_row rfl _ _ gb258 70 #[.int .u8 a0_0, .int .u8 a0_1] (0, 0) _ rfl (by (with_reducible repeat (first | refine blk_drewN ?_ _ | refine blk_drew ?_ | refine blk_alloc ?_ _)); refine blk_put (cs := #[.int .u8 a0_0, .int .u8 0]) ?_ 1 _ rfl; (with_reducible repeat (first | refine blk_drewN ?_ _ | refine blk_drew ?_ | refine blk_alloc ?_ _)); refine blk_put (cs := #[.int .u8 0, .int .u8 0]) ?_ 0 _ rfl; (with_reducible repeat (first | refine blk_drewN ?_ _ | refine blk_drew ?_ | refine blk_alloc ?_ _)); refine blk_far ?_ NB258_259.out _; (with_reducible repeat (first | refine blk_drewN ?_ _ | refine blk_drew ?_ | refine blk_alloc ?_ _)); refine blk_far ?_ NB258_259.out _; (with_reducible repeat (first | refine blk_drewN ?_ _ | refine blk_drew ?_ | refine blk_alloc ?_ _)); exact BK258.out) Tryz.underlying70 rfl (by kernel_rfl)) rfl ?_
 exact ⟨rlT, hbT HB.out⟩

/-! ### laws_toLinkS: function 80 -/
def laws_toLinkS.l0 : Nat → List (S96) → List (S70) → Int → Option ((List (S70)))
 | 0, _, _, _ => none
 | k + 1, x0, x3, x4 => if x4 < (x0.length : Int) then (if 0 ≤ x4 then ((laws_toLink.f ((rd_T96 x0 x4).f0) ((rd_T96 x0 x4).f1)).bind fun bt264 => (if x4 < (x3.length : Int) then (laws_toLinkS.l0 k x0 (x3.set (x4 : Int).toNat (⟨bt264.1, bt264.2⟩ : S70)) (wrap64 (x4 + 1))) else (none))) else (none)) else (some x3)
def laws_toLinkS.f (k : Nat) (l0 : List (S96)) : Option ((List (S70))) := if 0 ≤ (l0.length : Int) then (if ((l0.length : Int) : Int).toNat ≤ 140737488355328 then (laws_toLinkS.l0 k l0 (List.replicate ((l0.length : Int) : Int).toNat z70) 0) else (none)) else (none)
theorem laws_toLinkS.mono_l : ∀ k, (∀ y0 y1 y2, LeO (laws_toLinkS.l0 k y0 y1 y2) (laws_toLinkS.l0 (k + 1) y0 y1 y2))
 | 0 => fun _ _ _ r h => by simp [laws_toLinkS.l0] at h
 | k + 1 => by
  have ih0 := laws_toLinkS.mono_l k
  ·intro y0 y1 y2
   unfold laws_toLinkS.l0
   with_reducible repeat' first | exact ih0 _ _ _ | exact LeO.refl _ | exact LeO.none _ | refine LeO.ite ?_ ?_ | refine LeO.bind ?_ (fun _ => ?_)
theorem laws_toLinkS.mono : ∀ a0 k, LeO (laws_toLinkS.f k a0) (laws_toLinkS.f (k + 1) a0) := by
 intro a0 k
 have ih0 := laws_toLinkS.mono_l k
 unfold laws_toLinkS.f
 with_reducible repeat' first | exact ih0 _ _ _ | exact LeO.refl _ | exact LeO.none _ | refine LeO.ite ?_ ?_ | refine LeO.bind ?_ (fun _ => ?_)
set_option maxHeartbeats 8000000 in
set_option maxRecDepth 100000 in
theorem laws_toLinkS.calls (k : Nat) (A0 : Option Addr) (c0 : Nat) (l0 : List (S96)) (r : List (S70)) (w : World) (hr0 : Kd.C k96 w A0 l0.length l0) (hc0 : l0.length ≤ c0) (h : laws_toLinkS.f k l0 = some r) :
  Calls Tryz.prog 80 #[.slice A0 l0.length c0] w fun e w' => ∃ v0_ : Value, e = .returned (v0_) ∧ Kd.R k70 70 w' w.heap.size (fun _ => True) v0_ r ∧ Below w.heap.size w w' := by
 have hu96 := Tryz.underlying96; have hu70 := Tryz.underlying70; have HR0 := Aside0.mk hr0; have HC0 := Aside0.mk hc0; clear hr0 hc0; have HB := asT (Below.refl w.heap.size w); have H := h; unfold laws_toLinkS.f at H; clear h
 by_cases c2 : 0 ≤ (l0.length : Int)
 ·rw [if_pos c2] at H
  have c2b0 := eq_true c2
  have c2b1 : decide (0 ≤ (l0.length : Int)) = true := decide_eq_true c2
  clear c2
  by_cases c3 : ((l0.length : Int) : Int).toNat ≤ 140737488355328
  ·rw [if_pos c3] at H
   have c3b0 := eq_true c3
   have c3b1 : decide (((l0.length : Int) : Int).toNat ≤ 140737488355328) = true := decide_eq_true c3
   clear c3; obtain ⟨y260, hy260⟩ : ∃ y_ : List (S70), y_ = (List.replicate ((l0.length : Int) : Int).toNat z70) := ⟨_, rfl⟩
   replace H : (laws_toLinkS.l0 k l0 y260 0) = some r := by first | (rw [hy260]; with_reducible exact H) | (have H2_ := (Option.bind_some _ _).symm.trans H; rw [hy260]; with_reducible exact H2_) | (have H2_ := (Option.bind_some _ _).symm.trans H; with_reducible exact H2_) | with_reducible exact H | (rw [hy260]; exact H) | exact H
   have Ny260 := Aside0.mk hy260; clear hy260; have H' := Aside0.mk H; clear H
   go_enter Tryz.func80, Tryz.ntmps80
   go_wp2_with (first | ((with_reducible refine gate_dst (N := 7) rfl ?_); refine Kd.R_make k70 _ 70 rfl (N := 7) rfl 46 _ _ rfl (l0.length : Int) rfl rfl Tryz.underlying46 (.agg #[(.int .u8 0), (.int .u8 0)]) 2 info70 rfl (by decide) (by omega) z70 (ok := fun _ => True) (okp := fun _ => True) (k70_mkM _ _ _ z70 ) (fun _ hk => hk) trivial (of_decide_eq_true asmT) (Nat.le_trans (Nat.mul_le_mul_right _ (of_decide_eq_true asmT : (l0.length : Int).toNat ≤ 140737488355328)) (by omega)) (Below.refl _ _) (Nat.le_refl _) ?_; intro v261 w4 ho5 hb hg_ hnew_; clear hg_ hnew_; (first | rw [← Ny260.out] at ho5 | (simp only [Int.reduceToNat] at ho5; rw [← Ny260.out] at ho5)); have HO262 := asT (Kd.R_lower ho5 (below_size (hbT HB.out))); replace HB := hS HB hb; clear hb ho5))
   go_loopg [4] k (fun kq v4 w' => ∃ (x3_1 : List (S70)) (x4_1 : Int), v4 = .int .i64 x4_1 ∧ Aside0 (laws_toLinkS.l0 kq l0 x3_1 x4_1 = some r) ∧ Aside0 (kq ≤ k) ∧ Aside0 (Kd.R k70 70 w' w.heap.size (fun _ => True) v261 x3_1) ∧ Aside0 (Below w.heap.size w w'))
   case atStart => exact ⟨(y260), (0), rdT, H', ⟨Nat.le_refl _⟩, ⟨by (with_reducible repeat (first | apply Kd.R_alloc | apply Kd.R_drewN | apply Kd.R_drew)); exact HO262.out⟩, ⟨hbT HB.out⟩⟩
   case round =>
    clear H'; (try clear c2 c2b0 c2b1 p2 c3 c3b0 c3b1); obtain ⟨x3_1, x4_1, rfl, HA, HK1, HO_3, HB⟩ := hrel
    cases gk with
    | zero => exact absurd HA.out (by simp [laws_toLinkS.l0])
    | succ k1 =>
     have H := HA.out; clear HA
     simp only [laws_toLinkS.l0] at H
     by_cases c6 : x4_1 < (l0.length : Int)
     ·rw [if_pos c6] at H
      have c6b0 : decide (x4_1 < (l0.length : Int)) = true := decide_eq_true c6
      clear c6
      by_cases c7 : 0 ≤ x4_1
      ·rw [if_pos c7] at H
       have c7b0 : decide (0 ≤ x4_1) = true := decide_eq_true c7
       clear c7; replace H := Option.bind_eq_some_iff.mp H; obtain ⟨⟨t264, t265⟩, A80, H⟩ := H; replace H : (if x4_1 < (x3_1.length : Int) then (laws_toLinkS.l0 k1 l0 (x3_1.set (x4_1 : Int).toNat (⟨t264, t265⟩ : S70)) (wrap64 (x4_1 + 1))) else (none)) = some r := H; have A8 := Aside0.mk A80; clear A80
       by_cases c9 : x4_1 < (x3_1.length : Int)
       ·rw [if_pos c9] at H
        have c9b0 : decide (x4_1 < (x3_1.length : Int)) = true := decide_eq_true c9
        clear c9; obtain ⟨y266, hy266⟩ : ∃ y_ : List (S70), y_ = (x3_1.set (x4_1 : Int).toNat (⟨t264, t265⟩ : S70)) := ⟨_, rfl⟩
        replace H : (laws_toLinkS.l0 k1 l0 y266 (wrap64 (x4_1 + 1))) = some r := by first | (rw [hy266]; with_reducible exact H) | (have H2_ := (Option.bind_some _ _).symm.trans H; rw [hy266]; with_reducible exact H2_) | (have H2_ := (Option.bind_some _ _).symm.trans H; with_reducible exact H2_) | with_reducible exact H | (rw [hy266]; exact H) | exact H
        have Ny266 := Aside0.mk hy266; clear hy266; have H' := Aside0.mk H; clear H
        have p263 : 0 ≤ (x4_1 : Int) := of_decide_eq_true asmT
        have q263 : x4_1 < (l0.length : Int) := of_decide_eq_true asmT
        obtain ⟨ad263, e263, hx263_0, hx263_1⟩ := at_T96 HR0.out x4_1 p263 q263
        cases e263
        replace hx263_0 := hbc HB.out hx263_0; replace hx263_1 := hbc HB.out hx263_1; replace p263 := eq_true p263; replace q263 := eq_true q263
        go_wp2_with (first | ((with_reducible refine gate_callee (f := 110) rfl ?_); refine goesL_ (some 20) rfl rfl Tryz.func110 (by kernel_rfl) rfl #[.agg #[.int .u8 ((rd_T96 l0 x4_1).f0), .int .u8 ((rd_T96 l0 x4_1).f1)]] rfl eqT ?_; (with_reducible refine (laws_toLink.calls ((rd_T96 l0 x4_1).f0) ((rd_T96 l0 x4_1).f1) t264 t265 _ A8.out).mono ?_); rintro e w11 ⟨rfl, hb⟩; refine ⟨_, rfl, ?_⟩; replace HO_3 := asT (Kd.R_below (roT HO_3.out) hb); replace HB := hS HB hb; (try clear hb hb2 hk hi); have p10 : 0 ≤ (x4_1 : Int) := of_decide_eq_true asmT; have q10 : (x4_1 : Int) < ((x3_1.length : Int) : Int) := of_decide_eq_true asmT; obtain ⟨go10, co10, eo10, gb10, gl10, cl10, HG10⟩ := Kd.R_form HO_3.out (by omega); (first | cases eo10 | (injection eo10 with ea_ en_ ec_; (first | subst ea_ | (injection ea_ with ea_; subst ea_)); subst ec_; clear en_)); have GB10 := Aside0.mk gb10; have GG10 := Aside0.mk HG10; clear gb10 gl10 HG10; obtain ⟨ce10, hcl10, hM10, hcc10, hfr10⟩ := Kd.R_elem HO_3.out z70 (x4_1 : Int) p10 q10; obtain rfl := k70_openM hM10; have hx10_0 : w11.cell? ⟨go10, (x4_1 : Int).toNat * 2, none⟩ = some (.int .u8 ((rd_T70 x3_1 x4_1).f0)) := hcc10 0 _ rfl; have hx10_1 : w11.cell? ⟨go10, (x4_1 : Int).toNat * 2 + 1, none⟩ = some (.int .u8 ((rd_T70 x3_1 x4_1).f1)) := hcc10 1 _ rfl; have hf10_0 : w11.frozen? ⟨go10, (x4_1 : Int).toNat * 2, none⟩ = false := hfr10 0; have hf10_1 : w11.frozen? ⟨go10, (x4_1 : Int).toNat * 2 + 1, none⟩ = false := hfr10 1; clear hcl10 hcc10 hfr10; (try clear hM10); replace p10 := eq_true p10; replace q10 := eq_true q10; have HX12 := asT (show Kd.R k70 70 w11 w.heap.size (fun _ => True) (.slice (some ⟨go10, 0, none⟩) x3_1.length co10) x3_1 from (roT HO_3.out)); obtain ⟨ce12, hcl12, hM12, hcc12, hfr12⟩ := Kd.R_elem HX12.out z70 (x4_1 : Int) (of_decide_eq_true asmT) (by have h_ : (x4_1 : Int) < ((x3_1.length : Int) : Int) := of_decide_eq_true asmT; first | exact h_ | (have e_ := (Kd.R_reads' HO_3.out).1; omega) | simpa using h_); obtain rfl := k70_openM hM12; have HP12 := Kd.R_seg HX12.out (x4_1 : Int) (of_decide_eq_true asmT) (by have h_ : (x4_1 : Int) < ((x3_1.length : Int) : Int) := of_decide_eq_true asmT; first | exact h_ | (have e_ := (Kd.R_reads' HO_3.out).1; omega) | simpa using h_) (seg := [.int .u8 t264, .int .u8 t265]) (j := 0) hcl12 hcc12 (show 2 ≤ 2 from by decide) (x' := (⟨t264, t265⟩ : S70)) (k70_mkM _ _ _ (⟨t264, t265⟩ : S70) ) (fun _ hk => hk); have hx12_0 := hcc12 0 _ rfl; (try simp only [show (k70).sz = 2 from rfl, Nat.mul_one, Nat.add_zero] at hx12_0); have hf12_0 := hfr12 0; (try simp only [show (k70).sz = 2 from rfl, Nat.mul_one, Nat.add_zero] at hf12_0); have hx12_1 := hcc12 1 _ rfl; (try simp only [show (k70).sz = 2 from rfl, Nat.mul_one, Nat.add_zero] at hx12_1); have hf12_1 := hfr12 1; (try simp only [show (k70).sz = 2 from rfl, Nat.mul_one, Nat.add_zero] at hf12_1); clear hcl12 hcc12 hfr12; (try clear hM12)) | ((with_reducible refine gate_store (t := 70) (p := 21) rfl ?_); refine store_event (t := 70) (p := 21) (v := ?vo_w13) (w1 := ((w11.setCell ⟨go10, (x4_1 : Int).toNat * 2, none⟩ (.int .u8 t264)).setCell ⟨go10, (x4_1 : Int).toNat * 2 + 1, none⟩ (.int .u8 t265))) ?hg ?ho ?hn ?hr ?_; (case ho => rfl); (case hg => rfl); (case hn => rfl); (case hr => first | (go_simp; done) | (go_simp; rfl)); intro w13 hw; have hg : w11.grownBy w13 (some go10) := (by rw [hw]; exact HP12.2); have hp_ : Kd.R k70 70 w13 w.heap.size (fun _ => True) (.slice (some ⟨go10, 0, none⟩) x3_1.length co10) y266 := (by rw [hw, Ny266.out]; exact HP12.1); clear HP12; replace HO_3 := asT (hp_); replace HB := asT ((by rw [hw]; exact below_set (below_set (HB.out) GB10.out) GB10.out : Below w.heap.size w w13)); clear hg hw hp_))
        go_roundg k1
        case measure => have := HK1.out; omega
        case rel => exact ⟨(y266), (wrap64 (x4_1 + 1)), rdT, H', ⟨by have := HK1.out; omega⟩, ⟨by (with_reducible repeat (first | apply Kd.R_alloc | apply Kd.R_drewN | apply Kd.R_drew)); exact HO_3.out⟩, ⟨hbT HB.out⟩⟩
       ·rw [if_neg c9] at H
        exact absurd H (by simp)
      ·rw [if_neg c7] at H
       exact absurd H (by simp)
     ·rw [if_neg c6] at H
      have c6b0 : decide (x4_1 < (l0.length : Int)) = false := decide_eq_false c6
      clear c6
      obtain rfl := Option.some.inj H
      go_wp2
      go_ret
      exact ⟨_, rlT, by (with_reducible repeat (first | apply Kd.R_alloc | apply Kd.R_drewN | apply Kd.R_drew)); exact HO_3.out, hbT HB.out⟩
  ·rw [if_neg c3] at H
   exact absurd H (by simp)
 ·rw [if_neg c2] at H
  exact absurd H (by simp)

end Go.Proofs.YtmfhaplhgaehhaaGreat.PFnExactRowWith
