-- Made by gen.py (a program of this session) out of the translation; Lean checks it.
import Derived.Test.YtmfhaplhgaehhabGreatPFnExactFatalMarkx0
import Derived.Test.YtmfhaplhgaehhabGreatPFnExactFatalMarkx1
import Derived.Test.YtmfhaplhgaehhabGreatPFnExactFatalMarkx2
import Derived.Test.YtmfhaplhgaehhabGreatPFnExactFatalMarkx8
import Derived.Test.YtmfhaplhgaehhabGreatPFnExactFatalMarkx11
import Derived.Test.YtmfhaplhgaehhabGreatPFnExactFatalMarkx12
namespace Go.Proofs.YtmfhaplhgaehhabGreat.PFnExactFatalMark
open Go.RowKit Go.Proofs.YtmfhaplhgaehhabGreatB Go.Proofs.YtmfhaplhgaehhabGreatW.PrintWords Go.Proofs.YtmfhaplhgaehhabGreatW.PrintLast Go.Proofs.YtmfhaplhgaehhabGreatW.PrintMore
attribute [local go_sem] max2_int min2_int max_two min_two max_three min_three max_four min_four   -- for this text's walks alone
set_option linter.unusedVariables false
set_option linter.unusedSimpArgs false
mutual
def impl_WinnersOf.j0 : Nat → List Int → Bool → ByteArray → List ByteArray → List (S77) → List (List Int) → Option (List Int)
 | 0, _, _, _, _, _, _ => none
 | k + 1, x1, x18, x534000, x534001, x534002, x534003 => if x18 = true then (some ([] : List Int)) else (impl_WinnersOf.l0 k x1 (([] : List Int)) x534003 (x534003.length : Int) 0 x534000 x534001 x534002 x534003)
def impl_WinnersOf.l0 : Nat → List Int → List Int → List (List Int) → Int → Int → ByteArray → List ByteArray → List (S77) → List (List Int) → Option (List Int)
 | 0, _, _, _, _, _, _, _, _, _ => none
 | k + 1, x1, x5, x21, x22, x23, x534000, x534001, x534002, x534003 => if x23 < x22 then (if 0 ≤ x23 then (if x23 < (x21.length : Int) then (if (x5.length : Int) > 0 then (if 0 < (x5.length : Int) then (if 0 ≤ (rd x5 0) then (if (rd x5 0) < (x534003.length : Int) then ((impl_CompareMarks.f k (rd_L6 x21 x23) (rd_L6 x534003 (rd x5 0)) x1).bind fun t542 => (impl_WinnersOf.j2 k x1 x5 x23 (rd_L6 x21 x23) x21 x22 x23 (decide (t542 < 0)) x534000 x534001 x534002 x534003)) else (none)) else (none)) else (none)) else (impl_WinnersOf.j2 k x1 x5 x23 (rd_L6 x21 x23) x21 x22 x23 false x534000 x534001 x534002 x534003)) else (none)) else (none)) else (some x5)
def impl_WinnersOf.j2 : Nat → List Int → List Int → Int → List Int → List (List Int) → Int → Int → Bool → ByteArray → List ByteArray → List (S77) → List (List Int) → Option (List Int)
 | 0, _, _, _, _, _, _, _, _, _, _, _, _ => none
 | k + 1, x1, x5, x6, x7, x21, x22, x23, x43, x534000, x534001, x534002, x534003 => if x43 = true then (if 0 ≤ (x5.length : Int) then ((some (x5.take (0 : Int).toNat : List Int)).bind fun y543 => (if (y543.length : Int) = 0 then (if y543.length < 17592186044416 then (impl_WinnersOf.l0 k x1 (y543 ++ [x6]) x21 x22 (wrap64 (x23 + 1)) x534000 x534001 x534002 x534003) else (none)) else (if 0 < (y543.length : Int) then (if 0 ≤ (rd y543 0) then (if (rd y543 0) < (x534003.length : Int) then ((impl_CompareMarks.f k x7 (rd_L6 x534003 (rd y543 0)) x1).bind fun t551 => (if t551 = 0 then (if y543.length < 17592186044416 then (impl_WinnersOf.l0 k x1 (y543 ++ [x6]) x21 x22 (wrap64 (x23 + 1)) x534000 x534001 x534002 x534003) else (none)) else (impl_WinnersOf.l0 k x1 y543 x21 x22 (wrap64 (x23 + 1)) x534000 x534001 x534002 x534003))) else (none)) else (none)) else (none)))) else (none)) else (if (x5.length : Int) = 0 then (if x5.length < 17592186044416 then (impl_WinnersOf.l0 k x1 (x5 ++ [x6]) x21 x22 (wrap64 (x23 + 1)) x534000 x534001 x534002 x534003) else (none)) else (if 0 < (x5.length : Int) then (if 0 ≤ (rd x5 0) then (if (rd x5 0) < (x534003.length : Int) then ((impl_CompareMarks.f k x7 (rd_L6 x534003 (rd x5 0)) x1).bind fun t560 => (if t560 = 0 then (if x5.length < 17592186044416 then (impl_WinnersOf.l0 k x1 (x5 ++ [x6]) x21 x22 (wrap64 (x23 + 1)) x534000 x534001 x534002 x534003) else (none)) else (impl_WinnersOf.l0 k x1 x5 x21 x22 (wrap64 (x23 + 1)) x534000 x534001 x534002 x534003))) else (none)) else (none)) else (none)))
end
def impl_WinnersOf.f (k : Nat) (a0_0 : ByteArray) (l0_1 : List ByteArray) (l0_2 : List (S77)) (l0_3 : List (List Int)) (l1 : List Int) : Option (List Int) := (impl_IsTableau.f k a0_0 l0_1 l0_2 l0_3).bind fun t534 => (if t534 = true then ((impl_IsRanking.f k l1 (l0_1.length : Int)).bind fun t535 => (impl_WinnersOf.j0 k l1 (!t535) a0_0 l0_1 l0_2 l0_3)) else (impl_WinnersOf.j0 k l1 true a0_0 l0_1 l0_2 l0_3))
theorem impl_WinnersOf.mono_l : ∀ k, (∀ y0 y1 y2 y3 y4 y5, LeO (impl_WinnersOf.j0 k y0 y1 y2 y3 y4 y5) (impl_WinnersOf.j0 (k + 1) y0 y1 y2 y3 y4 y5)) ∧ (∀ y0 y1 y2 y3 y4 y5 y6 y7 y8, LeO (impl_WinnersOf.l0 k y0 y1 y2 y3 y4 y5 y6 y7 y8) (impl_WinnersOf.l0 (k + 1) y0 y1 y2 y3 y4 y5 y6 y7 y8)) ∧ (∀ y0 y1 y2 y3 y4 y5 y6 y7 y8 y9 y10 y11, LeO (impl_WinnersOf.j2 k y0 y1 y2 y3 y4 y5 y6 y7 y8 y9 y10 y11) (impl_WinnersOf.j2 (k + 1) y0 y1 y2 y3 y4 y5 y6 y7 y8 y9 y10 y11))
 | 0 => ⟨fun _ _ _ _ _ _ r h => by simp [impl_WinnersOf.j0] at h, fun _ _ _ _ _ _ _ _ _ r h => by simp [impl_WinnersOf.l0] at h, fun _ _ _ _ _ _ _ _ _ _ _ _ r h => by simp [impl_WinnersOf.j2] at h⟩
 | k + 1 => by
  obtain ⟨ih0, ih1, ih2⟩ := impl_WinnersOf.mono_l k; refine ⟨?_, ?_, ?_⟩
  ·intro y0 y1 y2 y3 y4 y5
   unfold impl_WinnersOf.j0
   with_reducible repeat' first | exact ih0 _ _ _ _ _ _ | exact ih1 _ _ _ _ _ _ _ _ _ | exact ih2 _ _ _ _ _ _ _ _ _ _ _ _ | exact impl_CompareMarks.mono _ _ _ _ | exact impl_IsRanking.mono _ _ _ | exact impl_IsTableau.mono _ _ _ _ _ | exact LeO.refl _ | exact LeO.none _ | refine LeO.ite ?_ ?_ | refine LeO.bind ?_ (fun _ => ?_)
  ·intro y0 y1 y2 y3 y4 y5 y6 y7 y8
   unfold impl_WinnersOf.l0
   with_reducible repeat' first | exact ih0 _ _ _ _ _ _ | exact ih1 _ _ _ _ _ _ _ _ _ | exact ih2 _ _ _ _ _ _ _ _ _ _ _ _ | exact impl_CompareMarks.mono _ _ _ _ | exact impl_IsRanking.mono _ _ _ | exact impl_IsTableau.mono _ _ _ _ _ | exact LeO.refl _ | exact LeO.none _ | refine LeO.ite ?_ ?_ | refine LeO.bind ?_ (fun _ => ?_)
  ·intro y0 y1 y2 y3 y4 y5 y6 y7 y8 y9 y10 y11
   unfold impl_WinnersOf.j2
   with_reducible repeat' first | exact ih0 _ _ _ _ _ _ | exact ih1 _ _ _ _ _ _ _ _ _ | exact ih2 _ _ _ _ _ _ _ _ _ _ _ _ | exact impl_CompareMarks.mono _ _ _ _ | exact impl_IsRanking.mono _ _ _ | exact impl_IsTableau.mono _ _ _ _ _ | exact LeO.refl _ | exact LeO.none _ | refine LeO.ite ?_ ?_ | refine LeO.bind ?_ (fun _ => ?_)
theorem impl_WinnersOf.mono : ∀ a0 a1 a2 a3 a4 k, LeO (impl_WinnersOf.f k a0 a1 a2 a3 a4) (impl_WinnersOf.f (k + 1) a0 a1 a2 a3 a4) := by
 intro a0 a1 a2 a3 a4 k
 obtain ⟨ih0, ih1, ih2⟩ := impl_WinnersOf.mono_l k
 unfold impl_WinnersOf.f
 with_reducible repeat' first | exact ih0 _ _ _ _ _ _ | exact ih1 _ _ _ _ _ _ _ _ _ | exact ih2 _ _ _ _ _ _ _ _ _ _ _ _ | exact impl_CompareMarks.mono _ _ _ _ | exact impl_IsRanking.mono _ _ _ | exact impl_IsTableau.mono _ _ _ _ _ | exact LeO.refl _ | exact LeO.none _ | refine LeO.ite ?_ ?_ | refine LeO.bind ?_ (fun _ => ?_)
def impl_WinnersOf.T7 : Bool × List (List Nat × List Nat) := (true, [([], []), ([0], [0]), ([1], [1]), ([2], [2]), ([3], [3]), ([3], [3]), ([5, 3], [3, 5]), ([3], [3]), ([7, 3], [3, 7]), ([8, 3], [3, 8]), ([6, 9, 3], [3, 6, 9]), ([10, 3], [3, 10]), ([3], [3]), ([4, 11, 12, 3, 3], [3, 4, 11, 12]), ([13, 3], [3, 13]), ([3, 14], [3, 14])])
def impl_WinnersOf.B7 : List Nat := [0, 1, 3, 7, 15, 15, 47, 15, 143, 399, 1007, 2031, 15, 8191, 16383, 32767]
theorem impl_WinnersOf.tab7 : rtab .any (opsOf Tryz.f26 7) = impl_WinnersOf.T7 := by kernel_rfl
theorem impl_WinnersOf.bits7 : waitsOk impl_WinnersOf.T7.2 impl_WinnersOf.B7 = true := by kernel_rfl
def impl_WinnersOf.T9 : Bool × List (List Nat × List Nat) := (true, [([], []), ([0], [0]), ([1], [1]), ([2], [2]), ([3], [3]), ([3], [3]), ([5, 3], [3, 5]), ([3], [3]), ([7, 3], [3, 7]), ([8, 3], [3, 8]), ([6, 9, 3], [3, 6, 9]), ([10, 3], [3, 10]), ([3], [3]), ([4, 11, 12, 3, 3], [3, 4, 11, 12]), ([13, 3], [3, 13]), ([3, 14], [3, 14])])
def impl_WinnersOf.B9 : List Nat := [0, 1, 3, 7, 15, 15, 47, 15, 143, 399, 1007, 2031, 15, 8191, 16383, 32767]
theorem impl_WinnersOf.tab9 : rtab .any (opsOf Tryz.f26 9) = impl_WinnersOf.T9 := by kernel_rfl
theorem impl_WinnersOf.bits9 : waitsOk impl_WinnersOf.T9.2 impl_WinnersOf.B9 = true := by kernel_rfl
set_option maxHeartbeats 8000000 in
set_option maxRecDepth 100000 in
theorem impl_WinnersOf.calls (k : Nat) (a0_0 : ByteArray) (A0_1 : Option Addr) (c0_1 : Nat) (l0_1 : List ByteArray) (A0_2 : Option Addr) (c0_2 : Nat) (l0_2 : List (S77)) (A0_3 : Option Addr) (c0_3 : Nat) (l0_3 : List (List Int)) (A1 : Option Addr) (c1 : Nat) (l1 : List Int) (r : List Int) (w : World) (hr0_1 : Kd.C Kd.string w A0_1 l0_1.length l0_1) (hc0_1 : l0_1.length ≤ c0_1) (hr0_2 : Kd.C k77 w A0_2 l0_2.length l0_2) (hc0_2 : l0_2.length ≤ c0_2) (hr0_3 : Kd.C (Kd.slice 3 (Kd.int .i64)) w A0_3 l0_3.length l0_3) (hc0_3 : l0_3.length ≤ c0_3) (hr1 : Kd.C (Kd.int .i64) w A1 l1.length l1) (hc1 : l1.length ≤ c1) (h : impl_WinnersOf.f k a0_0 l0_1 l0_2 l0_3 l1 = some r) :
  Calls Tryz.prog 26 #[.agg #[.string a0_0, .slice A0_1 l0_1.length c0_1, .slice A0_2 l0_2.length c0_2, .slice A0_3 l0_3.length c0_3], .slice A1 l1.length c1] w fun e w' => ∃ v0_ : Value, e = .returned (v0_) ∧ Kd.R (Kd.int .i64) 3 w' w.heap.size (fun _ => True) v0_ r ∧ Below w.heap.size w w' := by
 have hu32 := Tryz.underlying32; have HR0_1 := Aside0.mk hr0_1; have HC0_1 := Aside0.mk hc0_1; clear hr0_1 hc0_1; have HR0_2 := Aside0.mk hr0_2; have HC0_2 := Aside0.mk hc0_2; clear hr0_2 hc0_2; have HR0_3 := Aside0.mk hr0_3; have HC0_3 := Aside0.mk hc0_3; clear hr0_3 hc0_3; have HR1 := Aside0.mk hr1; have HC1 := Aside0.mk hc1; clear hr1 hc1; have HB := asT (Below.refl w.heap.size w); have H := h; unfold impl_WinnersOf.f at H; clear h; have HC3 := Aside0.mk H; clear H
 go_enter Tryz.func26, Tryz.ntmps26
 go_upto_region 1 with (first | ((with_reducible refine gate_dst (N := 2) rfl ?_); (try (refine gate_guard (by rfl) ?_; dsimp only)); refine boxT (N := 2) (cs := #[.string a0_0, .slice A0_1 l0_1.length c0_1, .slice A0_2 l0_2.length c0_2, .slice A0_3 l0_3.length c0_3]) (t := 32) ?_; intro gb533 hg w4 hbox hb; have BK533 := asT hbox; have GW533 := asT (geT hg HB.out); have GE533 := GW533; replace HB := hS HB hb; clear hb hbox hg))
 (try simp only [Act.put, sA, sZ, sS])
 go_cut [18] (fun v18 wc => ∃ (kq : Nat) (x18_2 : Bool), v18 = .bool x18_2 ∧ Aside0 (impl_WinnersOf.j0 kq l1 x18_2 a0_0 l0_1 l0_2 l0_3 = some r) ∧ Aside0 (kq ≤ k) ∧ Aside0 (wc.heap[gb533]? = some (.cells #[.string a0_0, (.slice A0_1 l0_1.length c0_1), (.slice A0_2 l0_2.length c0_2), (.slice A0_3 l0_3.length c0_3)] 32 (0, 0))) ∧ Aside0 (Below w.heap.size w wc))
 case first =>
  have H := HC3.out; clear HC3; obtain ⟨t534, A5, H⟩ := be H
  by_cases c6 : t534 = true
  ·subst c6
   rw [if_pos rfl] at H; obtain ⟨t535, A7, H⟩ := be H; have H' := Aside0.mk H; clear H
   have hcz8_0 := bc0 BK533.out
   have hcz8_1 := bc1 BK533.out
   have hcz8_2 := bc2 BK533.out
   have hcz8_3 := bc3 BK533.out
   have hfz8_0 := blk_frozen BK533.out 0; have hfz8_1 := blk_frozen BK533.out 1; have hfz8_2 := blk_frozen BK533.out 2; have hfz8_3 := blk_frozen BK533.out 3
   go_wp2_with (first | ((with_reducible refine gate_callee (f := 40) rfl ?_); refine goesL_ (some 9) rfl rfl Tryz.func40 (by kernel_rfl) rfl #[.agg #[.string a0_0, .slice A0_1 l0_1.length c0_1, .slice A0_2 l0_2.length c0_2, .slice A0_3 l0_3.length c0_3]] rfl eqT ?_; (with_reducible refine (impl_IsTableau.calls k a0_0 _ _ l0_1 _ _ l0_2 _ _ l0_3 true _ ?side1 ?side2 ?side3 ?side4 ?side5 ?side6 A5.out).mono ?_); (case side1 => exact crT HR0_1.out HB.out); (case side2 => exact HC0_1.out); (case side3 => exact crT HR0_2.out HB.out); (case side4 => exact HC0_2.out); (case side5 => exact crT HR0_3.out HB.out); (case side6 => exact HC0_3.out); rintro e w9 ⟨rfl, hb⟩; refine ⟨_, rfl, ?_⟩; replace BK533 := bS BK533 hb; replace HB := hS HB hb; (try clear hb hb2 hk hi); obtain ⟨hcz10_0, hcz10_1, hcz10_2, hcz10_3, hfz10_0, hfz10_1, hfz10_2, hfz10_3⟩ := bx4 BK533.out) | (go_at_call 57; (with_reducible refine (impl_IsRanking.calls k _ _ l1 (l0_1.length : Int) t535 _ ?side1 ?side2 A7.out).mono ?_); (case side1 => exact crT HR1.out HB.out); (case side2 => exact HC1.out); rintro e w11 ⟨rfl, hb⟩; replace BK533 := bS BK533 hb; replace HB := hS HB hb; (try clear hb hb2 hk hi)))
   go_meet
   case rel => exact ⟨_, (!t535), rdT, H', ⟨by first | omega | exact Nat.le_refl _⟩, ⟨by (with_reducible repeat (first | refine blk_drewN ?_ _ | refine blk_drew ?_ | refine blk_alloc ?_ _)); exact BK533.out⟩, ⟨hbT HB.out⟩⟩
  ·replace c6 := Bool.eq_false_iff.mpr c6
   subst c6; rw [if_neg nF] at H; have H' := Aside0.mk H; clear H
   have hcz12_0 := bc0 BK533.out
   have hcz12_1 := bc1 BK533.out
   have hcz12_2 := bc2 BK533.out
   have hcz12_3 := bc3 BK533.out
   have hfz12_0 := blk_frozen BK533.out 0; have hfz12_1 := blk_frozen BK533.out 1; have hfz12_2 := blk_frozen BK533.out 2; have hfz12_3 := blk_frozen BK533.out 3
   go_wp2_with (first | ((with_reducible refine gate_callee (f := 40) rfl ?_); refine goesL_ (some 9) rfl rfl Tryz.func40 (by kernel_rfl) rfl #[.agg #[.string a0_0, .slice A0_1 l0_1.length c0_1, .slice A0_2 l0_2.length c0_2, .slice A0_3 l0_3.length c0_3]] rfl eqT ?_; (with_reducible refine (impl_IsTableau.calls k a0_0 _ _ l0_1 _ _ l0_2 _ _ l0_3 false _ ?side1 ?side2 ?side3 ?side4 ?side5 ?side6 A5.out).mono ?_); (case side1 => exact crT HR0_1.out HB.out); (case side2 => exact HC0_1.out); (case side3 => exact crT HR0_2.out HB.out); (case side4 => exact HC0_2.out); (case side5 => exact crT HR0_3.out HB.out); (case side6 => exact HC0_3.out); rintro e w13 ⟨rfl, hb⟩; refine ⟨_, rfl, ?_⟩; replace BK533 := bS BK533 hb; replace HB := hS HB hb; (try clear hb hb2 hk hi)))
   go_meet
   case rel => exact ⟨_, (true), rdT, H', ⟨by first | omega | exact Nat.le_refl _⟩, ⟨by (with_reducible repeat (first | refine blk_drewN ?_ _ | refine blk_drew ?_ | refine blk_alloc ?_ _)); exact BK533.out⟩, ⟨hbT HB.out⟩⟩
 case rest =>
  clear HC3; (try clear c1 c2 p2 c4 c6 hcz10_0 hcz10_1 hcz10_2 hcz10_3 hcz12_0 hcz12_1 hcz12_2 hcz12_3 hcz8_0 hcz8_1 hcz8_2 hcz8_3 hfz10_0 hfz10_1 hfz10_2 hfz10_3 hfz12_0 hfz12_1 hfz12_2 hfz12_3 hfz8_0 hfz8_1 hfz8_2 hfz8_3); obtain ⟨kq, x18_2, rfl, HA, HJ2, BK533, HB⟩ := hcut
  cases kq with
  | zero => exact absurd HA.out (by simp [impl_WinnersOf.j0])
  | succ kj2 =>
   have H := HA.out; clear HA
   simp only [impl_WinnersOf.j0] at H
   by_cases c14 : x18_2 = true
   ·subst c14
    rw [if_pos rfl] at H; have H1 := H; clear H; have H := H1; clear H1
    obtain rfl := Option.some.inj H
    go_wp2
    go_ret
    exact ⟨_, rlT, by first | exact Kd.R_nil _ _ _ _ _ | exact Kd.N_nil _ _ _ _ _ | exact Kd.V_nil _ _ _ _ _ | exact Kd.Q_nil _ _ _ _ _ | exact Kd.S_nil _ _ _ _ _, hbT HB.out⟩
   ·replace c14 := Bool.eq_false_iff.mpr c14
    subst c14; rw [if_neg nF] at H; obtain ⟨y536, hy536⟩ : ∃ y_ : List Int, y_ = (([] : List Int)) := ⟨_, rfl⟩
    replace H : (impl_WinnersOf.l0 kj2 l1 y536 l0_3 (l0_3.length : Int) 0 a0_0 l0_1 l0_2 l0_3) = some r := by first | (rw [hy536]; with_reducible exact H) | (have H2_ := (Option.bind_some _ _).symm.trans H; rw [hy536]; with_reducible exact H2_) | (have H2_ := (Option.bind_some _ _).symm.trans H; with_reducible exact H2_) | with_reducible exact H | (rw [hy536]; exact H) | exact H
    have Ny536 := Aside0.mk hy536; clear hy536; have H' := Aside0.mk H; clear H
    go_wp2_with (first | ((with_reducible refine gate_dst (N := 19) rfl ?_); (try (refine gate_guard (by rfl) ?_; dsimp only)); refine Kd.R_lit (Kd.int .i64) _ 3 ?hg (N := 19) ?hd (xs := ([] : List Int)) (inner := []) (ok := fun _ => True) (okp := fun _ => True) ?hr ?hp (fun _ hk => hk) trivial (Below.refl _ _) (Nat.le_refl _) (by simp) ?_; (case hd => rfl); (case hg => rfl); (case hr => first | (go_simp; done) | (go_simp; rfl)); (case hp => exact (Reps.none _ _)); intro v537 w15 ho16 hb hg_ hnew_; clear hg_ hnew_; (first | rw [← Ny536.out] at ho16 | (simp only [Int.reduceToNat] at ho16; rw [← Ny536.out] at ho16)); have HO538 := asT (Kd.R_lower ho16 (below_size (hbT HB.out))); replace BK533 := bS BK533 hb; replace HB := hS HB hb; clear hb ho16; obtain ⟨hcz17_0, hcz17_1, hcz17_2, hcz17_3, hfz17_0, hfz17_1, hfz17_2, hfz17_3⟩ := bx4 BK533.out))
    go_loopg [5, 23] kj2 (fun kq v5 v23 w' => ∃ (x5_2 : List Int) (x23_2 : Int), v23 = .int .i64 x23_2 ∧ Aside0 (impl_WinnersOf.l0 kq l1 x5_2 l0_3 (l0_3.length : Int) x23_2 a0_0 l0_1 l0_2 l0_3 = some r) ∧ Aside0 (kq ≤ kj2) ∧ Aside0 (Kd.R (Kd.int .i64) 3 w' w.heap.size (fun _ => True) v5 x5_2) ∧ Aside0 (w'.heap[gb533]? = some (.cells #[.string a0_0, (.slice A0_1 l0_1.length c0_1), (.slice A0_2 l0_2.length c0_2), (.slice A0_3 l0_3.length c0_3)] 32 (0, 0))) ∧ Aside0 (Below w.heap.size w w'))
    case atStart => exact ⟨(y536), (0), rdT, H', ⟨Nat.le_refl _⟩, ⟨by (with_reducible repeat (first | apply Kd.R_alloc | apply Kd.R_drewN | apply Kd.R_drew)); exact HO538.out⟩, ⟨by (with_reducible repeat (first | refine blk_drewN ?_ _ | refine blk_drew ?_ | refine blk_alloc ?_ _)); exact BK533.out⟩, ⟨hbT HB.out⟩⟩
    case round =>
     clear H'; (try clear c1 c2 p2 c4 c6 c14 hcz10_0 hcz10_1 hcz10_2 hcz10_3 hcz12_0 hcz12_1 hcz12_2 hcz12_3 hcz17_0 hcz17_1 hcz17_2 hcz17_3 hcz8_0 hcz8_1 hcz8_2 hcz8_3 hfz10_0 hfz10_1 hfz10_2 hfz10_3 hfz12_0 hfz12_1 hfz12_2 hfz12_3 hfz17_0 hfz17_1 hfz17_2 hfz17_3 hfz8_0 hfz8_1 hfz8_2 hfz8_3 p2); obtain ⟨x5_2, x23_2, rfl, HA, HK2, HO_5, BK533, HB⟩ := hrel
     cases gk with
     | zero => exact absurd HA.out (by simp [impl_WinnersOf.l0])
     | succ k2 =>
      have H := HA.out; clear HA
      simp only [impl_WinnersOf.l0] at H
      by_cases c18 : x23_2 < (l0_3.length : Int)
      ·rw [if_pos c18] at H
       have c18b0 : decide (x23_2 < (l0_3.length : Int)) = true := decide_eq_true c18
       clear c18
       by_cases c19 : 0 ≤ x23_2
       ·rw [if_pos c19] at H
        have c19b0 : decide (0 ≤ x23_2) = true := decide_eq_true c19
        clear c19
        by_cases c20 : x23_2 < (l0_3.length : Int)
        ·rw [if_pos c20] at H
         have c20b0 : decide (x23_2 < (l0_3.length : Int)) = true := decide_eq_true c20
         clear c20; have HC21 := Aside0.mk H; clear H
         have p539 : 0 ≤ (x23_2 : Int) := of_decide_eq_true asmT
         have q539 : x23_2 < (l0_3.length : Int) := of_decide_eq_true asmT
         obtain ⟨ad539, A539_0, c539_0, e539, hx539_0, hl539_0, hi539_0⟩ := at_L6 HR0_3.out x23_2 p539 q539
         cases e539
         replace hx539_0 := hbc HB.out hx539_0; have HR539_0 := Aside0.mk hi539_0; have HC539_0 := Aside0.mk hl539_0; clear hi539_0 hl539_0; replace p539 := eq_true p539; replace q539 := eq_true q539
         go_upto_region 7 with (fail)
         go_cut [43] (fun v43 wc => ∃ (kq : Nat) (x43_20 : Bool), v43 = .bool x43_20 ∧ Aside0 (impl_WinnersOf.j2 kq l1 x5_2 x23_2 (rd_L6 l0_3 x23_2) l0_3 (l0_3.length : Int) x23_2 x43_20 a0_0 l0_1 l0_2 l0_3 = some r) ∧ Aside0 (kq ≤ k2) ∧ Aside0 (Kd.R (Kd.int .i64) 3 wc w.heap.size (fun _ => True) u5 x5_2) ∧ Aside0 (wc.heap[gb533]? = some (.cells #[.string a0_0, (.slice A0_1 l0_1.length c0_1), (.slice A0_2 l0_2.length c0_2), (.slice (some ad539) l0_3.length c0_3)] 32 (0, 0))) ∧ Aside0 (Below w.heap.size w wc))
         case first =>
          have H := HC21.out; clear HC21
          by_cases c22 : (x5_2.length : Int) > 0
          ·rw [if_pos c22] at H
           have c22b0 : decide (0 < (x5_2.length : Int)) = true := decide_eq_true c22
           have c22b1 : decide (0 < x5_2.length) = true := decide_eq_true (by omega)
           clear c22
           (first | rw [c22b0] | (simp only [i64_w, i32_w]; rw [c22b0]) | skip)
           by_cases c23 : 0 < (x5_2.length : Int)
           ·rw [if_pos c23] at H
            have c23b0 : decide (0 < (x5_2.length : Int)) = true := decide_eq_true c23
            have c23b1 : decide (0 < x5_2.length) = true := decide_eq_true (by omega)
            clear c23
            by_cases c24 : 0 ≤ (rd x5_2 0)
            ·rw [if_pos c24] at H
             have c24b0 : decide (0 ≤ (rd x5_2 0)) = true := decide_eq_true c24
             clear c24
             by_cases c25 : (rd x5_2 0) < (l0_3.length : Int)
             ·rw [if_pos c25] at H
              have c25b0 : decide ((rd x5_2 0) < (l0_3.length : Int)) = true := decide_eq_true c25
              clear c25; obtain ⟨t542, A26, H⟩ := be H; have H' := Aside0.mk H; clear H
              try go_wp2
              replace HO_5 := asT (Kd.R_drew HO_5.out); replace BK533 := asT (blk_drew BK533.out); replace HB := asT (below_drew1 HB.out); obtain ⟨Ao28, co28, eo28⟩ := Kd.R_slice HO_5.out; (first | subst eo28 | (injection eo28 with f1_ f2_ f3_; have f4_ := f1_.symm; have f5_ := f3_.symm; clear f1_ f2_ f3_; subst f4_; subst f5_))
              have p540 : 0 ≤ (0 : Int) := (by omega)
              have q540 : 0 < (x5_2.length : Int) := of_decide_eq_true asmT
              obtain ⟨ad540, e540, hx540_0⟩ := Kd.at_int (Kd.R_reads' HO_5.out).2.2 0 p540 q540
              cases e540
              have qi540 : (0 < x5_2.length) = True := eq_true (by omega)
              (try rw [show ((0 : Int)).toNat = 0 from rfl] at hx540_0)
              (try rw [Addr.add_zero'] at hx540_0)
              replace p540 := eq_true p540; replace q540 := eq_true q540
              have p541 : 0 ≤ ((rd x5_2 0) : Int) := of_decide_eq_true asmT
              have q541 : (rd x5_2 0) < (l0_3.length : Int) := of_decide_eq_true asmT
              obtain ⟨ad541, A541_0, c541_0, e541, hx541_0, hl541_0, hi541_0⟩ := at_L6 HR0_3.out (rd x5_2 0) p541 q541; have hw541_0 := hx541_0
              obtain rfl : ad539 = ad541 := (by injection e541)
              replace hx541_0 := hbc HB.out hx541_0; have HR541_0 := Aside0.mk hi541_0; have HC541_0 := Aside0.mk hl541_0; clear hi541_0 hl541_0; replace p541 := eq_true p541; replace q541 := eq_true q541
              refine start_ (n := 16) (S := fun w' => w'.cell? ⟨gb533, 0, none⟩ = some (.string a0_0) ∧ w'.cell? ⟨gb533, 1, none⟩ = some (.slice A0_1 l0_1.length c0_1) ∧ w'.cell? ⟨gb533, 2, none⟩ = some (.slice A0_2 l0_2.length c0_2) ∧ w'.cell? ⟨gb533, 3, none⟩ = some (.slice (some ad539) l0_3.length c0_3) ∧ w'.cell? ad540 = some (.int .i64 (rd x5_2 0)) ∧ w'.cell? (ad539.add ((rd x5_2 0)).toNat) = some (.slice A541_0 (rd_L6 l0_3 (rd x5_2 0)).length c541_0)) (ds := []) (bA 16 0) (by kernel_rfl) rfl rfl ⟨bc0 BK533.out, bc1 BK533.out, bc2 BK533.out, bc3 BK533.out, hx540_0, (hbc HB.out hw541_0 :)⟩ (fun hHeld => ?_); refine with_tabW impl_WinnersOf.tab7 impl_WinnersOf.bits7 (fun HT_ HW_ => ?_)
              generalize wr.drew = w27 at HO_5 BK533 HB HR541_0 hx540_0 hx541_0 hHeld ⊢
              refine pA 0 28 16 1 HT_.out ?_ rfl rfl; refine pA 1 29 16 3 HT_.out ?_ rfl rfl; refine pA 2 30 16 7 HT_.out ?_ rfl rfl; refine pA 3 31 16 15 HT_.out ?_ rfl rfl; refine pA 4 32 16 31 HT_.out ?_ rfl rfl; refine pA 5 33 16 63 HT_.out ?_ rfl rfl; refine pA 7 35 16 191 HT_.out ?_ rfl rfl; refine pA 8 36 16 447 HT_.out ?_ rfl rfl; refine pA 12 40 16 4543 HT_.out ?_ rfl rfl; refine tA 6 34 16 4607 HT_.out HW_.out hHeld ?_ rfl rfl; refine tA 9 37 16 5119 HT_.out HW_.out hHeld ?_ rfl rfl; refine pA 10 38 16 6143 HT_.out ?_ rfl rfl; refine tA 11 39 16 8191 HT_.out HW_.out hHeld ?_ rfl rfl
              refine oA 13 41 16 16383 HT_.out (fun K hK => ?_) rfl rfl
              refine goes_ Tryz.func58 (by kernel_rfl) rfl #[.slice A539_0 (rd_L6 l0_3 x23_2).length c539_0, .slice A541_0 (rd_L6 l0_3 (rd x5_2 0)).length c541_0, .slice A1 l1.length c1] (by rfl) rfl rfl eqT ?_
              (with_reducible refine (impl_CompareMarks.calls k2 _ _ (rd_L6 l0_3 x23_2) _ _ (rd_L6 l0_3 (rd x5_2 0)) _ _ l1 t542 _ ?side1 ?side2 ?side3 ?side4 ?side5 ?side6 A26.out).mono ?_); (case side1 => exact crT HR539_0.out HB.out); (case side2 => exact HC539_0.out); (case side3 => exact crT HR541_0.out HB.out); (case side4 => exact HC541_0.out); (case side5 => exact crT HR1.out HB.out); (case side6 => exact HC1.out); rintro e w29 ⟨rfl, hb⟩; have HS4_ := (hb.cell (World.block_lt_of_cell? _ _ (hHeld.2.2.2.2.1))).trans (hHeld.2.2.2.2.1); refine ⟨_, rfl, ?_⟩; replace HO_5 := asT (Kd.R_below (roT HO_5.out) hb); replace BK533 := bS BK533 hb; replace HB := hS HB hb; (try clear hb hb2 hk hi)
              refine hK.out _ _ ⟨bc0 BK533.out, bc1 BK533.out, bc2 BK533.out, bc3 BK533.out, HS4_, (hbc HB.out hw541_0 :)⟩ (fun hHeld => ?_)
              clear hK K
              refine nB 41 ?_ rfl; refine pA 14 42 16 32767 HT_.out ?_ rfl rfl; refine pA 15 43 16 65535 HT_.out ?_ rfl rfl
              refine done_ (done_of HT_.out (by kernel_rfl)) ?_
              try go_wp2
              go_meet
              case rel => exact ⟨_, (decide (t542 < 0)), rdT, H', ⟨by have := HJ2.out; have := HK2.out; first | omega | exact Nat.le_refl _⟩, ⟨by (with_reducible repeat (first | apply Kd.R_alloc | apply Kd.R_drewN | apply Kd.R_drew)); exact HO_5.out⟩, ⟨by (with_reducible repeat (first | refine blk_drewN ?_ _ | refine blk_drew ?_ | refine blk_alloc ?_ _)); exact BK533.out⟩, ⟨hbT HB.out⟩⟩
             ·rw [if_neg c25] at H
              exact absurd H (by simp)
            ·rw [if_neg c24] at H
             exact absurd H (by simp)
           ·rw [if_neg c23] at H
            exact absurd H (by simp)
          ·rw [if_neg c22] at H
           have c22b0 : decide (0 < (x5_2.length : Int)) = false := decide_eq_false c22
           have c22b1 : decide (0 < x5_2.length) = false := decide_eq_false (by omega)
           clear c22
           (first | rw [c22b0] | (simp only [i64_w, i32_w]; rw [c22b0]) | skip)
           have H' := Aside0.mk H; clear H
           try go_wp2
           replace HO_5 := asT (Kd.R_drew HO_5.out); replace BK533 := asT (blk_drew BK533.out); replace HB := asT (below_drew1 HB.out); obtain ⟨Ao31, co31, eo31⟩ := Kd.R_slice HO_5.out; (first | subst eo31 | (injection eo31 with f1_ f2_ f3_; have f4_ := f1_.symm; have f5_ := f3_.symm; clear f1_ f2_ f3_; subst f4_; subst f5_))
           refine start_ (n := 16) (S := fun w' => True) (ds := []) (bA 16 0) (by kernel_rfl) rfl rfl trivial (fun hHeld => ?_); refine with_tabW impl_WinnersOf.tab7 impl_WinnersOf.bits7 (fun HT_ HW_ => ?_)
           generalize wr.drew = w30 at HO_5 BK533 HB hHeld ⊢
           refine pA 0 28 16 1 HT_.out ?_ rfl rfl; refine pA 1 29 16 3 HT_.out ?_ rfl rfl; refine pA 2 30 16 7 HT_.out ?_ rfl rfl; refine pA 3 31 16 15 HT_.out ?_ rfl rfl; refine uA 4 32 16 31 HT_.out ?_ rfl rfl; refine uA 5 33 16 63 HT_.out ?_ rfl rfl; refine uA 6 34 16 127 HT_.out ?_ rfl rfl; refine uA 7 35 16 255 HT_.out ?_ rfl rfl; refine uA 8 36 16 511 HT_.out ?_ rfl rfl; refine uA 9 37 16 1023 HT_.out ?_ rfl rfl; refine uA 10 38 16 2047 HT_.out ?_ rfl rfl; refine uA 11 39 16 4095 HT_.out ?_ rfl rfl; refine uA 12 40 16 8191 HT_.out ?_ rfl rfl; refine uA 13 41 16 16383 HT_.out ?_ rfl rfl; refine uA 14 42 16 32767 HT_.out ?_ rfl rfl; refine pA 15 43 16 65535 HT_.out ?_ rfl rfl
           refine done_ (done_of HT_.out (by kernel_rfl)) ?_
           try go_wp2
           go_meet
           case rel => exact ⟨_, (false), rdT, H', ⟨by have := HJ2.out; have := HK2.out; first | omega | exact Nat.le_refl _⟩, ⟨by (with_reducible repeat (first | apply Kd.R_alloc | apply Kd.R_drewN | apply Kd.R_drew)); exact HO_5.out⟩, ⟨by (with_reducible repeat (first | refine blk_drewN ?_ _ | refine blk_drew ?_ | refine blk_alloc ?_ _)); exact BK533.out⟩, ⟨hbT HB.out⟩⟩
         case rest =>
          clear HC21; (try clear c1 c2 p2 c4 c5 p5 q5 hx5 qi5 c6 c14 c18 c18b0 c19 c19b0 c20 c20b0 c22 c22b0 c22b1 c23 c23b0 c23b1 c24 c24b0 c25 c25b0 c26 hcz10_0 hcz10_1 hcz10_2 hcz10_3 hcz12_0 hcz12_1 hcz12_2 hcz12_3 hcz17_0 hcz17_1 hcz17_2 hcz17_3 hcz8_0 hcz8_1 hcz8_2 hcz8_3 hfz10_0 hfz10_1 hfz10_2 hfz10_3 hfz12_0 hfz12_1 hfz12_2 hfz12_3 hfz17_0 hfz17_1 hfz17_2 hfz17_3 hfz8_0 hfz8_1 hfz8_2 hfz8_3 hx539_0 hx540_0 hx541_0 p2 p539 p540 p541 q539 q540 q541); obtain ⟨kq, x43_20, rfl, HA, HJ20, HO_5, BK533, HB⟩ := hcut
          cases kq with
          | zero => exact absurd HA.out (by simp [impl_WinnersOf.j2])
          | succ kj20 =>
           have H := HA.out; clear HA
           simp only [impl_WinnersOf.j2] at H
           by_cases c32 : x43_20 = true
           ·subst c32
            rw [if_pos rfl] at H; have H1 := H; clear H; have H := H1; clear H1
            by_cases c33 : 0 ≤ (x5_2.length : Int)
            ·rw [if_pos c33] at H
             have c33b0 := eq_true c33
             have c33b1 : decide (0 ≤ (x5_2.length : Int)) = true := decide_eq_true c33
             clear c33; obtain ⟨y543, hy543⟩ : ∃ y_ : List Int, y_ = (x5_2.take (0 : Int).toNat) := ⟨_, rfl⟩
             replace H : (if (y543.length : Int) = 0 then (if y543.length < 17592186044416 then (impl_WinnersOf.l0 kj20 l1 (y543 ++ [x23_2]) l0_3 (l0_3.length : Int) (wrap64 (x23_2 + 1)) a0_0 l0_1 l0_2 l0_3) else (none)) else (if 0 < (y543.length : Int) then (if 0 ≤ (rd y543 0) then (if (rd y543 0) < (l0_3.length : Int) then ((impl_CompareMarks.f kj20 (rd_L6 l0_3 x23_2) (rd_L6 l0_3 (rd y543 0)) l1).bind fun t551 => (if t551 = 0 then (if y543.length < 17592186044416 then (impl_WinnersOf.l0 kj20 l1 (y543 ++ [x23_2]) l0_3 (l0_3.length : Int) (wrap64 (x23_2 + 1)) a0_0 l0_1 l0_2 l0_3) else (none)) else (impl_WinnersOf.l0 kj20 l1 y543 l0_3 (l0_3.length : Int) (wrap64 (x23_2 + 1)) a0_0 l0_1 l0_2 l0_3))) else (none)) else (none)) else (none))) = some r := by first | (rw [hy543]; with_reducible exact H) | (have H2_ := (Option.bind_some _ _).symm.trans H; rw [hy543]; with_reducible exact H2_) | (have H2_ := (Option.bind_some _ _).symm.trans H; with_reducible exact H2_) | with_reducible exact H | (rw [hy543]; exact H) | exact H
             have Ny543 := Aside0.mk hy543; clear hy543
             by_cases c34 : (y543.length : Int) = 0
             ·rw [if_pos c34] at H
              have c34b0 : ((y543.length : Int) == 0) = true := beq_iff_eq.mpr c34
              have c34b1 : ((y543.length : Int) != 0) = false := bne_eq_false_iff_eq.mpr c34
              clear c34
              by_cases c35 : y543.length < 17592186044416
              ·rw [if_pos c35] at H
               have LMc35 := Aside0.mk c35; clear c35; obtain ⟨y546, hy546⟩ : ∃ y_ : List Int, y_ = (y543 ++ [x23_2]) := ⟨_, rfl⟩
               replace H : (impl_WinnersOf.l0 kj20 l1 y546 l0_3 (l0_3.length : Int) (wrap64 (x23_2 + 1)) a0_0 l0_1 l0_2 l0_3) = some r := by first | (rw [hy546]; with_reducible exact H) | (have H2_ := (Option.bind_some _ _).symm.trans H; rw [hy546]; with_reducible exact H2_) | (have H2_ := (Option.bind_some _ _).symm.trans H; with_reducible exact H2_) | with_reducible exact H | (rw [hy546]; exact H) | exact H
               have Ny546 := Aside0.mk hy546; clear hy546; have H' := Aside0.mk H; clear H; obtain ⟨Ao36, co36, eo36⟩ := Kd.R_slice HO_5.out; subst eo36
               have q37 : (0 : Int) ≤ ((x5_2.length : Int) : Int) := of_decide_eq_true asmT
               obtain ⟨i037, hi037, _, hsz37, _⟩ := info_parts info3; have hcut37 := cut_to (P := Tryz.prog) 28 3 .i64 Tryz.underlying28 hi037 Ao36 x5_2.length co36 0 (by omega) q37 (Kd.R_reads' HO_5.out).2.1; have hr37 := Kd.R_take (m := (0 : Int).toNat) HO_5.out (by omega)
               have hy37 : y543.length = (0 : Int).toNat := (by rw [Ny543.out, List.length_take]; omega)
               rw [← Ny543.out] at hr37; rw [← hy37] at hr37 hcut37; clear hy37 hi037 hsz37 HO_5; have HO545 := Aside0.mk hr37; clear hr37; replace q37 := eq_true q37
               try go_wp2
               replace HO545 := asT (Kd.R_drew HO545.out); replace BK533 := asT (blk_drew BK533.out); replace HB := asT (below_drew1 HB.out)
               refine start_ (n := 16) (S := fun w' => True) (ds := []) (bA 16 0) (by kernel_rfl) rfl rfl trivial (fun hHeld => ?_); refine with_tabW impl_WinnersOf.tab9 impl_WinnersOf.bits9 (fun HT_ HW_ => ?_)
               generalize wc.drew = w38 at HO545 BK533 HB hHeld ⊢
               refine pA 0 46 16 1 HT_.out ?_ rfl rfl; refine pA 1 47 16 3 HT_.out ?_ rfl rfl; refine pA 2 48 16 7 HT_.out ?_ rfl rfl; refine pA 3 49 16 15 HT_.out ?_ rfl rfl; refine uA 4 50 16 31 HT_.out ?_ rfl rfl; refine uA 5 51 16 63 HT_.out ?_ rfl rfl; refine uA 6 52 16 127 HT_.out ?_ rfl rfl; refine uA 7 53 16 255 HT_.out ?_ rfl rfl; refine uA 8 54 16 511 HT_.out ?_ rfl rfl; refine uA 9 55 16 1023 HT_.out ?_ rfl rfl; refine uA 10 56 16 2047 HT_.out ?_ rfl rfl; refine uA 11 57 16 4095 HT_.out ?_ rfl rfl; refine uA 12 58 16 8191 HT_.out ?_ rfl rfl; refine uA 13 59 16 16383 HT_.out ?_ rfl rfl; refine uA 14 60 16 32767 HT_.out ?_ rfl rfl; refine pA 15 61 16 65535 HT_.out ?_ rfl rfl
               refine done_ (done_of HT_.out (by kernel_rfl)) ?_
               try go_wp2_with (first | ((with_reducible refine gate_builtin (b := .append) (xs := #[.tmp 62, .tmp 64]) rfl ?_); (try (refine gate_guard (by rfl) ?_; dsimp only)); at_builtin; refine Kd.R_append (Kd.int .i64) (w0 := w) w.heap.size rfl (.tmp 62) (.tmp 64) 28 3 (.int .i64 0) 8 rfl Tryz.underlying28 info3 rfl (by decide) (by omega) (.slice Ao36 y543.length co36) y543 x23_2 [.int .i64 x23_2] (fun _ => True) (fun _ => False) rfl rfl ?aP (fun _ hk => hk.elim) ?aF ?aO ?aB ?aS ?aL ?_; (case aP => exact rfl); (case aB => exact (hbT HB.out)); (case aF => exact (fun _ _ => trivial)); (case aO => exact (roT HO545.out)); (case aS => exact (below_size (hbT HB.out))); (case aL => have := LMc35.out; omega); intro v547 w39 ho hb hg hat; rw [← Ny546.out] at ho; replace BK533 := asT (blk_grown (g := gb533) (o := .cells #[.string a0_0, .slice A0_1 l0_1.length c0_1, .slice A0_2 l0_2.length c0_2, .slice (some ad539) l0_3.length c0_3] 32 (0, 0)) (bkT BK533.out) hg (Kd.R_ne HO545.out BK533.out (by decide))); replace HB := asT (hb); have HO548 := asT (ho); clear HO545 ho hb hg hat))
               go_roundg kj20
               case measure => have := HJ2.out; have := HK2.out; have := HJ20.out; omega
               case rel => exact ⟨(y546), (wrap64 (x23_2 + 1)), rdT, H', ⟨by have := HJ2.out; have := HK2.out; have := HJ20.out; omega⟩, ⟨by (with_reducible repeat (first | apply Kd.R_alloc | apply Kd.R_drewN | apply Kd.R_drew)); exact HO548.out⟩, ⟨by (with_reducible repeat (first | refine blk_drewN ?_ _ | refine blk_drew ?_ | refine blk_alloc ?_ _)); exact BK533.out⟩, ⟨hbT HB.out⟩⟩
              ·rw [if_neg c35] at H
               exact absurd H (by simp)
             ·rw [if_neg c34] at H
              have c34b0 : ((y543.length : Int) == 0) = false := beq_eq_false_iff_ne.mpr c34
              have c34b1 : ((y543.length : Int) != 0) = true := bne_iff_ne.mpr c34
              have c34b2 : ¬ (y543 = []) := fun h_ => c34 (by rw [h_]; rfl)
              by_cases c40 : 0 < (y543.length : Int)
              ·rw [if_pos c40] at H
               have c40b0 : decide (0 < (y543.length : Int)) = true := decide_eq_true c40
               have c40b1 : decide (0 < y543.length) = true := decide_eq_true (by omega)
               clear c40
               by_cases c41 : 0 ≤ (rd y543 0)
               ·rw [if_pos c41] at H
                have c41b0 : decide (0 ≤ (rd y543 0)) = true := decide_eq_true c41
                clear c41
                by_cases c42 : (rd y543 0) < (l0_3.length : Int)
                ·rw [if_pos c42] at H
                 have c42b0 : decide ((rd y543 0) < (l0_3.length : Int)) = true := decide_eq_true c42
                 clear c42; obtain ⟨t551, A43, H⟩ := be H
                 by_cases c44 : t551 = 0
                 ·rw [if_pos c44] at H
                  have c44b0 : (t551 == 0) = true := beq_iff_eq.mpr c44
                  have c44b1 : (t551 != 0) = false := bne_eq_false_iff_eq.mpr c44
                  clear c44
                  by_cases c45 : y543.length < 17592186044416
                  ·rw [if_pos c45] at H
                   have LMc45 := Aside0.mk c45; clear c45; obtain ⟨y552, hy552⟩ : ∃ y_ : List Int, y_ = (y543 ++ [x23_2]) := ⟨_, rfl⟩
                   replace H : (impl_WinnersOf.l0 kj20 l1 y552 l0_3 (l0_3.length : Int) (wrap64 (x23_2 + 1)) a0_0 l0_1 l0_2 l0_3) = some r := by first | (rw [hy552]; with_reducible exact H) | (have H2_ := (Option.bind_some _ _).symm.trans H; rw [hy552]; with_reducible exact H2_) | (have H2_ := (Option.bind_some _ _).symm.trans H; with_reducible exact H2_) | with_reducible exact H | (rw [hy552]; exact H) | exact H
                   have Ny552 := Aside0.mk hy552; clear hy552; have H' := Aside0.mk H; clear H; obtain ⟨Ao46, co46, eo46⟩ := Kd.R_slice HO_5.out; subst eo46
                   have q47 : (0 : Int) ≤ ((x5_2.length : Int) : Int) := of_decide_eq_true asmT
                   obtain ⟨i047, hi047, _, hsz47, _⟩ := info_parts info3; have hcut47 := cut_to (P := Tryz.prog) 28 3 .i64 Tryz.underlying28 hi047 Ao46 x5_2.length co46 0 (by omega) q47 (Kd.R_reads' HO_5.out).2.1; have hr47 := Kd.R_take (m := (0 : Int).toNat) HO_5.out (by omega)
                   have hy47 : y543.length = (0 : Int).toNat := (by rw [Ny543.out, List.length_take]; omega)
                   rw [← Ny543.out] at hr47; rw [← hy47] at hr47 hcut47; clear hy47 hi047 hsz47 HO_5; have HO545 := Aside0.mk hr47; clear hr47; replace q47 := eq_true q47
                   try go_wp2
                   replace HO545 := asT (Kd.R_drew HO545.out); replace BK533 := asT (blk_drew BK533.out); replace HB := asT (below_drew1 HB.out)
                   have p549 : 0 ≤ (0 : Int) := (by omega)
                   have q549 : 0 < (y543.length : Int) := of_decide_eq_true asmT
                   obtain ⟨ad549, e549, hx549_0⟩ := Kd.at_int (Kd.R_reads' HO545.out).2.2 0 p549 q549
                   cases e549
                   have qi549 : (0 < y543.length) = True := eq_true (by omega)
                   (try rw [show ((0 : Int)).toNat = 0 from rfl] at hx549_0)
                   (try rw [Addr.add_zero'] at hx549_0)
                   replace p549 := eq_true p549; replace q549 := eq_true q549
                   have p550 : 0 ≤ ((rd y543 0) : Int) := of_decide_eq_true asmT
                   have q550 : (rd y543 0) < (l0_3.length : Int) := of_decide_eq_true asmT
                   obtain ⟨ad550, A550_0, c550_0, e550, hx550_0, hl550_0, hi550_0⟩ := at_L6 HR0_3.out (rd y543 0) p550 q550; have hw550_0 := hx550_0
                   obtain rfl : ad539 = ad550 := (by injection e550)
                   replace hx550_0 := hbc HB.out hx550_0; have HR550_0 := Aside0.mk hi550_0; have HC550_0 := Aside0.mk hl550_0; clear hi550_0 hl550_0; replace p550 := eq_true p550; replace q550 := eq_true q550
                   refine start_ (n := 16) (S := fun w' => w'.cell? ⟨gb533, 0, none⟩ = some (.string a0_0) ∧ w'.cell? ⟨gb533, 1, none⟩ = some (.slice A0_1 l0_1.length c0_1) ∧ w'.cell? ⟨gb533, 2, none⟩ = some (.slice A0_2 l0_2.length c0_2) ∧ w'.cell? ⟨gb533, 3, none⟩ = some (.slice (some ad539) l0_3.length c0_3) ∧ w'.cell? ad549 = some (.int .i64 (rd y543 0)) ∧ w'.cell? (ad539.add ((rd y543 0)).toNat) = some (.slice A550_0 (rd_L6 l0_3 (rd y543 0)).length c550_0)) (ds := []) (bA 16 0) (by kernel_rfl) rfl rfl ⟨bc0 BK533.out, bc1 BK533.out, bc2 BK533.out, bc3 BK533.out, hx549_0, (hbc HB.out hw550_0 :)⟩ (fun hHeld => ?_); refine with_tabW impl_WinnersOf.tab9 impl_WinnersOf.bits9 (fun HT_ HW_ => ?_)
                   generalize wc.drew = w48 at HO545 BK533 HB HR550_0 hx549_0 hx550_0 hHeld ⊢
                   refine pA 0 46 16 1 HT_.out ?_ rfl rfl; refine pA 1 47 16 3 HT_.out ?_ rfl rfl; refine pA 2 48 16 7 HT_.out ?_ rfl rfl; refine pA 3 49 16 15 HT_.out ?_ rfl rfl; refine pA 4 50 16 31 HT_.out ?_ rfl rfl; refine pA 5 51 16 63 HT_.out ?_ rfl rfl; refine pA 7 53 16 191 HT_.out ?_ rfl rfl; refine pA 8 54 16 447 HT_.out ?_ rfl rfl; refine pA 12 58 16 4543 HT_.out ?_ rfl rfl; refine tA 6 52 16 4607 HT_.out HW_.out hHeld ?_ rfl rfl; refine tA 9 55 16 5119 HT_.out HW_.out hHeld ?_ rfl rfl; refine pA 10 56 16 6143 HT_.out ?_ rfl rfl; refine tA 11 57 16 8191 HT_.out HW_.out hHeld ?_ rfl rfl
                   refine oA 13 59 16 16383 HT_.out (fun K hK => ?_) rfl rfl
                   refine goes_ Tryz.func58 (by kernel_rfl) rfl #[.slice A539_0 (rd_L6 l0_3 x23_2).length c539_0, .slice A550_0 (rd_L6 l0_3 (rd y543 0)).length c550_0, .slice A1 l1.length c1] (by rfl) rfl rfl eqT ?_
                   (with_reducible refine (impl_CompareMarks.calls kj20 _ _ (rd_L6 l0_3 x23_2) _ _ (rd_L6 l0_3 (rd y543 0)) _ _ l1 t551 _ ?side1 ?side2 ?side3 ?side4 ?side5 ?side6 A43.out).mono ?_); (case side1 => exact crT HR539_0.out HB.out); (case side2 => exact HC539_0.out); (case side3 => exact crT HR550_0.out HB.out); (case side4 => exact HC550_0.out); (case side5 => exact crT HR1.out HB.out); (case side6 => exact HC1.out); rintro e w49 ⟨rfl, hb⟩; have HS4_ := (hb.cell (World.block_lt_of_cell? _ _ (hHeld.2.2.2.2.1))).trans (hHeld.2.2.2.2.1); refine ⟨_, rfl, ?_⟩; replace HO545 := asT (Kd.R_below (roT HO545.out) hb); replace BK533 := bS BK533 hb; replace HB := hS HB hb; (try clear hb hb2 hk hi)
                   refine hK.out _ _ ⟨bc0 BK533.out, bc1 BK533.out, bc2 BK533.out, bc3 BK533.out, HS4_, (hbc HB.out hw550_0 :)⟩ (fun hHeld => ?_)
                   clear hK K
                   refine nB 59 ?_ rfl; refine pA 14 60 16 32767 HT_.out ?_ rfl rfl; refine pA 15 61 16 65535 HT_.out ?_ rfl rfl
                   refine done_ (done_of HT_.out (by kernel_rfl)) ?_
                   try go_wp2_with (first | ((with_reducible refine gate_builtin (b := .append) (xs := #[.tmp 62, .tmp 64]) rfl ?_); (try (refine gate_guard (by rfl) ?_; dsimp only)); at_builtin; refine Kd.R_append (Kd.int .i64) (w0 := w) w.heap.size rfl (.tmp 62) (.tmp 64) 28 3 (.int .i64 0) 8 rfl Tryz.underlying28 info3 rfl (by decide) (by omega) (.slice (some ad549) y543.length co46) y543 x23_2 [.int .i64 x23_2] (fun _ => True) (fun _ => False) rfl rfl ?aP (fun _ hk => hk.elim) ?aF ?aO ?aB ?aS ?aL ?_; (case aP => exact rfl); (case aB => exact (hbT HB.out)); (case aF => exact (fun _ _ => trivial)); (case aO => exact (roT HO545.out)); (case aS => exact (below_size (hbT HB.out))); (case aL => have := LMc45.out; omega); intro v553 w50 ho hb hg hat; rw [← Ny552.out] at ho; replace BK533 := asT (blk_grown (g := gb533) (o := .cells #[.string a0_0, .slice A0_1 l0_1.length c0_1, .slice A0_2 l0_2.length c0_2, .slice (some ad539) l0_3.length c0_3] 32 (0, 0)) (bkT BK533.out) hg (Kd.R_ne HO545.out BK533.out (by decide))); replace HB := asT (hb); have HO554 := asT (ho); clear HO545 ho hb hg hat))
                   go_roundg kj20
                   case measure => have := HJ2.out; have := HK2.out; have := HJ20.out; omega
                   case rel => exact ⟨(y552), (wrap64 (x23_2 + 1)), rdT, H', ⟨by have := HJ2.out; have := HK2.out; have := HJ20.out; omega⟩, ⟨by (with_reducible repeat (first | apply Kd.R_alloc | apply Kd.R_drewN | apply Kd.R_drew)); exact HO554.out⟩, ⟨by (with_reducible repeat (first | refine blk_drewN ?_ _ | refine blk_drew ?_ | refine blk_alloc ?_ _)); exact BK533.out⟩, ⟨hbT HB.out⟩⟩
                  ·rw [if_neg c45] at H
                   exact absurd H (by simp)
                 ·rw [if_neg c44] at H
                  have c44b0 : (t551 == 0) = false := beq_eq_false_iff_ne.mpr c44
                  have c44b1 : (t551 != 0) = true := bne_iff_ne.mpr c44
                  have H' := Aside0.mk H; clear H; obtain ⟨Ao51, co51, eo51⟩ := Kd.R_slice HO_5.out; subst eo51
                  have q52 : (0 : Int) ≤ ((x5_2.length : Int) : Int) := of_decide_eq_true asmT
                  obtain ⟨i052, hi052, _, hsz52, _⟩ := info_parts info3; have hcut52 := cut_to (P := Tryz.prog) 28 3 .i64 Tryz.underlying28 hi052 Ao51 x5_2.length co51 0 (by omega) q52 (Kd.R_reads' HO_5.out).2.1; have hr52 := Kd.R_take (m := (0 : Int).toNat) HO_5.out (by omega)
                  have hy52 : y543.length = (0 : Int).toNat := (by rw [Ny543.out, List.length_take]; omega)
                  rw [← Ny543.out] at hr52; rw [← hy52] at hr52 hcut52; clear hy52 hi052 hsz52 HO_5; have HO545 := Aside0.mk hr52; clear hr52; replace q52 := eq_true q52
                  try go_wp2
                  replace HO545 := asT (Kd.R_drew HO545.out); replace BK533 := asT (blk_drew BK533.out); replace HB := asT (below_drew1 HB.out)
                  have p549 : 0 ≤ (0 : Int) := (by omega)
                  have q549 : 0 < (y543.length : Int) := of_decide_eq_true asmT
                  obtain ⟨ad549, e549, hx549_0⟩ := Kd.at_int (Kd.R_reads' HO545.out).2.2 0 p549 q549
                  cases e549
                  have qi549 : (0 < y543.length) = True := eq_true (by omega)
                  (try rw [show ((0 : Int)).toNat = 0 from rfl] at hx549_0)
                  (try rw [Addr.add_zero'] at hx549_0)
                  replace p549 := eq_true p549; replace q549 := eq_true q549
                  have p550 : 0 ≤ ((rd y543 0) : Int) := of_decide_eq_true asmT
                  have q550 : (rd y543 0) < (l0_3.length : Int) := of_decide_eq_true asmT
                  obtain ⟨ad550, A550_0, c550_0, e550, hx550_0, hl550_0, hi550_0⟩ := at_L6 HR0_3.out (rd y543 0) p550 q550; have hw550_0 := hx550_0
                  obtain rfl : ad539 = ad550 := (by injection e550)
                  replace hx550_0 := hbc HB.out hx550_0; have HR550_0 := Aside0.mk hi550_0; have HC550_0 := Aside0.mk hl550_0; clear hi550_0 hl550_0; replace p550 := eq_true p550; replace q550 := eq_true q550
                  refine start_ (n := 16) (S := fun w' => w'.cell? ⟨gb533, 0, none⟩ = some (.string a0_0) ∧ w'.cell? ⟨gb533, 1, none⟩ = some (.slice A0_1 l0_1.length c0_1) ∧ w'.cell? ⟨gb533, 2, none⟩ = some (.slice A0_2 l0_2.length c0_2) ∧ w'.cell? ⟨gb533, 3, none⟩ = some (.slice (some ad539) l0_3.length c0_3) ∧ w'.cell? ad549 = some (.int .i64 (rd y543 0)) ∧ w'.cell? (ad539.add ((rd y543 0)).toNat) = some (.slice A550_0 (rd_L6 l0_3 (rd y543 0)).length c550_0)) (ds := []) (bA 16 0) (by kernel_rfl) rfl rfl ⟨bc0 BK533.out, bc1 BK533.out, bc2 BK533.out, bc3 BK533.out, hx549_0, (hbc HB.out hw550_0 :)⟩ (fun hHeld => ?_); refine with_tabW impl_WinnersOf.tab9 impl_WinnersOf.bits9 (fun HT_ HW_ => ?_)
                  generalize wc.drew = w53 at HO545 BK533 HB HR550_0 hx549_0 hx550_0 hHeld ⊢
                  refine pA 0 46 16 1 HT_.out ?_ rfl rfl; refine pA 1 47 16 3 HT_.out ?_ rfl rfl; refine pA 2 48 16 7 HT_.out ?_ rfl rfl; refine pA 3 49 16 15 HT_.out ?_ rfl rfl; refine pA 4 50 16 31 HT_.out ?_ rfl rfl; refine pA 5 51 16 63 HT_.out ?_ rfl rfl; refine pA 7 53 16 191 HT_.out ?_ rfl rfl; refine pA 8 54 16 447 HT_.out ?_ rfl rfl; refine pA 12 58 16 4543 HT_.out ?_ rfl rfl; refine tA 6 52 16 4607 HT_.out HW_.out hHeld ?_ rfl rfl; refine tA 9 55 16 5119 HT_.out HW_.out hHeld ?_ rfl rfl; refine pA 10 56 16 6143 HT_.out ?_ rfl rfl; refine tA 11 57 16 8191 HT_.out HW_.out hHeld ?_ rfl rfl
                  refine oA 13 59 16 16383 HT_.out (fun K hK => ?_) rfl rfl
                  refine goes_ Tryz.func58 (by kernel_rfl) rfl #[.slice A539_0 (rd_L6 l0_3 x23_2).length c539_0, .slice A550_0 (rd_L6 l0_3 (rd y543 0)).length c550_0, .slice A1 l1.length c1] (by rfl) rfl rfl eqT ?_
                  (with_reducible refine (impl_CompareMarks.calls kj20 _ _ (rd_L6 l0_3 x23_2) _ _ (rd_L6 l0_3 (rd y543 0)) _ _ l1 t551 _ ?side1 ?side2 ?side3 ?side4 ?side5 ?side6 A43.out).mono ?_); (case side1 => exact crT HR539_0.out HB.out); (case side2 => exact HC539_0.out); (case side3 => exact crT HR550_0.out HB.out); (case side4 => exact HC550_0.out); (case side5 => exact crT HR1.out HB.out); (case side6 => exact HC1.out); rintro e w54 ⟨rfl, hb⟩; have HS4_ := (hb.cell (World.block_lt_of_cell? _ _ (hHeld.2.2.2.2.1))).trans (hHeld.2.2.2.2.1); refine ⟨_, rfl, ?_⟩; replace HO545 := asT (Kd.R_below (roT HO545.out) hb); replace BK533 := bS BK533 hb; replace HB := hS HB hb; (try clear hb hb2 hk hi)
                  refine hK.out _ _ ⟨bc0 BK533.out, bc1 BK533.out, bc2 BK533.out, bc3 BK533.out, HS4_, (hbc HB.out hw550_0 :)⟩ (fun hHeld => ?_)
                  clear hK K
                  refine nB 59 ?_ rfl; refine pA 14 60 16 32767 HT_.out ?_ rfl rfl; refine pA 15 61 16 65535 HT_.out ?_ rfl rfl
                  refine done_ (done_of HT_.out (by kernel_rfl)) ?_
                  try go_wp2
                  go_roundg kj20
                  case measure => have := HJ2.out; have := HK2.out; have := HJ20.out; omega
                  case rel => exact ⟨(y543), (wrap64 (x23_2 + 1)), rdT, H', ⟨by have := HJ2.out; have := HK2.out; have := HJ20.out; omega⟩, ⟨by (with_reducible repeat (first | apply Kd.R_alloc | apply Kd.R_drewN | apply Kd.R_drew)); exact HO545.out⟩, ⟨by (with_reducible repeat (first | refine blk_drewN ?_ _ | refine blk_drew ?_ | refine blk_alloc ?_ _)); exact BK533.out⟩, ⟨hbT HB.out⟩⟩
                ·rw [if_neg c42] at H
                 exact absurd H (by simp)
               ·rw [if_neg c41] at H
                exact absurd H (by simp)
              ·rw [if_neg c40] at H
               exact absurd H (by simp)
            ·rw [if_neg c33] at H
             exact absurd H (by simp)
           ·replace c32 := Bool.eq_false_iff.mpr c32
            subst c32; rw [if_neg nF] at H; have H1 := H; clear H; have H := H1; clear H1
            by_cases c55 : (x5_2.length : Int) = 0
            ·rw [if_pos c55] at H
             have c55b0 : ((x5_2.length : Int) == 0) = true := beq_iff_eq.mpr c55
             have c55b1 : ((x5_2.length : Int) != 0) = false := bne_eq_false_iff_eq.mpr c55
             clear c55
             by_cases c56 : x5_2.length < 17592186044416
             ·rw [if_pos c56] at H
              have LMc56 := Aside0.mk c56; clear c56; obtain ⟨y555, hy555⟩ : ∃ y_ : List Int, y_ = (x5_2 ++ [x23_2]) := ⟨_, rfl⟩
              replace H : (impl_WinnersOf.l0 kj20 l1 y555 l0_3 (l0_3.length : Int) (wrap64 (x23_2 + 1)) a0_0 l0_1 l0_2 l0_3) = some r := by first | (rw [hy555]; with_reducible exact H) | (have H2_ := (Option.bind_some _ _).symm.trans H; rw [hy555]; with_reducible exact H2_) | (have H2_ := (Option.bind_some _ _).symm.trans H; with_reducible exact H2_) | with_reducible exact H | (rw [hy555]; exact H) | exact H
              have Ny555 := Aside0.mk hy555; clear hy555; have H' := Aside0.mk H; clear H
              try go_wp2
              replace HO_5 := asT (Kd.R_drew HO_5.out); replace BK533 := asT (blk_drew BK533.out); replace HB := asT (below_drew1 HB.out); obtain ⟨Ao58, co58, eo58⟩ := Kd.R_slice HO_5.out; (first | subst eo58 | (injection eo58 with f1_ f2_ f3_; have f4_ := f1_.symm; have f5_ := f3_.symm; clear f1_ f2_ f3_; subst f4_; subst f5_))
              refine start_ (n := 16) (S := fun w' => True) (ds := []) (bA 16 0) (by kernel_rfl) rfl rfl trivial (fun hHeld => ?_); refine with_tabW impl_WinnersOf.tab9 impl_WinnersOf.bits9 (fun HT_ HW_ => ?_)
              generalize wc.drew = w57 at HO_5 BK533 HB hHeld ⊢
              refine pA 0 46 16 1 HT_.out ?_ rfl rfl; refine pA 1 47 16 3 HT_.out ?_ rfl rfl; refine pA 2 48 16 7 HT_.out ?_ rfl rfl; refine pA 3 49 16 15 HT_.out ?_ rfl rfl; refine uA 4 50 16 31 HT_.out ?_ rfl rfl; refine uA 5 51 16 63 HT_.out ?_ rfl rfl; refine uA 6 52 16 127 HT_.out ?_ rfl rfl; refine uA 7 53 16 255 HT_.out ?_ rfl rfl; refine uA 8 54 16 511 HT_.out ?_ rfl rfl; refine uA 9 55 16 1023 HT_.out ?_ rfl rfl; refine uA 10 56 16 2047 HT_.out ?_ rfl rfl; refine uA 11 57 16 4095 HT_.out ?_ rfl rfl; refine uA 12 58 16 8191 HT_.out ?_ rfl rfl; refine uA 13 59 16 16383 HT_.out ?_ rfl rfl; refine uA 14 60 16 32767 HT_.out ?_ rfl rfl; refine pA 15 61 16 65535 HT_.out ?_ rfl rfl
              refine done_ (done_of HT_.out (by kernel_rfl)) ?_
              try go_wp2_with (first | ((with_reducible refine gate_builtin (b := .append) (xs := #[.tmp 62, .tmp 64]) rfl ?_); (try (refine gate_guard (by rfl) ?_; dsimp only)); at_builtin; refine Kd.R_append (Kd.int .i64) (w0 := w) w.heap.size rfl (.tmp 62) (.tmp 64) 28 3 (.int .i64 0) 8 rfl Tryz.underlying28 info3 rfl (by decide) (by omega) (.slice Ao58 x5_2.length co58) x5_2 x23_2 [.int .i64 x23_2] (fun _ => True) (fun _ => False) rfl rfl ?aP (fun _ hk => hk.elim) ?aF ?aO ?aB ?aS ?aL ?_; (case aP => exact rfl); (case aB => exact (hbT HB.out)); (case aF => exact (fun _ _ => trivial)); (case aO => exact (roT HO_5.out)); (case aS => exact (below_size (hbT HB.out))); (case aL => have := LMc56.out; omega); intro v556 w59 ho hb hg hat; rw [← Ny555.out] at ho; replace BK533 := asT (blk_grown (g := gb533) (o := .cells #[.string a0_0, .slice A0_1 l0_1.length c0_1, .slice A0_2 l0_2.length c0_2, .slice (some ad539) l0_3.length c0_3] 32 (0, 0)) (bkT BK533.out) hg (Kd.R_ne HO_5.out BK533.out (by decide))); replace HB := asT (hb); have HO557 := asT (ho); clear HO_5 ho hb hg hat))
              go_roundg kj20
              case measure => have := HJ2.out; have := HK2.out; have := HJ20.out; omega
              case rel => exact ⟨(y555), (wrap64 (x23_2 + 1)), rdT, H', ⟨by have := HJ2.out; have := HK2.out; have := HJ20.out; omega⟩, ⟨by (with_reducible repeat (first | apply Kd.R_alloc | apply Kd.R_drewN | apply Kd.R_drew)); exact HO557.out⟩, ⟨by (with_reducible repeat (first | refine blk_drewN ?_ _ | refine blk_drew ?_ | refine blk_alloc ?_ _)); exact BK533.out⟩, ⟨hbT HB.out⟩⟩
             ·rw [if_neg c56] at H
              exact absurd H (by simp)
            ·rw [if_neg c55] at H
             have c55b0 : ((x5_2.length : Int) == 0) = false := beq_eq_false_iff_ne.mpr c55
             have c55b1 : ((x5_2.length : Int) != 0) = true := bne_iff_ne.mpr c55
             have c55b2 : ¬ (x5_2 = []) := fun h_ => c55 (by rw [h_]; rfl)
             by_cases c60 : 0 < (x5_2.length : Int)
             ·rw [if_pos c60] at H
              have c60b0 : decide (0 < (x5_2.length : Int)) = true := decide_eq_true c60
              have c60b1 : decide (0 < x5_2.length) = true := decide_eq_true (by omega)
              clear c60
              by_cases c61 : 0 ≤ (rd x5_2 0)
              ·rw [if_pos c61] at H
               have c61b0 : decide (0 ≤ (rd x5_2 0)) = true := decide_eq_true c61
               clear c61
               by_cases c62 : (rd x5_2 0) < (l0_3.length : Int)
               ·rw [if_pos c62] at H
                have c62b0 : decide ((rd x5_2 0) < (l0_3.length : Int)) = true := decide_eq_true c62
                clear c62; obtain ⟨t560, A63, H⟩ := be H
                by_cases c64 : t560 = 0
                ·rw [if_pos c64] at H
                 have c64b0 : (t560 == 0) = true := beq_iff_eq.mpr c64
                 have c64b1 : (t560 != 0) = false := bne_eq_false_iff_eq.mpr c64
                 clear c64
                 by_cases c65 : x5_2.length < 17592186044416
                 ·rw [if_pos c65] at H
                  have LMc65 := Aside0.mk c65; clear c65; obtain ⟨y561, hy561⟩ : ∃ y_ : List Int, y_ = (x5_2 ++ [x23_2]) := ⟨_, rfl⟩
                  replace H : (impl_WinnersOf.l0 kj20 l1 y561 l0_3 (l0_3.length : Int) (wrap64 (x23_2 + 1)) a0_0 l0_1 l0_2 l0_3) = some r := by first | (rw [hy561]; with_reducible exact H) | (have H2_ := (Option.bind_some _ _).symm.trans H; rw [hy561]; with_reducible exact H2_) | (have H2_ := (Option.bind_some _ _).symm.trans H; with_reducible exact H2_) | with_reducible exact H | (rw [hy561]; exact H) | exact H
                  have Ny561 := Aside0.mk hy561; clear hy561; have H' := Aside0.mk H; clear H
                  try go_wp2
                  replace HO_5 := asT (Kd.R_drew HO_5.out); replace BK533 := asT (blk_drew BK533.out); replace HB := asT (below_drew1 HB.out); obtain ⟨Ao67, co67, eo67⟩ := Kd.R_slice HO_5.out; (first | subst eo67 | (injection eo67 with f1_ f2_ f3_; have f4_ := f1_.symm; have f5_ := f3_.symm; clear f1_ f2_ f3_; subst f4_; subst f5_))
                  have p558 : 0 ≤ (0 : Int) := (by omega)
                  have q558 : 0 < (x5_2.length : Int) := of_decide_eq_true asmT
                  obtain ⟨ad558, e558, hx558_0⟩ := Kd.at_int (Kd.R_reads' HO_5.out).2.2 0 p558 q558
                  cases e558
                  have qi558 : (0 < x5_2.length) = True := eq_true (by omega)
                  (try rw [show ((0 : Int)).toNat = 0 from rfl] at hx558_0)
                  (try rw [Addr.add_zero'] at hx558_0)
                  replace p558 := eq_true p558; replace q558 := eq_true q558
                  have p559 : 0 ≤ ((rd x5_2 0) : Int) := of_decide_eq_true asmT
                  have q559 : (rd x5_2 0) < (l0_3.length : Int) := of_decide_eq_true asmT
                  obtain ⟨ad559, A559_0, c559_0, e559, hx559_0, hl559_0, hi559_0⟩ := at_L6 HR0_3.out (rd x5_2 0) p559 q559; have hw559_0 := hx559_0
                  obtain rfl : ad539 = ad559 := (by injection e559)
                  replace hx559_0 := hbc HB.out hx559_0; have HR559_0 := Aside0.mk hi559_0; have HC559_0 := Aside0.mk hl559_0; clear hi559_0 hl559_0; replace p559 := eq_true p559; replace q559 := eq_true q559
                  refine start_ (n := 16) (S := fun w' => w'.cell? ⟨gb533, 0, none⟩ = some (.string a0_0) ∧ w'.cell? ⟨gb533, 1, none⟩ = some (.slice A0_1 l0_1.length c0_1) ∧ w'.cell? ⟨gb533, 2, none⟩ = some (.slice A0_2 l0_2.length c0_2) ∧ w'.cell? ⟨gb533, 3, none⟩ = some (.slice (some ad539) l0_3.length c0_3) ∧ w'.cell? ad558 = some (.int .i64 (rd x5_2 0)) ∧ w'.cell? (ad539.add ((rd x5_2 0)).toNat) = some (.slice A559_0 (rd_L6 l0_3 (rd x5_2 0)).length c559_0)) (ds := []) (bA 16 0) (by kernel_rfl) rfl rfl ⟨bc0 BK533.out, bc1 BK533.out, bc2 BK533.out, bc3 BK533.out, hx558_0, (hbc HB.out hw559_0 :)⟩ (fun hHeld => ?_); refine with_tabW impl_WinnersOf.tab9 impl_WinnersOf.bits9 (fun HT_ HW_ => ?_)
                  generalize wc.drew = w66 at HO_5 BK533 HB HR559_0 hx558_0 hx559_0 hHeld ⊢
                  refine pA 0 46 16 1 HT_.out ?_ rfl rfl; refine pA 1 47 16 3 HT_.out ?_ rfl rfl; refine pA 2 48 16 7 HT_.out ?_ rfl rfl; refine pA 3 49 16 15 HT_.out ?_ rfl rfl; refine pA 4 50 16 31 HT_.out ?_ rfl rfl; refine pA 5 51 16 63 HT_.out ?_ rfl rfl; refine pA 7 53 16 191 HT_.out ?_ rfl rfl; refine pA 8 54 16 447 HT_.out ?_ rfl rfl; refine pA 12 58 16 4543 HT_.out ?_ rfl rfl; refine tA 6 52 16 4607 HT_.out HW_.out hHeld ?_ rfl rfl; refine tA 9 55 16 5119 HT_.out HW_.out hHeld ?_ rfl rfl; refine pA 10 56 16 6143 HT_.out ?_ rfl rfl; refine tA 11 57 16 8191 HT_.out HW_.out hHeld ?_ rfl rfl
                  refine oA 13 59 16 16383 HT_.out (fun K hK => ?_) rfl rfl
                  refine goes_ Tryz.func58 (by kernel_rfl) rfl #[.slice A539_0 (rd_L6 l0_3 x23_2).length c539_0, .slice A559_0 (rd_L6 l0_3 (rd x5_2 0)).length c559_0, .slice A1 l1.length c1] (by rfl) rfl rfl eqT ?_
                  (with_reducible refine (impl_CompareMarks.calls kj20 _ _ (rd_L6 l0_3 x23_2) _ _ (rd_L6 l0_3 (rd x5_2 0)) _ _ l1 t560 _ ?side1 ?side2 ?side3 ?side4 ?side5 ?side6 A63.out).mono ?_); (case side1 => exact crT HR539_0.out HB.out); (case side2 => exact HC539_0.out); (case side3 => exact crT HR559_0.out HB.out); (case side4 => exact HC559_0.out); (case side5 => exact crT HR1.out HB.out); (case side6 => exact HC1.out); rintro e w68 ⟨rfl, hb⟩; have HS4_ := (hb.cell (World.block_lt_of_cell? _ _ (hHeld.2.2.2.2.1))).trans (hHeld.2.2.2.2.1); refine ⟨_, rfl, ?_⟩; replace HO_5 := asT (Kd.R_below (roT HO_5.out) hb); replace BK533 := bS BK533 hb; replace HB := hS HB hb; (try clear hb hb2 hk hi)
                  refine hK.out _ _ ⟨bc0 BK533.out, bc1 BK533.out, bc2 BK533.out, bc3 BK533.out, HS4_, (hbc HB.out hw559_0 :)⟩ (fun hHeld => ?_)
                  clear hK K
                  refine nB 59 ?_ rfl; refine pA 14 60 16 32767 HT_.out ?_ rfl rfl; refine pA 15 61 16 65535 HT_.out ?_ rfl rfl
                  refine done_ (done_of HT_.out (by kernel_rfl)) ?_
                  try go_wp2_with (first | ((with_reducible refine gate_builtin (b := .append) (xs := #[.tmp 62, .tmp 64]) rfl ?_); (try (refine gate_guard (by rfl) ?_; dsimp only)); at_builtin; refine Kd.R_append (Kd.int .i64) (w0 := w) w.heap.size rfl (.tmp 62) (.tmp 64) 28 3 (.int .i64 0) 8 rfl Tryz.underlying28 info3 rfl (by decide) (by omega) (.slice (some ad558) x5_2.length co67) x5_2 x23_2 [.int .i64 x23_2] (fun _ => True) (fun _ => False) rfl rfl ?aP (fun _ hk => hk.elim) ?aF ?aO ?aB ?aS ?aL ?_; (case aP => exact rfl); (case aB => exact (hbT HB.out)); (case aF => exact (fun _ _ => trivial)); (case aO => exact (roT HO_5.out)); (case aS => exact (below_size (hbT HB.out))); (case aL => have := LMc65.out; omega); intro v562 w69 ho hb hg hat; rw [← Ny561.out] at ho; replace BK533 := asT (blk_grown (g := gb533) (o := .cells #[.string a0_0, .slice A0_1 l0_1.length c0_1, .slice A0_2 l0_2.length c0_2, .slice (some ad539) l0_3.length c0_3] 32 (0, 0)) (bkT BK533.out) hg (Kd.R_ne HO_5.out BK533.out (by decide))); replace HB := asT (hb); have HO563 := asT (ho); clear HO_5 ho hb hg hat))
                  go_roundg kj20
                  case measure => have := HJ2.out; have := HK2.out; have := HJ20.out; omega
                  case rel => exact ⟨(y561), (wrap64 (x23_2 + 1)), rdT, H', ⟨by have := HJ2.out; have := HK2.out; have := HJ20.out; omega⟩, ⟨by (with_reducible repeat (first | apply Kd.R_alloc | apply Kd.R_drewN | apply Kd.R_drew)); exact HO563.out⟩, ⟨by (with_reducible repeat (first | refine blk_drewN ?_ _ | refine blk_drew ?_ | refine blk_alloc ?_ _)); exact BK533.out⟩, ⟨hbT HB.out⟩⟩
                 ·rw [if_neg c65] at H
                  exact absurd H (by simp)
                ·rw [if_neg c64] at H
                 have c64b0 : (t560 == 0) = false := beq_eq_false_iff_ne.mpr c64
                 have c64b1 : (t560 != 0) = true := bne_iff_ne.mpr c64
                 have H' := Aside0.mk H; clear H
                 try go_wp2
                 replace HO_5 := asT (Kd.R_drew HO_5.out); replace BK533 := asT (blk_drew BK533.out); replace HB := asT (below_drew1 HB.out); obtain ⟨Ao71, co71, eo71⟩ := Kd.R_slice HO_5.out; (first | subst eo71 | (injection eo71 with f1_ f2_ f3_; have f4_ := f1_.symm; have f5_ := f3_.symm; clear f1_ f2_ f3_; subst f4_; subst f5_))
                 have p558 : 0 ≤ (0 : Int) := (by omega)
                 have q558 : 0 < (x5_2.length : Int) := of_decide_eq_true asmT
                 obtain ⟨ad558, e558, hx558_0⟩ := Kd.at_int (Kd.R_reads' HO_5.out).2.2 0 p558 q558
                 cases e558
                 have qi558 : (0 < x5_2.length) = True := eq_true (by omega)
                 (try rw [show ((0 : Int)).toNat = 0 from rfl] at hx558_0)
                 (try rw [Addr.add_zero'] at hx558_0)
                 replace p558 := eq_true p558; replace q558 := eq_true q558
                 have p559 : 0 ≤ ((rd x5_2 0) : Int) := of_decide_eq_true asmT
                 have q559 : (rd x5_2 0) < (l0_3.length : Int) := of_decide_eq_true asmT
                 obtain ⟨ad559, A559_0, c559_0, e559, hx559_0, hl559_0, hi559_0⟩ := at_L6 HR0_3.out (rd x5_2 0) p559 q559; have hw559_0 := hx559_0
                 obtain rfl : ad539 = ad559 := (by injection e559)
                 replace hx559_0 := hbc HB.out hx559_0; have HR559_0 := Aside0.mk hi559_0; have HC559_0 := Aside0.mk hl559_0; clear hi559_0 hl559_0; replace p559 := eq_true p559; replace q559 := eq_true q559
                 refine start_ (n := 16) (S := fun w' => w'.cell? ⟨gb533, 0, none⟩ = some (.string a0_0) ∧ w'.cell? ⟨gb533, 1, none⟩ = some (.slice A0_1 l0_1.length c0_1) ∧ w'.cell? ⟨gb533, 2, none⟩ = some (.slice A0_2 l0_2.length c0_2) ∧ w'.cell? ⟨gb533, 3, none⟩ = some (.slice (some ad539) l0_3.length c0_3) ∧ w'.cell? ad558 = some (.int .i64 (rd x5_2 0)) ∧ w'.cell? (ad539.add ((rd x5_2 0)).toNat) = some (.slice A559_0 (rd_L6 l0_3 (rd x5_2 0)).length c559_0)) (ds := []) (bA 16 0) (by kernel_rfl) rfl rfl ⟨bc0 BK533.out, bc1 BK533.out, bc2 BK533.out, bc3 BK533.out, hx558_0, (hbc HB.out hw559_0 :)⟩ (fun hHeld => ?_); refine with_tabW impl_WinnersOf.tab9 impl_WinnersOf.bits9 (fun HT_ HW_ => ?_)
                 generalize wc.drew = w70 at HO_5 BK533 HB HR559_0 hx558_0 hx559_0 hHeld ⊢
                 refine pA 0 46 16 1 HT_.out ?_ rfl rfl; refine pA 1 47 16 3 HT_.out ?_ rfl rfl; refine pA 2 48 16 7 HT_.out ?_ rfl rfl; refine pA 3 49 16 15 HT_.out ?_ rfl rfl; refine pA 4 50 16 31 HT_.out ?_ rfl rfl; refine pA 5 51 16 63 HT_.out ?_ rfl rfl; refine pA 7 53 16 191 HT_.out ?_ rfl rfl; refine pA 8 54 16 447 HT_.out ?_ rfl rfl; refine pA 12 58 16 4543 HT_.out ?_ rfl rfl; refine tA 6 52 16 4607 HT_.out HW_.out hHeld ?_ rfl rfl; refine tA 9 55 16 5119 HT_.out HW_.out hHeld ?_ rfl rfl; refine pA 10 56 16 6143 HT_.out ?_ rfl rfl; refine tA 11 57 16 8191 HT_.out HW_.out hHeld ?_ rfl rfl
                 refine oA 13 59 16 16383 HT_.out (fun K hK => ?_) rfl rfl
                 refine goes_ Tryz.func58 (by kernel_rfl) rfl #[.slice A539_0 (rd_L6 l0_3 x23_2).length c539_0, .slice A559_0 (rd_L6 l0_3 (rd x5_2 0)).length c559_0, .slice A1 l1.length c1] (by rfl) rfl rfl eqT ?_
                 (with_reducible refine (impl_CompareMarks.calls kj20 _ _ (rd_L6 l0_3 x23_2) _ _ (rd_L6 l0_3 (rd x5_2 0)) _ _ l1 t560 _ ?side1 ?side2 ?side3 ?side4 ?side5 ?side6 A63.out).mono ?_); (case side1 => exact crT HR539_0.out HB.out); (case side2 => exact HC539_0.out); (case side3 => exact crT HR559_0.out HB.out); (case side4 => exact HC559_0.out); (case side5 => exact crT HR1.out HB.out); (case side6 => exact HC1.out); rintro e w72 ⟨rfl, hb⟩; have HS4_ := (hb.cell (World.block_lt_of_cell? _ _ (hHeld.2.2.2.2.1))).trans (hHeld.2.2.2.2.1); refine ⟨_, rfl, ?_⟩; replace HO_5 := asT (Kd.R_below (roT HO_5.out) hb); replace BK533 := bS BK533 hb; replace HB := hS HB hb; (try clear hb hb2 hk hi)
                 refine hK.out _ _ ⟨bc0 BK533.out, bc1 BK533.out, bc2 BK533.out, bc3 BK533.out, HS4_, (hbc HB.out hw559_0 :)⟩ (fun hHeld => ?_)
                 clear hK K
                 refine nB 59 ?_ rfl; refine pA 14 60 16 32767 HT_.out ?_ rfl rfl; refine pA 15 61 16 65535 HT_.out ?_ rfl rfl
                 refine done_ (done_of HT_.out (by kernel_rfl)) ?_
                 try go_wp2
                 go_roundg kj20
                 case measure => have := HJ2.out; have := HK2.out; have := HJ20.out; omega
                 case rel => exact ⟨(x5_2), (wrap64 (x23_2 + 1)), rdT, H', ⟨by have := HJ2.out; have := HK2.out; have := HJ20.out; omega⟩, ⟨by (with_reducible repeat (first | apply Kd.R_alloc | apply Kd.R_drewN | apply Kd.R_drew)); exact HO_5.out⟩, ⟨by (with_reducible repeat (first | refine blk_drewN ?_ _ | refine blk_drew ?_ | refine blk_alloc ?_ _)); exact BK533.out⟩, ⟨hbT HB.out⟩⟩
               ·rw [if_neg c62] at H
                exact absurd H (by simp)
              ·rw [if_neg c61] at H
               exact absurd H (by simp)
             ·rw [if_neg c60] at H
              exact absurd H (by simp)
        ·rw [if_neg c20] at H
         exact absurd H (by simp)
       ·rw [if_neg c19] at H
        exact absurd H (by simp)
      ·rw [if_neg c18] at H
       have c18b0 : decide (x23_2 < (l0_3.length : Int)) = false := decide_eq_false c18
       clear c18
       obtain rfl := Option.some.inj H
       go_wp2
       go_ret
       exact ⟨_, rlT, by (with_reducible repeat (first | apply Kd.R_alloc | apply Kd.R_drewN | apply Kd.R_drew)); exact HO_5.out, hbT HB.out⟩
mutual
def impl_FatalMark.j0 : Nat → List Int → Int → List Int → Bool → ByteArray → List ByteArray → List (S77) → List (List Int) → Option (Int)
 | 0, _, _, _, _, _, _, _, _ => none
 | k + 1, x1, x2, x7, x24, x565000, x565001, x565002, x565003 => if x24 = true then (some (-1)) else (impl_FatalMark.l0 k x2 x7 x1 (x1.length : Int) 0 x565000 x565001 x565002 x565003)
def impl_FatalMark.l0 : Nat → Int → List Int → List Int → Int → Int → ByteArray → List ByteArray → List (S77) → List (List Int) → Option (Int)
 | 0, _, _, _, _, _, _, _, _, _ => none
 | k + 1, x2, x7, x25, x26, x27, x565000, x565001, x565002, x565003 => if x27 < x26 then (if 0 ≤ x27 then (if x27 < (x25.length : Int) then (if 0 ≤ x2 then (if x2 < (x565003.length : Int) then (if 0 ≤ (rd x25 x27) then (if (rd x25 x27) < ((rd_L6 x565003 x2).length : Int) then (if 0 < (x7.length : Int) then (if 0 ≤ (rd x7 0) then (if (rd x7 0) < (x565003.length : Int) then (if (rd x25 x27) < ((rd_L6 x565003 (rd x7 0)).length : Int) then (if (rd (rd_L6 x565003 x2) (rd x25 x27)) > (rd (rd_L6 x565003 (rd x7 0)) (rd x25 x27)) then (some x27) else (impl_FatalMark.l0 k x2 x7 x25 x26 (wrap64 (x27 + 1)) x565000 x565001 x565002 x565003)) else (none)) else (none)) else (none)) else (none)) else (none)) else (none)) else (none)) else (none)) else (none)) else (none)) else (some (-1))
end
def impl_FatalMark.f (k : Nat) (a0_0 : ByteArray) (l0_1 : List ByteArray) (l0_2 : List (S77)) (l0_3 : List (List Int)) (l1 : List Int) (a2 : Int) : Option (Int) := (impl_WinnersOf.f k a0_0 l0_1 l0_2 l0_3 l1).bind fun t565 => (if (t565.length : Int) = 0 then (impl_FatalMark.j0 k l1 a2 t565 true a0_0 l0_1 l0_2 l0_3) else ((impl_within.f a2 0 (wrap64 ((l0_2.length : Int) - 1))).bind fun t568 => (impl_FatalMark.j0 k l1 a2 t565 (!t568) a0_0 l0_1 l0_2 l0_3)))
theorem impl_FatalMark.mono_l : ∀ k, (∀ y0 y1 y2 y3 y4 y5 y6 y7, LeO (impl_FatalMark.j0 k y0 y1 y2 y3 y4 y5 y6 y7) (impl_FatalMark.j0 (k + 1) y0 y1 y2 y3 y4 y5 y6 y7)) ∧ (∀ y0 y1 y2 y3 y4 y5 y6 y7 y8, LeO (impl_FatalMark.l0 k y0 y1 y2 y3 y4 y5 y6 y7 y8) (impl_FatalMark.l0 (k + 1) y0 y1 y2 y3 y4 y5 y6 y7 y8))
 | 0 => ⟨fun _ _ _ _ _ _ _ _ r h => by simp [impl_FatalMark.j0] at h, fun _ _ _ _ _ _ _ _ _ r h => by simp [impl_FatalMark.l0] at h⟩
 | k + 1 => by
  obtain ⟨ih0, ih1⟩ := impl_FatalMark.mono_l k; refine ⟨?_, ?_⟩
  ·intro y0 y1 y2 y3 y4 y5 y6 y7
   unfold impl_FatalMark.j0
   with_reducible repeat' first | exact ih0 _ _ _ _ _ _ _ _ | exact ih1 _ _ _ _ _ _ _ _ _ | exact impl_WinnersOf.mono _ _ _ _ _ _ | exact LeO.refl _ | exact LeO.none _ | refine LeO.ite ?_ ?_ | refine LeO.bind ?_ (fun _ => ?_)
  ·intro y0 y1 y2 y3 y4 y5 y6 y7 y8
   unfold impl_FatalMark.l0
   with_reducible repeat' first | exact ih0 _ _ _ _ _ _ _ _ | exact ih1 _ _ _ _ _ _ _ _ _ | exact impl_WinnersOf.mono _ _ _ _ _ _ | exact LeO.refl _ | exact LeO.none _ | refine LeO.ite ?_ ?_ | refine LeO.bind ?_ (fun _ => ?_)
theorem impl_FatalMark.mono : ∀ a0 a1 a2 a3 a4 a5 k, LeO (impl_FatalMark.f k a0 a1 a2 a3 a4 a5) (impl_FatalMark.f (k + 1) a0 a1 a2 a3 a4 a5) := by
 intro a0 a1 a2 a3 a4 a5 k
 obtain ⟨ih0, ih1⟩ := impl_FatalMark.mono_l k
 unfold impl_FatalMark.f
 with_reducible repeat' first | exact ih0 _ _ _ _ _ _ _ _ | exact ih1 _ _ _ _ _ _ _ _ _ | exact impl_WinnersOf.mono _ _ _ _ _ _ | exact LeO.refl _ | exact LeO.none _ | refine LeO.ite ?_ ?_ | refine LeO.bind ?_ (fun _ => ?_)
set_option maxHeartbeats 8000000 in
set_option maxRecDepth 100000 in
theorem impl_FatalMark.calls (k : Nat) (a0_0 : ByteArray) (A0_1 : Option Addr) (c0_1 : Nat) (l0_1 : List ByteArray) (A0_2 : Option Addr) (c0_2 : Nat) (l0_2 : List (S77)) (A0_3 : Option Addr) (c0_3 : Nat) (l0_3 : List (List Int)) (A1 : Option Addr) (c1 : Nat) (l1 : List Int) (a2 : Int) (r : Int) (w : World) (hr0_1 : Kd.C Kd.string w A0_1 l0_1.length l0_1) (hc0_1 : l0_1.length ≤ c0_1) (hr0_2 : Kd.C k77 w A0_2 l0_2.length l0_2) (hc0_2 : l0_2.length ≤ c0_2) (hr0_3 : Kd.C (Kd.slice 3 (Kd.int .i64)) w A0_3 l0_3.length l0_3) (hc0_3 : l0_3.length ≤ c0_3) (hr1 : Kd.C (Kd.int .i64) w A1 l1.length l1) (hc1 : l1.length ≤ c1) (h : impl_FatalMark.f k a0_0 l0_1 l0_2 l0_3 l1 a2 = some r) :
  Calls Tryz.prog 24 #[.agg #[.string a0_0, .slice A0_1 l0_1.length c0_1, .slice A0_2 l0_2.length c0_2, .slice A0_3 l0_3.length c0_3], .slice A1 l1.length c1, .int .i64 a2] w fun e w' => e = .returned (.int .i64 r) ∧ Below w.heap.size w w' := by
 have hu32 := Tryz.underlying32; have HR0_1 := Aside0.mk hr0_1; have HC0_1 := Aside0.mk hc0_1; clear hr0_1 hc0_1; have HR0_2 := Aside0.mk hr0_2; have HC0_2 := Aside0.mk hc0_2; clear hr0_2 hc0_2; have HR0_3 := Aside0.mk hr0_3; have HC0_3 := Aside0.mk hc0_3; clear hr0_3 hc0_3; have HR1 := Aside0.mk hr1; have HC1 := Aside0.mk hc1; clear hr1 hc1; have HB := asT (Below.refl w.heap.size w); have H := h; unfold impl_FatalMark.f at H; clear h; obtain ⟨t565, A4, H⟩ := be H; have HC5 := Aside0.mk H; clear H
 go_enter Tryz.func24, Tryz.ntmps24
 go_upto_region 2 with (first | ((with_reducible refine gate_dst (N := 3) rfl ?_); (try (refine gate_guard (by rfl) ?_; dsimp only)); refine boxT (N := 3) (cs := #[.string a0_0, .slice A0_1 l0_1.length c0_1, .slice A0_2 l0_2.length c0_2, .slice A0_3 l0_3.length c0_3]) (t := 32) ?_; intro gb564 hg w6 hbox hb; have BK564 := asT hbox; have GW564 := asT (geT hg HB.out); have GE564 := GW564; replace HB := hS HB hb; clear hb hbox hg; obtain ⟨hcz7_0, hcz7_1, hcz7_2, hcz7_3, hfz7_0, hfz7_1, hfz7_2, hfz7_3⟩ := bx4 BK564.out) | (go_at_call 26; (with_reducible refine (impl_WinnersOf.calls k a0_0 _ _ l0_1 _ _ l0_2 _ _ l0_3 _ _ l1 t565 _ ?side1 ?side2 ?side3 ?side4 ?side5 ?side6 ?side7 ?side8 A4.out).mono ?_); (case side1 => exact crT HR0_1.out HB.out); (case side2 => exact HC0_1.out); (case side3 => exact crT HR0_2.out HB.out); (case side4 => exact HC0_2.out); (case side5 => exact crT HR0_3.out HB.out); (case side6 => exact HC0_3.out); (case side7 => exact crT HR1.out HB.out); (case side8 => exact HC1.out); rintro e w8 ⟨v566, rfl, ho0, hb⟩; have HO567 := asT (Kd.R_lower ho0 (below_size (hbT HB.out))); replace BK564 := bS BK564 hb; replace HB := hS HB hb; (try clear hb hb2 hk hi ho0)))
 repeat (go_quiet (first | ((with_reducible refine gate_dst (N := 3) rfl ?_); (try (refine gate_guard (by rfl) ?_; dsimp only)); refine boxT (N := 3) (cs := #[.string a0_0, .slice A0_1 l0_1.length c0_1, .slice A0_2 l0_2.length c0_2, .slice A0_3 l0_3.length c0_3]) (t := 32) ?_; intro gb564 hg w6 hbox hb; have BK564 := asT hbox; have GW564 := asT (geT hg HB.out); have GE564 := GW564; replace HB := hS HB hb; clear hb hbox hg; obtain ⟨hcz7_0, hcz7_1, hcz7_2, hcz7_3, hfz7_0, hfz7_1, hfz7_2, hfz7_3⟩ := bx4 BK564.out) | (go_at_call 26; (with_reducible refine (impl_WinnersOf.calls k a0_0 _ _ l0_1 _ _ l0_2 _ _ l0_3 _ _ l1 t565 _ ?side1 ?side2 ?side3 ?side4 ?side5 ?side6 ?side7 ?side8 A4.out).mono ?_); (case side1 => exact crT HR0_1.out HB.out); (case side2 => exact HC0_1.out); (case side3 => exact crT HR0_2.out HB.out); (case side4 => exact HC0_2.out); (case side5 => exact crT HR0_3.out HB.out); (case side6 => exact HC0_3.out); (case side7 => exact crT HR1.out HB.out); (case side8 => exact HC1.out); rintro e w8 ⟨v566, rfl, ho0, hb⟩; have HO567 := asT (Kd.R_lower ho0 (below_size (hbT HB.out))); replace BK564 := bS BK564 hb; replace HB := hS HB hb; (try clear hb hb2 hk hi ho0))); go_upto_region 2 with (first | ((with_reducible refine gate_dst (N := 3) rfl ?_); (try (refine gate_guard (by rfl) ?_; dsimp only)); refine boxT (N := 3) (cs := #[.string a0_0, .slice A0_1 l0_1.length c0_1, .slice A0_2 l0_2.length c0_2, .slice A0_3 l0_3.length c0_3]) (t := 32) ?_; intro gb564 hg w6 hbox hb; have BK564 := asT hbox; have GW564 := asT (geT hg HB.out); have GE564 := GW564; replace HB := hS HB hb; clear hb hbox hg; obtain ⟨hcz7_0, hcz7_1, hcz7_2, hcz7_3, hfz7_0, hfz7_1, hfz7_2, hfz7_3⟩ := bx4 BK564.out) | (go_at_call 26; (with_reducible refine (impl_WinnersOf.calls k a0_0 _ _ l0_1 _ _ l0_2 _ _ l0_3 _ _ l1 t565 _ ?side1 ?side2 ?side3 ?side4 ?side5 ?side6 ?side7 ?side8 A4.out).mono ?_); (case side1 => exact crT HR0_1.out HB.out); (case side2 => exact HC0_1.out); (case side3 => exact crT HR0_2.out HB.out); (case side4 => exact HC0_2.out); (case side5 => exact crT HR0_3.out HB.out); (case side6 => exact HC0_3.out); (case side7 => exact crT HR1.out HB.out); (case side8 => exact HC1.out); rintro e w8 ⟨v566, rfl, ho0, hb⟩; have HO567 := asT (Kd.R_lower ho0 (below_size (hbT HB.out))); replace BK564 := bS BK564 hb; replace HB := hS HB hb; (try clear hb hb2 hk hi ho0))))
 (try simp only [Act.put, sA, sZ, sS])
 go_cut [24] (fun v24 wc => ∃ (kq : Nat) (x24_4 : Bool), v24 = .bool x24_4 ∧ Aside0 (impl_FatalMark.j0 kq l1 a2 t565 x24_4 a0_0 l0_1 l0_2 l0_3 = some r) ∧ Aside0 (kq ≤ k) ∧ Aside0 (Kd.R (Kd.int .i64) 3 wc w.heap.size (fun _ => True) v566 t565) ∧ Aside0 (wc.heap[gb564]? = some (.cells #[.string a0_0, (.slice A0_1 l0_1.length c0_1), (.slice A0_2 l0_2.length c0_2), (.slice A0_3 l0_3.length c0_3)] 32 (0, 0))) ∧ Aside0 (Below w.heap.size w wc))
 case first =>
  have H := HC5.out; clear HC5
  by_cases c9 : (t565.length : Int) = 0
  ·rw [if_pos c9] at H
   have c9b0 : ((t565.length : Int) == 0) = true := beq_iff_eq.mpr c9
   have c9b1 : ((t565.length : Int) != 0) = false := bne_eq_false_iff_eq.mpr c9
   clear c9
   (first | rw [c9b0] | (simp only [i64_w, i32_w]; rw [c9b0]) | skip)
   have H' := Aside0.mk H; clear H; obtain ⟨Ao10, co10, eo10⟩ := Kd.R_slice HO567.out; subst eo10
   go_wp2
   repeat (go_quiet (fail); try go_wp2)
   go_meet
   case rel => exact ⟨_, (true), rdT, H', ⟨by first | omega | exact Nat.le_refl _⟩, ⟨by (with_reducible repeat (first | apply Kd.R_alloc | apply Kd.R_drewN | apply Kd.R_drew)); exact HO567.out⟩, ⟨by (with_reducible repeat (first | refine blk_drewN ?_ _ | refine blk_drew ?_ | refine blk_alloc ?_ _)); exact BK564.out⟩, ⟨hbT HB.out⟩⟩
  ·rw [if_neg c9] at H
   have c9b0 : ((t565.length : Int) == 0) = false := beq_eq_false_iff_ne.mpr c9
   have c9b1 : ((t565.length : Int) != 0) = true := bne_iff_ne.mpr c9
   have c9b2 : ¬ (t565 = []) := fun h_ => c9 (by rw [h_]; rfl)
   (first | rw [c9b0] | (simp only [i64_w, i32_w]; rw [c9b0]) | skip)
   obtain ⟨t568, A11, H⟩ := be H; have H' := Aside0.mk H; clear H; obtain ⟨Ao12, co12, eo12⟩ := Kd.R_slice HO567.out; subst eo12
   have hcz13_0 := bc0 BK564.out
   have hcz13_1 := bc1 BK564.out
   have hcz13_2 := bc2 BK564.out
   have hcz13_3 := bc3 BK564.out
   have hfz13_0 := blk_frozen BK564.out 0; have hfz13_1 := blk_frozen BK564.out 1; have hfz13_2 := blk_frozen BK564.out 2; have hfz13_3 := blk_frozen BK564.out 3
   go_wp2_with (first | (go_at_call 54; (with_reducible refine (impl_within.calls a2 0 (wrap64 ((l0_2.length : Int) - 1)) t568 _ A11.out).mono ?_); rintro e w' ⟨rfl, ⟨nd, rfl⟩⟩; (try first | exact ⟨rfl, _, World.drewN_drewN _ _ _⟩ | exact ⟨rfl, _, Eq.trans (World.drewN_drewN _ _ _) (congrArg (World.drewN _) (Nat.add_assoc _ _ _))⟩)))
   repeat (go_quiet (first | (go_at_call 54; (with_reducible refine (impl_within.calls a2 0 (wrap64 ((l0_2.length : Int) - 1)) t568 _ A11.out).mono ?_); rintro e w' ⟨rfl, ⟨nd, rfl⟩⟩; (try first | exact ⟨rfl, _, World.drewN_drewN _ _ _⟩ | exact ⟨rfl, _, Eq.trans (World.drewN_drewN _ _ _) (congrArg (World.drewN _) (Nat.add_assoc _ _ _))⟩))); try go_wp2_with (first | (go_at_call 54; (with_reducible refine (impl_within.calls a2 0 (wrap64 ((l0_2.length : Int) - 1)) t568 _ A11.out).mono ?_); rintro e w' ⟨rfl, ⟨nd, rfl⟩⟩; (try first | exact ⟨rfl, _, World.drewN_drewN _ _ _⟩ | exact ⟨rfl, _, Eq.trans (World.drewN_drewN _ _ _) (congrArg (World.drewN _) (Nat.add_assoc _ _ _))⟩))))
   go_meet
   case rel => exact ⟨_, (!t568), rdT, H', ⟨by first | omega | exact Nat.le_refl _⟩, ⟨by (with_reducible repeat (first | apply Kd.R_alloc | apply Kd.R_drewN | apply Kd.R_drew)); exact HO567.out⟩, ⟨by (with_reducible repeat (first | refine blk_drewN ?_ _ | refine blk_drew ?_ | refine blk_alloc ?_ _)); exact BK564.out⟩, ⟨hbT HB.out⟩⟩
 case rest =>
  clear HC5; (try clear c1 c2 p2 p6 c9 c9b0 c9b1 c9b2 hcz13_0 hcz13_1 hcz13_2 hcz13_3 hcz7_0 hcz7_1 hcz7_2 hcz7_3 hfz13_0 hfz13_1 hfz13_2 hfz13_3 hfz7_0 hfz7_1 hfz7_2 hfz7_3); obtain ⟨kq, x24_4, rfl, HA, HJ4, HO_7, BK564, HB⟩ := hcut
  cases kq with
  | zero => exact absurd HA.out (by simp [impl_FatalMark.j0])
  | succ kj4 =>
   have H := HA.out; clear HA
   simp only [impl_FatalMark.j0] at H
   by_cases c14 : x24_4 = true
   ·subst c14
    rw [if_pos rfl] at H; have H1 := H; clear H; have H := H1; clear H1
    obtain rfl := Option.some.inj H
    go_wp2
    repeat (go_quiet (fail); try go_wp2)
    go_ret
    exact ⟨rlT, hbT HB.out⟩
   ·replace c14 := Bool.eq_false_iff.mpr c14
    subst c14; rw [if_neg nF] at H; have H' := Aside0.mk H; clear H
    go_wp2
    repeat (go_quiet (fail); try go_wp2)
    go_loopg [27] kj4 (fun kq v27 w' => ∃ (x27_2 : Int), v27 = .int .i64 x27_2 ∧ Aside0 (impl_FatalMark.l0 kq a2 t565 l1 (l1.length : Int) x27_2 a0_0 l0_1 l0_2 l0_3 = some r) ∧ Aside0 (kq ≤ kj4) ∧ Aside0 (Kd.R (Kd.int .i64) 3 w' w.heap.size (fun _ => True) v566 t565) ∧ Aside0 (w'.heap[gb564]? = some (.cells #[.string a0_0, (.slice A0_1 l0_1.length c0_1), (.slice A0_2 l0_2.length c0_2), (.slice A0_3 l0_3.length c0_3)] 32 (0, 0))) ∧ Aside0 (Below w.heap.size w w'))
    case atStart => exact ⟨(0), rdT, H', ⟨Nat.le_refl _⟩, ⟨by (with_reducible repeat (first | apply Kd.R_alloc | apply Kd.R_drewN | apply Kd.R_drew)); exact HO_7.out⟩, ⟨by (with_reducible repeat (first | refine blk_drewN ?_ _ | refine blk_drew ?_ | refine blk_alloc ?_ _)); exact BK564.out⟩, ⟨hbT HB.out⟩⟩
    case round =>
     clear H'; (try clear c1 c2 p2 p6 c9 c9b0 c9b1 c9b2 c14 hcz13_0 hcz13_1 hcz13_2 hcz13_3 hcz7_0 hcz7_1 hcz7_2 hcz7_3 hfz13_0 hfz13_1 hfz13_2 hfz13_3 hfz7_0 hfz7_1 hfz7_2 hfz7_3 p2 p6); obtain ⟨x27_2, rfl, HA, HK2, HO_7, BK564, HB⟩ := hrel
     cases gk with
     | zero => exact absurd HA.out (by simp [impl_FatalMark.l0])
     | succ k2 =>
      have H := HA.out; clear HA
      simp only [impl_FatalMark.l0] at H
      by_cases c15 : x27_2 < (l1.length : Int)
      ·rw [if_pos c15] at H
       have c15b0 : decide (x27_2 < (l1.length : Int)) = true := decide_eq_true c15
       clear c15
       by_cases c16 : 0 ≤ x27_2
       ·rw [if_pos c16] at H
        have c16b0 : decide (0 ≤ x27_2) = true := decide_eq_true c16
        clear c16
        by_cases c17 : x27_2 < (l1.length : Int)
        ·rw [if_pos c17] at H
         have c17b0 : decide (x27_2 < (l1.length : Int)) = true := decide_eq_true c17
         clear c17
         by_cases c18 : 0 ≤ a2
         ·rw [if_pos c18] at H
          have c18b0 : decide (0 ≤ a2) = true := decide_eq_true c18
          clear c18
          by_cases c19 : a2 < (l0_3.length : Int)
          ·rw [if_pos c19] at H
           have c19b0 : decide (a2 < (l0_3.length : Int)) = true := decide_eq_true c19
           clear c19
           by_cases c20 : 0 ≤ (rd l1 x27_2)
           ·rw [if_pos c20] at H
            have c20b0 : decide (0 ≤ (rd l1 x27_2)) = true := decide_eq_true c20
            clear c20
            by_cases c21 : (rd l1 x27_2) < ((rd_L6 l0_3 a2).length : Int)
            ·rw [if_pos c21] at H
             have c21b0 : decide ((rd l1 x27_2) < ((rd_L6 l0_3 a2).length : Int)) = true := decide_eq_true c21
             clear c21
             by_cases c22 : 0 < (t565.length : Int)
             ·rw [if_pos c22] at H
              have c22b0 : decide (0 < (t565.length : Int)) = true := decide_eq_true c22
              have c22b1 : decide (0 < t565.length) = true := decide_eq_true (by omega)
              clear c22
              by_cases c23 : 0 ≤ (rd t565 0)
              ·rw [if_pos c23] at H
               have c23b0 : decide (0 ≤ (rd t565 0)) = true := decide_eq_true c23
               clear c23
               by_cases c24 : (rd t565 0) < (l0_3.length : Int)
               ·rw [if_pos c24] at H
                have c24b0 : decide ((rd t565 0) < (l0_3.length : Int)) = true := decide_eq_true c24
                clear c24
                by_cases c25 : (rd l1 x27_2) < ((rd_L6 l0_3 (rd t565 0)).length : Int)
                ·rw [if_pos c25] at H
                 have c25b0 : decide ((rd l1 x27_2) < ((rd_L6 l0_3 (rd t565 0)).length : Int)) = true := decide_eq_true c25
                 clear c25
                 by_cases c26 : (rd (rd_L6 l0_3 a2) (rd l1 x27_2)) > (rd (rd_L6 l0_3 (rd t565 0)) (rd l1 x27_2))
                 ·rw [if_pos c26] at H
                  have c26b0 : decide ((rd (rd_L6 l0_3 (rd t565 0)) (rd l1 x27_2)) < (rd (rd_L6 l0_3 a2) (rd l1 x27_2))) = true := decide_eq_true c26
                  clear c26
                  obtain rfl := Option.some.inj H
                  have p569 : 0 ≤ (x27_2 : Int) := of_decide_eq_true asmT
                  have q569 : x27_2 < (l1.length : Int) := of_decide_eq_true asmT
                  obtain ⟨ad569, e569, hx569_0⟩ := Kd.at_int HR1.out x27_2 p569 q569
                  cases e569
                  replace hx569_0 := hbc HB.out hx569_0; replace p569 := eq_true p569; replace q569 := eq_true q569
                  have hcz27_0 := bc0 BK564.out
                  have hcz27_1 := bc1 BK564.out
                  have hcz27_2 := bc2 BK564.out
                  have hcz27_3 := bc3 BK564.out
                  have hfz27_0 := blk_frozen BK564.out 0; have hfz27_1 := blk_frozen BK564.out 1; have hfz27_2 := blk_frozen BK564.out 2; have hfz27_3 := blk_frozen BK564.out 3
                  have p570 : 0 ≤ (a2 : Int) := of_decide_eq_true asmT
                  have q570 : a2 < (l0_3.length : Int) := of_decide_eq_true asmT
                  obtain ⟨ad570, A570_0, c570_0, e570, hx570_0, hl570_0, hi570_0⟩ := at_L6 HR0_3.out a2 p570 q570
                  cases e570
                  replace hx570_0 := hbc HB.out hx570_0; have HR570_0 := Aside0.mk hi570_0; have HC570_0 := Aside0.mk hl570_0; clear hi570_0 hl570_0; replace p570 := eq_true p570; replace q570 := eq_true q570
                  have p571 : 0 ≤ ((rd l1 x27_2) : Int) := of_decide_eq_true asmT
                  have q571 : (rd l1 x27_2) < ((rd_L6 l0_3 a2).length : Int) := of_decide_eq_true asmT
                  obtain ⟨ad571, e571, hx571_0⟩ := Kd.at_int HR570_0.out (rd l1 x27_2) p571 q571
                  cases e571
                  replace hx571_0 := hbc HB.out hx571_0; replace p571 := eq_true p571; replace q571 := eq_true q571; obtain ⟨Ao28, co28, eo28⟩ := Kd.R_slice HO_7.out; subst eo28
                  have p572 : 0 ≤ (0 : Int) := (by omega)
                  have q572 : 0 < (t565.length : Int) := of_decide_eq_true asmT
                  obtain ⟨ad572, e572, hx572_0⟩ := Kd.at_int (Kd.R_reads' HO_7.out).2.2 0 p572 q572
                  cases e572
                  have qi572 : (0 < t565.length) = True := eq_true (by omega)
                  (try rw [show ((0 : Int)).toNat = 0 from rfl] at hx572_0)
                  (try rw [Addr.add_zero'] at hx572_0)
                  replace p572 := eq_true p572; replace q572 := eq_true q572
                  have p573 : 0 ≤ ((rd t565 0) : Int) := of_decide_eq_true asmT
                  have q573 : (rd t565 0) < (l0_3.length : Int) := of_decide_eq_true asmT
                  obtain ⟨ad573, A573_0, c573_0, e573, hx573_0, hl573_0, hi573_0⟩ := at_L6 HR0_3.out (rd t565 0) p573 q573
                  obtain rfl : ad570 = ad573 := (by injection e573)
                  replace hx573_0 := hbc HB.out hx573_0; have HR573_0 := Aside0.mk hi573_0; have HC573_0 := Aside0.mk hl573_0; clear hi573_0 hl573_0; replace p573 := eq_true p573; replace q573 := eq_true q573
                  have p574 : 0 ≤ ((rd l1 x27_2) : Int) := of_decide_eq_true asmT
                  have q574 : (rd l1 x27_2) < ((rd_L6 l0_3 (rd t565 0)).length : Int) := of_decide_eq_true asmT
                  obtain ⟨ad574, e574, hx574_0⟩ := Kd.at_int HR573_0.out (rd l1 x27_2) p574 q574
                  cases e574
                  replace hx574_0 := hbc HB.out hx574_0; replace p574 := eq_true p574; replace q574 := eq_true q574
                  go_wp2
                  repeat (go_quiet (fail); try go_wp2)
                  go_ret
                  exact ⟨rlT, hbT HB.out⟩
                 ·rw [if_neg c26] at H
                  have c26b0 : decide ((rd (rd_L6 l0_3 (rd t565 0)) (rd l1 x27_2)) < (rd (rd_L6 l0_3 a2) (rd l1 x27_2))) = false := decide_eq_false c26
                  clear c26; have H' := Aside0.mk H; clear H
                  have p569 : 0 ≤ (x27_2 : Int) := of_decide_eq_true asmT
                  have q569 : x27_2 < (l1.length : Int) := of_decide_eq_true asmT
                  obtain ⟨ad569, e569, hx569_0⟩ := Kd.at_int HR1.out x27_2 p569 q569
                  cases e569
                  replace hx569_0 := hbc HB.out hx569_0; replace p569 := eq_true p569; replace q569 := eq_true q569
                  have hcz29_0 := bc0 BK564.out
                  have hcz29_1 := bc1 BK564.out
                  have hcz29_2 := bc2 BK564.out
                  have hcz29_3 := bc3 BK564.out
                  have hfz29_0 := blk_frozen BK564.out 0; have hfz29_1 := blk_frozen BK564.out 1; have hfz29_2 := blk_frozen BK564.out 2; have hfz29_3 := blk_frozen BK564.out 3
                  have p570 : 0 ≤ (a2 : Int) := of_decide_eq_true asmT
                  have q570 : a2 < (l0_3.length : Int) := of_decide_eq_true asmT
                  obtain ⟨ad570, A570_0, c570_0, e570, hx570_0, hl570_0, hi570_0⟩ := at_L6 HR0_3.out a2 p570 q570
                  cases e570
                  replace hx570_0 := hbc HB.out hx570_0; have HR570_0 := Aside0.mk hi570_0; have HC570_0 := Aside0.mk hl570_0; clear hi570_0 hl570_0; replace p570 := eq_true p570; replace q570 := eq_true q570
                  have p571 : 0 ≤ ((rd l1 x27_2) : Int) := of_decide_eq_true asmT
                  have q571 : (rd l1 x27_2) < ((rd_L6 l0_3 a2).length : Int) := of_decide_eq_true asmT
                  obtain ⟨ad571, e571, hx571_0⟩ := Kd.at_int HR570_0.out (rd l1 x27_2) p571 q571
                  cases e571
                  replace hx571_0 := hbc HB.out hx571_0; replace p571 := eq_true p571; replace q571 := eq_true q571; obtain ⟨Ao30, co30, eo30⟩ := Kd.R_slice HO_7.out; subst eo30
                  have p572 : 0 ≤ (0 : Int) := (by omega)
                  have q572 : 0 < (t565.length : Int) := of_decide_eq_true asmT
                  obtain ⟨ad572, e572, hx572_0⟩ := Kd.at_int (Kd.R_reads' HO_7.out).2.2 0 p572 q572
                  cases e572
                  have qi572 : (0 < t565.length) = True := eq_true (by omega)
                  (try rw [show ((0 : Int)).toNat = 0 from rfl] at hx572_0)
                  (try rw [Addr.add_zero'] at hx572_0)
                  replace p572 := eq_true p572; replace q572 := eq_true q572
                  have p573 : 0 ≤ ((rd t565 0) : Int) := of_decide_eq_true asmT
                  have q573 : (rd t565 0) < (l0_3.length : Int) := of_decide_eq_true asmT
                  obtain ⟨ad573, A573_0, c573_0, e573, hx573_0, hl573_0, hi573_0⟩ := at_L6 HR0_3.out (rd t565 0) p573 q573
                  obtain rfl : ad570 = ad573 := (by injection e573)
                  replace hx573_0 := hbc HB.out hx573_0; have HR573_0 := Aside0.mk hi573_0; have HC573_0 := Aside0.mk hl573_0; clear hi573_0 hl573_0; replace p573 := eq_true p573; replace q573 := eq_true q573
                  have p574 : 0 ≤ ((rd l1 x27_2) : Int) := of_decide_eq_true asmT
                  have q574 : (rd l1 x27_2) < ((rd_L6 l0_3 (rd t565 0)).length : Int) := of_decide_eq_true asmT
                  obtain ⟨ad574, e574, hx574_0⟩ := Kd.at_int HR573_0.out (rd l1 x27_2) p574 q574
                  cases e574
                  replace hx574_0 := hbc HB.out hx574_0; replace p574 := eq_true p574; replace q574 := eq_true q574
                  go_wp2
                  repeat (go_quiet (fail); try go_wp2)
                  go_roundg k2
                  case measure => have := HJ4.out; have := HK2.out; omega
                  case rel => exact ⟨(wrap64 (x27_2 + 1)), rdT, H', ⟨by have := HJ4.out; have := HK2.out; omega⟩, ⟨by (with_reducible repeat (first | apply Kd.R_alloc | apply Kd.R_drewN | apply Kd.R_drew)); exact HO_7.out⟩, ⟨by (with_reducible repeat (first | refine blk_drewN ?_ _ | refine blk_drew ?_ | refine blk_alloc ?_ _)); exact BK564.out⟩, ⟨hbT HB.out⟩⟩
                ·rw [if_neg c25] at H
                 exact absurd H (by simp)
               ·rw [if_neg c24] at H
                exact absurd H (by simp)
              ·rw [if_neg c23] at H
               exact absurd H (by simp)
             ·rw [if_neg c22] at H
              exact absurd H (by simp)
            ·rw [if_neg c21] at H
             exact absurd H (by simp)
           ·rw [if_neg c20] at H
            exact absurd H (by simp)
          ·rw [if_neg c19] at H
           exact absurd H (by simp)
         ·rw [if_neg c18] at H
          exact absurd H (by simp)
        ·rw [if_neg c17] at H
         exact absurd H (by simp)
       ·rw [if_neg c16] at H
        exact absurd H (by simp)
      ·rw [if_neg c15] at H
       have c15b0 : decide (x27_2 < (l1.length : Int)) = false := decide_eq_false c15
       clear c15
       obtain rfl := Option.some.inj H
       go_wp2
       repeat (go_quiet (fail); try go_wp2)
       go_ret
       exact ⟨rlT, hbT HB.out⟩
def laws_FnExactFatalMark.f (k : Nat) (a0_0 : ByteArray) (l0_1 : List ByteArray) (l0_2 : List (S83)) (l0_3 : List (List Int)) (l1 : List Int) (a2 : Int) : Option (Bool) := if (l1.length : Int) > 1048576 then (some true) else ((laws_szTableau.f k a0_0 l0_1 l0_2 l0_3 1048576).bind fun t576 => (if t576 < 0 then (some true) else ((laws_toTableau.f k a0_0 l0_1 l0_2 l0_3).bind fun bt577 => ((laws_toIntS.f k l1).bind fun t587 => ((spec_FatalMark.f k bt577.1 bt577.2.1 bt577.2.2.1 bt577.2.2.2 t587 a2).bind fun t590 => ((laws_toTableau.f k a0_0 l0_1 l0_2 l0_3).bind fun bt591 => ((laws_toIntS.f k l1).bind fun t602 => ((impl_FatalMark.f k bt591.1 bt591.2.1 bt591.2.2.1 bt591.2.2.2 t602 a2).bind fun t605 => (if t605 = t590 then ((laws_toTableau.f k a0_0 l0_1 l0_2 l0_3).bind fun bt606 => ((laws_eqTableau.f k bt591.1 bt591.2.1 bt591.2.2.1 bt591.2.2.2 bt606.1 bt606.2.1 bt606.2.2.1 bt606.2.2.2).bind fun t616 => (if t616 = true then ((laws_toIntS.f k l1).bind fun t617 => ((laws_eqIntS.f k t602 t617).bind fun t620 => (if t620 = true then (some true) else (none)))) else (none)))) else (none))))))))))
theorem laws_FnExactFatalMark.mono : ∀ a0 a1 a2 a3 a4 a5 k, LeO (laws_FnExactFatalMark.f k a0 a1 a2 a3 a4 a5) (laws_FnExactFatalMark.f (k + 1) a0 a1 a2 a3 a4 a5) := by
 intro a0 a1 a2 a3 a4 a5 k
 unfold laws_FnExactFatalMark.f
 with_reducible repeat' first | exact impl_FatalMark.mono _ _ _ _ _ _ _ | exact laws_eqIntS.mono _ _ _ | exact laws_eqTableau.mono _ _ _ _ _ _ _ _ _ | exact laws_szTableau.mono _ _ _ _ _ _ | exact laws_toIntS.mono _ _ | exact laws_toTableau.mono _ _ _ _ _ | exact spec_FatalMark.mono _ _ _ _ _ _ _ | exact LeO.refl _ | exact LeO.none _ | refine LeO.ite ?_ ?_ | refine LeO.bind ?_ (fun _ => ?_)
set_option maxHeartbeats 8000000 in
set_option maxRecDepth 100000 in
theorem laws_FnExactFatalMark.calls (k : Nat) (a0_0 : ByteArray) (A0_1 : Option Addr) (c0_1 : Nat) (l0_1 : List ByteArray) (A0_2 : Option Addr) (c0_2 : Nat) (l0_2 : List (S83)) (A0_3 : Option Addr) (c0_3 : Nat) (l0_3 : List (List Int)) (A1 : Option Addr) (c1 : Nat) (l1 : List Int) (a2 : Int) (r : Bool) (w : World) (hr0_1 : Kd.C Kd.string w A0_1 l0_1.length l0_1) (hc0_1 : l0_1.length ≤ c0_1) (hr0_2 : Kd.C k83 w A0_2 l0_2.length l0_2) (hc0_2 : l0_2.length ≤ c0_2) (hr0_3 : Kd.C (Kd.slice 3 (Kd.int .i64)) w A0_3 l0_3.length l0_3) (hc0_3 : l0_3.length ≤ c0_3) (hr1 : Kd.C (Kd.int .i64) w A1 l1.length l1) (hc1 : l1.length ≤ c1) (h : laws_FnExactFatalMark.f k a0_0 l0_1 l0_2 l0_3 l1 a2 = some r) :
  Calls Tryz.prog 5 #[.agg #[.string a0_0, .slice A0_1 l0_1.length c0_1, .slice A0_2 l0_2.length c0_2, .slice A0_3 l0_3.length c0_3], .slice A1 l1.length c1, .int .i64 a2] w fun e w' => e = .returned (.bool r) ∧ Below w.heap.size w w' := by
 have hu26 := Tryz.underlying26; have hu32 := Tryz.underlying32; have HR0_1 := Aside0.mk hr0_1; have HC0_1 := Aside0.mk hc0_1; clear hr0_1 hc0_1; have HR0_2 := Aside0.mk hr0_2; have HC0_2 := Aside0.mk hc0_2; clear hr0_2 hc0_2; have HR0_3 := Aside0.mk hr0_3; have HC0_3 := Aside0.mk hc0_3; clear hr0_3 hc0_3; have HR1 := Aside0.mk hr1; have HC1 := Aside0.mk hc1; clear hr1 hc1; have HB := asT (Below.refl w.heap.size w); have H := h; unfold laws_FnExactFatalMark.f at H; clear h
 by_cases c4 : (l1.length : Int) > 1048576
 ·rw [if_pos c4] at H
  have c4b0 : decide (1048576 < (l1.length : Int)) = true := decide_eq_true c4
  have c4b1 : decide (1048576 < l1.length) = true := decide_eq_true (by omega)
  clear c4
  obtain rfl := Option.some.inj H
  go_enter Tryz.func5, Tryz.ntmps5
  go_wp2_with (first | ((with_reducible refine gate_dst (N := 3) rfl ?_); refine boxT (N := 3) (cs := #[.string a0_0, .slice A0_1 l0_1.length c0_1, .slice A0_2 l0_2.length c0_2, .slice A0_3 l0_3.length c0_3]) (t := 26) ?_; intro gb575 hg w5 hbox hb; have BK575 := asT hbox; have GW575 := asT (geT hg HB.out); have GE575 := GW575; replace HB := hS HB hb; clear hb hbox hg))
  go_ret
  exact ⟨rlT, hbT HB.out⟩
 ·rw [if_neg c4] at H
  have c4b0 : decide (1048576 < (l1.length : Int)) = false := decide_eq_false c4
  have c4b1 : decide (1048576 < l1.length) = false := decide_eq_false (by omega)
  clear c4; obtain ⟨t576, A6, H⟩ := be H
  by_cases c7 : t576 < 0
  ·rw [if_pos c7] at H
   have c7b0 : decide (t576 < 0) = true := decide_eq_true c7
   clear c7
   obtain rfl := Option.some.inj H
   go_enter Tryz.func5, Tryz.ntmps5
   go_wp2_with (first | ((with_reducible refine gate_dst (N := 3) rfl ?_); refine boxT (N := 3) (cs := #[.string a0_0, .slice A0_1 l0_1.length c0_1, .slice A0_2 l0_2.length c0_2, .slice A0_3 l0_3.length c0_3]) (t := 26) ?_; intro gb575 hg w8 hbox hb; have BK575 := asT hbox; have GW575 := asT (geT hg HB.out); have GE575 := GW575; replace HB := hS HB hb; clear hb hbox hg; obtain ⟨hcz9_0, hcz9_1, hcz9_2, hcz9_3, hfz9_0, hfz9_1, hfz9_2, hfz9_3⟩ := bx4 BK575.out) | ((with_reducible refine gate_callee (f := 8) rfl ?_); refine goesL_ (some 17) rfl rfl Tryz.func8 (by kernel_rfl) rfl #[.agg #[.string a0_0, .slice A0_1 l0_1.length c0_1, .slice A0_2 l0_2.length c0_2, .slice A0_3 l0_3.length c0_3], .int .i64 1048576] rfl eqT ?_; (with_reducible refine (laws_szTableau.calls k a0_0 _ _ l0_1 _ _ l0_2 _ _ l0_3 1048576 t576 _ ?side1 ?side2 ?side3 ?side4 ?side5 ?side6 A6.out).mono ?_); (case side1 => exact crT HR0_1.out HB.out); (case side2 => exact HC0_1.out); (case side3 => exact crT HR0_2.out HB.out); (case side4 => exact HC0_2.out); (case side5 => exact crT HR0_3.out HB.out); (case side6 => exact HC0_3.out); rintro e w10 ⟨rfl, hb⟩; refine ⟨_, rfl, ?_⟩; replace BK575 := bS BK575 hb; replace HB := hS HB hb; (try clear hb hb2 hk hi)))
   go_ret
   exact ⟨rlT, hbT HB.out⟩
  ·rw [if_neg c7] at H
   have c7b0 : decide (t576 < 0) = false := decide_eq_false c7
   clear c7; replace H := Option.bind_eq_some_iff.mp H; obtain ⟨⟨t577, t578, t581, t584⟩, A110, H⟩ := H; replace H : ((laws_toIntS.f k l1).bind fun t587 => ((spec_FatalMark.f k t577 t578 t581 t584 t587 a2).bind fun t590 => ((laws_toTableau.f k a0_0 l0_1 l0_2 l0_3).bind fun bt591 => ((laws_toIntS.f k l1).bind fun t602 => ((impl_FatalMark.f k bt591.1 bt591.2.1 bt591.2.2.1 bt591.2.2.2 t602 a2).bind fun t605 => (if t605 = t590 then ((laws_toTableau.f k a0_0 l0_1 l0_2 l0_3).bind fun bt606 => ((laws_eqTableau.f k bt591.1 bt591.2.1 bt591.2.2.1 bt591.2.2.2 bt606.1 bt606.2.1 bt606.2.2.1 bt606.2.2.2).bind fun t616 => (if t616 = true then ((laws_toIntS.f k l1).bind fun t617 => ((laws_eqIntS.f k t602 t617).bind fun t620 => (if t620 = true then (some true) else (none)))) else (none)))) else (none))))))) = some r := H; have A11 := Aside0.mk A110; clear A110; obtain ⟨t587, A12, H⟩ := be H; obtain ⟨t590, A13, H⟩ := be H; replace H := Option.bind_eq_some_iff.mp H; obtain ⟨⟨t591, t592, t595, t598⟩, A140, H⟩ := H; replace H : ((laws_toIntS.f k l1).bind fun t602 => ((impl_FatalMark.f k t591 t592 t595 t598 t602 a2).bind fun t605 => (if t605 = t590 then ((laws_toTableau.f k a0_0 l0_1 l0_2 l0_3).bind fun bt606 => ((laws_eqTableau.f k t591 t592 t595 t598 bt606.1 bt606.2.1 bt606.2.2.1 bt606.2.2.2).bind fun t616 => (if t616 = true then ((laws_toIntS.f k l1).bind fun t617 => ((laws_eqIntS.f k t602 t617).bind fun t620 => (if t620 = true then (some true) else (none)))) else (none)))) else (none)))) = some r := H; have A14 := Aside0.mk A140; clear A140; obtain ⟨t602, A15, H⟩ := be H; obtain ⟨t605, A16, H⟩ := be H
   by_cases c17 : t605 = t590
   ·rw [if_pos c17] at H
    have c17b0 : (t605 == t590) = true := beq_iff_eq.mpr c17
    have c17b1 : (t605 != t590) = false := bne_eq_false_iff_eq.mpr c17
    clear c17; replace H := Option.bind_eq_some_iff.mp H; obtain ⟨⟨t606, t607, t610, t613⟩, A180, H⟩ := H; replace H : ((laws_eqTableau.f k t591 t592 t595 t598 t606 t607 t610 t613).bind fun t616 => (if t616 = true then ((laws_toIntS.f k l1).bind fun t617 => ((laws_eqIntS.f k t602 t617).bind fun t620 => (if t620 = true then (some true) else (none)))) else (none))) = some r := H; have A18 := Aside0.mk A180; clear A180; obtain ⟨t616, A19, H⟩ := be H
    by_cases c20 : t616 = true
    ·subst c20
     rw [if_pos rfl] at H; obtain ⟨t617, A21, H⟩ := be H; obtain ⟨t620, A22, H⟩ := be H
     by_cases c23 : t620 = true
     ·subst c23
      rw [if_pos rfl] at H; have H1 := H; clear H; have H := H1; clear H1
      obtain rfl := Option.some.inj H
      go_enter Tryz.func5, Tryz.ntmps5
      try go_wp2_with (first | ((with_reducible refine gate_dst (N := 3) rfl ?_); refine boxT (N := 3) (cs := #[.string a0_0, .slice A0_1 l0_1.length c0_1, .slice A0_2 l0_2.length c0_2, .slice A0_3 l0_3.length c0_3]) (t := 26) ?_; intro gb575 hg w24 hbox hb; have BK575 := asT hbox; have GW575 := asT (geT hg HB.out); have GE575 := GW575; replace HB := hS HB hb; clear hb hbox hg; obtain ⟨hcz25_0, hcz25_1, hcz25_2, hcz25_3, hfz25_0, hfz25_1, hfz25_2, hfz25_3⟩ := bx4 BK575.out) | ((with_reducible refine gate_callee (f := 8) rfl ?_); refine goesL_ (some 17) rfl rfl Tryz.func8 (by kernel_rfl) rfl #[.agg #[.string a0_0, .slice A0_1 l0_1.length c0_1, .slice A0_2 l0_2.length c0_2, .slice A0_3 l0_3.length c0_3], .int .i64 1048576] rfl eqT ?_; (with_reducible refine (laws_szTableau.calls k a0_0 _ _ l0_1 _ _ l0_2 _ _ l0_3 1048576 t576 _ ?side1 ?side2 ?side3 ?side4 ?side5 ?side6 A6.out).mono ?_); (case side1 => exact crT HR0_1.out HB.out); (case side2 => exact HC0_1.out); (case side3 => exact crT HR0_2.out HB.out); (case side4 => exact HC0_2.out); (case side5 => exact crT HR0_3.out HB.out); (case side6 => exact HC0_3.out); rintro e w26 ⟨rfl, hb⟩; refine ⟨_, rfl, ?_⟩; replace BK575 := bS BK575 hb; replace HB := hS HB hb; (try clear hb hb2 hk hi); obtain ⟨hcz27_0, hcz27_1, hcz27_2, hcz27_3, hfz27_0, hfz27_1, hfz27_2, hfz27_3⟩ := bx4 BK575.out) | ((with_reducible refine gate_callee (f := 10) rfl ?_); refine goesL_ (some 21) rfl rfl Tryz.func10 (by kernel_rfl) rfl #[.agg #[.string a0_0, .slice A0_1 l0_1.length c0_1, .slice A0_2 l0_2.length c0_2, .slice A0_3 l0_3.length c0_3]] rfl eqT ?_; (with_reducible refine (laws_toTableau.calls k a0_0 _ _ l0_1 _ _ l0_2 _ _ l0_3 t577 t578 t581 t584 _ ?side1 ?side2 ?side3 ?side4 ?side5 ?side6 A11.out).mono ?_); (case side1 => exact crT HR0_1.out HB.out); (case side2 => exact HC0_1.out); (case side3 => exact crT HR0_2.out HB.out); (case side4 => exact HC0_2.out); (case side5 => exact crT HR0_3.out HB.out); (case side6 => exact HC0_3.out); rintro e w28 ⟨v579, v582, v585, rfl, ho0, ho1, ho2, hb⟩; refine ⟨_, rfl, ?_⟩; have HO580 := asT (Kd.R_lower ho0 (below_size (hbT HB.out))); have HO583 := asT (Kd.S_lower ho1 (below_size (hbT HB.out))); have HO586 := asT (Kd.S_lower ho2 (below_size (hbT HB.out))); replace BK575 := bS BK575 hb; replace HB := hS HB hb; (try clear hb hb2 hk hi ho0 ho1 ho2)) | ((with_reducible refine gate_callee (f := 23) rfl ?_); refine goesL_ (some 23) rfl rfl Tryz.func23 (by kernel_rfl) rfl #[.slice A1 l1.length c1] rfl eqT ?_; (with_reducible refine (laws_toIntS.calls k _ _ l1 t587 _ ?side1 ?side2 A12.out).mono ?_); (case side1 => exact crT HR1.out HB.out); (case side2 => exact HC1.out); rintro e w29 ⟨v588, rfl, ho0, hb⟩; refine ⟨_, rfl, ?_⟩; replace HO580 := asT (Kd.R_below (roT HO580.out) hb); replace HO583 := asT (Kd.S_below (by (with_reducible repeat (first | apply Kd.S_alloc | apply Kd.S_drewN | apply Kd.S_drew)); exact HO583.out) hb); replace HO586 := asT (Kd.S_elder' (by (with_reducible repeat (first | apply Kd.S_alloc | apply Kd.S_drewN | apply Kd.S_drew)); exact HO586.out) (Kd.R_base ho0) hb); have HO589 := asT (Kd.R_lower ho0 (below_size (hbT HB.out))); replace BK575 := bS BK575 hb; replace HB := hS HB hb; (try clear hb hb2 hk hi ho0); obtain ⟨Ao30, co30, eo30⟩ := Kd.R_slice HO580.out; subst eo30; obtain ⟨Ao31, co31, eo31⟩ := Kd.S_slice HO583.out; subst eo31; obtain ⟨Ao32, co32, eo32⟩ := Kd.S_slice HO586.out; subst eo32; obtain ⟨Ao33, co33, eo33⟩ := Kd.R_slice HO589.out; subst eo33) | ((with_reducible refine gate_callee (f := 22) rfl ?_); refine goesL_ (some 25) rfl rfl Tryz.func22 (by kernel_rfl) rfl #[.agg #[.string t577, .slice Ao30 t578.length co30, .slice Ao31 t581.length co31, .slice Ao32 t584.length co32], .slice Ao33 t587.length co33, .int .i64 a2] rfl eqT ?_; (with_reducible refine (spec_FatalMark.calls k t577 _ _ t578 _ _ t581 _ _ t584 _ _ t587 a2 t590 _ ?side1 ?side2 ?side3 ?side4 ?side5 ?side6 ?side7 ?side8 A13.out).mono ?_); (case side1 => repeat (first | exact (Kd.R_reads' HO580.out).2.2 | (with_reducible refine Kd.C_alloc ?_ _) | (with_reducible refine Kd.C_drewN ?_ _) | (with_reducible refine Kd.C_drew ?_))); (case side2 => exact (Kd.R_reads' HO580.out).2.1); (case side3 => repeat (first | exact (Kd.S_reads' HO583.out).2.2 | (with_reducible refine Kd.C_alloc ?_ _) | (with_reducible refine Kd.C_drewN ?_ _) | (with_reducible refine Kd.C_drew ?_))); (case side4 => exact (Kd.S_reads' HO583.out).2.1); (case side5 => repeat (first | exact (Kd.S_reads' HO586.out).2.2 | (with_reducible refine Kd.C_alloc ?_ _) | (with_reducible refine Kd.C_drewN ?_ _) | (with_reducible refine Kd.C_drew ?_))); (case side6 => exact (Kd.S_reads' HO586.out).2.1); (case side7 => repeat (first | exact (Kd.R_reads' HO589.out).2.2 | (with_reducible refine Kd.C_alloc ?_ _) | (with_reducible refine Kd.C_drewN ?_ _) | (with_reducible refine Kd.C_drew ?_))); (case side8 => exact (Kd.R_reads' HO589.out).2.1); rintro e w34 ⟨rfl, hb⟩; refine ⟨_, rfl, ?_⟩; replace HO580 := asT (Kd.R_below (roT HO580.out) hb); replace HO583 := asT (Kd.S_below (by (with_reducible repeat (first | apply Kd.S_alloc | apply Kd.S_drewN | apply Kd.S_drew)); exact HO583.out) hb); replace HO586 := asT (Kd.S_below (by (with_reducible repeat (first | apply Kd.S_alloc | apply Kd.S_drewN | apply Kd.S_drew)); exact HO586.out) hb); replace HO589 := asT (Kd.R_below (roT HO589.out) hb); replace BK575 := bS BK575 hb; replace HB := hS HB hb; (try clear hb hb2 hk hi); obtain ⟨hcz35_0, hcz35_1, hcz35_2, hcz35_3, hfz35_0, hfz35_1, hfz35_2, hfz35_3⟩ := bx4 BK575.out) | ((with_reducible refine gate_callee (f := 10) rfl ?_); refine goesL_ (some 27) rfl rfl Tryz.func10 (by kernel_rfl) rfl #[.agg #[.string a0_0, .slice A0_1 l0_1.length c0_1, .slice A0_2 l0_2.length c0_2, .slice A0_3 l0_3.length c0_3]] rfl eqT ?_; (with_reducible refine (laws_toTableau.calls k a0_0 _ _ l0_1 _ _ l0_2 _ _ l0_3 t591 t592 t595 t598 _ ?side1 ?side2 ?side3 ?side4 ?side5 ?side6 A14.out).mono ?_); (case side1 => exact crT HR0_1.out HB.out); (case side2 => exact HC0_1.out); (case side3 => exact crT HR0_2.out HB.out); (case side4 => exact HC0_2.out); (case side5 => exact crT HR0_3.out HB.out); (case side6 => exact HC0_3.out); rintro e w36 ⟨v593, v596, v599, rfl, ho0, ho1, ho2, hb⟩; refine ⟨_, rfl, ?_⟩; have HO594 := asT (Kd.R_lower (Kd.R_new' ho0 (Kd.R_lt (roT HO580.out))) (below_size (hbT HB.out))); replace HO580 := asT (Kd.R_elder' (roT HO580.out) (Kd.R_base ho0) hb); have HO597 := asT (Kd.S_lower (Kd.S_new' ho1 (Kd.S_lt (by (with_reducible repeat (first | apply Kd.S_alloc | apply Kd.S_drewN | apply Kd.S_drew)); exact HO583.out))) (below_size (hbT HB.out))); replace HO583 := asT (Kd.S_elder' (by (with_reducible repeat (first | apply Kd.S_alloc | apply Kd.S_drewN | apply Kd.S_drew)); exact HO583.out) (Kd.S_base ho1) hb); have HO600 := asT (Kd.S_lower (Kd.S_new' (Kd.S_new' ho2 (Kd.S_lt (by (with_reducible repeat (first | apply Kd.S_alloc | apply Kd.S_drewN | apply Kd.S_drew)); exact HO586.out))) (Kd.R_lt (roT HO589.out))) (below_size (hbT HB.out))); replace HO586 := asT (Kd.S_elder' (by (with_reducible repeat (first | apply Kd.S_alloc | apply Kd.S_drewN | apply Kd.S_drew)); exact HO586.out) (Kd.S_base ho2) hb); replace HO589 := asT (Kd.R_below (roT HO589.out) hb); replace BK575 := bS BK575 hb; replace HB := hS HB hb; (try clear hb hb2 hk hi ho0 ho1 ho2)) | ((with_reducible refine gate_dst (N := 9) rfl ?_); refine boxT (N := 9) (cs := #[.string (⟨#[]⟩ : ByteArray), .slice none 0 0, .slice none 0 0, .slice none 0 0]) (t := 32) ?_; intro gb601 hg w37 hbox hb; replace HO580 := asT (Kd.R_below (roT HO580.out) hb); replace HO583 := asT (Kd.S_below (by (with_reducible repeat (first | apply Kd.S_alloc | apply Kd.S_drewN | apply Kd.S_drew)); exact HO583.out) hb); replace HO586 := asT (Kd.S_below (by (with_reducible repeat (first | apply Kd.S_alloc | apply Kd.S_drewN | apply Kd.S_drew)); exact HO586.out) hb); replace HO589 := asT (Kd.R_below (roT HO589.out) hb); replace HO594 := asT (Kd.R_below (roT HO594.out) hb); replace HO597 := asT (Kd.S_below (by (with_reducible repeat (first | apply Kd.S_alloc | apply Kd.S_drewN | apply Kd.S_drew)); exact HO597.out) hb); replace HO600 := asT (Kd.S_below (by (with_reducible repeat (first | apply Kd.S_alloc | apply Kd.S_drewN | apply Kd.S_drew)); exact HO600.out) hb); have BK601 := asT (hbox); have GW601 := asT (geT hg HB.out); have GE601 := asT (geT hg HB.out); replace HB := hS HB hb; have NB575_601 := asT ((by rw [hg]; exact Nat.ne_of_lt (blk_lt (bkT BK575.out)) : gb575 ≠ gb601)); have NB601_575 := asT ((by rw [hg]; exact Nat.ne_of_gt (blk_lt (bkT BK575.out)) : gb601 ≠ gb575)); replace BK575 := bS BK575 hb; clear hb hbox hg; have hnb38 := NB601_575.out; have hnc38 := NB575_601.out; obtain ⟨hcz39_0, hcz39_1, hcz39_2, hcz39_3, hfz39_0, hfz39_1, hfz39_2, hfz39_3⟩ := bx4 BK601.out; obtain ⟨Ao40, co40, eo40⟩ := Kd.R_slice HO594.out; subst eo40; obtain ⟨Ao41, co41, eo41⟩ := Kd.S_slice HO597.out; subst eo41; obtain ⟨Ao42, co42, eo42⟩ := Kd.S_slice HO600.out; subst eo42) | ((with_reducible refine gate_callee (f := 23) rfl ?_); refine goesL_ (some 29) rfl rfl Tryz.func23 (by kernel_rfl) rfl #[.slice A1 l1.length c1] rfl eqT ?_; (with_reducible refine (laws_toIntS.calls k _ _ l1 t602 _ ?side1 ?side2 A15.out).mono ?_); (case side1 => exact Kd.C_below HR1.out (hbT HB.out)); (case side2 => exact HC1.out); rintro e w43 ⟨v603, rfl, ho0, hb⟩; refine ⟨_, rfl, ?_⟩; replace HO580 := asT (Kd.R_below (by (with_reducible repeat (first | apply Kd.R_alloc | apply Kd.R_drewN | apply Kd.R_drew)); exact (Kd.R_mono (Kd.R_far (p := ⟨gb601, 3, none⟩) (Kd.R_far (p := ⟨gb601, 2, none⟩) (Kd.R_far (p := ⟨gb601, 1, none⟩) (Kd.R_far (p := ⟨gb601, 0, none⟩) (Kd.R_types HO580.out BK601.out (by decide)) (fun _ hk => hk.2) (.string t591)) (fun _ hk => hk.2) (.slice Ao40 t592.length co40)) (fun _ hk => hk.2) (.slice Ao41 t595.length co41)) (fun _ hk => hk.2) (.slice Ao42 t598.length co42)) (fun _ h_ => h_.1))) hb); replace HO583 := asT (Kd.S_below (by (with_reducible repeat (first | apply Kd.S_alloc | apply Kd.S_drewN | apply Kd.S_drew)); exact (Kd.S_mono (Kd.S_far (p := ⟨gb601, 3, none⟩) (Kd.S_far (p := ⟨gb601, 2, none⟩) (Kd.S_far (p := ⟨gb601, 1, none⟩) (Kd.S_far (p := ⟨gb601, 0, none⟩) (Kd.S_types HO583.out BK601.out (by decide)) (fun _ hk => hk.2) (.string t591)) (fun _ hk => hk.2) (.slice Ao40 t592.length co40)) (fun _ hk => hk.2) (.slice Ao41 t595.length co41)) (fun _ hk => hk.2) (.slice Ao42 t598.length co42)) (fun _ h_ => h_.1))) hb); replace HO586 := asT (Kd.S_elder' (by (with_reducible repeat (first | apply Kd.S_alloc | apply Kd.S_drewN | apply Kd.S_drew)); exact (Kd.S_mono (Kd.S_far (p := ⟨gb601, 3, none⟩) (Kd.S_far (p := ⟨gb601, 2, none⟩) (Kd.S_far (p := ⟨gb601, 1, none⟩) (Kd.S_far (p := ⟨gb601, 0, none⟩) (Kd.S_types HO586.out BK601.out (by decide)) (fun _ hk => hk.2) (.string t591)) (fun _ hk => hk.2) (.slice Ao40 t592.length co40)) (fun _ hk => hk.2) (.slice Ao41 t595.length co41)) (fun _ hk => hk.2) (.slice Ao42 t598.length co42)) (fun _ h_ => h_.1))) (Kd.R_base ho0) hb); replace HO594 := asT (Kd.R_below (by (with_reducible repeat (first | apply Kd.R_alloc | apply Kd.R_drewN | apply Kd.R_drew)); exact (Kd.R_mono (Kd.R_far (p := ⟨gb601, 3, none⟩) (Kd.R_far (p := ⟨gb601, 2, none⟩) (Kd.R_far (p := ⟨gb601, 1, none⟩) (Kd.R_far (p := ⟨gb601, 0, none⟩) (Kd.R_types HO594.out BK601.out (by decide)) (fun _ hk => hk.2) (.string t591)) (fun _ hk => hk.2) (.slice Ao40 t592.length co40)) (fun _ hk => hk.2) (.slice Ao41 t595.length co41)) (fun _ hk => hk.2) (.slice Ao42 t598.length co42)) (fun _ h_ => h_.1))) hb); replace HO597 := asT (Kd.S_below (by (with_reducible repeat (first | apply Kd.S_alloc | apply Kd.S_drewN | apply Kd.S_drew)); exact (Kd.S_mono (Kd.S_far (p := ⟨gb601, 3, none⟩) (Kd.S_far (p := ⟨gb601, 2, none⟩) (Kd.S_far (p := ⟨gb601, 1, none⟩) (Kd.S_far (p := ⟨gb601, 0, none⟩) (Kd.S_types HO597.out BK601.out (by decide)) (fun _ hk => hk.2) (.string t591)) (fun _ hk => hk.2) (.slice Ao40 t592.length co40)) (fun _ hk => hk.2) (.slice Ao41 t595.length co41)) (fun _ hk => hk.2) (.slice Ao42 t598.length co42)) (fun _ h_ => h_.1))) hb); replace HO600 := asT (Kd.S_elder' (by (with_reducible repeat (first | apply Kd.S_alloc | apply Kd.S_drewN | apply Kd.S_drew)); exact (Kd.S_mono (Kd.S_far (p := ⟨gb601, 3, none⟩) (Kd.S_far (p := ⟨gb601, 2, none⟩) (Kd.S_far (p := ⟨gb601, 1, none⟩) (Kd.S_far (p := ⟨gb601, 0, none⟩) (Kd.S_types HO600.out BK601.out (by decide)) (fun _ hk => hk.2) (.string t591)) (fun _ hk => hk.2) (.slice Ao40 t592.length co40)) (fun _ hk => hk.2) (.slice Ao41 t595.length co41)) (fun _ hk => hk.2) (.slice Ao42 t598.length co42)) (fun _ h_ => h_.1))) (Kd.R_base ho0) hb); have HO604 := asT (Kd.R_lower (Kd.R_new' ho0 (Kd.R_lt (by (with_reducible repeat (first | apply Kd.R_alloc | apply Kd.R_drewN | apply Kd.R_drew)); exact (Kd.R_mono (Kd.R_far (p := ⟨gb601, 3, none⟩) (Kd.R_far (p := ⟨gb601, 2, none⟩) (Kd.R_far (p := ⟨gb601, 1, none⟩) (Kd.R_far (p := ⟨gb601, 0, none⟩) (Kd.R_types HO589.out BK601.out (by decide)) (fun _ hk => hk.2) (.string t591)) (fun _ hk => hk.2) (.slice Ao40 t592.length co40)) (fun _ hk => hk.2) (.slice Ao41 t595.length co41)) (fun _ hk => hk.2) (.slice Ao42 t598.length co42)) (fun _ h_ => h_.1))))) (below_size (hbT HB.out))); replace HO589 := asT (Kd.R_elder' (by (with_reducible repeat (first | apply Kd.R_alloc | apply Kd.R_drewN | apply Kd.R_drew)); exact (Kd.R_mono (Kd.R_far (p := ⟨gb601, 3, none⟩) (Kd.R_far (p := ⟨gb601, 2, none⟩) (Kd.R_far (p := ⟨gb601, 1, none⟩) (Kd.R_far (p := ⟨gb601, 0, none⟩) (Kd.R_types HO589.out BK601.out (by decide)) (fun _ hk => hk.2) (.string t591)) (fun _ hk => hk.2) (.slice Ao40 t592.length co40)) (fun _ hk => hk.2) (.slice Ao41 t595.length co41)) (fun _ hk => hk.2) (.slice Ao42 t598.length co42)) (fun _ h_ => h_.1))) (Kd.R_base ho0) hb); replace BK575 := asT (blk_below (g := gb575) (o := .cells #[.string a0_0, .slice A0_1 l0_1.length c0_1, .slice A0_2 l0_2.length c0_2, .slice A0_3 l0_3.length c0_3] 26 (0, 0)) (by (with_reducible repeat (first | refine blk_drewN ?_ _ | refine blk_drew ?_ | refine blk_alloc ?_ _)); refine blk_far ?_ NB575_601.out _; (with_reducible repeat (first | refine blk_drewN ?_ _ | refine blk_drew ?_ | refine blk_alloc ?_ _)); refine blk_far ?_ NB575_601.out _; (with_reducible repeat (first | refine blk_drewN ?_ _ | refine blk_drew ?_ | refine blk_alloc ?_ _)); refine blk_far ?_ NB575_601.out _; (with_reducible repeat (first | refine blk_drewN ?_ _ | refine blk_drew ?_ | refine blk_alloc ?_ _)); refine blk_far ?_ NB575_601.out _; (with_reducible repeat (first | refine blk_drewN ?_ _ | refine blk_drew ?_ | refine blk_alloc ?_ _)); exact BK575.out) hb); replace BK601 := asT (blk_below (g := gb601) (o := .cells #[.string t591, .slice Ao40 t592.length co40, .slice Ao41 t595.length co41, .slice Ao42 t598.length co42] 32 (0, 0)) (by (with_reducible repeat (first | refine blk_drewN ?_ _ | refine blk_drew ?_ | refine blk_alloc ?_ _)); refine blk_put (cs := #[.string t591, .slice Ao40 t592.length co40, .slice Ao41 t595.length co41, .slice none 0 0]) ?_ 3 _ rfl; (with_reducible repeat (first | refine blk_drewN ?_ _ | refine blk_drew ?_ | refine blk_alloc ?_ _)); refine blk_put (cs := #[.string t591, .slice Ao40 t592.length co40, .slice none 0 0, .slice none 0 0]) ?_ 2 _ rfl; (with_reducible repeat (first | refine blk_drewN ?_ _ | refine blk_drew ?_ | refine blk_alloc ?_ _)); refine blk_put (cs := #[.string t591, .slice none 0 0, .slice none 0 0, .slice none 0 0]) ?_ 1 _ rfl; (with_reducible repeat (first | refine blk_drewN ?_ _ | refine blk_drew ?_ | refine blk_alloc ?_ _)); refine blk_put (cs := #[.string (⟨#[]⟩ : ByteArray), .slice none 0 0, .slice none 0 0, .slice none 0 0]) ?_ 0 _ rfl; (with_reducible repeat (first | refine blk_drewN ?_ _ | refine blk_drew ?_ | refine blk_alloc ?_ _)); exact BK601.out) hb); replace HB := hS HB hb; (try clear hb hb2 hk hi ho0); obtain ⟨hcz44_0, hcz44_1, hcz44_2, hcz44_3, hfz44_0, hfz44_1, hfz44_2, hfz44_3⟩ := bx4 BK601.out; obtain ⟨Ao45, co45, eo45⟩ := Kd.R_slice HO604.out; subst eo45) | ((with_reducible refine gate_callee (f := 24) rfl ?_); refine goesL_ (some 33) rfl rfl Tryz.func24 (by kernel_rfl) rfl #[.agg #[.string t591, .slice Ao40 t592.length co40, .slice Ao41 t595.length co41, .slice Ao42 t598.length co42], .slice Ao45 t602.length co45, .int .i64 a2] rfl eqT ?_; (with_reducible refine (impl_FatalMark.calls k t591 _ _ t592 _ _ t595 _ _ t598 _ _ t602 a2 t605 _ ?side1 ?side2 ?side3 ?side4 ?side5 ?side6 ?side7 ?side8 A16.out).mono ?_); (case side1 => repeat (first | exact (Kd.R_reads' HO594.out).2.2 | (with_reducible refine Kd.C_alloc ?_ _) | (with_reducible refine Kd.C_drewN ?_ _) | (with_reducible refine Kd.C_drew ?_))); (case side2 => exact (Kd.R_reads' HO594.out).2.1); (case side3 => repeat (first | exact (Kd.S_reads' HO597.out).2.2 | (with_reducible refine Kd.C_alloc ?_ _) | (with_reducible refine Kd.C_drewN ?_ _) | (with_reducible refine Kd.C_drew ?_))); (case side4 => exact (Kd.S_reads' HO597.out).2.1); (case side5 => repeat (first | exact (Kd.S_reads' HO600.out).2.2 | (with_reducible refine Kd.C_alloc ?_ _) | (with_reducible refine Kd.C_drewN ?_ _) | (with_reducible refine Kd.C_drew ?_))); (case side6 => exact (Kd.S_reads' HO600.out).2.1); (case side7 => repeat (first | exact (Kd.R_reads' HO604.out).2.2 | (with_reducible refine Kd.C_alloc ?_ _) | (with_reducible refine Kd.C_drewN ?_ _) | (with_reducible refine Kd.C_drew ?_))); (case side8 => exact (Kd.R_reads' HO604.out).2.1); rintro e w46 ⟨rfl, hb⟩; refine ⟨_, rfl, ?_⟩; replace HO580 := asT (Kd.R_below (roT HO580.out) hb); replace HO583 := asT (Kd.S_below (by (with_reducible repeat (first | apply Kd.S_alloc | apply Kd.S_drewN | apply Kd.S_drew)); exact HO583.out) hb); replace HO586 := asT (Kd.S_below (by (with_reducible repeat (first | apply Kd.S_alloc | apply Kd.S_drewN | apply Kd.S_drew)); exact HO586.out) hb); replace HO589 := asT (Kd.R_below (roT HO589.out) hb); replace HO594 := asT (Kd.R_below (roT HO594.out) hb); replace HO597 := asT (Kd.S_below (by (with_reducible repeat (first | apply Kd.S_alloc | apply Kd.S_drewN | apply Kd.S_drew)); exact HO597.out) hb); replace HO600 := asT (Kd.S_below (by (with_reducible repeat (first | apply Kd.S_alloc | apply Kd.S_drewN | apply Kd.S_drew)); exact HO600.out) hb); replace HO604 := asT (Kd.R_below (roT HO604.out) hb); replace BK575 := bS BK575 hb; replace BK601 := bS BK601 hb; replace HB := hS HB hb; (try clear hb hb2 hk hi)))
      replace HO580 := asT (Kd.R_drew HO580.out); replace HO583 := asT (Kd.S_drew HO583.out); replace HO586 := asT (Kd.S_drew HO586.out); replace HO589 := asT (Kd.R_drew HO589.out); replace HO594 := asT (Kd.R_drew HO594.out); replace HO597 := asT (Kd.S_drew HO597.out); replace HO600 := asT (Kd.S_drew HO600.out); replace HO604 := asT (Kd.R_drew HO604.out); replace BK575 := asT (blk_drew BK575.out); replace BK601 := asT (blk_drew BK601.out); replace HB := asT (below_drew1 HB.out)
      refine start_ (n := 5) (S := fun w' => w'.cell? ⟨gb601, 0, none⟩ = some (.string t591) ∧ w'.cell? ⟨gb601, 1, none⟩ = some (.slice Ao40 t592.length co40) ∧ w'.cell? ⟨gb601, 2, none⟩ = some (.slice Ao41 t595.length co41) ∧ w'.cell? ⟨gb601, 3, none⟩ = some (.slice Ao42 t598.length co42) ∧ w'.cell? ⟨gb575, 0, none⟩ = some (.string a0_0) ∧ w'.cell? ⟨gb575, 1, none⟩ = some (.slice A0_1 l0_1.length c0_1) ∧ w'.cell? ⟨gb575, 2, none⟩ = some (.slice A0_2 l0_2.length c0_2) ∧ w'.cell? ⟨gb575, 3, none⟩ = some (.slice A0_3 l0_3.length c0_3)) (ds := []) #[false, false, false, false, false] (by kernel_rfl) rfl rfl ⟨bc0 BK601.out, bc1 BK601.out, bc2 BK601.out, bc3 BK601.out, bc0 BK575.out, bc1 BK575.out, bc2 BK575.out, bc3 BK575.out⟩ (fun hHeld => ?_)
      generalize w46.drew = w47 at HO580 HO583 HO586 HO589 HO594 HO597 HO600 HO604 BK575 BK601 HB hHeld ⊢
      refine take_ (i := 0) (N := some 37) (v := ?_) (a' := ?_) #[true, false, false, false, false] rfl rfl (by kernel_rfl) (fun _ _ _ h => h) (Or.inl ⟨by rfl, ?_⟩) hHeld ?_ ?_
      rotate_left
      ·rintro w' ⟨s0, s1, s2, s3, s4, s5, s6, s7⟩
       go_simp
       (with_reducible rfl)
      rotate_left
      ·simp only [Act.put, sA, sZ, sS, i64_w, i32_w]
       rfl
      refine take_ (i := 1) (N := some 38) (v := ?_) (a' := ?_) #[true, true, false, false, false] rfl rfl (by kernel_rfl) (fun _ _ _ h => h) (Or.inl ⟨by rfl, ?_⟩) hHeld ?_ ?_
      rotate_left
      ·rintro w' ⟨s0, s1, s2, s3, s4, s5, s6, s7⟩
       go_simp
       (with_reducible rfl)
      rotate_left
      ·simp only [Act.put, sA, sZ, sS, i64_w, i32_w]
       rfl
      refine one_ (i := 2) (N := some 39) #[true, true, true, false, false] rfl rfl (by kernel_rfl) (by decide) (fun K hK => ?_)
      refine goes_ Tryz.func10 (by kernel_rfl) rfl #[.agg #[.string a0_0, .slice A0_1 l0_1.length c0_1, .slice A0_2 l0_2.length c0_2, .slice A0_3 l0_3.length c0_3]] (by rfl) rfl rfl eqT ?_
      (with_reducible refine (laws_toTableau.calls k a0_0 _ _ l0_1 _ _ l0_2 _ _ l0_3 t606 t607 t610 t613 _ ?side1 ?side2 ?side3 ?side4 ?side5 ?side6 A18.out).mono ?_); (case side1 => exact crT HR0_1.out HB.out); (case side2 => exact HC0_1.out); (case side3 => exact crT HR0_2.out HB.out); (case side4 => exact HC0_2.out); (case side5 => exact crT HR0_3.out HB.out); (case side6 => exact HC0_3.out); rintro e w48 ⟨v608, v611, v614, rfl, ho0, ho1, ho2, hb⟩; refine ⟨_, rfl, ?_⟩; have HO609 := asT (Kd.R_lower (Kd.R_new' (Kd.R_new' ho0 (Kd.R_lt (roT HO580.out))) (Kd.R_lt (roT HO594.out))) (below_size (hbT HB.out))); replace HO580 := asT (Kd.R_elder' (roT HO580.out) (Kd.R_base ho0) hb); replace HO594 := asT (Kd.R_elder' (roT HO594.out) (Kd.R_base ho0) hb); have HO612 := asT (Kd.S_lower (Kd.S_new' (Kd.S_new' ho1 (Kd.S_lt (by (with_reducible repeat (first | apply Kd.S_alloc | apply Kd.S_drewN | apply Kd.S_drew)); exact HO583.out))) (Kd.S_lt (by (with_reducible repeat (first | apply Kd.S_alloc | apply Kd.S_drewN | apply Kd.S_drew)); exact HO597.out))) (below_size (hbT HB.out))); replace HO583 := asT (Kd.S_elder' (by (with_reducible repeat (first | apply Kd.S_alloc | apply Kd.S_drewN | apply Kd.S_drew)); exact HO583.out) (Kd.S_base ho1) hb); replace HO597 := asT (Kd.S_elder' (by (with_reducible repeat (first | apply Kd.S_alloc | apply Kd.S_drewN | apply Kd.S_drew)); exact HO597.out) (Kd.S_base ho1) hb); have HO615 := asT (Kd.S_lower (Kd.S_new' (Kd.S_new' (Kd.S_new' (Kd.S_new' ho2 (Kd.S_lt (by (with_reducible repeat (first | apply Kd.S_alloc | apply Kd.S_drewN | apply Kd.S_drew)); exact HO586.out))) (Kd.R_lt (roT HO589.out))) (Kd.S_lt (by (with_reducible repeat (first | apply Kd.S_alloc | apply Kd.S_drewN | apply Kd.S_drew)); exact HO600.out))) (Kd.R_lt (roT HO604.out))) (below_size (hbT HB.out))); replace HO586 := asT (Kd.S_elder' (by (with_reducible repeat (first | apply Kd.S_alloc | apply Kd.S_drewN | apply Kd.S_drew)); exact HO586.out) (Kd.S_base ho2) hb); replace HO589 := asT (Kd.R_below (roT HO589.out) hb); replace HO600 := asT (Kd.S_elder' (by (with_reducible repeat (first | apply Kd.S_alloc | apply Kd.S_drewN | apply Kd.S_drew)); exact HO600.out) (Kd.S_base ho2) hb); replace HO604 := asT (Kd.R_below (roT HO604.out) hb); replace BK575 := bS BK575 hb; replace BK601 := bS BK601 hb; replace HB := hS HB hb; (try clear hb hb2 hk hi ho0 ho1 ho2); obtain ⟨Ao49, co49, eo49⟩ := Kd.R_slice HO609.out; (first | subst eo49 | (injection eo49 with f1_ f2_ f3_; have f4_ := f1_.symm; have f5_ := f3_.symm; clear f1_ f2_ f3_; subst f4_; subst f5_)); obtain ⟨Ao50, co50, eo50⟩ := Kd.S_slice HO612.out; (first | subst eo50 | (injection eo50 with f1_ f2_ f3_; have f4_ := f1_.symm; have f5_ := f3_.symm; clear f1_ f2_ f3_; subst f4_; subst f5_)); obtain ⟨Ao51, co51, eo51⟩ := Kd.S_slice HO615.out; (first | subst eo51 | (injection eo51 with f1_ f2_ f3_; have f4_ := f1_.symm; have f5_ := f3_.symm; clear f1_ f2_ f3_; subst f4_; subst f5_))
      refine hK.out _ _ ⟨bc0 BK601.out, bc1 BK601.out, bc2 BK601.out, bc3 BK601.out, bc0 BK575.out, bc1 BK575.out, bc2 BK575.out, bc3 BK575.out⟩ (fun hHeld => ?_)
      clear hK K
      refine nB 39 ?_ rfl
      refine one_ (i := 3) (N := some 40) #[true, true, true, true, false] rfl rfl (by kernel_rfl) (by decide) (fun K hK => ?_)
      refine goes_ Tryz.func13 (by kernel_rfl) rfl #[.agg #[.string t591, .slice Ao40 t592.length co40, .slice Ao41 t595.length co41, .slice Ao42 t598.length co42], .agg #[.string t606, .slice Ao49 t607.length co49, .slice Ao50 t610.length co50, .slice Ao51 t613.length co51]] (by rfl) rfl rfl eqT ?_
      (with_reducible refine (laws_eqTableau.calls k t591 _ _ t592 _ _ t595 _ _ t598 t606 _ _ t607 _ _ t610 _ _ t613 true _ ?side1 ?side2 ?side3 ?side4 ?side5 ?side6 ?side7 ?side8 ?side9 ?side10 ?side11 ?side12 A19.out).mono ?_); (case side1 => repeat (first | exact (Kd.R_reads' HO594.out).2.2 | (with_reducible refine Kd.C_alloc ?_ _) | (with_reducible refine Kd.C_drewN ?_ _) | (with_reducible refine Kd.C_drew ?_))); (case side2 => exact (Kd.R_reads' HO594.out).2.1); (case side3 => repeat (first | exact (Kd.S_reads' HO597.out).2.2 | (with_reducible refine Kd.C_alloc ?_ _) | (with_reducible refine Kd.C_drewN ?_ _) | (with_reducible refine Kd.C_drew ?_))); (case side4 => exact (Kd.S_reads' HO597.out).2.1); (case side5 => repeat (first | exact (Kd.S_reads' HO600.out).2.2 | (with_reducible refine Kd.C_alloc ?_ _) | (with_reducible refine Kd.C_drewN ?_ _) | (with_reducible refine Kd.C_drew ?_))); (case side6 => exact (Kd.S_reads' HO600.out).2.1); (case side7 => repeat (first | exact (Kd.R_reads' HO609.out).2.2 | (with_reducible refine Kd.C_alloc ?_ _) | (with_reducible refine Kd.C_drewN ?_ _) | (with_reducible refine Kd.C_drew ?_))); (case side8 => exact (Kd.R_reads' HO609.out).2.1); (case side9 => repeat (first | exact (Kd.S_reads' HO612.out).2.2 | (with_reducible refine Kd.C_alloc ?_ _) | (with_reducible refine Kd.C_drewN ?_ _) | (with_reducible refine Kd.C_drew ?_))); (case side10 => exact (Kd.S_reads' HO612.out).2.1); (case side11 => repeat (first | exact (Kd.S_reads' HO615.out).2.2 | (with_reducible refine Kd.C_alloc ?_ _) | (with_reducible refine Kd.C_drewN ?_ _) | (with_reducible refine Kd.C_drew ?_))); (case side12 => exact (Kd.S_reads' HO615.out).2.1); rintro e w52 ⟨rfl, hb⟩; refine ⟨_, rfl, ?_⟩; replace HO580 := asT (Kd.R_below (roT HO580.out) hb); replace HO583 := asT (Kd.S_below (by (with_reducible repeat (first | apply Kd.S_alloc | apply Kd.S_drewN | apply Kd.S_drew)); exact HO583.out) hb); replace HO586 := asT (Kd.S_below (by (with_reducible repeat (first | apply Kd.S_alloc | apply Kd.S_drewN | apply Kd.S_drew)); exact HO586.out) hb); replace HO589 := asT (Kd.R_below (roT HO589.out) hb); replace HO594 := asT (Kd.R_below (roT HO594.out) hb); replace HO597 := asT (Kd.S_below (by (with_reducible repeat (first | apply Kd.S_alloc | apply Kd.S_drewN | apply Kd.S_drew)); exact HO597.out) hb); replace HO600 := asT (Kd.S_below (by (with_reducible repeat (first | apply Kd.S_alloc | apply Kd.S_drewN | apply Kd.S_drew)); exact HO600.out) hb); replace HO604 := asT (Kd.R_below (roT HO604.out) hb); replace HO609 := asT (Kd.R_below (roT HO609.out) hb); replace HO612 := asT (Kd.S_below (by (with_reducible repeat (first | apply Kd.S_alloc | apply Kd.S_drewN | apply Kd.S_drew)); exact HO612.out) hb); replace HO615 := asT (Kd.S_below (by (with_reducible repeat (first | apply Kd.S_alloc | apply Kd.S_drewN | apply Kd.S_drew)); exact HO615.out) hb); replace BK575 := bS BK575 hb; replace BK601 := bS BK601 hb; replace HB := hS HB hb; (try clear hb hb2 hk hi)
      refine hK.out _ _ ⟨bc0 BK601.out, bc1 BK601.out, bc2 BK601.out, bc3 BK601.out, bc0 BK575.out, bc1 BK575.out, bc2 BK575.out, bc3 BK575.out⟩ (fun hHeld => ?_)
      clear hK K
      refine nB 40 ?_ rfl
      refine pure_ (i := 4) (N := some 41) (v := ?_) (a' := ?_) #[true, true, true, true, true] rfl rfl (by kernel_rfl) (fun _ _ _ h => h) (Or.inl ⟨by rfl, ?_⟩) ?_ ?_
      rotate_left
      ·intro w'
       go_simp
       (with_reducible rfl)
      rotate_left
      ·simp only [Act.put, sA, sZ, sS, i64_w, i32_w]
       rfl
      refine done_ (by kernel_rfl) ?_
      try go_wp2_with (first | ((with_reducible refine gate_callee (f := 23) rfl ?_); refine goesL_ (some 44) rfl rfl Tryz.func23 (by kernel_rfl) rfl #[.slice A1 l1.length c1] rfl eqT ?_; (with_reducible refine (laws_toIntS.calls k _ _ l1 t617 _ ?side1 ?side2 A21.out).mono ?_); (case side1 => exact crT HR1.out HB.out); (case side2 => exact HC1.out); rintro e w53 ⟨v618, rfl, ho0, hb⟩; refine ⟨_, rfl, ?_⟩; replace HO580 := asT (Kd.R_below (roT HO580.out) hb); replace HO583 := asT (Kd.S_below (by (with_reducible repeat (first | apply Kd.S_alloc | apply Kd.S_drewN | apply Kd.S_drew)); exact HO583.out) hb); replace HO586 := asT (Kd.S_elder' (by (with_reducible repeat (first | apply Kd.S_alloc | apply Kd.S_drewN | apply Kd.S_drew)); exact HO586.out) (Kd.R_base ho0) hb); replace HO594 := asT (Kd.R_below (roT HO594.out) hb); replace HO597 := asT (Kd.S_below (by (with_reducible repeat (first | apply Kd.S_alloc | apply Kd.S_drewN | apply Kd.S_drew)); exact HO597.out) hb); replace HO600 := asT (Kd.S_elder' (by (with_reducible repeat (first | apply Kd.S_alloc | apply Kd.S_drewN | apply Kd.S_drew)); exact HO600.out) (Kd.R_base ho0) hb); replace HO609 := asT (Kd.R_below (roT HO609.out) hb); replace HO612 := asT (Kd.S_below (by (with_reducible repeat (first | apply Kd.S_alloc | apply Kd.S_drewN | apply Kd.S_drew)); exact HO612.out) hb); replace HO615 := asT (Kd.S_elder' (by (with_reducible repeat (first | apply Kd.S_alloc | apply Kd.S_drewN | apply Kd.S_drew)); exact HO615.out) (Kd.R_base ho0) hb); have HO619 := asT (Kd.R_lower (Kd.R_new' (Kd.R_new' ho0 (Kd.R_lt (roT HO589.out))) (Kd.R_lt (roT HO604.out))) (below_size (hbT HB.out))); replace HO589 := asT (Kd.R_elder' (roT HO589.out) (Kd.R_base ho0) hb); replace HO604 := asT (Kd.R_elder' (roT HO604.out) (Kd.R_base ho0) hb); replace BK575 := bS BK575 hb; replace BK601 := bS BK601 hb; replace HB := hS HB hb; (try clear hb hb2 hk hi ho0); obtain ⟨Ao54, co54, eo54⟩ := Kd.R_slice HO619.out; subst eo54) | ((with_reducible refine gate_callee (f := 12) rfl ?_); refine goesL_ (some 45) rfl rfl Tryz.func12 (by kernel_rfl) rfl #[.slice Ao45 t602.length co45, .slice Ao54 t617.length co54] rfl eqT ?_; (with_reducible refine (laws_eqIntS.calls k _ _ t602 _ _ t617 true _ ?side1 ?side2 ?side3 ?side4 A22.out).mono ?_); (case side1 => repeat (first | exact (Kd.R_reads' HO604.out).2.2 | (with_reducible refine Kd.C_alloc ?_ _) | (with_reducible refine Kd.C_drewN ?_ _) | (with_reducible refine Kd.C_drew ?_))); (case side2 => exact (Kd.R_reads' HO604.out).2.1); (case side3 => repeat (first | exact (Kd.R_reads' HO619.out).2.2 | (with_reducible refine Kd.C_alloc ?_ _) | (with_reducible refine Kd.C_drewN ?_ _) | (with_reducible refine Kd.C_drew ?_))); (case side4 => exact (Kd.R_reads' HO619.out).2.1); rintro e w' ⟨rfl, ⟨nd, rfl⟩⟩; refine ⟨_, rfl, ?_⟩))
      go_ret
      exact ⟨rlT, hbT HB.out⟩
     ·replace c23 := Bool.eq_false_iff.mpr c23
      subst c23; rw [if_neg nF] at H; have H1 := H; clear H; have H := H1; clear H1
      exact absurd H (by simp)
    ·replace c20 := Bool.eq_false_iff.mpr c20
     subst c20; rw [if_neg nF] at H; have H1 := H; clear H; have H := H1; clear H1
     exact absurd H (by simp)
   ·rw [if_neg c17] at H
    exact absurd H (by simp)
def Bd118 : S118 → Prop := fun x => (BdInt .u8) x.f0 ∧ (BdInt .u8) x.f1
def Bd83 : S83 → Prop := fun x => (BdSlice 2 Bd118) x.f0
def Bd26 : S26 → Prop := fun x => BdStr x.f0 ∧ (BdSlice 16 BdStr) x.f1 ∧ (BdSlice 24 Bd83) x.f2 ∧ (BdSlice 24 (BdSlice 8 (BdInt .i64))) x.f3
/-- THE ONE PURE STATEMENT of laws_FnExactFatalMark -/
def laws_FnExactFatalMark.Pure : Prop := ∀ (a0_0 : ByteArray) (l0_1 : List ByteArray) (l0_2 : List (S83)) (l0_3 : List (List Int)) (l1 : List Int) (a2 : Int), BdStr a0_0 → (BdSlice 16 BdStr) l0_1 → (BdSlice 24 Bd83) l0_2 → (BdSlice 24 (BdSlice 8 (BdInt .i64))) l0_3 → (BdSlice 8 (BdInt .i64)) l1 → (BdInt .i64) a2 → ∃ k, laws_FnExactFatalMark.f k a0_0 l0_1 l0_2 l0_3 l1 a2 = some true
end Go.Proofs.YtmfhaplhgaehhabGreat.PFnExactFatalMark
