-- Made by gen.py (a program of this session) out of the translation; Lean checks it.
import Derived.Test.YtdamagcfmhimfabPFnExactFuseRowsx0
import Derived.Test.YtdamagcfmhimfabPFnExactFuseRowsx1
namespace Go.Proofs.Ytdamagcfmhimfab.PFnExactFuseRows
open Go.RowKit Go.Proofs.YtdamagcfmhimfabB Go.Proofs.YtdamagcfmhimfabW.PrintWords Go.Proofs.YtdamagcfmhimfabW.PrintLast Go.Proofs.YtdamagcfmhimfabW.PrintMore
attribute [local go_sem] max2_int min2_int max_two min_two max_three min_three max_four min_four   -- for this text's walks alone
set_option linter.unusedVariables false
set_option linter.unusedSimpArgs false

/-! ### spec_FuseRows: function 32 -/
mutual
def spec_FuseRows.j0 : Nat → Bool → List Int → List Int → Option (List Int × Bool)
  | 0, _, _, _ => none
  | k + 1, x22, x120000, x121000 => if x22 = true then (some (([] : List Int), false)) else (spec_FuseRows.l0 k 0 x120000 x121000 ([] : List Int))
def spec_FuseRows.l0 : Nat → Int → List Int → List Int → List Int → Option (List Int × Bool)
  | 0, _, _, _, _ => none
  | k + 1, x7, x120000, x121000, x123000 => if x7 < (x120000.length : Int) then (if 0 ≤ x7 then (if (rd x120000 x7) = (-1) then (if x123000.length < 17592186044416 then (spec_FuseRows.l0 k (wrap64 (x7 + 1)) x120000 x121000 (x123000 ++ [(-1)])) else (none)) else (if x7 < (x121000.length : Int) then (if (rd x121000 x7) = (-1) then (if x123000.length < 17592186044416 then (spec_FuseRows.l0 k (wrap64 (x7 + 1)) x120000 x121000 (x123000 ++ [(-1)])) else (none)) else (if x123000.length < 17592186044416 then (spec_FuseRows.l0 k (wrap64 (x7 + 1)) x120000 x121000 (x123000 ++ [mx (rd x120000 x7) (rd x121000 x7)])) else (none))) else (none))) else (none)) else (some (x123000, true))
end
def spec_FuseRows.f (k : Nat) (l0_0 : List Int) (l1_0 : List Int) : Option (List Int × Bool) := (spec_IsRow.f k l0_0 (l0_0.length : Int)).bind fun t123 => (if t123 = true then ((spec_IsRow.f k l1_0 (l0_0.length : Int)).bind fun t124 => (spec_FuseRows.j0 k (!t124) l0_0 l1_0)) else (spec_FuseRows.j0 k true l0_0 l1_0))
theorem spec_FuseRows.mono_l : ∀ k, (∀ y0 y1 y2, LeO (spec_FuseRows.j0 k y0 y1 y2) (spec_FuseRows.j0 (k + 1) y0 y1 y2)) ∧ (∀ y0 y1 y2 y3, LeO (spec_FuseRows.l0 k y0 y1 y2 y3) (spec_FuseRows.l0 (k + 1) y0 y1 y2 y3))
  | 0 => ⟨fun _ _ _ r h => by simp [spec_FuseRows.j0] at h, fun _ _ _ _ r h => by simp [spec_FuseRows.l0] at h⟩
  | k + 1 => by
    obtain ⟨ih0, ih1⟩ := spec_FuseRows.mono_l k; refine ⟨?_, ?_⟩
    · intro y0 y1 y2
      unfold spec_FuseRows.j0
      repeat' first
      | (with_reducible exact ih0 _ _ _)
      | (with_reducible exact ih1 _ _ _ _)
      | (with_reducible exact spec_IsRow.mono _ _ _)
      | (with_reducible exact LeO.refl _)
      | (with_reducible exact LeO.none _)
      | (with_reducible refine LeO.ite ?_ ?_)
      | (with_reducible refine LeO.bind ?_ (fun _ => ?_))
      | exact ih0 _ _ _
      | exact ih1 _ _ _ _
      | exact spec_IsRow.mono _ _ _
      | exact LeO.none _
      | refine LeO.ite ?_ ?_
      | refine LeO.bind ?_ (fun _ => ?_)
    · intro y0 y1 y2 y3
      unfold spec_FuseRows.l0
      repeat' first
      | (with_reducible exact ih0 _ _ _)
      | (with_reducible exact ih1 _ _ _ _)
      | (with_reducible exact spec_IsRow.mono _ _ _)
      | (with_reducible exact LeO.refl _)
      | (with_reducible exact LeO.none _)
      | (with_reducible refine LeO.ite ?_ ?_)
      | (with_reducible refine LeO.bind ?_ (fun _ => ?_))
      | exact ih0 _ _ _
      | exact ih1 _ _ _ _
      | exact spec_IsRow.mono _ _ _
      | exact LeO.none _
      | refine LeO.ite ?_ ?_
      | refine LeO.bind ?_ (fun _ => ?_)
theorem spec_FuseRows.mono : ∀ a0 a1 k, LeO (spec_FuseRows.f k a0 a1) (spec_FuseRows.f (k + 1) a0 a1) := by
  intro a0 a1 k
  obtain ⟨ih0, ih1⟩ := spec_FuseRows.mono_l k
  unfold spec_FuseRows.f
  repeat' first
      | (with_reducible exact ih0 _ _ _)
      | (with_reducible exact ih1 _ _ _ _)
      | (with_reducible exact spec_IsRow.mono _ _ _)
      | (with_reducible exact LeO.refl _)
      | (with_reducible exact LeO.none _)
      | (with_reducible refine LeO.ite ?_ ?_)
      | (with_reducible refine LeO.bind ?_ (fun _ => ?_))
      | exact ih0 _ _ _
      | exact ih1 _ _ _ _
      | exact spec_IsRow.mono _ _ _
      | exact LeO.none _
      | refine LeO.ite ?_ ?_
      | refine LeO.bind ?_ (fun _ => ?_)
def spec_FuseRows.T7 : Bool × List (List Nat × List Nat) := (true, [([], []), ([0], [0]), ([], []), ([2], [2]), ([], []), ([3, 4], [3, 4]), ([5], [5]), ([], []), ([7], [7]), ([], []), ([8, 9], [8, 9]), ([10], [10]), ([6, 11], [6, 11]), ([12], [12]), ([1, 13], [1, 13]), ([0, 1, 2, 3, 4, 5, 6, 7, 8, 9, 10, 11, 12, 13, 14], []), ([15, 14, 14, 0, 1, 2, 3, 4, 5, 6, 7, 8, 9, 10, 11, 12, 13, 14], [14, 15])])
def spec_FuseRows.B7 : List Nat := [0, 1, 0, 4, 0, 28, 60, 0, 128, 0, 896, 1920, 4092, 8188, 16383, 32767, 65535]
theorem spec_FuseRows.tab7 : rtab .any (opsOf Try.f32 7) = spec_FuseRows.T7 := by kernel_rfl
theorem spec_FuseRows.bits7 : waitsOk spec_FuseRows.T7.2 spec_FuseRows.B7 = true := by kernel_rfl
set_option maxHeartbeats 8000000 in
set_option maxRecDepth 100000 in
theorem spec_FuseRows.calls (k : Nat) (A0_0 : Option Addr) (c0_0 : Nat) (l0_0 : List Int) (A1_0 : Option Addr) (c1_0 : Nat) (l1_0 : List Int) (r1 : List Int) (r2 : Bool) (w : World) (hr0_0 : Kd.C (Kd.int .i64) w A0_0 l0_0.length l0_0) (hc0_0 : l0_0.length ≤ c0_0) (hr1_0 : Kd.C (Kd.int .i64) w A1_0 l1_0.length l1_0) (hc1_0 : l1_0.length ≤ c1_0) (h : spec_FuseRows.f k l0_0 l1_0 = some (r1, r2)) :
    Calls Try.prog 32 #[.agg #[.slice A0_0 l0_0.length c0_0], .agg #[.slice A1_0 l1_0.length c1_0]] w fun e w' => ∃ v0_ : Value, e = .returned (.tuple #[.agg #[v0_], .bool r2]) ∧ Kd.R (Kd.int .i64) 3 w' w.heap.size (fun _ => True) v0_ r1 ∧ Below w.heap.size w w' := by
  have hu26 := Try.underlying26; have HR0_0 := Aside0.mk hr0_0; have HC0_0 := Aside0.mk hc0_0; clear hr0_0 hc0_0; have HR1_0 := Aside0.mk hr1_0; have HC1_0 := Aside0.mk hc1_0; clear hr1_0 hc1_0; have HB := asT (Below.refl w.heap.size w)
  have H : ((spec_IsRow.f k l0_0 (l0_0.length : Int)).bind fun t123 => (if t123 = true then ((spec_IsRow.f k l1_0 (l0_0.length : Int)).bind fun t124 => (spec_FuseRows.j0 k (!t124) l0_0 l1_0)) else (spec_FuseRows.j0 k true l0_0 l1_0))) = some (r1, r2) := h
  clear h; have HC3 := Aside0.mk H; clear H
  go_enter Try.func32, Try.ntmps32
  go_upto_region 2 with (first | ((with_reducible refine gate_dst (N := 2) rfl ?_); (try (refine gate_guard (by rfl) ?_; dsimp only)); refine box_event ?hg (N := 2) ?hd (cs := #[.slice A0_0 l0_0.length c0_0]) (t := 26) ?hr ?_; (case hd => rfl); (case hg => rfl); (case hr => first | (go_simp; done) | (go_simp; rfl)); intro gb119 hg w4 hbox hb; have n0_ := asT (below_step (hbT HB.out) hb); have n1_ := asT (hbox); have n2_ := asT ((by rw [hg]; exact (below_size (hbT HB.out)) : w.heap.size ≤ gb119)); have n3_ := asT ((by rw [hg]; exact (below_size (hbT HB.out)) : w.heap.size ≤ gb119)); clear HB; have HB := n0_; have BK119 := n1_; have GW119 := n2_; have GE119 := n3_; clear n0_ n1_ n2_ n3_ hb hbox hg) | ((with_reducible refine gate_dst (N := 3) rfl ?_); (try (refine gate_guard (by rfl) ?_; dsimp only)); refine box_event ?hg (N := 3) ?hd (cs := #[.slice A1_0 l1_0.length c1_0]) (t := 26) ?hr ?_; (case hd => rfl); (case hg => rfl); (case hr => first | (go_simp; done) | (go_simp; rfl)); intro gb120 hg w5 hbox hb; have n0_ := asT (blk_below (bkT BK119.out) hb); have n1_ := asT (below_step (hbT HB.out) hb); have n2_ := asT (hbox); have n3_ := asT ((by rw [hg]; exact (below_size (hbT HB.out)) : w.heap.size ≤ gb120)); have n4_ := asT ((by rw [hg]; exact (below_size (hbT HB.out)) : w.heap.size ≤ gb120)); have n5_ := asT ((by rw [hg]; exact Nat.ne_of_lt (blk_lt (bkT BK119.out)) : gb119 ≠ gb120)); have n6_ := asT ((by rw [hg]; exact Nat.ne_of_gt (blk_lt (bkT BK119.out)) : gb120 ≠ gb119)); clear BK119 HB; have BK119 := n0_; have HB := n1_; have BK120 := n2_; have GW120 := n3_; have GE120 := n4_; have NB119_120 := n5_; have NB120_119 := n6_; clear n0_ n1_ n2_ n3_ n4_ n5_ n6_ hb hbox hg) | ((with_reducible refine gate_dst (N := 4) rfl ?_); (try (refine gate_guard (by rfl) ?_; dsimp only)); refine box_event ?hg (N := 4) ?hd (cs := #[.slice none 0 0]) (t := 26) ?hr ?_; (case hd => rfl); (case hg => rfl); (case hr => first | (go_simp; done) | (go_simp; rfl)); intro gb121 hg w6 hbox hb; have n0_ := asT (blk_below (bkT BK119.out) hb); have n1_ := asT (blk_below (bkT BK120.out) hb); have n2_ := asT (below_step (hbT HB.out) hb); have n3_ := asT (hbox); have n4_ := asT ((by rw [hg]; exact (below_size (hbT HB.out)) : w.heap.size ≤ gb121)); have n5_ := asT ((by rw [hg]; exact (below_size (hbT HB.out)) : w.heap.size ≤ gb121)); have n6_ := asT ((by rw [hg]; exact Nat.ne_of_lt (blk_lt (bkT BK119.out)) : gb119 ≠ gb121)); have n7_ := asT ((by rw [hg]; exact Nat.ne_of_gt (blk_lt (bkT BK119.out)) : gb121 ≠ gb119)); have n8_ := asT ((by rw [hg]; exact Nat.ne_of_lt (blk_lt (bkT BK120.out)) : gb120 ≠ gb121)); have n9_ := asT ((by rw [hg]; exact Nat.ne_of_gt (blk_lt (bkT BK120.out)) : gb121 ≠ gb120)); clear BK119 BK120 HB; have BK119 := n0_; have BK120 := n1_; have HB := n2_; have BK121 := n3_; have GW121 := n4_; have GE121 := n5_; have NB119_121 := n6_; have NB121_119 := n7_; have NB120_121 := n8_; have NB121_120 := n9_; clear n0_ n1_ n2_ n3_ n4_ n5_ n6_ n7_ n8_ n9_ hb hbox hg) | ((with_reducible refine gate_dst (N := 6) rfl ?_); (try (refine gate_guard (by rfl) ?_; dsimp only)); refine box_event ?hg (N := 6) ?hd (cs := #[.slice none 0 0]) (t := 26) ?hr ?_; (case hd => rfl); (case hg => rfl); (case hr => first | (go_simp; done) | (go_simp; rfl)); intro gb122 hg w7 hbox hb; have n0_ := asT (blk_below (bkT BK119.out) hb); have n1_ := asT (blk_below (bkT BK120.out) hb); have n2_ := asT (blk_below (bkT BK121.out) hb); have n3_ := asT (below_step (hbT HB.out) hb); have n4_ := asT (hbox); have n5_ := asT ((by rw [hg]; exact (below_size (hbT HB.out)) : w.heap.size ≤ gb122)); have n6_ := asT ((by rw [hg]; exact (below_size (hbT HB.out)) : w.heap.size ≤ gb122)); have n7_ := asT ((by rw [hg]; exact Nat.ne_of_lt (blk_lt (bkT BK119.out)) : gb119 ≠ gb122)); have n8_ := asT ((by rw [hg]; exact Nat.ne_of_gt (blk_lt (bkT BK119.out)) : gb122 ≠ gb119)); have n9_ := asT ((by rw [hg]; exact Nat.ne_of_lt (blk_lt (bkT BK120.out)) : gb120 ≠ gb122)); have n10_ := asT ((by rw [hg]; exact Nat.ne_of_gt (blk_lt (bkT BK120.out)) : gb122 ≠ gb120)); have n11_ := asT ((by rw [hg]; exact Nat.ne_of_lt (blk_lt (bkT BK121.out)) : gb121 ≠ gb122)); have n12_ := asT ((by rw [hg]; exact Nat.ne_of_gt (blk_lt (bkT BK121.out)) : gb122 ≠ gb121)); clear BK119 BK120 BK121 HB; have BK119 := n0_; have BK120 := n1_; have BK121 := n2_; have HB := n3_; have BK122 := n4_; have GW122 := n5_; have GE122 := n6_; have NB119_122 := n7_; have NB122_119 := n8_; have NB120_122 := n9_; have NB122_120 := n10_; have NB121_122 := n11_; have NB122_121 := n12_; clear n0_ n1_ n2_ n3_ n4_ n5_ n6_ n7_ n8_ n9_ n10_ n11_ n12_ hb hbox hg; have hnb8 := NB122_119.out; have hnc8 := NB119_122.out; have hnb9 := NB122_120.out; have hnc9 := NB120_122.out; have hnb10 := NB122_121.out; have hnc10 := NB121_122.out; have hcz11_0 : w7.cell? ⟨gb122, 0, none⟩ = some (.slice none 0 0) := (blk_cell BK122.out 0).trans rfl; have hfz11_0 := blk_frozen BK122.out 0))
  (try simp only [Act.put, List.setIfInBounds_toArray, List.set_cons_zero, List.set_cons_succ])
  go_cut [22] (fun v22 wc => ∃ (kq : Nat) (x22_2 : Bool), v22 = .bool x22_2 ∧ Aside0 (spec_FuseRows.j0 kq x22_2 l0_0 l1_0 = some (r1, r2)) ∧ Aside0 (kq ≤ k) ∧ Aside0 (wc.heap[gb119]? = some (.cells #[(.slice A0_0 l0_0.length c0_0)] 26 (0, 0))) ∧ Aside0 (wc.heap[gb120]? = some (.cells #[(.slice A1_0 l1_0.length c1_0)] 26 (0, 0))) ∧ Aside0 (wc.heap[gb121]? = some (.cells #[(.slice none 0 0)] 26 (0, 0))) ∧ Aside0 (wc.heap[gb122]? = some (.cells #[(.slice none 0 0)] 26 (0, 0))) ∧ Aside0 (Below w.heap.size w wc))
  case first =>
    have H := HC3.out; clear HC3; replace H := Option.bind_eq_some_iff.mp H; obtain ⟨t123, A120, H⟩ := H; replace H : (if t123 = true then ((spec_IsRow.f k l1_0 (l0_0.length : Int)).bind fun t124 => (spec_FuseRows.j0 k (!t124) l0_0 l1_0)) else (spec_FuseRows.j0 k true l0_0 l1_0)) = some (r1, r2) := H; have A12 := Aside0.mk A120; clear A120
    by_cases c13 : t123 = true
    · subst c13
      have H1 : ((spec_IsRow.f k l1_0 (l0_0.length : Int)).bind fun t124 => (spec_FuseRows.j0 k (!t124) l0_0 l1_0)) = some (r1, r2) := by rw [if_pos rfl] at H; exact H
      clear H; have H := H1; clear H1; replace H := Option.bind_eq_some_iff.mp H; obtain ⟨t124, A140, H⟩ := H; replace H : (spec_FuseRows.j0 k (!t124) l0_0 l1_0) = some (r1, r2) := H; have A14 := Aside0.mk A140; clear A140; have H' := Aside0.mk H; clear H; have hnb15 := NB119_120.out; have hnc15 := NB120_119.out; have hnb16 := NB119_121.out; have hnc16 := NB121_119.out; have hnb17 := NB119_122.out; have hnc17 := NB122_119.out
      have hcz18_0 : w7.cell? ⟨gb119, 0, none⟩ = some (.slice A0_0 l0_0.length c0_0) := (blk_cell BK119.out 0).trans rfl
      have hfz18_0 := blk_frozen BK119.out 0
      go_wp2_with (first | ((with_reducible refine gate_callee (f := 62) rfl ?_); refine goesL_ (some 13) rfl rfl Try.func62 (by kernel_rfl) rfl #[.agg #[.slice A0_0 l0_0.length c0_0], .int .i64 (l0_0.length : Int)] rfl eqT ?_; (with_reducible refine (spec_IsRow.calls k _ _ l0_0 (l0_0.length : Int) true _ ?side1 ?side2 A12.out).mono ?_); (case side1 => exact Kd.C_below HR0_0.out (hbT HB.out)); (case side2 => exact HC0_0.out); rintro e w19 ⟨rfl, hb⟩; refine ⟨_, rfl, ?_⟩; have n0_ := asT (blk_below (g := gb119) (o := .cells #[.slice A0_0 l0_0.length c0_0] 26 (0, 0)) (by (with_reducible repeat (first | refine blk_drewN ?_ _ | refine blk_drew ?_ | refine blk_alloc ?_ _)); refine blk_far ?_ NB119_122.out _; (with_reducible repeat (first | refine blk_drewN ?_ _ | refine blk_drew ?_ | refine blk_alloc ?_ _)); exact BK119.out) hb); have n1_ := asT (blk_below (g := gb120) (o := .cells #[.slice A1_0 l1_0.length c1_0] 26 (0, 0)) (by (with_reducible repeat (first | refine blk_drewN ?_ _ | refine blk_drew ?_ | refine blk_alloc ?_ _)); refine blk_far ?_ NB120_122.out _; (with_reducible repeat (first | refine blk_drewN ?_ _ | refine blk_drew ?_ | refine blk_alloc ?_ _)); exact BK120.out) hb); have n2_ := asT (blk_below (g := gb121) (o := .cells #[.slice none 0 0] 26 (0, 0)) (by (with_reducible repeat (first | refine blk_drewN ?_ _ | refine blk_drew ?_ | refine blk_alloc ?_ _)); refine blk_far ?_ NB121_122.out _; (with_reducible repeat (first | refine blk_drewN ?_ _ | refine blk_drew ?_ | refine blk_alloc ?_ _)); exact BK121.out) hb); have n3_ := asT (blk_below (g := gb122) (o := .cells #[.slice none 0 0] 26 (0, 0)) (by (with_reducible repeat (first | refine blk_drewN ?_ _ | refine blk_drew ?_ | refine blk_alloc ?_ _)); refine blk_put (cs := #[.slice none 0 0]) ?_ 0 _ rfl; (with_reducible repeat (first | refine blk_drewN ?_ _ | refine blk_drew ?_ | refine blk_alloc ?_ _)); exact BK122.out) hb); have n4_ := asT (below_step (hbT HB.out) hb); clear BK119 BK120 BK121 BK122 HB; have BK119 := n0_; have BK120 := n1_; have BK121 := n2_; have BK122 := n3_; have HB := n4_; clear n0_ n1_ n2_ n3_ n4_; (try clear hb); (try clear hb2); (try clear hk); (try clear hi); have hnb20 := NB120_121.out; have hnc20 := NB121_120.out; have hnb21 := NB120_122.out; have hnc21 := NB122_120.out; have hcz22_0 : w19.cell? ⟨gb120, 0, none⟩ = some (.slice A1_0 l1_0.length c1_0) := (blk_cell BK120.out 0).trans rfl; have hfz22_0 := blk_frozen BK120.out 0; have hcz23_0 : w19.cell? ⟨gb119, 0, none⟩ = some (.slice A0_0 l0_0.length c0_0) := (blk_cell BK119.out 0).trans rfl; have hfz23_0 := blk_frozen BK119.out 0) | (go_at_call 62; (with_reducible refine (spec_IsRow.calls k _ _ l1_0 (l0_0.length : Int) t124 _ ?side1 ?side2 A14.out).mono ?_); (case side1 => repeat (first | exact (Kd.C_below HR1_0.out HB.out) | (with_reducible refine Kd.C_alloc ?_ _) | (with_reducible refine Kd.C_drewN ?_ _) | (with_reducible refine Kd.C_drew ?_))); (case side2 => exact HC1_0.out); rintro e w24 ⟨rfl, hb⟩; have n0_ := asT (blk_below (bkT BK119.out) hb); have n1_ := asT (blk_below (bkT BK120.out) hb); have n2_ := asT (blk_below (bkT BK121.out) hb); have n3_ := asT (blk_below (bkT BK122.out) hb); have n4_ := asT (below_step (hbT HB.out) hb); clear BK119 BK120 BK121 BK122 HB; have BK119 := n0_; have BK120 := n1_; have BK121 := n2_; have BK122 := n3_; have HB := n4_; clear n0_ n1_ n2_ n3_ n4_; (try clear hb); (try clear hb2); (try clear hk); (try clear hi)))
      go_meet
      case rel => exact ⟨_, (!t124), (by first | rfl | (simp; done) | (simp [*]; done)), H', ⟨by first | omega | exact Nat.le_refl _⟩, ⟨by (with_reducible repeat (first | refine blk_drewN ?_ _ | refine blk_drew ?_ | refine blk_alloc ?_ _)); exact BK119.out⟩, ⟨by (with_reducible repeat (first | refine blk_drewN ?_ _ | refine blk_drew ?_ | refine blk_alloc ?_ _)); exact BK120.out⟩, ⟨by (with_reducible repeat (first | refine blk_drewN ?_ _ | refine blk_drew ?_ | refine blk_alloc ?_ _)); exact BK121.out⟩, ⟨by (with_reducible repeat (first | refine blk_drewN ?_ _ | refine blk_drew ?_ | refine blk_alloc ?_ _)); exact BK122.out⟩, ⟨hbT HB.out⟩⟩
    · replace c13 := Bool.eq_false_iff.mpr c13
      subst c13
      have H1 : (spec_FuseRows.j0 k true l0_0 l1_0) = some (r1, r2) := by rw [if_neg (show ¬ (false = true) by decide)] at H; exact H
      clear H; have H := H1; clear H1; have H' := Aside0.mk H; clear H; have hnb25 := NB119_120.out; have hnc25 := NB120_119.out; have hnb26 := NB119_121.out; have hnc26 := NB121_119.out; have hnb27 := NB119_122.out; have hnc27 := NB122_119.out
      have hcz28_0 : w7.cell? ⟨gb119, 0, none⟩ = some (.slice A0_0 l0_0.length c0_0) := (blk_cell BK119.out 0).trans rfl
      have hfz28_0 := blk_frozen BK119.out 0
      go_wp2_with (first | ((with_reducible refine gate_callee (f := 62) rfl ?_); refine goesL_ (some 13) rfl rfl Try.func62 (by kernel_rfl) rfl #[.agg #[.slice A0_0 l0_0.length c0_0], .int .i64 (l0_0.length : Int)] rfl eqT ?_; (with_reducible refine (spec_IsRow.calls k _ _ l0_0 (l0_0.length : Int) false _ ?side1 ?side2 A12.out).mono ?_); (case side1 => exact Kd.C_below HR0_0.out (hbT HB.out)); (case side2 => exact HC0_0.out); rintro e w29 ⟨rfl, hb⟩; refine ⟨_, rfl, ?_⟩; have n0_ := asT (blk_below (g := gb119) (o := .cells #[.slice A0_0 l0_0.length c0_0] 26 (0, 0)) (by (with_reducible repeat (first | refine blk_drewN ?_ _ | refine blk_drew ?_ | refine blk_alloc ?_ _)); refine blk_far ?_ NB119_122.out _; (with_reducible repeat (first | refine blk_drewN ?_ _ | refine blk_drew ?_ | refine blk_alloc ?_ _)); exact BK119.out) hb); have n1_ := asT (blk_below (g := gb120) (o := .cells #[.slice A1_0 l1_0.length c1_0] 26 (0, 0)) (by (with_reducible repeat (first | refine blk_drewN ?_ _ | refine blk_drew ?_ | refine blk_alloc ?_ _)); refine blk_far ?_ NB120_122.out _; (with_reducible repeat (first | refine blk_drewN ?_ _ | refine blk_drew ?_ | refine blk_alloc ?_ _)); exact BK120.out) hb); have n2_ := asT (blk_below (g := gb121) (o := .cells #[.slice none 0 0] 26 (0, 0)) (by (with_reducible repeat (first | refine blk_drewN ?_ _ | refine blk_drew ?_ | refine blk_alloc ?_ _)); refine blk_far ?_ NB121_122.out _; (with_reducible repeat (first | refine blk_drewN ?_ _ | refine blk_drew ?_ | refine blk_alloc ?_ _)); exact BK121.out) hb); have n3_ := asT (blk_below (g := gb122) (o := .cells #[.slice none 0 0] 26 (0, 0)) (by (with_reducible repeat (first | refine blk_drewN ?_ _ | refine blk_drew ?_ | refine blk_alloc ?_ _)); refine blk_put (cs := #[.slice none 0 0]) ?_ 0 _ rfl; (with_reducible repeat (first | refine blk_drewN ?_ _ | refine blk_drew ?_ | refine blk_alloc ?_ _)); exact BK122.out) hb); have n4_ := asT (below_step (hbT HB.out) hb); clear BK119 BK120 BK121 BK122 HB; have BK119 := n0_; have BK120 := n1_; have BK121 := n2_; have BK122 := n3_; have HB := n4_; clear n0_ n1_ n2_ n3_ n4_; (try clear hb); (try clear hb2); (try clear hk); (try clear hi)))
      go_meet
      case rel => exact ⟨_, (true), (by first | rfl | (simp; done) | (simp [*]; done)), H', ⟨by first | omega | exact Nat.le_refl _⟩, ⟨by (with_reducible repeat (first | refine blk_drewN ?_ _ | refine blk_drew ?_ | refine blk_alloc ?_ _)); exact BK119.out⟩, ⟨by (with_reducible repeat (first | refine blk_drewN ?_ _ | refine blk_drew ?_ | refine blk_alloc ?_ _)); exact BK120.out⟩, ⟨by (with_reducible repeat (first | refine blk_drewN ?_ _ | refine blk_drew ?_ | refine blk_alloc ?_ _)); exact BK121.out⟩, ⟨by (with_reducible repeat (first | refine blk_drewN ?_ _ | refine blk_drew ?_ | refine blk_alloc ?_ _)); exact BK122.out⟩, ⟨hbT HB.out⟩⟩
  case rest =>
    clear HC3; (try clear c1); (try clear c2); (try clear p2); (try clear c3); (try clear c6); (try clear c8); (try clear c9); (try clear c10); (try clear c13); (try clear c15); (try clear c16); (try clear c17); (try clear c20); (try clear c21); (try clear c25); (try clear c26); (try clear c27); (try clear hcz11_0); (try clear hcz18_0); (try clear hcz22_0); (try clear hcz23_0); (try clear hcz28_0); (try clear hfz11_0); (try clear hfz18_0); (try clear hfz22_0); (try clear hfz23_0); (try clear hfz28_0); obtain ⟨kq, x22_2, rfl, HA, HJ2, BK119, BK120, BK121, BK122, HB⟩ := hcut
    cases kq with
    | zero => exact absurd HA.out (by simp [spec_FuseRows.j0])
    | succ kj2 =>
      have H := HA.out; clear HA
      simp only [spec_FuseRows.j0] at H
      by_cases c30 : x22_2 = true
      · subst c30
        have H1 : (some (([] : List Int), false)) = some (r1, r2) := by rw [if_pos rfl] at H; exact H
        clear H; have H := H1; clear H1
        simp only [Option.some.injEq, Prod.mk.injEq] at H
        obtain ⟨rfl, rfl⟩ := H; have hnb31 := NB122_119.out; have hnc31 := NB119_122.out; have hnb32 := NB122_120.out; have hnc32 := NB120_122.out; have hnb33 := NB122_121.out; have hnc33 := NB121_122.out
        have hcz34_0 : wc.cell? ⟨gb122, 0, none⟩ = some (.slice none 0 0) := (blk_cell BK122.out 0).trans rfl
        have hfz34_0 := blk_frozen BK122.out 0; have hnb35 := NB121_119.out; have hnc35 := NB119_121.out; have hnb36 := NB121_120.out; have hnc36 := NB120_121.out
        have hcz37_0 : wc.cell? ⟨gb121, 0, none⟩ = some (.slice none 0 0) := (blk_cell BK121.out 0).trans rfl
        have hfz37_0 := blk_frozen BK121.out 0
        go_wp2
        refine bodyPost_ret (results_ct rfl _ _ gb121 26 #[.slice none 0 0] (0, 0) _ rfl (by (with_reducible repeat (first | refine blk_drewN ?_ _ | refine blk_drew ?_ | refine blk_alloc ?_ _)); refine blk_put (cs := #[.slice none 0 0]) ?_ 0 _ rfl; (with_reducible repeat (first | refine blk_drewN ?_ _ | refine blk_drew ?_ | refine blk_alloc ?_ _)); exact BK121.out) Try.underlying26 rfl (by kernel_rfl)) rfl ?_
        exact ⟨_, by first | rfl | (simp [errW_none, errW_some] <;> rfl) | (simp [*, errW_none, errW_some] <;> rfl), by first | exact Kd.R_nil _ _ _ _ _ | exact Kd.N_nil _ _ _ _ _ | exact Kd.V_nil _ _ _ _ _ | exact Kd.Q_nil _ _ _ _ _ | exact Kd.S_nil _ _ _ _ _, hbT HB.out⟩
      · replace c30 := Bool.eq_false_iff.mpr c30
        subst c30
        have H1 : (spec_FuseRows.l0 kj2 0 l0_0 l1_0 ([] : List Int)) = some (r1, r2) := by rw [if_neg (show ¬ (false = true) by decide)] at H; exact H
        clear H; have H := H1; clear H1; have H' := Aside0.mk H; clear H
        go_wp2
        go_loopg [7] kj2 (fun kq v7 w' => ∃ (x7_2 : Int) (x123000_2 : List Int) (u123000 : Value), v7 = .int .i64 x7_2 ∧ Aside0 (spec_FuseRows.l0 kq x7_2 l0_0 l1_0 x123000_2 = some (r1, r2)) ∧ Aside0 (kq ≤ kj2) ∧ Aside0 (Kd.R (Kd.int .i64) 3 w' w.heap.size (fun _ => True) u123000 x123000_2) ∧ Aside0 (w'.heap[gb119]? = some (.cells #[(.slice A0_0 l0_0.length c0_0)] 26 (0, 0))) ∧ Aside0 (w'.heap[gb120]? = some (.cells #[(.slice A1_0 l1_0.length c1_0)] 26 (0, 0))) ∧ Aside0 (w'.heap[gb121]? = some (.cells #[(.slice none 0 0)] 26 (0, 0))) ∧ Aside0 (w'.heap[gb122]? = some (.cells #[u123000] 26 (0, 0))) ∧ Aside0 (Below w.heap.size w w'))
        case atStart => exact ⟨(0), (([] : List Int)), (.slice none 0 0), (by first | rfl | (simp; done) | (simp [*]; done)), H', ⟨Nat.le_refl _⟩, ⟨by first | exact Kd.R_nil _ _ _ _ _ | exact Kd.N_nil _ _ _ _ _ | exact Kd.V_nil _ _ _ _ _ | exact Kd.Q_nil _ _ _ _ _ | exact Kd.S_nil _ _ _ _ _⟩, ⟨by (with_reducible repeat (first | refine blk_drewN ?_ _ | refine blk_drew ?_ | refine blk_alloc ?_ _)); exact BK119.out⟩, ⟨by (with_reducible repeat (first | refine blk_drewN ?_ _ | refine blk_drew ?_ | refine blk_alloc ?_ _)); exact BK120.out⟩, ⟨by (with_reducible repeat (first | refine blk_drewN ?_ _ | refine blk_drew ?_ | refine blk_alloc ?_ _)); exact BK121.out⟩, ⟨by (with_reducible repeat (first | refine blk_drewN ?_ _ | refine blk_drew ?_ | refine blk_alloc ?_ _)); exact BK122.out⟩, ⟨hbT HB.out⟩⟩
        case round =>
          clear H'; (try clear c1); (try clear c2); (try clear p2); (try clear c3); (try clear c6); (try clear c8); (try clear c9); (try clear c10); (try clear c13); (try clear c15); (try clear c16); (try clear c17); (try clear c20); (try clear c21); (try clear c25); (try clear c26); (try clear c27); (try clear c30); (try clear c31); (try clear c32); (try clear c33); (try clear c35); (try clear c36); (try clear hcz11_0); (try clear hcz18_0); (try clear hcz22_0); (try clear hcz23_0); (try clear hcz28_0); (try clear hcz34_0); (try clear hcz37_0); (try clear hfz11_0); (try clear hfz18_0); (try clear hfz22_0); (try clear hfz23_0); (try clear hfz28_0); (try clear hfz34_0); (try clear hfz37_0); (try clear p2); obtain ⟨x7_2, x123000_2, u123000, rfl, HA, HK2, HO_123000, BK119, BK120, BK121, BK122, HB⟩ := hrel
          cases gk with
          | zero => exact absurd HA.out (by simp [spec_FuseRows.l0])
          | succ k2 =>
            have H := HA.out; clear HA
            simp only [spec_FuseRows.l0] at H
            by_cases c38 : x7_2 < (l0_0.length : Int)
            · rw [if_pos c38] at H
              have c38b0 : decide (x7_2 < (l0_0.length : Int)) = true := decide_eq_true c38
              clear c38
              by_cases c39 : 0 ≤ x7_2
              · rw [if_pos c39] at H
                have c39b0 : decide (0 ≤ x7_2) = true := decide_eq_true c39
                clear c39
                by_cases c40 : (rd l0_0 x7_2) = (-1)
                · rw [if_pos c40] at H
                  have c40b0 : ((rd l0_0 x7_2) == (-1)) = true := beq_iff_eq.mpr c40
                  have c40b1 : ((rd l0_0 x7_2) != (-1)) = false := bne_eq_false_iff_eq.mpr c40
                  clear c40
                  by_cases c41 : x123000_2.length < 17592186044416
                  · rw [if_pos c41] at H
                    have LMc41 := Aside0.mk c41; clear c41; obtain ⟨y126, hy126⟩ : ∃ y_ : List Int, y_ = (x123000_2 ++ [(-1)]) := ⟨_, rfl⟩
                    replace H : (spec_FuseRows.l0 k2 (wrap64 (x7_2 + 1)) l0_0 l1_0 y126) = some (r1, r2) := by first | (rw [hy126]; with_reducible exact H) | (have H2_ := (Option.bind_some _ _).symm.trans H; rw [hy126]; with_reducible exact H2_) | (have H2_ := (Option.bind_some _ _).symm.trans H; with_reducible exact H2_) | with_reducible exact H | (rw [hy126]; exact H) | exact H
                    have Ny126 := Aside0.mk hy126; clear hy126; have H' := Aside0.mk H; clear H; have hnb42 := NB119_120.out; have hnc42 := NB120_119.out; have hnb43 := NB119_121.out; have hnc43 := NB121_119.out; have hnb44 := NB119_122.out; have hnc44 := NB122_119.out
                    have hcz45_0 : wr.cell? ⟨gb119, 0, none⟩ = some (.slice A0_0 l0_0.length c0_0) := (blk_cell BK119.out 0).trans rfl
                    have hfz45_0 := blk_frozen BK119.out 0
                    have p125 : 0 ≤ (x7_2 : Int) := of_decide_eq_true (by first | (with_reducible assumption) | assumption)
                    have q125 : x7_2 < (l0_0.length : Int) := of_decide_eq_true (by first | (with_reducible assumption) | assumption)
                    obtain ⟨ad125, e125, hx125_0⟩ := Kd.at_int HR0_0.out x7_2 p125 q125
                    cases e125
                    replace hx125_0 := (HB.out.cell (World.block_lt_of_cell? w _ hx125_0)).trans hx125_0; replace p125 := eq_true p125; replace q125 := eq_true q125; have hnb46 := NB122_120.out; have hnc46 := NB120_122.out; have hnb47 := NB122_121.out; have hnc47 := NB121_122.out
                    have hcz48_0 : wr.cell? ⟨gb122, 0, none⟩ = some (u123000) := (blk_cell BK122.out 0).trans rfl
                    have hfz48_0 := blk_frozen BK122.out 0
                    go_wp2_with (first | ((with_reducible refine gate_builtin (b := .append) (xs := #[.tmp 63, .tmp 64]) rfl ?_); (try (refine gate_guard (by rfl) ?_; dsimp only)); at_builtin; refine Kd.R_append (Kd.int .i64) (w0 := w) w.heap.size rfl (.tmp 63) (.tmp 64) 24 3 (.int .i64 0) 8 rfl Try.underlying24 info3 rfl (by decide) (by omega) u123000 x123000_2 (-1) [.int .i64 (-1)] (fun _ => True) (fun _ => False) rfl rfl ?aP (fun _ hk => hk.elim) ?aF ?aO ?aB ?aS ?aL ?_; (case aP => exact rfl); (case aB => exact (hbT HB.out)); (case aF => exact (fun _ _ => trivial)); (case aO => exact (roT HO_123000.out)); (case aS => exact (below_size (hbT HB.out))); (case aL => have := LMc41.out; omega); intro v127 w49 ho hb hg hat; rw [← Ny126.out] at ho; have n0_ := asT (blk_grown (g := gb119) (o := .cells #[.slice (some ad125) l0_0.length c0_0] 26 (0, 0)) (bkT BK119.out) hg (Kd.R_ne HO_123000.out BK119.out (by decide))); have n1_ := asT (blk_grown (g := gb120) (o := .cells #[.slice A1_0 l1_0.length c1_0] 26 (0, 0)) (bkT BK120.out) hg (Kd.R_ne HO_123000.out BK120.out (by decide))); have n2_ := asT (blk_grown (g := gb121) (o := .cells #[.slice none 0 0] 26 (0, 0)) (bkT BK121.out) hg (Kd.R_ne HO_123000.out BK121.out (by decide))); have n3_ := asT (blk_grown (g := gb122) (o := .cells #[u123000] 26 (0, 0)) (bkT BK122.out) hg (Kd.R_ne HO_123000.out BK122.out (by decide))); have n4_ := asT (hb); have n5_ := asT (ho); clear BK119 BK120 BK121 BK122 HB HO_123000; have BK119 := n0_; have BK120 := n1_; have BK121 := n2_; have BK122 := n3_; have HB := n4_; have HO128 := n5_; clear n0_ n1_ n2_ n3_ n4_ n5_ ho hb hg hat; obtain ⟨Ao50, co50, eo50⟩ := Kd.R_slice HO128.out; subst eo50; have hcz51_0 : w49.cell? ⟨gb122, 0, none⟩ = some (u123000) := (blk_cell BK122.out 0).trans rfl; have hfz51_0 := blk_frozen BK122.out 0))
                    go_roundg k2
                    case measure => have := HJ2.out; have := HK2.out; omega
                    case rel => exact ⟨(wrap64 (x7_2 + 1)), (y126), (.slice Ao50 y126.length co50), (by first | rfl | (simp; done) | (simp [*]; done)), H', ⟨by have := HJ2.out; have := HK2.out; omega⟩, ⟨by (with_reducible repeat (first | apply Kd.R_alloc | apply Kd.R_drewN | apply Kd.R_drew)); exact Kd.R_mono (Kd.R_far (p := ⟨gb122, 0, none⟩) (Kd.R_types HO128.out BK122.out (by decide)) (fun _ hk => hk.2) (.slice Ao50 y126.length co50)) (fun _ hk => trivial)⟩, ⟨by (with_reducible repeat (first | refine blk_drewN ?_ _ | refine blk_drew ?_ | refine blk_alloc ?_ _)); refine blk_far ?_ NB119_122.out _; (with_reducible repeat (first | refine blk_drewN ?_ _ | refine blk_drew ?_ | refine blk_alloc ?_ _)); exact BK119.out⟩, ⟨by (with_reducible repeat (first | refine blk_drewN ?_ _ | refine blk_drew ?_ | refine blk_alloc ?_ _)); refine blk_far ?_ NB120_122.out _; (with_reducible repeat (first | refine blk_drewN ?_ _ | refine blk_drew ?_ | refine blk_alloc ?_ _)); exact BK120.out⟩, ⟨by (with_reducible repeat (first | refine blk_drewN ?_ _ | refine blk_drew ?_ | refine blk_alloc ?_ _)); refine blk_far ?_ NB121_122.out _; (with_reducible repeat (first | refine blk_drewN ?_ _ | refine blk_drew ?_ | refine blk_alloc ?_ _)); exact BK121.out⟩, ⟨by (with_reducible repeat (first | refine blk_drewN ?_ _ | refine blk_drew ?_ | refine blk_alloc ?_ _)); refine blk_put (cs := #[u123000]) ?_ 0 _ rfl; (with_reducible repeat (first | refine blk_drewN ?_ _ | refine blk_drew ?_ | refine blk_alloc ?_ _)); exact BK122.out⟩, ⟨hbT HB.out⟩⟩
                  · rw [if_neg c41] at H
                    exact absurd H (by simp)
                · rw [if_neg c40] at H
                  have c40b0 : ((rd l0_0 x7_2) == (-1)) = false := beq_eq_false_iff_ne.mpr c40
                  have c40b1 : ((rd l0_0 x7_2) != (-1)) = true := bne_iff_ne.mpr c40
                  by_cases c52 : x7_2 < (l1_0.length : Int)
                  · rw [if_pos c52] at H
                    have c52b0 : decide (x7_2 < (l1_0.length : Int)) = true := decide_eq_true c52
                    clear c52
                    by_cases c53 : (rd l1_0 x7_2) = (-1)
                    · rw [if_pos c53] at H
                      have c53b0 : ((rd l1_0 x7_2) == (-1)) = true := beq_iff_eq.mpr c53
                      have c53b1 : ((rd l1_0 x7_2) != (-1)) = false := bne_eq_false_iff_eq.mpr c53
                      clear c53
                      by_cases c54 : x123000_2.length < 17592186044416
                      · rw [if_pos c54] at H
                        have LMc54 := Aside0.mk c54; clear c54; obtain ⟨y130, hy130⟩ : ∃ y_ : List Int, y_ = (x123000_2 ++ [(-1)]) := ⟨_, rfl⟩
                        replace H : (spec_FuseRows.l0 k2 (wrap64 (x7_2 + 1)) l0_0 l1_0 y130) = some (r1, r2) := by first | (rw [hy130]; with_reducible exact H) | (have H2_ := (Option.bind_some _ _).symm.trans H; rw [hy130]; with_reducible exact H2_) | (have H2_ := (Option.bind_some _ _).symm.trans H; with_reducible exact H2_) | with_reducible exact H | (rw [hy130]; exact H) | exact H
                        have Ny130 := Aside0.mk hy130; clear hy130; have H' := Aside0.mk H; clear H; have hnb55 := NB119_120.out; have hnc55 := NB120_119.out; have hnb56 := NB119_121.out; have hnc56 := NB121_119.out; have hnb57 := NB119_122.out; have hnc57 := NB122_119.out
                        have hcz58_0 : wr.cell? ⟨gb119, 0, none⟩ = some (.slice A0_0 l0_0.length c0_0) := (blk_cell BK119.out 0).trans rfl
                        have hfz58_0 := blk_frozen BK119.out 0
                        have p125 : 0 ≤ (x7_2 : Int) := of_decide_eq_true (by first | (with_reducible assumption) | assumption)
                        have q125 : x7_2 < (l0_0.length : Int) := of_decide_eq_true (by first | (with_reducible assumption) | assumption)
                        obtain ⟨ad125, e125, hx125_0⟩ := Kd.at_int HR0_0.out x7_2 p125 q125
                        cases e125
                        replace hx125_0 := (HB.out.cell (World.block_lt_of_cell? w _ hx125_0)).trans hx125_0; replace p125 := eq_true p125; replace q125 := eq_true q125; have hnb59 := NB120_121.out; have hnc59 := NB121_120.out; have hnb60 := NB120_122.out; have hnc60 := NB122_120.out
                        have hcz61_0 : wr.cell? ⟨gb120, 0, none⟩ = some (.slice A1_0 l1_0.length c1_0) := (blk_cell BK120.out 0).trans rfl
                        have hfz61_0 := blk_frozen BK120.out 0
                        have p129 : 0 ≤ (x7_2 : Int) := of_decide_eq_true (by first | (with_reducible assumption) | assumption)
                        have q129 : x7_2 < (l1_0.length : Int) := of_decide_eq_true (by first | (with_reducible assumption) | assumption)
                        obtain ⟨ad129, e129, hx129_0⟩ := Kd.at_int HR1_0.out x7_2 p129 q129
                        cases e129
                        replace hx129_0 := (HB.out.cell (World.block_lt_of_cell? w _ hx129_0)).trans hx129_0; replace p129 := eq_true p129; replace q129 := eq_true q129; have hnb62 := NB122_121.out; have hnc62 := NB121_122.out
                        have hcz63_0 : wr.cell? ⟨gb122, 0, none⟩ = some (u123000) := (blk_cell BK122.out 0).trans rfl
                        have hfz63_0 := blk_frozen BK122.out 0
                        go_wp2_with (first | ((with_reducible refine gate_builtin (b := .append) (xs := #[.tmp 63, .tmp 64]) rfl ?_); (try (refine gate_guard (by rfl) ?_; dsimp only)); at_builtin; refine Kd.R_append (Kd.int .i64) (w0 := w) w.heap.size rfl (.tmp 63) (.tmp 64) 24 3 (.int .i64 0) 8 rfl Try.underlying24 info3 rfl (by decide) (by omega) u123000 x123000_2 (-1) [.int .i64 (-1)] (fun _ => True) (fun _ => False) rfl rfl ?aP (fun _ hk => hk.elim) ?aF ?aO ?aB ?aS ?aL ?_; (case aP => exact rfl); (case aB => exact (hbT HB.out)); (case aF => exact (fun _ _ => trivial)); (case aO => exact (roT HO_123000.out)); (case aS => exact (below_size (hbT HB.out))); (case aL => have := LMc54.out; omega); intro v131 w64 ho hb hg hat; rw [← Ny130.out] at ho; have n0_ := asT (blk_grown (g := gb119) (o := .cells #[.slice (some ad125) l0_0.length c0_0] 26 (0, 0)) (bkT BK119.out) hg (Kd.R_ne HO_123000.out BK119.out (by decide))); have n1_ := asT (blk_grown (g := gb120) (o := .cells #[.slice (some ad129) l1_0.length c1_0] 26 (0, 0)) (bkT BK120.out) hg (Kd.R_ne HO_123000.out BK120.out (by decide))); have n2_ := asT (blk_grown (g := gb121) (o := .cells #[.slice none 0 0] 26 (0, 0)) (bkT BK121.out) hg (Kd.R_ne HO_123000.out BK121.out (by decide))); have n3_ := asT (blk_grown (g := gb122) (o := .cells #[u123000] 26 (0, 0)) (bkT BK122.out) hg (Kd.R_ne HO_123000.out BK122.out (by decide))); have n4_ := asT (hb); have n5_ := asT (ho); clear BK119 BK120 BK121 BK122 HB HO_123000; have BK119 := n0_; have BK120 := n1_; have BK121 := n2_; have BK122 := n3_; have HB := n4_; have HO132 := n5_; clear n0_ n1_ n2_ n3_ n4_ n5_ ho hb hg hat; obtain ⟨Ao65, co65, eo65⟩ := Kd.R_slice HO132.out; subst eo65; have hcz66_0 : w64.cell? ⟨gb122, 0, none⟩ = some (u123000) := (blk_cell BK122.out 0).trans rfl; have hfz66_0 := blk_frozen BK122.out 0))
                        go_roundg k2
                        case measure => have := HJ2.out; have := HK2.out; omega
                        case rel => exact ⟨(wrap64 (x7_2 + 1)), (y130), (.slice Ao65 y130.length co65), (by first | rfl | (simp; done) | (simp [*]; done)), H', ⟨by have := HJ2.out; have := HK2.out; omega⟩, ⟨by (with_reducible repeat (first | apply Kd.R_alloc | apply Kd.R_drewN | apply Kd.R_drew)); exact Kd.R_mono (Kd.R_far (p := ⟨gb122, 0, none⟩) (Kd.R_types HO132.out BK122.out (by decide)) (fun _ hk => hk.2) (.slice Ao65 y130.length co65)) (fun _ hk => trivial)⟩, ⟨by (with_reducible repeat (first | refine blk_drewN ?_ _ | refine blk_drew ?_ | refine blk_alloc ?_ _)); refine blk_far ?_ NB119_122.out _; (with_reducible repeat (first | refine blk_drewN ?_ _ | refine blk_drew ?_ | refine blk_alloc ?_ _)); exact BK119.out⟩, ⟨by (with_reducible repeat (first | refine blk_drewN ?_ _ | refine blk_drew ?_ | refine blk_alloc ?_ _)); refine blk_far ?_ NB120_122.out _; (with_reducible repeat (first | refine blk_drewN ?_ _ | refine blk_drew ?_ | refine blk_alloc ?_ _)); exact BK120.out⟩, ⟨by (with_reducible repeat (first | refine blk_drewN ?_ _ | refine blk_drew ?_ | refine blk_alloc ?_ _)); refine blk_far ?_ NB121_122.out _; (with_reducible repeat (first | refine blk_drewN ?_ _ | refine blk_drew ?_ | refine blk_alloc ?_ _)); exact BK121.out⟩, ⟨by (with_reducible repeat (first | refine blk_drewN ?_ _ | refine blk_drew ?_ | refine blk_alloc ?_ _)); refine blk_put (cs := #[u123000]) ?_ 0 _ rfl; (with_reducible repeat (first | refine blk_drewN ?_ _ | refine blk_drew ?_ | refine blk_alloc ?_ _)); exact BK122.out⟩, ⟨hbT HB.out⟩⟩
                      · rw [if_neg c54] at H
                        exact absurd H (by simp)
                    · rw [if_neg c53] at H
                      have c53b0 : ((rd l1_0 x7_2) == (-1)) = false := beq_eq_false_iff_ne.mpr c53
                      have c53b1 : ((rd l1_0 x7_2) != (-1)) = true := bne_iff_ne.mpr c53
                      obtain ⟨ji67, hji67⟩ : ∃ j_ : Int, (mx (rd l0_0 x7_2) (rd l1_0 x7_2)) = j_ := ⟨_, rfl⟩
                      replace H : (if x123000_2.length < 17592186044416 then (spec_FuseRows.l0 k2 (wrap64 (x7_2 + 1)) l0_0 l1_0 (x123000_2 ++ [ji67])) else (none)) = some (r1, r2) := by first | (rw [hji67] at H; exact H) | (simp only [hji67] at H ⊢; exact H)
                      have hji67_ : (if (rd l0_0 x7_2) < (rd l1_0 x7_2) then (rd l1_0 x7_2) else (rd l0_0 x7_2)) = ji67 := hji67
                      by_cases c68 : x123000_2.length < 17592186044416
                      · rw [if_pos c68] at H
                        have LMc68 := Aside0.mk c68; clear c68; obtain ⟨y135, hy135⟩ : ∃ y_ : List Int, y_ = (x123000_2 ++ [ji67]) := ⟨_, rfl⟩
                        replace H : (spec_FuseRows.l0 k2 (wrap64 (x7_2 + 1)) l0_0 l1_0 y135) = some (r1, r2) := by first | (rw [hy135]; with_reducible exact H) | (have H2_ := (Option.bind_some _ _).symm.trans H; rw [hy135]; with_reducible exact H2_) | (have H2_ := (Option.bind_some _ _).symm.trans H; with_reducible exact H2_) | with_reducible exact H | (rw [hy135]; exact H) | exact H
                        have Ny135 := Aside0.mk hy135; clear hy135; have H' := Aside0.mk H; clear H; have hnb69 := NB119_120.out; have hnc69 := NB120_119.out; have hnb70 := NB119_121.out; have hnc70 := NB121_119.out; have hnb71 := NB119_122.out; have hnc71 := NB122_119.out
                        have hcz72_0 : wr.cell? ⟨gb119, 0, none⟩ = some (.slice A0_0 l0_0.length c0_0) := (blk_cell BK119.out 0).trans rfl
                        have hfz72_0 := blk_frozen BK119.out 0
                        have p125 : 0 ≤ (x7_2 : Int) := of_decide_eq_true (by first | (with_reducible assumption) | assumption)
                        have q125 : x7_2 < (l0_0.length : Int) := of_decide_eq_true (by first | (with_reducible assumption) | assumption)
                        obtain ⟨ad125, e125, hx125_0⟩ := Kd.at_int HR0_0.out x7_2 p125 q125
                        cases e125
                        replace hx125_0 := (HB.out.cell (World.block_lt_of_cell? w _ hx125_0)).trans hx125_0; replace p125 := eq_true p125; replace q125 := eq_true q125; have hnb73 := NB120_121.out; have hnc73 := NB121_120.out; have hnb74 := NB120_122.out; have hnc74 := NB122_120.out
                        have hcz75_0 : wr.cell? ⟨gb120, 0, none⟩ = some (.slice A1_0 l1_0.length c1_0) := (blk_cell BK120.out 0).trans rfl
                        have hfz75_0 := blk_frozen BK120.out 0
                        have p129 : 0 ≤ (x7_2 : Int) := of_decide_eq_true (by first | (with_reducible assumption) | assumption)
                        have q129 : x7_2 < (l1_0.length : Int) := of_decide_eq_true (by first | (with_reducible assumption) | assumption)
                        obtain ⟨ad129, e129, hx129_0⟩ := Kd.at_int HR1_0.out x7_2 p129 q129
                        cases e129
                        replace hx129_0 := (HB.out.cell (World.block_lt_of_cell? w _ hx129_0)).trans hx129_0; replace p129 := eq_true p129; replace q129 := eq_true q129
                        try go_wp2
                        have n0_ := asT (Kd.R_drew HO_123000.out); have n1_ := asT (blk_drew BK119.out); have n2_ := asT (blk_drew BK120.out); have n3_ := asT (blk_drew BK121.out); have n4_ := asT (blk_drew BK122.out); have n5_ := asT (below_drew1 HB.out); clear HO_123000 BK119 BK120 BK121 BK122 HB; have HO_123000 := n0_; have BK119 := n1_; have BK120 := n2_; have BK121 := n3_; have BK122 := n4_; have HB := n5_; clear n0_ n1_ n2_ n3_ n4_ n5_
                        have p133 : 0 ≤ (x7_2 : Int) := of_decide_eq_true (by first | (with_reducible assumption) | assumption)
                        have q133 : x7_2 < (l0_0.length : Int) := of_decide_eq_true (by first | (with_reducible assumption) | assumption)
                        obtain ⟨ad133, e133, hx133_0⟩ := Kd.at_int HR0_0.out x7_2 p133 q133; have hw133_0 := hx133_0
                        obtain rfl : ad125 = ad133 := (by injection e133)
                        replace hx133_0 := (HB.out.cell (World.block_lt_of_cell? w _ hx133_0)).trans hx133_0; replace p133 := eq_true p133; replace q133 := eq_true q133
                        have p134 : 0 ≤ (x7_2 : Int) := of_decide_eq_true (by first | (with_reducible assumption) | assumption)
                        have q134 : x7_2 < (l1_0.length : Int) := of_decide_eq_true (by first | (with_reducible assumption) | assumption)
                        obtain ⟨ad134, e134, hx134_0⟩ := Kd.at_int HR1_0.out x7_2 p134 q134; have hw134_0 := hx134_0
                        obtain rfl : ad129 = ad134 := (by injection e134)
                        replace hx134_0 := (HB.out.cell (World.block_lt_of_cell? w _ hx134_0)).trans hx134_0; replace p134 := eq_true p134; replace q134 := eq_true q134
                        refine start_ (n := 17) (S := fun w' => w'.cell? ⟨gb122, 0, none⟩ = some (u123000) ∧ w'.cell? ⟨gb119, 0, none⟩ = some (.slice (some ad125) l0_0.length c0_0) ∧ w'.cell? ⟨gb120, 0, none⟩ = some (.slice (some ad129) l1_0.length c1_0) ∧ w'.cell? (ad125.add (x7_2).toNat) = some (.int .i64 (rd l0_0 x7_2)) ∧ w'.cell? (ad129.add (x7_2).toNat) = some (.int .i64 (rd l1_0 x7_2))) (ds := [16]) #[false, false, false, false, false, false, false, false, false, false, false, false, false, false, false, false, false] (by kernel_rfl) rfl rfl ⟨(blk_cell BK122.out 0).trans rfl, (blk_cell BK119.out 0).trans rfl, (blk_cell BK120.out 0).trans rfl, ((HB.out.cell (World.block_lt_of_cell? w _ hw133_0)).trans hw133_0), ((HB.out.cell (World.block_lt_of_cell? w _ hw134_0)).trans hw134_0)⟩ (fun hHeld => ?_); refine with_tabW spec_FuseRows.tab7 spec_FuseRows.bits7 (fun HT_ HW_ => ?_)
                        generalize wr.drew = w76 at HO_123000 BK119 BK120 BK121 BK122 HB hx133_0 hx134_0 hHeld ⊢
                        refine pure_ (i := 0) (N := some 31) (v := ?_) (a' := ?_) #[true, false, false, false, false, false, false, false, false, false, false, false, false, false, false, false, false] rfl rfl (any_of HT_.out (by kernel_rfl)) (fun _ _ _ h => h) (Or.inl ⟨by rfl, ?_⟩) ?_ ?_
                        rotate_left
                        · intro w'
                          go_simp
                          with_reducible rfl
                        rotate_left
                        · simp only [Act.put, List.setIfInBounds_toArray, List.set_cons_zero, List.set_cons_succ, i64_w, i32_w]
                          rfl
                        refine pure_ (i := 2) (N := some 33) (v := ?_) (a' := ?_) #[true, false, true, false, false, false, false, false, false, false, false, false, false, false, false, false, false] rfl rfl (any_of HT_.out (by kernel_rfl)) (fun _ _ _ h => h) (Or.inl ⟨by rfl, ?_⟩) ?_ ?_
                        rotate_left
                        · intro w'
                          go_simp
                          with_reducible rfl
                        rotate_left
                        · simp only [Act.put, List.setIfInBounds_toArray, List.set_cons_zero, List.set_cons_succ, i64_w, i32_w]
                          rfl
                        refine pure_ (i := 4) (N := some 35) (v := ?_) (a' := ?_) #[true, false, true, false, true, false, false, false, false, false, false, false, false, false, false, false, false] rfl rfl (any_of HT_.out (by kernel_rfl)) (fun _ _ _ h => h) (Or.inl ⟨by rfl, ?_⟩) ?_ ?_
                        rotate_left
                        · intro w'
                          go_simp
                          with_reducible rfl
                        rotate_left
                        · simp only [Act.put, List.setIfInBounds_toArray, List.set_cons_zero, List.set_cons_succ, i64_w, i32_w]
                          rfl
                        refine pure_ (i := 7) (N := some 38) (v := ?_) (a' := ?_) #[true, false, true, false, true, false, false, true, false, false, false, false, false, false, false, false, false] rfl rfl (any_of HT_.out (by kernel_rfl)) (fun _ _ _ h => h) (Or.inl ⟨by rfl, ?_⟩) ?_ ?_
                        rotate_left
                        · intro w'
                          go_simp
                          with_reducible rfl
                        rotate_left
                        · simp only [Act.put, List.setIfInBounds_toArray, List.set_cons_zero, List.set_cons_succ, i64_w, i32_w]
                          rfl
                        refine pure_ (i := 9) (N := some 40) (v := ?_) (a' := ?_) #[true, false, true, false, true, false, false, true, false, true, false, false, false, false, false, false, false] rfl rfl (any_of HT_.out (by kernel_rfl)) (fun _ _ _ h => h) (Or.inl ⟨by rfl, ?_⟩) ?_ ?_
                        rotate_left
                        · intro w'
                          go_simp
                          with_reducible rfl
                        rotate_left
                        · simp only [Act.put, List.setIfInBounds_toArray, List.set_cons_zero, List.set_cons_succ, i64_w, i32_w]
                          rfl
                        refine take_ (i := 1) (N := some 32) (v := ?_) (a' := ?_) #[true, true, true, false, true, false, false, true, false, true, false, false, false, false, false, false, false] rfl rfl (take_ofW HT_.out HW_.out (by kernel_rfl)) (fun _ _ _ h => h) (Or.inl ⟨by rfl, ?_⟩) hHeld ?_ ?_
                        rotate_left
                        · rintro w' ⟨s0, s1, s2, s3, s4⟩
                          go_simp
                          with_reducible rfl
                        rotate_left
                        · simp only [Act.put, List.setIfInBounds_toArray, List.set_cons_zero, List.set_cons_succ, i64_w, i32_w]
                          rfl
                        refine take_ (i := 3) (N := some 34) (v := ?_) (a' := ?_) #[true, true, true, true, true, false, false, true, false, true, false, false, false, false, false, false, false] rfl rfl (take_ofW HT_.out HW_.out (by kernel_rfl)) (fun _ _ _ h => h) (Or.inl ⟨by rfl, ?_⟩) hHeld ?_ ?_
                        rotate_left
                        · rintro w' ⟨s0, s1, s2, s3, s4⟩
                          go_simp
                          with_reducible rfl
                        rotate_left
                        · simp only [Act.put, List.setIfInBounds_toArray, List.set_cons_zero, List.set_cons_succ, i64_w, i32_w]
                          rfl
                        refine pure_ (i := 5) (N := some 36) (v := ?_) (a' := ?_) #[true, true, true, true, true, true, false, true, false, true, false, false, false, false, false, false, false] rfl rfl (any_of HT_.out (by kernel_rfl)) (fun _ _ _ h => h) (Or.inl ⟨by rfl, ?_⟩) ?_ ?_
                        rotate_left
                        · intro w'
                          go_simp
                          with_reducible rfl
                        rotate_left
                        · simp only [Act.put, List.setIfInBounds_toArray, List.set_cons_zero, List.set_cons_succ, i64_w, i32_w]
                          rfl
                        refine take_ (i := 6) (N := some 37) (v := ?_) (a' := ?_) #[true, true, true, true, true, true, true, true, false, true, false, false, false, false, false, false, false] rfl rfl (take_ofW HT_.out HW_.out (by kernel_rfl)) (fun _ _ _ h => h) (Or.inl ⟨by rfl, ?_⟩) hHeld ?_ ?_
                        rotate_left
                        · rintro w' ⟨s0, s1, s2, s3, s4⟩
                          go_simp
                          with_reducible rfl
                        rotate_left
                        · simp only [Act.put, List.setIfInBounds_toArray, List.set_cons_zero, List.set_cons_succ, i64_w, i32_w]
                          rfl
                        refine take_ (i := 8) (N := some 39) (v := ?_) (a' := ?_) #[true, true, true, true, true, true, true, true, true, true, false, false, false, false, false, false, false] rfl rfl (take_ofW HT_.out HW_.out (by kernel_rfl)) (fun _ _ _ h => h) (Or.inl ⟨by rfl, ?_⟩) hHeld ?_ ?_
                        rotate_left
                        · rintro w' ⟨s0, s1, s2, s3, s4⟩
                          go_simp
                          with_reducible rfl
                        rotate_left
                        · simp only [Act.put, List.setIfInBounds_toArray, List.set_cons_zero, List.set_cons_succ, i64_w, i32_w]
                          rfl
                        refine pure_ (i := 10) (N := some 41) (v := ?_) (a' := ?_) #[true, true, true, true, true, true, true, true, true, true, true, false, false, false, false, false, false] rfl rfl (any_of HT_.out (by kernel_rfl)) (fun _ _ _ h => h) (Or.inl ⟨by rfl, ?_⟩) ?_ ?_
                        rotate_left
                        · intro w'
                          go_simp
                          with_reducible rfl
                        rotate_left
                        · simp only [Act.put, List.setIfInBounds_toArray, List.set_cons_zero, List.set_cons_succ, i64_w, i32_w]
                          rfl
                        refine take_ (i := 11) (N := some 42) (v := ?_) (a' := ?_) #[true, true, true, true, true, true, true, true, true, true, true, true, false, false, false, false, false] rfl rfl (take_ofW HT_.out HW_.out (by kernel_rfl)) (fun _ _ _ h => h) (Or.inl ⟨by rfl, ?_⟩) hHeld ?_ ?_
                        rotate_left
                        · rintro w' ⟨s0, s1, s2, s3, s4⟩
                          go_simp
                          with_reducible rfl
                        rotate_left
                        · simp only [Act.put, List.setIfInBounds_toArray, List.set_cons_zero, List.set_cons_succ, i64_w, i32_w]
                          rfl
                        refine pure_ (i := 12) (N := some 43) (v := ?_) (a' := ?_) #[true, true, true, true, true, true, true, true, true, true, true, true, true, false, false, false, false] rfl rfl (any_of HT_.out (by kernel_rfl)) (fun _ _ _ h => h) (Or.inl ⟨by rfl, ?_⟩) ?_ ?_
                        rotate_left
                        · intro w'
                          go_simp
                          with_reducible rfl
                        rotate_left
                        · simp only [Act.put, List.setIfInBounds_toArray, List.set_cons_zero, List.set_cons_succ, i64_w, i32_w]
                          rfl
                        refine one_ (i := 13) (N := some 44) #[true, true, true, true, true, true, true, true, true, true, true, true, true, true, false, false, false] rfl rfl (one_of HT_.out (by kernel_rfl)) (by decide) (fun K hK => ?_)
                        refine value_ (w1 := ?_) (v := ?_) (by rfl) rfl ?_ ?_
                        rotate_left 2
                        · go_simp
                          constructor
                          · rfl
                          · rfl
                        refine hK.out _ _ ⟨(blk_cell (blk_alloc BK122.out _) 0).trans rfl, (blk_cell (blk_alloc BK119.out _) 0).trans rfl, (blk_cell (blk_alloc BK120.out _) 0).trans rfl, (World.cell?_alloc_lt _ _ _ (World.block_lt_of_cell? _ _ (((HB.out.cell (World.block_lt_of_cell? w _ hw133_0)).trans hw133_0)))).trans (((HB.out.cell (World.block_lt_of_cell? w _ hw133_0)).trans hw133_0)), (World.cell?_alloc_lt _ _ _ (World.block_lt_of_cell? _ _ (((HB.out.cell (World.block_lt_of_cell? w _ hw134_0)).trans hw134_0)))).trans (((HB.out.cell (World.block_lt_of_cell? w _ hw134_0)).trans hw134_0))⟩ (fun hHeld => ?_)
                        clear hK K
                        refine norm_ (a' := ?_) ?_ ?_
                        rotate_left
                        · show Act.put _ (some 44) _ = _
                          simp only [Act.put, List.setIfInBounds_toArray, List.set_cons_zero, List.set_cons_succ, i64_w, i32_w]
                          rfl
                        refine one_ (i := 14) (N := some 45) #[true, true, true, true, true, true, true, true, true, true, true, true, true, true, true, false, false] rfl rfl (one_of HT_.out (by kernel_rfl)) (by decide) (fun K hK => ?_)
                        refine Kd.R_append_step (Kd.int .i64) (w0 := w) w.heap.size (by rfl) (.tmp 32) (.tmp 44) 24 3 (.int .i64 0) 8 rfl Try.underlying24 info3 rfl (by decide) (by omega) u123000 x123000_2 ji67 [.int .i64 ji67] (fun _ => True) (fun _ => False) rfl rfl ?aP (fun _ hk => hk.elim) ?aF ?aO ?aB ?aS ?aL ?_
                        (case aP => exact rfl)
                        (case aB => exact (hbT HB.out))
                        (case aF => exact (fun _ _ => trivial))
                        (case aO => exact (roT HO_123000.out))
                        (case aS => exact (below_size (hbT HB.out)))
                        (case aL => have := LMc68.out; omega)
                        intro v136 w77 ho hb hg hat
                        rw [← Ny135.out] at ho; have n0_ := asT (blk_grown (g := gb119) (o := .cells #[.slice (some ad125) l0_0.length c0_0] 26 (0, 0)) (bkT BK119.out) hg (Kd.R_ne HO_123000.out BK119.out (by decide))); have n1_ := asT (blk_grown (g := gb120) (o := .cells #[.slice (some ad129) l1_0.length c1_0] 26 (0, 0)) (bkT BK120.out) hg (Kd.R_ne HO_123000.out BK120.out (by decide))); have n2_ := asT (blk_grown (g := gb121) (o := .cells #[.slice none 0 0] 26 (0, 0)) (bkT BK121.out) hg (Kd.R_ne HO_123000.out BK121.out (by decide))); have n3_ := asT (blk_grown (g := gb122) (o := .cells #[u123000] 26 (0, 0)) (bkT BK122.out) hg (Kd.R_ne HO_123000.out BK122.out (by decide))); have n4_ := asT (hb); have n5_ := asT (ho); clear BK119 BK120 BK121 BK122 HB HO_123000; have BK119 := n0_; have BK120 := n1_; have BK121 := n2_; have BK122 := n3_; have HB := n4_; have HO137 := n5_; clear n0_ n1_ n2_ n3_ n4_ n5_ ho hb hg hat; obtain ⟨Ao78, co78, eo78⟩ := Kd.R_slice HO137.out; (first | subst eo78 | (injection eo78 with f1_ f2_ f3_; have f4_ := f1_.symm; have f5_ := f3_.symm; clear f1_ f2_ f3_; subst f4_; subst f5_))
                        refine hK.out _ _ ⟨(blk_cell BK122.out 0).trans rfl, (blk_cell BK119.out 0).trans rfl, (blk_cell BK120.out 0).trans rfl, ((HB.out.cell (World.block_lt_of_cell? w _ hw133_0)).trans hw133_0), ((HB.out.cell (World.block_lt_of_cell? w _ hw134_0)).trans hw134_0)⟩ (fun hHeld => ?_)
                        clear hK K
                        refine norm_ (a' := ?_) ?_ ?_
                        rotate_left
                        · show Act.put _ (some 45) _ = _
                          simp only [Act.put, List.setIfInBounds_toArray, List.set_cons_zero, List.set_cons_succ, i64_w, i32_w]
                          rfl
                        refine pure_ (i := 15) (N := some 46) (v := ?_) (a' := ?_) #[true, true, true, true, true, true, true, true, true, true, true, true, true, true, true, true, false] rfl rfl (any_of HT_.out (by kernel_rfl)) (fun _ _ _ h => h) (Or.inl ⟨by rfl, ?_⟩) ?_ ?_
                        rotate_left
                        · intro w'
                          go_simp
                          with_reducible rfl
                        rotate_left
                        · simp only [Act.put, List.setIfInBounds_toArray, List.set_cons_zero, List.set_cons_succ, i64_w, i32_w]
                          rfl
                        refine last_ (i := 16) (N := none) #[true, true, true, true, true, true, true, true, true, true, true, true, true, true, true, true, true] rfl rfl (one_of HT_.out (by kernel_rfl)) (by decide) (fun K hK => ?_)
                        have hs79 : w77.cell? ⟨gb122, 0, none⟩ = some (u123000) := (blk_cell BK122.out 0).trans rfl
                        have hfs79 := blk_frozen BK122.out 0; have hns79_0 := NB119_122.out; have hns79_1 := NB120_122.out; have hns79_2 := NB121_122.out; have hms79_0 := NB122_119.out; have hms79_1 := NB122_120.out; have hms79_2 := NB122_121.out
                        refine skip_ (w1 := ?_) (by rfl) rfl ?_ ?_
                        rotate_left
                        · go_simp
                          rfl
                        refine hK.out _ _ ?_
                        clear hK K
                        refine done_ (done_of HT_.out (by kernel_rfl)) ?_
                        try go_wp2
                        go_roundg k2
                        case measure => have := HJ2.out; have := HK2.out; omega
                        case rel => exact ⟨(wrap64 (x7_2 + 1)), (y135), (.slice Ao78 y135.length co78), (by first | rfl | (simp; done) | (simp [*]; done)), H', ⟨by have := HJ2.out; have := HK2.out; omega⟩, ⟨by (with_reducible repeat (first | apply Kd.R_alloc | apply Kd.R_drewN | apply Kd.R_drew)); exact Kd.R_mono (Kd.R_far (p := ⟨gb122, 0, none⟩) (Kd.R_types HO137.out BK122.out (by decide)) (fun _ hk => hk.2) (.slice Ao78 y135.length co78)) (fun _ hk => trivial)⟩, ⟨by (with_reducible repeat (first | refine blk_drewN ?_ _ | refine blk_drew ?_ | refine blk_alloc ?_ _)); refine blk_far ?_ NB119_122.out _; (with_reducible repeat (first | refine blk_drewN ?_ _ | refine blk_drew ?_ | refine blk_alloc ?_ _)); exact BK119.out⟩, ⟨by (with_reducible repeat (first | refine blk_drewN ?_ _ | refine blk_drew ?_ | refine blk_alloc ?_ _)); refine blk_far ?_ NB120_122.out _; (with_reducible repeat (first | refine blk_drewN ?_ _ | refine blk_drew ?_ | refine blk_alloc ?_ _)); exact BK120.out⟩, ⟨by (with_reducible repeat (first | refine blk_drewN ?_ _ | refine blk_drew ?_ | refine blk_alloc ?_ _)); refine blk_far ?_ NB121_122.out _; (with_reducible repeat (first | refine blk_drewN ?_ _ | refine blk_drew ?_ | refine blk_alloc ?_ _)); exact BK121.out⟩, ⟨by (with_reducible repeat (first | refine blk_drewN ?_ _ | refine blk_drew ?_ | refine blk_alloc ?_ _)); refine blk_put (cs := #[u123000]) ?_ 0 _ rfl; (with_reducible repeat (first | refine blk_drewN ?_ _ | refine blk_drew ?_ | refine blk_alloc ?_ _)); exact BK122.out⟩, ⟨hbT HB.out⟩⟩
                      · rw [if_neg c68] at H
                        exact absurd H (by simp)
                  · rw [if_neg c52] at H
                    exact absurd H (by simp)
              · rw [if_neg c39] at H
                exact absurd H (by simp)
            · rw [if_neg c38] at H
              have c38b0 : decide (x7_2 < (l0_0.length : Int)) = false := decide_eq_false c38
              clear c38
              simp only [Option.some.injEq, Prod.mk.injEq] at H
              obtain ⟨rfl, rfl⟩ := H; have hnb80 := NB119_120.out; have hnc80 := NB120_119.out; have hnb81 := NB119_121.out; have hnc81 := NB121_119.out; have hnb82 := NB119_122.out; have hnc82 := NB122_119.out
              have hcz83_0 : wr.cell? ⟨gb119, 0, none⟩ = some (.slice A0_0 l0_0.length c0_0) := (blk_cell BK119.out 0).trans rfl
              have hfz83_0 := blk_frozen BK119.out 0; have hnb84 := NB122_120.out; have hnc84 := NB120_122.out; have hnb85 := NB122_121.out; have hnc85 := NB121_122.out
              have hcz86_0 : wr.cell? ⟨gb122, 0, none⟩ = some (u123000) := (blk_cell BK122.out 0).trans rfl
              have hfz86_0 := blk_frozen BK122.out 0; obtain ⟨Ao87, co87, eo87⟩ := Kd.R_slice HO_123000.out; subst eo87; have hnb88 := NB121_120.out; have hnc88 := NB120_121.out
              have hcz89_0 : wr.cell? ⟨gb121, 0, none⟩ = some (.slice none 0 0) := (blk_cell BK121.out 0).trans rfl
              have hfz89_0 := blk_frozen BK121.out 0
              go_wp2
              refine bodyPost_ret (results_ct rfl _ _ gb121 26 #[.slice Ao87 x123000_2.length co87] (0, 0) _ rfl (by (with_reducible repeat (first | refine blk_drewN ?_ _ | refine blk_drew ?_ | refine blk_alloc ?_ _)); refine blk_put (cs := #[.slice none 0 0]) ?_ 0 _ rfl; (with_reducible repeat (first | refine blk_drewN ?_ _ | refine blk_drew ?_ | refine blk_alloc ?_ _)); exact BK121.out) Try.underlying26 rfl (by kernel_rfl)) rfl ?_
              exact ⟨_, by first | rfl | (simp [errW_none, errW_some] <;> rfl) | (simp [*, errW_none, errW_some] <;> rfl), by (with_reducible repeat (first | apply Kd.R_alloc | apply Kd.R_drewN | apply Kd.R_drew)); exact Kd.R_mono (Kd.R_far (p := ⟨gb121, 0, none⟩) (Kd.R_types HO_123000.out BK121.out (by decide)) (fun _ hk => hk.2) (.slice Ao87 x123000_2.length co87)) (fun _ hk => trivial), hbT HB.out⟩

/-! ### laws_toIntS: function 71 -/
def laws_toIntS.l0 : Nat → List Int → List Int → Int → Option (List Int)
  | 0, _, _, _ => none
  | k + 1, x0, x3, x4 => if x4 < (x0.length : Int) then (if 0 ≤ x4 then (if x4 < (x3.length : Int) then (laws_toIntS.l0 k x0 (x3.set (x4 : Int).toNat (rd x0 x4)) (wrap64 (x4 + 1))) else (none)) else (none)) else (some x3)
def laws_toIntS.f (k : Nat) (l0 : List Int) : Option (List Int) := if 0 ≤ (l0.length : Int) then (if ((l0.length : Int) : Int).toNat ≤ 35184372088832 then (laws_toIntS.l0 k l0 (List.replicate ((l0.length : Int) : Int).toNat 0) 0) else (none)) else (none)
theorem laws_toIntS.mono_l : ∀ k, (∀ y0 y1 y2, LeO (laws_toIntS.l0 k y0 y1 y2) (laws_toIntS.l0 (k + 1) y0 y1 y2))
  | 0 => fun _ _ _ r h => by simp [laws_toIntS.l0] at h
  | k + 1 => by
    have ih0 := laws_toIntS.mono_l k
    · intro y0 y1 y2
      unfold laws_toIntS.l0
      repeat' first
      | (with_reducible exact ih0 _ _ _)
      | (with_reducible exact LeO.refl _)
      | (with_reducible exact LeO.none _)
      | (with_reducible refine LeO.ite ?_ ?_)
      | (with_reducible refine LeO.bind ?_ (fun _ => ?_))
      | exact ih0 _ _ _
      | exact LeO.none _
      | refine LeO.ite ?_ ?_
      | refine LeO.bind ?_ (fun _ => ?_)
theorem laws_toIntS.mono : ∀ a0 k, LeO (laws_toIntS.f k a0) (laws_toIntS.f (k + 1) a0) := by
  intro a0 k
  have ih0 := laws_toIntS.mono_l k
  unfold laws_toIntS.f
  repeat' first
      | (with_reducible exact ih0 _ _ _)
      | (with_reducible exact LeO.refl _)
      | (with_reducible exact LeO.none _)
      | (with_reducible refine LeO.ite ?_ ?_)
      | (with_reducible refine LeO.bind ?_ (fun _ => ?_))
      | exact ih0 _ _ _
      | exact LeO.none _
      | refine LeO.ite ?_ ?_
      | refine LeO.bind ?_ (fun _ => ?_)
set_option maxHeartbeats 8000000 in
set_option maxRecDepth 100000 in
theorem laws_toIntS.calls (k : Nat) (A0 : Option Addr) (c0 : Nat) (l0 : List Int) (r : List Int) (w : World) (hr0 : Kd.C (Kd.int .i64) w A0 l0.length l0) (hc0 : l0.length ≤ c0) (h : laws_toIntS.f k l0 = some r) :
    Calls Try.prog 71 #[.slice A0 l0.length c0] w fun e w' => ∃ v0_ : Value, e = .returned (v0_) ∧ Kd.R (Kd.int .i64) 3 w' w.heap.size (fun _ => True) v0_ r ∧ Below w.heap.size w w' := by
  have HR0 := Aside0.mk hr0; have HC0 := Aside0.mk hc0; clear hr0 hc0; have HB := asT (Below.refl w.heap.size w)
  have H : (if 0 ≤ (l0.length : Int) then (if ((l0.length : Int) : Int).toNat ≤ 35184372088832 then (laws_toIntS.l0 k l0 (List.replicate ((l0.length : Int) : Int).toNat 0) 0) else (none)) else (none)) = some r := h
  clear h
  by_cases c2 : 0 ≤ (l0.length : Int)
  · rw [if_pos c2] at H
    have c2b0 := eq_true c2
    have c2b1 : decide (0 ≤ (l0.length : Int)) = true := decide_eq_true c2
    clear c2
    by_cases c3 : ((l0.length : Int) : Int).toNat ≤ 35184372088832
    · rw [if_pos c3] at H
      have c3b0 := eq_true c3
      have c3b1 : decide (((l0.length : Int) : Int).toNat ≤ 35184372088832) = true := decide_eq_true c3
      clear c3; obtain ⟨y138, hy138⟩ : ∃ y_ : List Int, y_ = (List.replicate ((l0.length : Int) : Int).toNat 0) := ⟨_, rfl⟩
      replace H : (laws_toIntS.l0 k l0 y138 0) = some r := by first | (rw [hy138]; with_reducible exact H) | (have H2_ := (Option.bind_some _ _).symm.trans H; rw [hy138]; with_reducible exact H2_) | (have H2_ := (Option.bind_some _ _).symm.trans H; with_reducible exact H2_) | with_reducible exact H | (rw [hy138]; exact H) | exact H
      have Ny138 := Aside0.mk hy138; clear hy138; have H' := Aside0.mk H; clear H
      go_enter Try.func71, Try.ntmps71
      go_wp2_with (first | ((with_reducible refine gate_dst (N := 7) rfl ?_); refine Kd.R_make (Kd.int .i64) _ 3 rfl (N := 7) rfl 24 _ _ rfl (l0.length : Int) rfl rfl Try.underlying24 (.int .i64 0) 8 info3 rfl (by decide) (by omega) 0 (ok := fun _ => True) (okp := fun _ => True) rfl (fun _ hk => hk) trivial (of_decide_eq_true (by first | (with_reducible assumption) | assumption)) (Nat.le_trans (Nat.mul_le_mul_right _ (of_decide_eq_true (by first | (with_reducible assumption) | assumption) : (l0.length : Int).toNat ≤ 35184372088832)) (by omega)) (Below.refl _ _) (Nat.le_refl _) ?_; intro v139 w4 ho5 hb hg_ hnew_; clear hg_ hnew_; (first | rw [← Ny138.out] at ho5 | (simp only [Int.reduceToNat] at ho5; rw [← Ny138.out] at ho5)); have n0_ := asT (Kd.R_lower ho5 (below_size (hbT HB.out))); have n1_ := asT (below_step (hbT HB.out) hb); clear HB; have HO140 := n0_; have HB := n1_; clear n0_ n1_ hb ho5))
      go_loopg [4] k (fun kq v4 w' => ∃ (x3_1 : List Int) (x4_1 : Int), v4 = .int .i64 x4_1 ∧ Aside0 (laws_toIntS.l0 kq l0 x3_1 x4_1 = some r) ∧ Aside0 (kq ≤ k) ∧ Aside0 (Kd.R (Kd.int .i64) 3 w' w.heap.size (fun _ => True) v139 x3_1) ∧ Aside0 (Below w.heap.size w w'))
      case atStart => exact ⟨(y138), (0), (by first | rfl | (simp; done) | (simp [*]; done)), H', ⟨Nat.le_refl _⟩, ⟨by (with_reducible repeat (first | apply Kd.R_alloc | apply Kd.R_drewN | apply Kd.R_drew)); exact HO140.out⟩, ⟨hbT HB.out⟩⟩
      case round =>
        clear H'; (try clear c2); (try clear c2b0); (try clear c2b1); (try clear p2); (try clear c3); (try clear c3b0); (try clear c3b1); obtain ⟨x3_1, x4_1, rfl, HA, HK1, HO_3, HB⟩ := hrel
        cases gk with
        | zero => exact absurd HA.out (by simp [laws_toIntS.l0])
        | succ k1 =>
          have H := HA.out; clear HA
          simp only [laws_toIntS.l0] at H
          by_cases c6 : x4_1 < (l0.length : Int)
          · rw [if_pos c6] at H
            have c6b0 : decide (x4_1 < (l0.length : Int)) = true := decide_eq_true c6
            clear c6
            by_cases c7 : 0 ≤ x4_1
            · rw [if_pos c7] at H
              have c7b0 : decide (0 ≤ x4_1) = true := decide_eq_true c7
              clear c7
              by_cases c8 : x4_1 < (x3_1.length : Int)
              · rw [if_pos c8] at H
                have c8b0 : decide (x4_1 < (x3_1.length : Int)) = true := decide_eq_true c8
                clear c8; obtain ⟨y142, hy142⟩ : ∃ y_ : List Int, y_ = (x3_1.set (x4_1 : Int).toNat (rd l0 x4_1)) := ⟨_, rfl⟩
                replace H : (laws_toIntS.l0 k1 l0 y142 (wrap64 (x4_1 + 1))) = some r := by first | (rw [hy142]; with_reducible exact H) | (have H2_ := (Option.bind_some _ _).symm.trans H; rw [hy142]; with_reducible exact H2_) | (have H2_ := (Option.bind_some _ _).symm.trans H; with_reducible exact H2_) | with_reducible exact H | (rw [hy142]; exact H) | exact H
                have Ny142 := Aside0.mk hy142; clear hy142; have H' := Aside0.mk H; clear H
                have p141 : 0 ≤ (x4_1 : Int) := of_decide_eq_true (by first | (with_reducible assumption) | assumption)
                have q141 : x4_1 < (l0.length : Int) := of_decide_eq_true (by first | (with_reducible assumption) | assumption)
                obtain ⟨ad141, e141, hx141_0⟩ := Kd.at_int HR0.out x4_1 p141 q141
                cases e141
                replace hx141_0 := (HB.out.cell (World.block_lt_of_cell? w _ hx141_0)).trans hx141_0; replace p141 := eq_true p141; replace q141 := eq_true q141
                have p9 : 0 ≤ (x4_1 : Int) := of_decide_eq_true (by first | (with_reducible assumption) | assumption)
                have q9 : (x4_1 : Int) < ((x3_1.length : Int) : Int) := of_decide_eq_true (by first | (with_reducible assumption) | assumption)
                obtain ⟨go9, co9, eo9, gb9, gl9, cl9, HG9⟩ := Kd.R_form HO_3.out (by omega)
                (first | cases eo9 | (injection eo9 with ea_ en_ ec_; (first | subst ea_ | (injection ea_ with ea_; subst ea_)); subst ec_; clear en_))
                have GB9 := Aside0.mk gb9; have GG9 := Aside0.mk HG9; clear gb9 gl9 HG9; obtain ⟨hx9_0, hf9_0⟩ := Kd.R_celln 0 HO_3.out (x4_1 : Int) p9 q9; replace p9 := eq_true p9; replace q9 := eq_true q9; have HP10 := Kd.R_putg HO_3.out (x4_1 : Int) (rd l0 x4_1)
                go_wp2_with (first | ((with_reducible refine gate_store (t := 3) (p := 20) rfl ?_); refine store_event (t := 3) (p := 20) (v := ?vo_w11) (w1 := (wr.setCell ⟨go9, (x4_1 : Int).toNat, none⟩ (.int .i64 (rd l0 x4_1)))) ?hg ?ho ?hn ?hr ?_; (case ho => rfl); (case hg => rfl); (case hn => rfl); (case hr => first | (go_simp; done) | (go_simp; rfl)); intro w11 hw; have hg : wr.grownBy w11 (some go9) := (by rw [hw]; exact HP10.2); have hp_ : Kd.R (Kd.int .i64) 3 w11 w.heap.size (fun _ => True) (.slice (some ⟨go9, 0, none⟩) x3_1.length co9) y142 := (by rw [hw, Ny142.out]; exact HP10.1); clear HP10; have n0_ := asT (hp_); have n1_ := asT ((by rw [hw]; exact below_set (HB.out) GB9.out : Below w.heap.size w w11)); clear HO_3 HB; have HO_3 := n0_; have HB := n1_; clear n0_ n1_ hg hw hp_))
                go_roundg k1
                case measure => have := HK1.out; omega
                case rel => exact ⟨(y142), (wrap64 (x4_1 + 1)), (by first | rfl | (simp; done) | (simp [*]; done)), H', ⟨by have := HK1.out; omega⟩, ⟨by (with_reducible repeat (first | apply Kd.R_alloc | apply Kd.R_drewN | apply Kd.R_drew)); exact HO_3.out⟩, ⟨hbT HB.out⟩⟩
              · rw [if_neg c8] at H
                exact absurd H (by simp)
            · rw [if_neg c7] at H
              exact absurd H (by simp)
          · rw [if_neg c6] at H
            have c6b0 : decide (x4_1 < (l0.length : Int)) = false := decide_eq_false c6
            clear c6
            obtain rfl := Option.some.inj H
            go_wp2
            go_ret
            exact ⟨_, by first | rfl | (simp [errW_none, errW_some] <;> rfl) | (simp [*, errW_none, errW_some] <;> rfl), by (with_reducible repeat (first | apply Kd.R_alloc | apply Kd.R_drewN | apply Kd.R_drew)); exact HO_3.out, hbT HB.out⟩
    · rw [if_neg c3] at H
      exact absurd H (by simp)
  · rw [if_neg c2] at H
    exact absurd H (by simp)

/-! ### laws_toRow: function 33 -/
def laws_toRow.f (k : Nat) (l0_0 : List Int) : Option (List Int) := (laws_toIntS.f k l0_0).bind fun t146 => (some t146)
theorem laws_toRow.mono : ∀ a0 k, LeO (laws_toRow.f k a0) (laws_toRow.f (k + 1) a0) := by
  intro a0 k
  unfold laws_toRow.f
  repeat' first
      | (with_reducible exact laws_toIntS.mono _ _)
      | (with_reducible exact LeO.refl _)
      | (with_reducible exact LeO.none _)
      | (with_reducible refine LeO.ite ?_ ?_)
      | (with_reducible refine LeO.bind ?_ (fun _ => ?_))
      | exact laws_toIntS.mono _ _
      | exact LeO.none _
      | refine LeO.ite ?_ ?_
      | refine LeO.bind ?_ (fun _ => ?_)
set_option maxHeartbeats 8000000 in
set_option maxRecDepth 100000 in
theorem laws_toRow.calls (k : Nat) (A0_0 : Option Addr) (c0_0 : Nat) (l0_0 : List Int) (r : List Int) (w : World) (hr0_0 : Kd.C (Kd.int .i64) w A0_0 l0_0.length l0_0) (hc0_0 : l0_0.length ≤ c0_0) (h : laws_toRow.f k l0_0 = some r) :
    Calls Try.prog 33 #[.agg #[.slice A0_0 l0_0.length c0_0]] w fun e w' => ∃ v0_ : Value, e = .returned (.agg #[v0_]) ∧ Kd.R (Kd.int .i64) 3 w' w.heap.size (fun _ => True) v0_ r ∧ Below w.heap.size w w' := by
  have hu38 := Try.underlying38; have hu26 := Try.underlying26; have HR0_0 := Aside0.mk hr0_0; have HC0_0 := Aside0.mk hc0_0; clear hr0_0 hc0_0; have HB := asT (Below.refl w.heap.size w)
  have H : ((laws_toIntS.f k l0_0).bind fun t146 => (some t146)) = some r := h
  clear h; replace H := Option.bind_eq_some_iff.mp H; obtain ⟨t146, A20, H⟩ := H; replace H : (some t146) = some r := H; have A2 := Aside0.mk A20; clear A20
  obtain rfl := Option.some.inj H
  go_enter Try.func33, Try.ntmps33
  go_wp2_with (first | ((with_reducible refine gate_dst (N := 1) rfl ?_); refine box_event ?hg (N := 1) ?hd (cs := #[.slice A0_0 l0_0.length c0_0]) (t := 38) ?hr ?_; (case hd => rfl); (case hg => rfl); (case hr => first | (go_simp; done) | (go_simp; rfl)); intro gb143 hg w3 hbox hb; have n0_ := asT (below_step (hbT HB.out) hb); have n1_ := asT (hbox); have n2_ := asT ((by rw [hg]; exact (below_size (hbT HB.out)) : w.heap.size ≤ gb143)); have n3_ := asT ((by rw [hg]; exact (below_size (hbT HB.out)) : w.heap.size ≤ gb143)); clear HB; have HB := n0_; have BK143 := n1_; have GW143 := n2_; have GE143 := n3_; clear n0_ n1_ n2_ n3_ hb hbox hg) | ((with_reducible refine gate_dst (N := 2) rfl ?_); refine box_event ?hg (N := 2) ?hd (cs := #[.slice none 0 0]) (t := 26) ?hr ?_; (case hd => rfl); (case hg => rfl); (case hr => first | (go_simp; done) | (go_simp; rfl)); intro gb144 hg w4 hbox hb; have n0_ := asT (blk_below (bkT BK143.out) hb); have n1_ := asT (below_step (hbT HB.out) hb); have n2_ := asT (hbox); have n3_ := asT ((by rw [hg]; exact (below_size (hbT HB.out)) : w.heap.size ≤ gb144)); have n4_ := asT ((by rw [hg]; exact (below_size (hbT HB.out)) : w.heap.size ≤ gb144)); have n5_ := asT ((by rw [hg]; exact Nat.ne_of_lt (blk_lt (bkT BK143.out)) : gb143 ≠ gb144)); have n6_ := asT ((by rw [hg]; exact Nat.ne_of_gt (blk_lt (bkT BK143.out)) : gb144 ≠ gb143)); clear BK143 HB; have BK143 := n0_; have HB := n1_; have BK144 := n2_; have GW144 := n3_; have GE144 := n4_; have NB143_144 := n5_; have NB144_143 := n6_; clear n0_ n1_ n2_ n3_ n4_ n5_ n6_ hb hbox hg) | ((with_reducible refine gate_dst (N := 3) rfl ?_); refine box_event ?hg (N := 3) ?hd (cs := #[.slice none 0 0]) (t := 26) ?hr ?_; (case hd => rfl); (case hg => rfl); (case hr => first | (go_simp; done) | (go_simp; rfl)); intro gb145 hg w5 hbox hb; have n0_ := asT (blk_below (bkT BK143.out) hb); have n1_ := asT (blk_below (bkT BK144.out) hb); have n2_ := asT (below_step (hbT HB.out) hb); have n3_ := asT (hbox); have n4_ := asT ((by rw [hg]; exact (below_size (hbT HB.out)) : w.heap.size ≤ gb145)); have n5_ := asT ((by rw [hg]; exact (below_size (hbT HB.out)) : w.heap.size ≤ gb145)); have n6_ := asT ((by rw [hg]; exact Nat.ne_of_lt (blk_lt (bkT BK143.out)) : gb143 ≠ gb145)); have n7_ := asT ((by rw [hg]; exact Nat.ne_of_gt (blk_lt (bkT BK143.out)) : gb145 ≠ gb143)); have n8_ := asT ((by rw [hg]; exact Nat.ne_of_lt (blk_lt (bkT BK144.out)) : gb144 ≠ gb145)); have n9_ := asT ((by rw [hg]; exact Nat.ne_of_gt (blk_lt (bkT BK144.out)) : gb145 ≠ gb144)); clear BK143 BK144 HB; have BK143 := n0_; have BK144 := n1_; have HB := n2_; have BK145 := n3_; have GW145 := n4_; have GE145 := n5_; have NB143_145 := n6_; have NB145_143 := n7_; have NB144_145 := n8_; have NB145_144 := n9_; clear n0_ n1_ n2_ n3_ n4_ n5_ n6_ n7_ n8_ n9_ hb hbox hg; have hnb6 := NB143_144.out; have hnc6 := NB144_143.out; have hnb7 := NB143_145.out; have hnc7 := NB145_143.out; have hcz8_0 : w5.cell? ⟨gb143, 0, none⟩ = some (.slice A0_0 l0_0.length c0_0) := (blk_cell BK143.out 0).trans rfl; have hfz8_0 := blk_frozen BK143.out 0) | ((with_reducible refine gate_callee (f := 71) rfl ?_); refine goesL_ (some 6) rfl rfl Try.func71 (by kernel_rfl) rfl #[.slice A0_0 l0_0.length c0_0] rfl eqT ?_; (with_reducible refine (laws_toIntS.calls k _ _ l0_0 t146 _ ?side1 ?side2 A2.out).mono ?_); (case side1 => repeat (first | exact (Kd.C_below HR0_0.out HB.out) | (with_reducible refine Kd.C_alloc ?_ _) | (with_reducible refine Kd.C_drewN ?_ _) | (with_reducible refine Kd.C_drew ?_))); (case side2 => exact HC0_0.out); rintro e w9 ⟨v147, rfl, ho0, hb⟩; refine ⟨_, rfl, ?_⟩; have n0_ := asT (Kd.R_lower ho0 (below_size (hbT HB.out))); have n1_ := asT (blk_below (bkT BK143.out) hb); have n2_ := asT (blk_below (bkT BK144.out) hb); have n3_ := asT (blk_below (bkT BK145.out) hb); have n4_ := asT (below_step (hbT HB.out) hb); clear BK143 BK144 BK145 HB; have HO148 := n0_; have BK143 := n1_; have BK144 := n2_; have BK145 := n3_; have HB := n4_; clear n0_ n1_ n2_ n3_ n4_; (try clear hb); (try clear hb2); (try clear hk); (try clear hi); (try clear ho0); obtain ⟨Ao10, co10, eo10⟩ := Kd.R_slice HO148.out; subst eo10; have hnb11 := NB145_144.out; have hnc11 := NB144_145.out; have hcz12_0 : w9.cell? ⟨gb145, 0, none⟩ = some (.slice none 0 0) := (blk_cell BK145.out 0).trans rfl; have hfz12_0 := blk_frozen BK145.out 0; have hcz13_0 : w9.cell? ⟨gb144, 0, none⟩ = some (.slice none 0 0) := (blk_cell BK144.out 0).trans rfl; have hfz13_0 := blk_frozen BK144.out 0))
  refine bodyPost_ret (results_cell_row rfl _ _ gb144 26 #[.slice Ao10 t146.length co10] (0, 0) _ rfl (by (with_reducible repeat (first | refine blk_drewN ?_ _ | refine blk_drew ?_ | refine blk_alloc ?_ _)); refine blk_put (cs := #[.slice none 0 0]) ?_ 0 _ rfl; (with_reducible repeat (first | refine blk_drewN ?_ _ | refine blk_drew ?_ | refine blk_alloc ?_ _)); refine blk_far ?_ NB144_145.out _; (with_reducible repeat (first | refine blk_drewN ?_ _ | refine blk_drew ?_ | refine blk_alloc ?_ _)); exact BK144.out) Try.underlying26 rfl (by kernel_rfl)) rfl ?_
  exact ⟨_, by first | rfl | (simp [errW_none, errW_some] <;> rfl) | (simp [*, errW_none, errW_some] <;> rfl), by (with_reducible repeat (first | apply Kd.R_alloc | apply Kd.R_drewN | apply Kd.R_drew)); exact Kd.R_mono (Kd.R_far (p := ⟨gb144, 0, none⟩) (Kd.R_far (p := ⟨gb145, 0, none⟩) (Kd.R_types (Kd.R_types HO148.out BK145.out (by decide)) BK144.out (by decide)) (fun _ hk => hk.1.2) (.slice Ao10 t146.length co10)) (fun _ hk => hk.2) (.slice Ao10 t146.length co10)) (fun _ hk => trivial), hbT HB.out⟩

/-! ### impl_within: function 69 -/
def impl_within.f (a0 : Int) (a1 : Int) (a2 : Int) : Option (Bool) := if a1 ≤ a0 then (some (decide (a0 ≤ a2))) else (some false)
set_option maxHeartbeats 8000000 in
set_option maxRecDepth 100000 in
theorem impl_within.calls (a0 : Int) (a1 : Int) (a2 : Int) (r : Bool) (w : World) (h : impl_within.f a0 a1 a2 = some r) :
    Calls Try.prog 69 #[.int .i64 a0, .int .i64 a1, .int .i64 a2] w fun e w' => e = .returned (.bool r) ∧ Drawn0 w w' := by
  have H : (if a1 ≤ a0 then (some (decide (a0 ≤ a2))) else (some false)) = some r := h
  clear h
  by_cases c4 : a1 ≤ a0
  · rw [if_pos c4] at H
    have c4b0 : decide (a1 ≤ a0) = true := decide_eq_true c4
    clear c4
    obtain rfl := Option.some.inj H
    go_enter Try.func69, Try.ntmps69
    go_wp2
    go_ret
    exact ⟨by first | rfl | (simp; done) | (simp [*]; done), by repeat (first | exact Drawn0.refl _ | apply Drawn0.step)⟩
  · rw [if_neg c4] at H
    have c4b0 : decide (a1 ≤ a0) = false := decide_eq_false c4
    clear c4
    obtain rfl := Option.some.inj H
    go_enter Try.func69, Try.ntmps69
    go_wp2
    go_ret
    exact ⟨by first | rfl | (simp; done) | (simp [*]; done), by repeat (first | exact Drawn0.refl _ | apply Drawn0.step)⟩

/-! ### impl_IsRow: function 68 -/
def impl_IsRow.l0 : Nat → Int → List Int → Int → Int → List Int → Option (Bool)
  | 0, _, _, _, _, _ => none
  | k + 1, x1, x8, x9, x10, x150000 => if x10 < x9 then (if 0 ≤ x10 then (if x10 < (x8.length : Int) then ((impl_within.f (rd x8 x10) (-1) 1).bind fun t151 => (if t151 = true then (impl_IsRow.l0 k x1 x8 x9 (wrap64 (x10 + 1)) x150000) else (some false))) else (none)) else (none)) else ((impl_within.f x1 1 5).bind fun t152 => (if t152 = true then (some ((x150000.length : Int) == x1)) else (some false)))
def impl_IsRow.f (k : Nat) (l0_0 : List Int) (a1 : Int) : Option (Bool) := impl_IsRow.l0 k a1 l0_0 (l0_0.length : Int) 0 l0_0
theorem impl_IsRow.mono_l : ∀ k, (∀ y0 y1 y2 y3 y4, LeO (impl_IsRow.l0 k y0 y1 y2 y3 y4) (impl_IsRow.l0 (k + 1) y0 y1 y2 y3 y4))
  | 0 => fun _ _ _ _ _ r h => by simp [impl_IsRow.l0] at h
  | k + 1 => by
    have ih0 := impl_IsRow.mono_l k
    · intro y0 y1 y2 y3 y4
      unfold impl_IsRow.l0
      repeat' first
      | (with_reducible exact ih0 _ _ _ _ _)
      | (with_reducible exact LeO.refl _)
      | (with_reducible exact LeO.none _)
      | (with_reducible refine LeO.ite ?_ ?_)
      | (with_reducible refine LeO.bind ?_ (fun _ => ?_))
      | exact ih0 _ _ _ _ _
      | exact LeO.none _
      | refine LeO.ite ?_ ?_
      | refine LeO.bind ?_ (fun _ => ?_)
theorem impl_IsRow.mono : ∀ a0 a1 k, LeO (impl_IsRow.f k a0 a1) (impl_IsRow.f (k + 1) a0 a1) := by
  intro a0 a1 k
  have ih0 := impl_IsRow.mono_l k
  unfold impl_IsRow.f
  repeat' first
      | (with_reducible exact ih0 _ _ _ _ _)
      | (with_reducible exact LeO.refl _)
      | (with_reducible exact LeO.none _)
      | (with_reducible refine LeO.ite ?_ ?_)
      | (with_reducible refine LeO.bind ?_ (fun _ => ?_))
      | exact ih0 _ _ _ _ _
      | exact LeO.none _
      | refine LeO.ite ?_ ?_
      | refine LeO.bind ?_ (fun _ => ?_)
set_option maxHeartbeats 8000000 in
set_option maxRecDepth 100000 in
theorem impl_IsRow.calls (k : Nat) (A0_0 : Option Addr) (c0_0 : Nat) (l0_0 : List Int) (a1 : Int) (r : Bool) (w : World) (hr0_0 : Kd.C (Kd.int .i64) w A0_0 l0_0.length l0_0) (hc0_0 : l0_0.length ≤ c0_0) (h : impl_IsRow.f k l0_0 a1 = some r) :
    Calls Try.prog 68 #[.agg #[.slice A0_0 l0_0.length c0_0], .int .i64 a1] w fun e w' => e = .returned (.bool r) ∧ Below w.heap.size w w' := by
  have hu26 := Try.underlying26; have HR0_0 := Aside0.mk hr0_0; have HC0_0 := Aside0.mk hc0_0; clear hr0_0 hc0_0; have HB := asT (Below.refl w.heap.size w)
  have H : (impl_IsRow.l0 k a1 l0_0 (l0_0.length : Int) 0 l0_0) = some r := h
  clear h; have H' := Aside0.mk H; clear H
  go_enter Try.func68, Try.ntmps68
  go_wp2_with (first | ((with_reducible refine gate_dst (N := 2) rfl ?_); (try (refine gate_guard (by rfl) ?_; dsimp only)); refine box_event ?hg (N := 2) ?hd (cs := #[.slice A0_0 l0_0.length c0_0]) (t := 26) ?hr ?_; (case hd => rfl); (case hg => rfl); (case hr => first | (go_simp; done) | (go_simp; rfl)); intro gb149 hg w3 hbox hb; have n0_ := asT (below_step (hbT HB.out) hb); have n1_ := asT (hbox); have n2_ := asT ((by rw [hg]; exact (below_size (hbT HB.out)) : w.heap.size ≤ gb149)); have n3_ := asT ((by rw [hg]; exact (below_size (hbT HB.out)) : w.heap.size ≤ gb149)); clear HB; have HB := n0_; have BK149 := n1_; have GW149 := n2_; have GE149 := n3_; clear n0_ n1_ n2_ n3_ hb hbox hg; have hcz4_0 : w3.cell? ⟨gb149, 0, none⟩ = some (.slice A0_0 l0_0.length c0_0) := (blk_cell BK149.out 0).trans rfl; have hfz4_0 := blk_frozen BK149.out 0))
  go_loopg [10] k (fun kq v10 w' => ∃ (x10_1 : Int), v10 = .int .i64 x10_1 ∧ Aside0 (impl_IsRow.l0 kq a1 l0_0 (l0_0.length : Int) x10_1 l0_0 = some r) ∧ Aside0 (kq ≤ k) ∧ Aside0 (w'.heap[gb149]? = some (.cells #[(.slice A0_0 l0_0.length c0_0)] 26 (0, 0))) ∧ Aside0 (Below w.heap.size w w'))
  case atStart => exact ⟨(0), (by first | rfl | (simp; done) | (simp [*]; done)), H', ⟨Nat.le_refl _⟩, ⟨by (with_reducible repeat (first | refine blk_drewN ?_ _ | refine blk_drew ?_ | refine blk_alloc ?_ _)); exact BK149.out⟩, ⟨hbT HB.out⟩⟩
  case round =>
    clear H'; (try clear p2); (try clear hcz4_0); (try clear hfz4_0); obtain ⟨x10_1, rfl, HA, HK1, BK149, HB⟩ := hrel
    cases gk with
    | zero => exact absurd HA.out (by simp [impl_IsRow.l0])
    | succ k1 =>
      have H := HA.out; clear HA
      simp only [impl_IsRow.l0] at H
      by_cases c5 : x10_1 < (l0_0.length : Int)
      · rw [if_pos c5] at H
        have c5b0 : decide (x10_1 < (l0_0.length : Int)) = true := decide_eq_true c5
        clear c5
        by_cases c6 : 0 ≤ x10_1
        · rw [if_pos c6] at H
          have c6b0 : decide (0 ≤ x10_1) = true := decide_eq_true c6
          clear c6
          by_cases c7 : x10_1 < (l0_0.length : Int)
          · rw [if_pos c7] at H
            have c7b0 : decide (x10_1 < (l0_0.length : Int)) = true := decide_eq_true c7
            clear c7; replace H := Option.bind_eq_some_iff.mp H; obtain ⟨t151, A80, H⟩ := H; replace H : (if t151 = true then (impl_IsRow.l0 k1 a1 l0_0 (l0_0.length : Int) (wrap64 (x10_1 + 1)) l0_0) else (some false)) = some r := H; have A8 := Aside0.mk A80; clear A80
            by_cases c9 : t151 = true
            · subst c9
              have H1 : (impl_IsRow.l0 k1 a1 l0_0 (l0_0.length : Int) (wrap64 (x10_1 + 1)) l0_0) = some r := by rw [if_pos rfl] at H; exact H
              clear H; have H := H1; clear H1; have H' := Aside0.mk H; clear H
              have p150 : 0 ≤ (x10_1 : Int) := of_decide_eq_true (by first | (with_reducible assumption) | assumption)
              have q150 : x10_1 < (l0_0.length : Int) := of_decide_eq_true (by first | (with_reducible assumption) | assumption)
              obtain ⟨ad150, e150, hx150_0⟩ := Kd.at_int HR0_0.out x10_1 p150 q150
              cases e150
              replace hx150_0 := (HB.out.cell (World.block_lt_of_cell? w _ hx150_0)).trans hx150_0; replace p150 := eq_true p150; replace q150 := eq_true q150
              go_wp2_with (first | ((with_reducible refine gate_callee (f := 69) rfl ?_); refine goesL_ (some 15) rfl rfl Try.func69 (by kernel_rfl) rfl #[.int .i64 (rd l0_0 x10_1), .int .i64 (-1), .int .i64 1] rfl eqT ?_; (with_reducible refine (impl_within.calls (rd l0_0 x10_1) (-1) 1 true _ A8.out).mono ?_); rintro e w' ⟨rfl, ⟨nd, rfl⟩⟩; refine ⟨_, rfl, ?_⟩))
              go_roundg k1
              case measure => have := HK1.out; omega
              case rel => exact ⟨(wrap64 (x10_1 + 1)), (by first | rfl | (simp; done) | (simp [*]; done)), H', ⟨by have := HK1.out; omega⟩, ⟨by (with_reducible repeat (first | refine blk_drewN ?_ _ | refine blk_drew ?_ | refine blk_alloc ?_ _)); exact BK149.out⟩, ⟨hbT HB.out⟩⟩
            · replace c9 := Bool.eq_false_iff.mpr c9
              subst c9
              have H1 : (some false) = some r := by rw [if_neg (show ¬ (false = true) by decide)] at H; exact H
              clear H; have H := H1; clear H1
              obtain rfl := Option.some.inj H
              have p150 : 0 ≤ (x10_1 : Int) := of_decide_eq_true (by first | (with_reducible assumption) | assumption)
              have q150 : x10_1 < (l0_0.length : Int) := of_decide_eq_true (by first | (with_reducible assumption) | assumption)
              obtain ⟨ad150, e150, hx150_0⟩ := Kd.at_int HR0_0.out x10_1 p150 q150
              cases e150
              replace hx150_0 := (HB.out.cell (World.block_lt_of_cell? w _ hx150_0)).trans hx150_0; replace p150 := eq_true p150; replace q150 := eq_true q150
              go_wp2_with (first | ((with_reducible refine gate_callee (f := 69) rfl ?_); refine goesL_ (some 15) rfl rfl Try.func69 (by kernel_rfl) rfl #[.int .i64 (rd l0_0 x10_1), .int .i64 (-1), .int .i64 1] rfl eqT ?_; (with_reducible refine (impl_within.calls (rd l0_0 x10_1) (-1) 1 false _ A8.out).mono ?_); rintro e w' ⟨rfl, ⟨nd, rfl⟩⟩; refine ⟨_, rfl, ?_⟩))
              go_ret
              exact ⟨by first | rfl | (simp [errW_none, errW_some] <;> rfl) | (simp [*, errW_none, errW_some] <;> rfl), hbT HB.out⟩
          · rw [if_neg c7] at H
            exact absurd H (by simp)
        · rw [if_neg c6] at H
          exact absurd H (by simp)
      · rw [if_neg c5] at H
        have c5b0 : decide (x10_1 < (l0_0.length : Int)) = false := decide_eq_false c5
        clear c5; replace H := Option.bind_eq_some_iff.mp H; obtain ⟨t152, A100, H⟩ := H; replace H : (if t152 = true then (some ((l0_0.length : Int) == a1)) else (some false)) = some r := H; have A10 := Aside0.mk A100; clear A100
        by_cases c11 : t152 = true
        · subst c11
          have H1 : (some ((l0_0.length : Int) == a1)) = some r := by rw [if_pos rfl] at H; exact H
          clear H; have H := H1; clear H1
          obtain rfl := Option.some.inj H
          go_wp2_with (first | ((with_reducible refine gate_callee (f := 69) rfl ?_); refine goesL_ (some 19) rfl rfl Try.func69 (by kernel_rfl) rfl #[.int .i64 a1, .int .i64 1, .int .i64 5] rfl eqT ?_; (with_reducible refine (impl_within.calls a1 1 5 true _ A10.out).mono ?_); rintro e w' ⟨rfl, ⟨nd, rfl⟩⟩; refine ⟨_, rfl, ?_⟩; have hcz12_0 : wr.cell? ⟨gb149, 0, none⟩ = some (.slice A0_0 l0_0.length c0_0) := (blk_cell BK149.out 0).trans rfl; have hfz12_0 := blk_frozen BK149.out 0))
          go_ret
          exact ⟨by first | rfl | (simp [errW_none, errW_some] <;> rfl) | (simp [*, errW_none, errW_some] <;> rfl), hbT HB.out⟩
        · replace c11 := Bool.eq_false_iff.mpr c11
          subst c11
          have H1 : (some false) = some r := by rw [if_neg (show ¬ (false = true) by decide)] at H; exact H
          clear H; have H := H1; clear H1
          obtain rfl := Option.some.inj H
          go_wp2_with (first | ((with_reducible refine gate_callee (f := 69) rfl ?_); refine goesL_ (some 19) rfl rfl Try.func69 (by kernel_rfl) rfl #[.int .i64 a1, .int .i64 1, .int .i64 5] rfl eqT ?_; (with_reducible refine (impl_within.calls a1 1 5 false _ A10.out).mono ?_); rintro e w' ⟨rfl, ⟨nd, rfl⟩⟩; refine ⟨_, rfl, ?_⟩))
          go_ret
          exact ⟨by first | rfl | (simp [errW_none, errW_some] <;> rfl) | (simp [*, errW_none, errW_some] <;> rfl), hbT HB.out⟩

/-! ### impl_isAnyRow: function 63 -/
def impl_isAnyRow.f (k : Nat) (l0_0 : List Int) : Option (Bool) := (impl_IsRow.f k l0_0 (l0_0.length : Int)).bind fun t154 => (some t154)
theorem impl_isAnyRow.mono : ∀ a0 k, LeO (impl_isAnyRow.f k a0) (impl_isAnyRow.f (k + 1) a0) := by
  intro a0 k
  unfold impl_isAnyRow.f
  repeat' first
      | (with_reducible exact impl_IsRow.mono _ _ _)
      | (with_reducible exact LeO.refl _)
      | (with_reducible exact LeO.none _)
      | (with_reducible refine LeO.ite ?_ ?_)
      | (with_reducible refine LeO.bind ?_ (fun _ => ?_))
      | exact impl_IsRow.mono _ _ _
      | exact LeO.none _
      | refine LeO.ite ?_ ?_
      | refine LeO.bind ?_ (fun _ => ?_)
set_option maxHeartbeats 8000000 in
set_option maxRecDepth 100000 in
theorem impl_isAnyRow.calls (k : Nat) (A0_0 : Option Addr) (c0_0 : Nat) (l0_0 : List Int) (r : Bool) (w : World) (hr0_0 : Kd.C (Kd.int .i64) w A0_0 l0_0.length l0_0) (hc0_0 : l0_0.length ≤ c0_0) (h : impl_isAnyRow.f k l0_0 = some r) :
    Calls Try.prog 63 #[.agg #[.slice A0_0 l0_0.length c0_0]] w fun e w' => e = .returned (.bool r) ∧ Below w.heap.size w w' := by
  have hu26 := Try.underlying26; have HR0_0 := Aside0.mk hr0_0; have HC0_0 := Aside0.mk hc0_0; clear hr0_0 hc0_0; have HB := asT (Below.refl w.heap.size w)
  have H : ((impl_IsRow.f k l0_0 (l0_0.length : Int)).bind fun t154 => (some t154)) = some r := h
  clear h; replace H := Option.bind_eq_some_iff.mp H; obtain ⟨t154, A20, H⟩ := H; replace H : (some t154) = some r := H; have A2 := Aside0.mk A20; clear A20
  obtain rfl := Option.some.inj H
  go_enter Try.func63, Try.ntmps63
  go_wp2_with (first | ((with_reducible refine gate_dst (N := 1) rfl ?_); refine box_event ?hg (N := 1) ?hd (cs := #[.slice A0_0 l0_0.length c0_0]) (t := 26) ?hr ?_; (case hd => rfl); (case hg => rfl); (case hr => first | (go_simp; done) | (go_simp; rfl)); intro gb153 hg w3 hbox hb; have n0_ := asT (below_step (hbT HB.out) hb); have n1_ := asT (hbox); have n2_ := asT ((by rw [hg]; exact (below_size (hbT HB.out)) : w.heap.size ≤ gb153)); have n3_ := asT ((by rw [hg]; exact (below_size (hbT HB.out)) : w.heap.size ≤ gb153)); clear HB; have HB := n0_; have BK153 := n1_; have GW153 := n2_; have GE153 := n3_; clear n0_ n1_ n2_ n3_ hb hbox hg; have hcz4_0 : w3.cell? ⟨gb153, 0, none⟩ = some (.slice A0_0 l0_0.length c0_0) := (blk_cell BK153.out 0).trans rfl; have hfz4_0 := blk_frozen BK153.out 0) | ((with_reducible refine gate_callee (f := 68) rfl ?_); refine goesL_ (some 7) rfl rfl Try.func68 (by kernel_rfl) rfl #[.agg #[.slice A0_0 l0_0.length c0_0], .int .i64 (l0_0.length : Int)] rfl eqT ?_; (with_reducible refine (impl_IsRow.calls k _ _ l0_0 (l0_0.length : Int) t154 _ ?side1 ?side2 A2.out).mono ?_); (case side1 => repeat (first | exact (Kd.C_below HR0_0.out HB.out) | (with_reducible refine Kd.C_alloc ?_ _) | (with_reducible refine Kd.C_drewN ?_ _) | (with_reducible refine Kd.C_drew ?_))); (case side2 => exact HC0_0.out); rintro e w5 ⟨rfl, hb⟩; refine ⟨_, rfl, ?_⟩; have n0_ := asT (blk_below (bkT BK153.out) hb); have n1_ := asT (below_step (hbT HB.out) hb); clear BK153 HB; have BK153 := n0_; have HB := n1_; clear n0_ n1_; (try clear hb); (try clear hb2); (try clear hk); (try clear hi)))
  go_ret
  exact ⟨by first | rfl | (simp [errW_none, errW_some] <;> rfl) | (simp [*, errW_none, errW_some] <;> rfl), hbT HB.out⟩

end Go.Proofs.Ytdamagcfmhimfab.PFnExactFuseRows
