-- Made by gen.py (a program of this session) out of the translation; Lean checks it.
import Derived.Test.YtlmfpkiaikjlbaaGreatPFnExactWinnersOfx0
import Derived.Test.YtlmfpkiaikjlbaaGreatPFnExactWinnersOfx1
import Derived.Test.YtlmfpkiaikjlbaaGreatPFnExactWinnersOfx2
import Derived.Test.YtlmfpkiaikjlbaaGreatPFnExactWinnersOfx3
import Derived.Test.YtlmfpkiaikjlbaaGreatPFnExactWinnersOfx8
import Derived.Test.YtlmfpkiaikjlbaaGreatPFnExactWinnersOfx11
import Derived.Test.YtlmfpkiaikjlbaaGreatPFnExactWinnersOfx12
namespace Go.Proofs.YtlmfpkiaikjlbaaGreat.PFnExactWinnersOf
open Go.RowKit Go.Proofs.YtlmfpkiaikjlbaaGreatB Go.Proofs.YtlmfpkiaikjlbaaGreatW.PrintWords Go.Proofs.YtlmfpkiaikjlbaaGreatW.PrintLast Go.Proofs.YtlmfpkiaikjlbaaGreatW.PrintMore
attribute [local go_sem] max2_int min2_int max_two min_two max_three min_three max_four min_four   -- for this text's walks alone
set_option linter.unusedVariables false
set_option maxHeartbeats 8000000
set_option maxRecDepth 100000
set_option linter.unusedSimpArgs false
mutual
def impl_WinnersOf.j0 : Nat → List Int → Bool → ByteArray → List ByteArray → List (S60) → List (List Int) → Option (List Int)
 | 0, _, _, _, _, _, _ => none
 | k + 1, x1, x18, x532000, x532001, x532002, x532003 => if x18 = true then (some ([] : List Int)) else (impl_WinnersOf.l0 k x1 (([] : List Int)) x532003 (x532003.length : Int) 0 x532000 x532001 x532002 x532003)
def impl_WinnersOf.l0 : Nat → List Int → List Int → List (List Int) → Int → Int → ByteArray → List ByteArray → List (S60) → List (List Int) → Option (List Int)
 | 0, _, _, _, _, _, _, _, _, _ => none
 | k + 1, x1, x5, x21, x22, x23, x532000, x532001, x532002, x532003 => if x23 < x22 then (if 0 ≤ x23 then (if x23 < (x21.length : Int) then (if (x5.length : Int) > 0 then (if 0 < (x5.length : Int) then (if 0 ≤ (rd x5 0) then (if (rd x5 0) < (x532003.length : Int) then ((impl_CompareMarks.f k (rd_L6 x21 x23) (rd_L6 x532003 (rd x5 0)) x1).bind fun t540 => (impl_WinnersOf.j2 k x1 x5 x23 (rd_L6 x21 x23) x21 x22 x23 (decide (t540 < 0)) x532000 x532001 x532002 x532003)) else (none)) else (none)) else (none)) else (impl_WinnersOf.j2 k x1 x5 x23 (rd_L6 x21 x23) x21 x22 x23 false x532000 x532001 x532002 x532003)) else (none)) else (none)) else (some x5)
def impl_WinnersOf.j2 : Nat → List Int → List Int → Int → List Int → List (List Int) → Int → Int → Bool → ByteArray → List ByteArray → List (S60) → List (List Int) → Option (List Int)
 | 0, _, _, _, _, _, _, _, _, _, _, _, _ => none
 | k + 1, x1, x5, x6, x7, x21, x22, x23, x43, x532000, x532001, x532002, x532003 => if x43 = true then (if 0 ≤ (x5.length : Int) then ((some (x5.take (0 : Int).toNat : List Int)).bind fun y541 => (if (y541.length : Int) = 0 then (if y541.length < 17592186044416 then (impl_WinnersOf.l0 k x1 (y541 ++ [x6]) x21 x22 (wrap64 (x23 + 1)) x532000 x532001 x532002 x532003) else (none)) else (if 0 < (y541.length : Int) then (if 0 ≤ (rd y541 0) then (if (rd y541 0) < (x532003.length : Int) then ((impl_CompareMarks.f k x7 (rd_L6 x532003 (rd y541 0)) x1).bind fun t549 => (if t549 = 0 then (if y541.length < 17592186044416 then (impl_WinnersOf.l0 k x1 (y541 ++ [x6]) x21 x22 (wrap64 (x23 + 1)) x532000 x532001 x532002 x532003) else (none)) else (impl_WinnersOf.l0 k x1 y541 x21 x22 (wrap64 (x23 + 1)) x532000 x532001 x532002 x532003))) else (none)) else (none)) else (none)))) else (none)) else (if (x5.length : Int) = 0 then (if x5.length < 17592186044416 then (impl_WinnersOf.l0 k x1 (x5 ++ [x6]) x21 x22 (wrap64 (x23 + 1)) x532000 x532001 x532002 x532003) else (none)) else (if 0 < (x5.length : Int) then (if 0 ≤ (rd x5 0) then (if (rd x5 0) < (x532003.length : Int) then ((impl_CompareMarks.f k x7 (rd_L6 x532003 (rd x5 0)) x1).bind fun t558 => (if t558 = 0 then (if x5.length < 17592186044416 then (impl_WinnersOf.l0 k x1 (x5 ++ [x6]) x21 x22 (wrap64 (x23 + 1)) x532000 x532001 x532002 x532003) else (none)) else (impl_WinnersOf.l0 k x1 x5 x21 x22 (wrap64 (x23 + 1)) x532000 x532001 x532002 x532003))) else (none)) else (none)) else (none)))
end
def impl_WinnersOf.f (k : Nat) (a0_0 : ByteArray) (l0_1 : List ByteArray) (l0_2 : List (S60)) (l0_3 : List (List Int)) (l1 : List Int) : Option (List Int) := (impl_IsTableau.f k a0_0 l0_1 l0_2 l0_3).bind fun t532 => (if t532 = true then ((impl_IsRanking.f k l1 (l0_1.length : Int)).bind fun t533 => (impl_WinnersOf.j0 k l1 (!t533) a0_0 l0_1 l0_2 l0_3)) else (impl_WinnersOf.j0 k l1 true a0_0 l0_1 l0_2 l0_3))
theorem impl_WinnersOf.mono_l : ∀ k, (∀ y0 y1 y2 y3 y4 y5, LeO (impl_WinnersOf.j0 k y0 y1 y2 y3 y4 y5) (impl_WinnersOf.j0 (k + 1) y0 y1 y2 y3 y4 y5)) ∧ (∀ y0 y1 y2 y3 y4 y5 y6 y7 y8, LeO (impl_WinnersOf.l0 k y0 y1 y2 y3 y4 y5 y6 y7 y8) (impl_WinnersOf.l0 (k + 1) y0 y1 y2 y3 y4 y5 y6 y7 y8)) ∧ (∀ y0 y1 y2 y3 y4 y5 y6 y7 y8 y9 y10 y11, LeO (impl_WinnersOf.j2 k y0 y1 y2 y3 y4 y5 y6 y7 y8 y9 y10 y11) (impl_WinnersOf.j2 (k + 1) y0 y1 y2 y3 y4 y5 y6 y7 y8 y9 y10 y11))
 | 0 => ⟨fun _ _ _ _ _ _ r h => by simp [impl_WinnersOf.j0] at h, fun _ _ _ _ _ _ _ _ _ r h => by simp [impl_WinnersOf.l0] at h, fun _ _ _ _ _ _ _ _ _ _ _ _ r h => by simp [impl_WinnersOf.j2] at h⟩
 | k + 1 => by
  obtain ⟨ih0, ih1, ih2⟩ := impl_WinnersOf.mono_l k; refine ⟨?_, ?_, ?_⟩
  ·intro y0 y1 y2 y3 y4 y5
   unfold impl_WinnersOf.j0
   with_reducible repeat' first | exact ih0 _ _ _ _ _ _ | exact ih1 _ _ _ _ _ _ _ _ _ | exact ih2 _ _ _ _ _ _ _ _ _ _ _ _ | exact impl_CompareMarks.mono _ _ _ _ | exact impl_IsRanking.mono _ _ _ | exact impl_IsTableau.mono _ _ _ _ _ | exact LeO.refl _ | exact LeO.none _ | refine LeO.ite ?_ ?_ | refine LeO.bind ?_ (fun _ => ?_)
  ·intro y0 y1 y2 y3 y4 y5 y6 y7 y8
   unfold impl_WinnersOf.l0
   with_reducible repeat' first | exact ih0 _ _ _ _ _ _ | exact ih1 _ _ _ _ _ _ _ _ _ | exact ih2 _ _ _ _ _ _ _ _ _ _ _ _ | exact impl_CompareMarks.mono _ _ _ _ | exact impl_IsRanking.mono _ _ _ | exact impl_IsTableau.mono _ _ _ _ _ | exact LeO.refl _ | exact LeO.none _ | refine LeO.ite ?_ ?_ | refine LeO.bind ?_ (fun _ => ?_)
  ·intro y0 y1 y2 y3 y4 y5 y6 y7 y8 y9 y10 y11
   unfold impl_WinnersOf.j2
   with_reducible repeat' first | exact ih0 _ _ _ _ _ _ | exact ih1 _ _ _ _ _ _ _ _ _ | exact ih2 _ _ _ _ _ _ _ _ _ _ _ _ | exact impl_CompareMarks.mono _ _ _ _ | exact impl_IsRanking.mono _ _ _ | exact impl_IsTableau.mono _ _ _ _ _ | exact LeO.refl _ | exact LeO.none _ | refine LeO.ite ?_ ?_ | refine LeO.bind ?_ (fun _ => ?_)
theorem impl_WinnersOf.mono : ∀ a0 a1 a2 a3 a4 k, LeO (impl_WinnersOf.f k a0 a1 a2 a3 a4) (impl_WinnersOf.f (k + 1) a0 a1 a2 a3 a4) := by
 intro a0 a1 a2 a3 a4 k
 obtain ⟨ih0, ih1, ih2⟩ := impl_WinnersOf.mono_l k
 unfold impl_WinnersOf.f
 with_reducible repeat' first | exact ih0 _ _ _ _ _ _ | exact ih1 _ _ _ _ _ _ _ _ _ | exact ih2 _ _ _ _ _ _ _ _ _ _ _ _ | exact impl_CompareMarks.mono _ _ _ _ | exact impl_IsRanking.mono _ _ _ | exact impl_IsTableau.mono _ _ _ _ _ | exact LeO.refl _ | exact LeO.none _ | refine LeO.ite ?_ ?_ | refine LeO.bind ?_ (fun _ => ?_)
def impl_WinnersOf.T7 : Bool × List (List Nat × List Nat) := (true, [([], []), ([0], [0]), ([1], [1]), ([2], [2]), ([3], [3]), ([3], [3]), ([5, 3], [3, 5]), ([3], [3]), ([7, 3], [3, 7]), ([8, 3], [3, 8]), ([6, 9, 3], [3, 6, 9]), ([10, 3], [3, 10]), ([3], [3]), ([4, 11, 12, 3, 3], [3, 4, 11, 12]), ([13, 3], [3, 13]), ([3, 14], [3, 14])])
def impl_WinnersOf.B7 : List Nat := [0, 1, 3, 7, 15, 15, 47, 15, 143, 399, 1007, 2031, 15, 8191, 16383, 32767]
theorem impl_WinnersOf.tab7 : rtab .any (opsOf Tryz.f31 7) = impl_WinnersOf.T7 := by kernel_rfl
theorem impl_WinnersOf.bits7 : waitsOk impl_WinnersOf.T7.2 impl_WinnersOf.B7 = true := by kernel_rfl
def impl_WinnersOf.T9 : Bool × List (List Nat × List Nat) := (true, [([], []), ([0], [0]), ([1], [1]), ([2], [2]), ([3], [3]), ([3], [3]), ([5, 3], [3, 5]), ([3], [3]), ([7, 3], [3, 7]), ([8, 3], [3, 8]), ([6, 9, 3], [3, 6, 9]), ([10, 3], [3, 10]), ([3], [3]), ([4, 11, 12, 3, 3], [3, 4, 11, 12]), ([13, 3], [3, 13]), ([3, 14], [3, 14])])
def impl_WinnersOf.B9 : List Nat := [0, 1, 3, 7, 15, 15, 47, 15, 143, 399, 1007, 2031, 15, 8191, 16383, 32767]
theorem impl_WinnersOf.tab9 : rtab .any (opsOf Tryz.f31 9) = impl_WinnersOf.T9 := by kernel_rfl
theorem impl_WinnersOf.bits9 : waitsOk impl_WinnersOf.T9.2 impl_WinnersOf.B9 = true := by kernel_rfl
theorem impl_WinnersOf.calls (k : Nat) (a0_0 : ByteArray) (A0_1 : Option Addr) (c0_1 : Nat) (l0_1 : List ByteArray) (A0_2 : Option Addr) (c0_2 : Nat) (l0_2 : List (S60)) (A0_3 : Option Addr) (c0_3 : Nat) (l0_3 : List (List Int)) (A1 : Option Addr) (c1 : Nat) (l1 : List Int) (r : List Int) (w : World) (hr0_1 : Kd.C Kd.string w A0_1 l0_1.length l0_1) (hc0_1 : l0_1.length ≤ c0_1) (hr0_2 : Kd.C k60 w A0_2 l0_2.length l0_2) (hc0_2 : l0_2.length ≤ c0_2) (hr0_3 : Kd.C (Kd.slice 3 (Kd.int .i64)) w A0_3 l0_3.length l0_3) (hc0_3 : l0_3.length ≤ c0_3) (hr1 : Kd.C (Kd.int .i64) w A1 l1.length l1) (hc1 : l1.length ≤ c1) (h : impl_WinnersOf.f k a0_0 l0_1 l0_2 l0_3 l1 = some r) :
  Calls Tryz.prog 31 #[.agg #[.string a0_0, .slice A0_1 l0_1.length c0_1, .slice A0_2 l0_2.length c0_2, .slice A0_3 l0_3.length c0_3], .slice A1 l1.length c1] w fun e w' => ∃ v0_ : Value, e = .returned (v0_) ∧ Kd.R (Kd.int .i64) 3 w' w.heap.size (fun _ => True) v0_ r ∧ Below w.heap.size w w' := by
 have hu27 := Tryz.underlying27; have HR0_1 := asT hr0_1; have HC0_1 := asT hc0_1; clear hr0_1 hc0_1; have HR0_2 := asT hr0_2; have HC0_2 := asT hc0_2; clear hr0_2 hc0_2; have HR0_3 := asT hr0_3; have HC0_3 := asT hc0_3; clear hr0_3 hc0_3; have HR1 := asT hr1; have HC1 := asT hc1; clear hr1 hc1; have HB := asT (Below.refl w.heap.size w); have H := h; unfold impl_WinnersOf.f at H; clear h; have HC3 := asT H; clear H
 go_enter Tryz.func31, Tryz.ntmps31
 go_upto_region 1 with (first | ((with_reducible refine gate_dst (N := 2) rfl ?_); (try (refine gate_guard (by rfl) ?_; dsimp only)); refine boxT (N := 2) (cs := #[.string a0_0, .slice A0_1 l0_1.length c0_1, .slice A0_2 l0_2.length c0_2, .slice A0_3 l0_3.length c0_3]) (t := 27) ?_; intro gb531 hg w4 hbox hb; have BK531 := asT hbox; have GW531 := asT (geT hg HB.out); have GE531 := GW531; replace HB := hS HB hb; clear hb hbox hg))
 (try simp only [Act.put, sA, sZ, sS])
 go_cut [18] (fun v18 wc => ∃ (kq : Nat) (x18_2 : Bool), v18 = .bool x18_2 ∧ Aside0 (impl_WinnersOf.j0 kq l1 x18_2 a0_0 l0_1 l0_2 l0_3 = some r) ∧ Aside0 (kq ≤ k) ∧ Aside0 (wc.heap[gb531]? = some (.cells #[.string a0_0, (.slice A0_1 l0_1.length c0_1), (.slice A0_2 l0_2.length c0_2), (.slice A0_3 l0_3.length c0_3)] 27 (0, 0))) ∧ Aside0 (Below w.heap.size w wc))
 case first =>
  have H := HC3.out; clear HC3; obtain ⟨t532, A5, H⟩ := be H
  by_cases c6 : t532 = true
  ·subst c6
   rw [if_pos rfl] at H; obtain ⟨t533, A7, H⟩ := be H; have H' := asT H; clear H
   have hcz8_0 := bc0 BK531.out
   have hcz8_1 := bc1 BK531.out
   have hcz8_2 := bc2 BK531.out
   have hcz8_3 := bc3 BK531.out
   have hfz8_0 := blk_frozen BK531.out 0; have hfz8_1 := blk_frozen BK531.out 1; have hfz8_2 := blk_frozen BK531.out 2; have hfz8_3 := blk_frozen BK531.out 3
   go_wp2_with (first | ((with_reducible refine gate_callee (f := 57) rfl ?_); refine goesL_ (some 9) rfl rfl Tryz.func57 (by kernel_rfl) rfl #[.agg #[.string a0_0, .slice A0_1 l0_1.length c0_1, .slice A0_2 l0_2.length c0_2, .slice A0_3 l0_3.length c0_3]] rfl eqT ?_; (with_reducible refine (impl_IsTableau.calls k a0_0 _ _ l0_1 _ _ l0_2 _ _ l0_3 true _ ?side1 ?side2 ?side3 ?side4 ?side5 ?side6 A5.out).mono ?_); (case side1 => exact crT HR0_1.out HB.out); (case side2 => exact HC0_1.out); (case side3 => exact crT HR0_2.out HB.out); (case side4 => exact HC0_2.out); (case side5 => exact crT HR0_3.out HB.out); (case side6 => exact HC0_3.out); rintro e w9 ⟨rfl, hb⟩; refine ⟨_, rfl, ?_⟩; replace BK531 := bS BK531 hb; replace HB := hS HB hb; (try clear hb hb2 hk hi); obtain ⟨hcz10_0, hcz10_1, hcz10_2, hcz10_3, hfz10_0, hfz10_1, hfz10_2, hfz10_3⟩ := bx4 BK531.out) | (go_at_call 69; (with_reducible refine (impl_IsRanking.calls k _ _ l1 (l0_1.length : Int) t533 _ ?side1 ?side2 A7.out).mono ?_); (case side1 => exact crT HR1.out HB.out); (case side2 => exact HC1.out); rintro e w11 ⟨rfl, hb⟩; replace BK531 := bS BK531 hb; replace HB := hS HB hb; (try clear hb hb2 hk hi)))
   go_meet
   case rel => exact ⟨_, (!t533), rdT, H', ⟨by first | omega | exact Nat.le_refl _⟩, kpT BK531.out, ⟨hbT HB.out⟩⟩
  ·replace c6 := eE c6
   subst c6; rw [if_neg nF] at H; have H' := asT H; clear H
   have hcz12_0 := bc0 BK531.out
   have hcz12_1 := bc1 BK531.out
   have hcz12_2 := bc2 BK531.out
   have hcz12_3 := bc3 BK531.out
   have hfz12_0 := blk_frozen BK531.out 0; have hfz12_1 := blk_frozen BK531.out 1; have hfz12_2 := blk_frozen BK531.out 2; have hfz12_3 := blk_frozen BK531.out 3
   go_wp2_with (first | ((with_reducible refine gate_callee (f := 57) rfl ?_); refine goesL_ (some 9) rfl rfl Tryz.func57 (by kernel_rfl) rfl #[.agg #[.string a0_0, .slice A0_1 l0_1.length c0_1, .slice A0_2 l0_2.length c0_2, .slice A0_3 l0_3.length c0_3]] rfl eqT ?_; (with_reducible refine (impl_IsTableau.calls k a0_0 _ _ l0_1 _ _ l0_2 _ _ l0_3 false _ ?side1 ?side2 ?side3 ?side4 ?side5 ?side6 A5.out).mono ?_); (case side1 => exact crT HR0_1.out HB.out); (case side2 => exact HC0_1.out); (case side3 => exact crT HR0_2.out HB.out); (case side4 => exact HC0_2.out); (case side5 => exact crT HR0_3.out HB.out); (case side6 => exact HC0_3.out); rintro e w13 ⟨rfl, hb⟩; refine ⟨_, rfl, ?_⟩; replace BK531 := bS BK531 hb; replace HB := hS HB hb; (try clear hb hb2 hk hi)))
   go_meet
   case rel => exact ⟨_, (true), rdT, H', ⟨by first | omega | exact Nat.le_refl _⟩, kpT BK531.out, ⟨hbT HB.out⟩⟩
 case rest =>
  clear HC3; (try clear c1 p2 c3 c5 c6 hcz10_0 hcz10_1 hcz10_2 hcz10_3 hcz12_0 hcz12_1 hcz12_2 hcz12_3 hcz8_0 hcz8_1 hcz8_2 hcz8_3 hfz10_0 hfz10_1 hfz10_2 hfz10_3 hfz12_0 hfz12_1 hfz12_2 hfz12_3 hfz8_0 hfz8_1 hfz8_2 hfz8_3); obtain ⟨kq, x18_2, rfl, HA, HJ2, BK531, HB⟩ := hcut
  cases kq with
  | zero => exact absurd HA.out (by simp [impl_WinnersOf.j0])
  | succ kj2 =>
   have H := HA.out; clear HA
   simp only [impl_WinnersOf.j0] at H
   by_cases c14 : x18_2 = true
   ·subst c14
    rw [if_pos rfl] at H; have H1 := H; clear H; have H := H1; clear H1
    obtain rfl := oI H
    go_wp2
    go_ret
    exact ⟨_, rlT, by first | exact Kd.R_nil _ _ _ _ _ | exact Kd.N_nil _ _ _ _ _ | exact Kd.V_nil _ _ _ _ _ | exact Kd.Q_nil _ _ _ _ _ | exact Kd.S_nil _ _ _ _ _, hbT HB.out⟩
   ·replace c14 := eE c14
    subst c14; rw [if_neg nF] at H; obtain ⟨y534, hy534⟩ : ∃ y_ : List Int, y_ = (([] : List Int)) := ⟨_, rfl⟩
    replace H : (impl_WinnersOf.l0 kj2 l1 y534 l0_3 (l0_3.length : Int) 0 a0_0 l0_1 l0_2 l0_3) = some r := by first | (rw [hy534]; with_reducible exact H) | (have H2_ := (Option.bind_some _ _).symm.trans H; rw [hy534]; with_reducible exact H2_) | (have H2_ := (Option.bind_some _ _).symm.trans H; with_reducible exact H2_) | with_reducible exact H | (rw [hy534]; exact H) | exact H
    have Ny534 := asT hy534; clear hy534; have H' := asT H; clear H
    go_wp2_with (first | ((with_reducible refine gate_dst (N := 19) rfl ?_); (try (refine gate_guard (by rfl) ?_; dsimp only)); refine Kd.R_lit (Kd.int .i64) _ 3 ?hg (N := 19) ?hd (xs := ([] : List Int)) (inner := []) (ok := fun _ => True) (okp := fun _ => True) ?hr ?hp (fun _ hk => hk) trivial (Below.refl _ _) (Nat.le_refl _) (by simp) ?_; (case hd => rfl); (case hg => rfl); (case hr => first | (go_simp; done) | (go_simp; rfl)); (case hp => exact (Reps.none _ _)); intro v535 w15 ho16 hb hg_ hnew_; clear hg_ hnew_; (first | rw [← Ny534.out] at ho16 | (simp only [Int.reduceToNat] at ho16; rw [← Ny534.out] at ho16)); have HO536 := asT (Kd.R_lower ho16 (below_size (hbT HB.out))); replace BK531 := bS BK531 hb; replace HB := hS HB hb; clear hb ho16; obtain ⟨hcz17_0, hcz17_1, hcz17_2, hcz17_3, hfz17_0, hfz17_1, hfz17_2, hfz17_3⟩ := bx4 BK531.out))
    go_loopg [5, 23] kj2 (fun kq v5 v23 w' => ∃ (x5_2 : List Int) (x23_2 : Int), v23 = .int .i64 x23_2 ∧ Aside0 (impl_WinnersOf.l0 kq l1 x5_2 l0_3 (l0_3.length : Int) x23_2 a0_0 l0_1 l0_2 l0_3 = some r) ∧ Aside0 (kq ≤ kj2) ∧ Aside0 (Kd.R (Kd.int .i64) 3 w' w.heap.size (fun _ => True) v5 x5_2) ∧ Aside0 (w'.heap[gb531]? = some (.cells #[.string a0_0, (.slice A0_1 l0_1.length c0_1), (.slice A0_2 l0_2.length c0_2), (.slice A0_3 l0_3.length c0_3)] 27 (0, 0))) ∧ Aside0 (Below w.heap.size w w'))
    case atStart => exact ⟨(y534), (0), rdT, H', ⟨Nat.le_refl _⟩, ⟨by (with_reducible repeat (first | apply Kd.R_alloc | apply Kd.R_drewN | apply Kd.R_drew)); exact HO536.out⟩, kpT BK531.out, ⟨hbT HB.out⟩⟩
    case round =>
     clear H'; (try clear c1 p2 c3 c5 c6 c14 hcz10_0 hcz10_1 hcz10_2 hcz10_3 hcz12_0 hcz12_1 hcz12_2 hcz12_3 hcz17_0 hcz17_1 hcz17_2 hcz17_3 hcz8_0 hcz8_1 hcz8_2 hcz8_3 hfz10_0 hfz10_1 hfz10_2 hfz10_3 hfz12_0 hfz12_1 hfz12_2 hfz12_3 hfz17_0 hfz17_1 hfz17_2 hfz17_3 hfz8_0 hfz8_1 hfz8_2 hfz8_3 p2); obtain ⟨x5_2, x23_2, rfl, HA, HK2, HO_5, BK531, HB⟩ := hrel
     cases gk with
     | zero => exact absurd HA.out (by simp [impl_WinnersOf.l0])
     | succ k2 =>
      have H := HA.out; clear HA
      simp only [impl_WinnersOf.l0] at H
      by_cases c18 : x23_2 < (l0_3.length : Int)
      ·rw [if_pos c18] at H
       have c18b0 : decide (x23_2 < (l0_3.length : Int)) = true := dt c18
       clear c18
       by_cases c19 : 0 ≤ x23_2
       ·rw [if_pos c19] at H
        have c19b0 : decide (0 ≤ x23_2) = true := dt c19
        clear c19
        by_cases c20 : x23_2 < (l0_3.length : Int)
        ·rw [if_pos c20] at H
         have c20b0 : decide (x23_2 < (l0_3.length : Int)) = true := dt c20
         clear c20; have HC21 := asT H; clear H
         have p537 : 0 ≤ (x23_2 : Int) := dT asmT
         have q537 : x23_2 < (l0_3.length : Int) := dT asmT
         obtain ⟨ad537, A537_0, c537_0, e537, hx537_0, hl537_0, hi537_0⟩ := at_L6 HR0_3.out x23_2 p537 q537
         cases e537
         replace hx537_0 := hbc HB.out hx537_0; have HR537_0 := asT hi537_0; have HC537_0 := asT hl537_0; clear hi537_0 hl537_0; replace p537 := eq_true p537; replace q537 := eq_true q537
         go_upto_region 7 with (fail)
         go_cut [43] (fun v43 wc => ∃ (kq : Nat) (x43_20 : Bool), v43 = .bool x43_20 ∧ Aside0 (impl_WinnersOf.j2 kq l1 x5_2 x23_2 (rd_L6 l0_3 x23_2) l0_3 (l0_3.length : Int) x23_2 x43_20 a0_0 l0_1 l0_2 l0_3 = some r) ∧ Aside0 (kq ≤ k2) ∧ Aside0 (Kd.R (Kd.int .i64) 3 wc w.heap.size (fun _ => True) u5 x5_2) ∧ Aside0 (wc.heap[gb531]? = some (.cells #[.string a0_0, (.slice A0_1 l0_1.length c0_1), (.slice A0_2 l0_2.length c0_2), (.slice (some ad537) l0_3.length c0_3)] 27 (0, 0))) ∧ Aside0 (Below w.heap.size w wc))
         case first =>
          have H := HC21.out; clear HC21
          by_cases c22 : (x5_2.length : Int) > 0
          ·rw [if_pos c22] at H
           have c22b0 : decide (0 < (x5_2.length : Int)) = true := dt c22
           have c22b1 : decide (0 < x5_2.length) = true := dt (by omega)
           clear c22
           (first | rw [c22b0] | (simp only [i64_w, i32_w]; rw [c22b0]) | skip)
           by_cases c23 : 0 < (x5_2.length : Int)
           ·rw [if_pos c23] at H
            have c23b0 : decide (0 < (x5_2.length : Int)) = true := dt c23
            have c23b1 : decide (0 < x5_2.length) = true := dt (by omega)
            clear c23
            by_cases c24 : 0 ≤ (rd x5_2 0)
            ·rw [if_pos c24] at H
             have c24b0 : decide (0 ≤ (rd x5_2 0)) = true := dt c24
             clear c24
             by_cases c25 : (rd x5_2 0) < (l0_3.length : Int)
             ·rw [if_pos c25] at H
              have c25b0 : decide ((rd x5_2 0) < (l0_3.length : Int)) = true := dt c25
              clear c25; obtain ⟨t540, A26, H⟩ := be H; have H' := asT H; clear H
              try go_wp2
              replace HO_5 := asT (Kd.R_drew HO_5.out); replace BK531 := asT (blk_drew BK531.out); replace HB := asT (below_drew1 HB.out); obtain ⟨Ao28, co28, eo28⟩ := Kd.R_slice HO_5.out; (first | subst eo28 | (injection eo28 with f1_ f2_ f3_; have f4_ := f1_.symm; have f5_ := f3_.symm; clear f1_ f2_ f3_; subst f4_; subst f5_))
              have p538 : 0 ≤ (0 : Int) := (by omega)
              have q538 : 0 < (x5_2.length : Int) := dT asmT
              obtain ⟨ad538, e538, hx538_0⟩ := Kd.at_int (Kd.R_reads' HO_5.out).2.2 0 p538 q538
              cases e538
              have qi538 : (0 < x5_2.length) = True := eq_true (by omega)
              (try rw [show ((0 : Int)).toNat = 0 from rfl] at hx538_0)
              (try rw [Addr.add_zero'] at hx538_0)
              replace p538 := eq_true p538; replace q538 := eq_true q538
              have p539 : 0 ≤ ((rd x5_2 0) : Int) := dT asmT
              have q539 : (rd x5_2 0) < (l0_3.length : Int) := dT asmT
              obtain ⟨ad539, A539_0, c539_0, e539, hx539_0, hl539_0, hi539_0⟩ := at_L6 HR0_3.out (rd x5_2 0) p539 q539; have hw539_0 := hx539_0
              obtain rfl : ad537 = ad539 := (by injection e539)
              replace hx539_0 := hbc HB.out hx539_0; have HR539_0 := asT hi539_0; have HC539_0 := asT hl539_0; clear hi539_0 hl539_0; replace p539 := eq_true p539; replace q539 := eq_true q539
              refine start_ (n := 16) (S := fun w' => w'.cell? ⟨gb531, 0, none⟩ = some (.string a0_0) ∧ w'.cell? ⟨gb531, 1, none⟩ = some (.slice A0_1 l0_1.length c0_1) ∧ w'.cell? ⟨gb531, 2, none⟩ = some (.slice A0_2 l0_2.length c0_2) ∧ w'.cell? ⟨gb531, 3, none⟩ = some (.slice (some ad537) l0_3.length c0_3) ∧ w'.cell? ad538 = some (.int .i64 (rd x5_2 0)) ∧ w'.cell? (ad537.add ((rd x5_2 0)).toNat) = some (.slice A539_0 (rd_L6 l0_3 (rd x5_2 0)).length c539_0)) (ds := []) (bA 16 0) (by kernel_rfl) rfl rfl ⟨bc0 BK531.out, bc1 BK531.out, bc2 BK531.out, bc3 BK531.out, hx538_0, (hbc HB.out hw539_0 :)⟩ (fun hHeld => ?_); refine with_tabW impl_WinnersOf.tab7 impl_WinnersOf.bits7 (fun HT_ HW_ => ?_)
              generalize wr.drew = w27 at HO_5 BK531 HB HR539_0 hx538_0 hx539_0 hHeld ⊢
              refine pA 0 28 16 1 HT_.out ?_ rfl rfl; refine pA 1 29 16 3 HT_.out ?_ rfl rfl; refine pA 2 30 16 7 HT_.out ?_ rfl rfl; refine pA 3 31 16 15 HT_.out ?_ rfl rfl; refine pA 4 32 16 31 HT_.out ?_ rfl rfl; refine pA 5 33 16 63 HT_.out ?_ rfl rfl; refine pA 7 35 16 191 HT_.out ?_ rfl rfl; refine pA 8 36 16 447 HT_.out ?_ rfl rfl; refine pA 12 40 16 4543 HT_.out ?_ rfl rfl; refine tA 6 34 16 4607 HT_.out HW_.out hHeld ?_ rfl rfl; refine tA 9 37 16 5119 HT_.out HW_.out hHeld ?_ rfl rfl; refine pA 10 38 16 6143 HT_.out ?_ rfl rfl; refine tA 11 39 16 8191 HT_.out HW_.out hHeld ?_ rfl rfl
              refine oA 13 41 16 16383 HT_.out (fun K hK => ?_) rfl rfl
              refine goes_ Tryz.func70 (by kernel_rfl) rfl #[.slice A537_0 (rd_L6 l0_3 x23_2).length c537_0, .slice A539_0 (rd_L6 l0_3 (rd x5_2 0)).length c539_0, .slice A1 l1.length c1] (by rfl) rfl rfl eqT ?_
              (with_reducible refine (impl_CompareMarks.calls k2 _ _ (rd_L6 l0_3 x23_2) _ _ (rd_L6 l0_3 (rd x5_2 0)) _ _ l1 t540 _ ?side1 ?side2 ?side3 ?side4 ?side5 ?side6 A26.out).mono ?_); (case side1 => exact crT HR537_0.out HB.out); (case side2 => exact HC537_0.out); (case side3 => exact crT HR539_0.out HB.out); (case side4 => exact HC539_0.out); (case side5 => exact crT HR1.out HB.out); (case side6 => exact HC1.out); rintro e w29 ⟨rfl, hb⟩; have HS4_ := (hb.cell (World.block_lt_of_cell? _ _ (hHeld.2.2.2.2.1))).trans (hHeld.2.2.2.2.1); refine ⟨_, rfl, ?_⟩; replace HO_5 := asT (Kd.R_below (roT HO_5.out) hb); replace BK531 := bS BK531 hb; replace HB := hS HB hb; (try clear hb hb2 hk hi)
              refine hK.out _ _ ⟨bc0 BK531.out, bc1 BK531.out, bc2 BK531.out, bc3 BK531.out, HS4_, (hbc HB.out hw539_0 :)⟩ (fun hHeld => ?_)
              clear hK K
              refine nB 41 ?_ rfl; refine pA 14 42 16 32767 HT_.out ?_ rfl rfl; refine pA 15 43 16 65535 HT_.out ?_ rfl rfl
              refine done_ (done_of HT_.out (by kernel_rfl)) ?_
              try go_wp2
              go_meet
              case rel => exact ⟨_, (decide (t540 < 0)), rdT, H', ⟨by have := HJ2.out; have := HK2.out; first | omega | exact Nat.le_refl _⟩, ⟨by (with_reducible repeat (first | apply Kd.R_alloc | apply Kd.R_drewN | apply Kd.R_drew)); exact HO_5.out⟩, kpT BK531.out, ⟨hbT HB.out⟩⟩
             ·rw [if_neg c25] at H
              exact absurd H (by simp)
            ·rw [if_neg c24] at H
             exact absurd H (by simp)
           ·rw [if_neg c23] at H
            exact absurd H (by simp)
          ·rw [if_neg c22] at H
           have c22b0 : decide (0 < (x5_2.length : Int)) = false := df c22
           have c22b1 : decide (0 < x5_2.length) = false := df (by omega)
           clear c22
           (first | rw [c22b0] | (simp only [i64_w, i32_w]; rw [c22b0]) | skip)
           have H' := asT H; clear H
           try go_wp2
           replace HO_5 := asT (Kd.R_drew HO_5.out); replace BK531 := asT (blk_drew BK531.out); replace HB := asT (below_drew1 HB.out); obtain ⟨Ao31, co31, eo31⟩ := Kd.R_slice HO_5.out; (first | subst eo31 | (injection eo31 with f1_ f2_ f3_; have f4_ := f1_.symm; have f5_ := f3_.symm; clear f1_ f2_ f3_; subst f4_; subst f5_))
           refine start_ (n := 16) (S := fun w' => True) (ds := []) (bA 16 0) (by kernel_rfl) rfl rfl trivial (fun hHeld => ?_); refine with_tabW impl_WinnersOf.tab7 impl_WinnersOf.bits7 (fun HT_ HW_ => ?_)
           generalize wr.drew = w30 at HO_5 BK531 HB hHeld ⊢
           refine pA 0 28 16 1 HT_.out ?_ rfl rfl; refine pA 1 29 16 3 HT_.out ?_ rfl rfl; refine pA 2 30 16 7 HT_.out ?_ rfl rfl; refine pA 3 31 16 15 HT_.out ?_ rfl rfl; refine uA 4 32 16 31 HT_.out ?_ rfl rfl; refine uA 5 33 16 63 HT_.out ?_ rfl rfl; refine uA 6 34 16 127 HT_.out ?_ rfl rfl; refine uA 7 35 16 255 HT_.out ?_ rfl rfl; refine uA 8 36 16 511 HT_.out ?_ rfl rfl; refine uA 9 37 16 1023 HT_.out ?_ rfl rfl; refine uA 10 38 16 2047 HT_.out ?_ rfl rfl; refine uA 11 39 16 4095 HT_.out ?_ rfl rfl; refine uA 12 40 16 8191 HT_.out ?_ rfl rfl; refine uA 13 41 16 16383 HT_.out ?_ rfl rfl; refine uA 14 42 16 32767 HT_.out ?_ rfl rfl; refine pA 15 43 16 65535 HT_.out ?_ rfl rfl
           refine done_ (done_of HT_.out (by kernel_rfl)) ?_
           try go_wp2
           go_meet
           case rel => exact ⟨_, (false), rdT, H', ⟨by have := HJ2.out; have := HK2.out; first | omega | exact Nat.le_refl _⟩, ⟨by (with_reducible repeat (first | apply Kd.R_alloc | apply Kd.R_drewN | apply Kd.R_drew)); exact HO_5.out⟩, kpT BK531.out, ⟨hbT HB.out⟩⟩
         case rest =>
          clear HC21; (try clear c1 c2 p2 c3 c5 p5 q5 hx5 qi5 c6 c7 c14 c18 c18b0 c19 c19b0 c20 c20b0 c22 c22b0 c22b1 c23 c23b0 c23b1 c24 c24b0 c25 c25b0 c31 hcz10_0 hcz10_1 hcz10_2 hcz10_3 hcz12_0 hcz12_1 hcz12_2 hcz12_3 hcz17_0 hcz17_1 hcz17_2 hcz17_3 hcz8_0 hcz8_1 hcz8_2 hcz8_3 hfz10_0 hfz10_1 hfz10_2 hfz10_3 hfz12_0 hfz12_1 hfz12_2 hfz12_3 hfz17_0 hfz17_1 hfz17_2 hfz17_3 hfz8_0 hfz8_1 hfz8_2 hfz8_3 hx537_0 hx538_0 hx539_0 p2 p537 p538 p539 q537 q538 q539); obtain ⟨kq, x43_20, rfl, HA, HJ20, HO_5, BK531, HB⟩ := hcut
          cases kq with
          | zero => exact absurd HA.out (by simp [impl_WinnersOf.j2])
          | succ kj20 =>
           have H := HA.out; clear HA
           simp only [impl_WinnersOf.j2] at H
           by_cases c32 : x43_20 = true
           ·subst c32
            rw [if_pos rfl] at H; have H1 := H; clear H; have H := H1; clear H1
            by_cases c33 : 0 ≤ (x5_2.length : Int)
            ·rw [if_pos c33] at H
             have c33b0 := eq_true c33
             have c33b1 : decide (0 ≤ (x5_2.length : Int)) = true := dt c33
             clear c33; obtain ⟨y541, hy541⟩ : ∃ y_ : List Int, y_ = (x5_2.take (0 : Int).toNat) := ⟨_, rfl⟩
             replace H : (if (y541.length : Int) = 0 then (if y541.length < 17592186044416 then (impl_WinnersOf.l0 kj20 l1 (y541 ++ [x23_2]) l0_3 (l0_3.length : Int) (wrap64 (x23_2 + 1)) a0_0 l0_1 l0_2 l0_3) else (none)) else (if 0 < (y541.length : Int) then (if 0 ≤ (rd y541 0) then (if (rd y541 0) < (l0_3.length : Int) then ((impl_CompareMarks.f kj20 (rd_L6 l0_3 x23_2) (rd_L6 l0_3 (rd y541 0)) l1).bind fun t549 => (if t549 = 0 then (if y541.length < 17592186044416 then (impl_WinnersOf.l0 kj20 l1 (y541 ++ [x23_2]) l0_3 (l0_3.length : Int) (wrap64 (x23_2 + 1)) a0_0 l0_1 l0_2 l0_3) else (none)) else (impl_WinnersOf.l0 kj20 l1 y541 l0_3 (l0_3.length : Int) (wrap64 (x23_2 + 1)) a0_0 l0_1 l0_2 l0_3))) else (none)) else (none)) else (none))) = some r := by first | (rw [hy541]; with_reducible exact H) | (have H2_ := (Option.bind_some _ _).symm.trans H; rw [hy541]; with_reducible exact H2_) | (have H2_ := (Option.bind_some _ _).symm.trans H; with_reducible exact H2_) | with_reducible exact H | (rw [hy541]; exact H) | exact H
             have Ny541 := asT hy541; clear hy541
             by_cases c34 : (y541.length : Int) = 0
             ·rw [if_pos c34] at H
              have c34b0 : ((y541.length : Int) == 0) = true := eC c34
              have c34b1 : ((y541.length : Int) != 0) = false := eA c34
              clear c34
              by_cases c35 : y541.length < 17592186044416
              ·rw [if_pos c35] at H
               have LMc35 := asT c35; clear c35; obtain ⟨y544, hy544⟩ : ∃ y_ : List Int, y_ = (y541 ++ [x23_2]) := ⟨_, rfl⟩
               replace H : (impl_WinnersOf.l0 kj20 l1 y544 l0_3 (l0_3.length : Int) (wrap64 (x23_2 + 1)) a0_0 l0_1 l0_2 l0_3) = some r := by first | (rw [hy544]; with_reducible exact H) | (have H2_ := (Option.bind_some _ _).symm.trans H; rw [hy544]; with_reducible exact H2_) | (have H2_ := (Option.bind_some _ _).symm.trans H; with_reducible exact H2_) | with_reducible exact H | (rw [hy544]; exact H) | exact H
               have Ny544 := asT hy544; clear hy544; have H' := asT H; clear H; obtain ⟨Ao36, co36, eo36⟩ := Kd.R_slice HO_5.out; subst eo36
               have q37 : (0 : Int) ≤ ((x5_2.length : Int) : Int) := dT asmT
               obtain ⟨i037, hi037, _, hsz37, _⟩ := info_parts info3; have hcut37 := cut_to (P := Tryz.prog) 39 3 .i64 Tryz.underlying39 hi037 Ao36 x5_2.length co36 0 (by omega) q37 (Kd.R_reads' HO_5.out).2.1; have hr37 := Kd.R_take (m := (0 : Int).toNat) HO_5.out (by omega)
               have hy37 : y541.length = (0 : Int).toNat := (by rw [Ny541.out, List.length_take]; omega)
               rw [← Ny541.out] at hr37; rw [← hy37] at hr37 hcut37; clear hy37 hi037 hsz37 HO_5; have HO543 := asT hr37; clear hr37; replace q37 := eq_true q37
               try go_wp2
               replace HO543 := asT (Kd.R_drew HO543.out); replace BK531 := asT (blk_drew BK531.out); replace HB := asT (below_drew1 HB.out)
               refine start_ (n := 16) (S := fun w' => True) (ds := []) (bA 16 0) (by kernel_rfl) rfl rfl trivial (fun hHeld => ?_); refine with_tabW impl_WinnersOf.tab9 impl_WinnersOf.bits9 (fun HT_ HW_ => ?_)
               generalize wc.drew = w38 at HO543 BK531 HB hHeld ⊢
               refine pA 0 46 16 1 HT_.out ?_ rfl rfl; refine pA 1 47 16 3 HT_.out ?_ rfl rfl; refine pA 2 48 16 7 HT_.out ?_ rfl rfl; refine pA 3 49 16 15 HT_.out ?_ rfl rfl; refine uA 4 50 16 31 HT_.out ?_ rfl rfl; refine uA 5 51 16 63 HT_.out ?_ rfl rfl; refine uA 6 52 16 127 HT_.out ?_ rfl rfl; refine uA 7 53 16 255 HT_.out ?_ rfl rfl; refine uA 8 54 16 511 HT_.out ?_ rfl rfl; refine uA 9 55 16 1023 HT_.out ?_ rfl rfl; refine uA 10 56 16 2047 HT_.out ?_ rfl rfl; refine uA 11 57 16 4095 HT_.out ?_ rfl rfl; refine uA 12 58 16 8191 HT_.out ?_ rfl rfl; refine uA 13 59 16 16383 HT_.out ?_ rfl rfl; refine uA 14 60 16 32767 HT_.out ?_ rfl rfl; refine pA 15 61 16 65535 HT_.out ?_ rfl rfl
               refine done_ (done_of HT_.out (by kernel_rfl)) ?_
               try go_wp2_with (first | ((with_reducible refine gate_builtin (b := .append) (xs := #[.tmp 62, .tmp 64]) rfl ?_); (try (refine gate_guard (by rfl) ?_; dsimp only)); at_builtin; refine Kd.R_append (Kd.int .i64) (w0 := w) w.heap.size rfl (.tmp 62) (.tmp 64) 39 3 (.int .i64 0) 8 rfl Tryz.underlying39 info3 rfl (by decide) (by omega) (.slice Ao36 y541.length co36) y541 x23_2 [.int .i64 x23_2] (fun _ => True) (fun _ => False) rfl rfl ?aP (fun _ hk => hk.elim) ?aF ?aO ?aB ?aS ?aL ?_; (case aP => exact rfl); (case aB => exact (hbT HB.out)); (case aF => exact (fun _ _ => trivial)); (case aO => exact (roT HO543.out)); (case aS => exact (below_size (hbT HB.out))); (case aL => have := LMc35.out; omega); intro v545 w39 ho hb hg hat; rw [← Ny544.out] at ho; replace BK531 := asT (blk_grown (g := gb531) (o := .cells #[.string a0_0, .slice A0_1 l0_1.length c0_1, .slice A0_2 l0_2.length c0_2, .slice (some ad537) l0_3.length c0_3] 27 (0, 0)) (bkT BK531.out) hg (Kd.R_ne HO543.out BK531.out (by decide))); replace HB := asT (hb); have HO546 := asT (ho); clear HO543 ho hb hg hat))
               go_roundg kj20
               case measure => have := HJ2.out; have := HK2.out; have := HJ20.out; omega
               case rel => exact ⟨(y544), (wrap64 (x23_2 + 1)), rdT, H', ⟨by have := HJ2.out; have := HK2.out; have := HJ20.out; omega⟩, ⟨by (with_reducible repeat (first | apply Kd.R_alloc | apply Kd.R_drewN | apply Kd.R_drew)); exact HO546.out⟩, kpT BK531.out, ⟨hbT HB.out⟩⟩
              ·rw [if_neg c35] at H
               exact absurd H (by simp)
             ·rw [if_neg c34] at H
              have c34b0 : ((y541.length : Int) == 0) = false := eB c34
              have c34b1 : ((y541.length : Int) != 0) = true := eD c34
              have c34b2 : ¬ (y541 = []) := fun h_ => c34 (by rw [h_]; rfl)
              by_cases c40 : 0 < (y541.length : Int)
              ·rw [if_pos c40] at H
               have c40b0 : decide (0 < (y541.length : Int)) = true := dt c40
               have c40b1 : decide (0 < y541.length) = true := dt (by omega)
               clear c40
               by_cases c41 : 0 ≤ (rd y541 0)
               ·rw [if_pos c41] at H
                have c41b0 : decide (0 ≤ (rd y541 0)) = true := dt c41
                clear c41
                by_cases c42 : (rd y541 0) < (l0_3.length : Int)
                ·rw [if_pos c42] at H
                 have c42b0 : decide ((rd y541 0) < (l0_3.length : Int)) = true := dt c42
                 clear c42; obtain ⟨t549, A43, H⟩ := be H
                 by_cases c44 : t549 = 0
                 ·rw [if_pos c44] at H
                  have c44b0 : (t549 == 0) = true := eC c44
                  have c44b1 : (t549 != 0) = false := eA c44
                  clear c44
                  by_cases c45 : y541.length < 17592186044416
                  ·rw [if_pos c45] at H
                   have LMc45 := asT c45; clear c45; obtain ⟨y550, hy550⟩ : ∃ y_ : List Int, y_ = (y541 ++ [x23_2]) := ⟨_, rfl⟩
                   replace H : (impl_WinnersOf.l0 kj20 l1 y550 l0_3 (l0_3.length : Int) (wrap64 (x23_2 + 1)) a0_0 l0_1 l0_2 l0_3) = some r := by first | (rw [hy550]; with_reducible exact H) | (have H2_ := (Option.bind_some _ _).symm.trans H; rw [hy550]; with_reducible exact H2_) | (have H2_ := (Option.bind_some _ _).symm.trans H; with_reducible exact H2_) | with_reducible exact H | (rw [hy550]; exact H) | exact H
                   have Ny550 := asT hy550; clear hy550; have H' := asT H; clear H; obtain ⟨Ao46, co46, eo46⟩ := Kd.R_slice HO_5.out; subst eo46
                   have q47 : (0 : Int) ≤ ((x5_2.length : Int) : Int) := dT asmT
                   obtain ⟨i047, hi047, _, hsz47, _⟩ := info_parts info3; have hcut47 := cut_to (P := Tryz.prog) 39 3 .i64 Tryz.underlying39 hi047 Ao46 x5_2.length co46 0 (by omega) q47 (Kd.R_reads' HO_5.out).2.1; have hr47 := Kd.R_take (m := (0 : Int).toNat) HO_5.out (by omega)
                   have hy47 : y541.length = (0 : Int).toNat := (by rw [Ny541.out, List.length_take]; omega)
                   rw [← Ny541.out] at hr47; rw [← hy47] at hr47 hcut47; clear hy47 hi047 hsz47 HO_5; have HO543 := asT hr47; clear hr47; replace q47 := eq_true q47
                   try go_wp2
                   replace HO543 := asT (Kd.R_drew HO543.out); replace BK531 := asT (blk_drew BK531.out); replace HB := asT (below_drew1 HB.out)
                   have p547 : 0 ≤ (0 : Int) := (by omega)
                   have q547 : 0 < (y541.length : Int) := dT asmT
                   obtain ⟨ad547, e547, hx547_0⟩ := Kd.at_int (Kd.R_reads' HO543.out).2.2 0 p547 q547
                   cases e547
                   have qi547 : (0 < y541.length) = True := eq_true (by omega)
                   (try rw [show ((0 : Int)).toNat = 0 from rfl] at hx547_0)
                   (try rw [Addr.add_zero'] at hx547_0)
                   replace p547 := eq_true p547; replace q547 := eq_true q547
                   have p548 : 0 ≤ ((rd y541 0) : Int) := dT asmT
                   have q548 : (rd y541 0) < (l0_3.length : Int) := dT asmT
                   obtain ⟨ad548, A548_0, c548_0, e548, hx548_0, hl548_0, hi548_0⟩ := at_L6 HR0_3.out (rd y541 0) p548 q548; have hw548_0 := hx548_0
                   obtain rfl : ad537 = ad548 := (by injection e548)
                   replace hx548_0 := hbc HB.out hx548_0; have HR548_0 := asT hi548_0; have HC548_0 := asT hl548_0; clear hi548_0 hl548_0; replace p548 := eq_true p548; replace q548 := eq_true q548
                   refine start_ (n := 16) (S := fun w' => w'.cell? ⟨gb531, 0, none⟩ = some (.string a0_0) ∧ w'.cell? ⟨gb531, 1, none⟩ = some (.slice A0_1 l0_1.length c0_1) ∧ w'.cell? ⟨gb531, 2, none⟩ = some (.slice A0_2 l0_2.length c0_2) ∧ w'.cell? ⟨gb531, 3, none⟩ = some (.slice (some ad537) l0_3.length c0_3) ∧ w'.cell? ad547 = some (.int .i64 (rd y541 0)) ∧ w'.cell? (ad537.add ((rd y541 0)).toNat) = some (.slice A548_0 (rd_L6 l0_3 (rd y541 0)).length c548_0)) (ds := []) (bA 16 0) (by kernel_rfl) rfl rfl ⟨bc0 BK531.out, bc1 BK531.out, bc2 BK531.out, bc3 BK531.out, hx547_0, (hbc HB.out hw548_0 :)⟩ (fun hHeld => ?_); refine with_tabW impl_WinnersOf.tab9 impl_WinnersOf.bits9 (fun HT_ HW_ => ?_)
                   generalize wc.drew = w48 at HO543 BK531 HB HR548_0 hx547_0 hx548_0 hHeld ⊢
                   refine pA 0 46 16 1 HT_.out ?_ rfl rfl; refine pA 1 47 16 3 HT_.out ?_ rfl rfl; refine pA 2 48 16 7 HT_.out ?_ rfl rfl; refine pA 3 49 16 15 HT_.out ?_ rfl rfl; refine pA 4 50 16 31 HT_.out ?_ rfl rfl; refine pA 5 51 16 63 HT_.out ?_ rfl rfl; refine pA 7 53 16 191 HT_.out ?_ rfl rfl; refine pA 8 54 16 447 HT_.out ?_ rfl rfl; refine pA 12 58 16 4543 HT_.out ?_ rfl rfl; refine tA 6 52 16 4607 HT_.out HW_.out hHeld ?_ rfl rfl; refine tA 9 55 16 5119 HT_.out HW_.out hHeld ?_ rfl rfl; refine pA 10 56 16 6143 HT_.out ?_ rfl rfl; refine tA 11 57 16 8191 HT_.out HW_.out hHeld ?_ rfl rfl
                   refine oA 13 59 16 16383 HT_.out (fun K hK => ?_) rfl rfl
                   refine goes_ Tryz.func70 (by kernel_rfl) rfl #[.slice A537_0 (rd_L6 l0_3 x23_2).length c537_0, .slice A548_0 (rd_L6 l0_3 (rd y541 0)).length c548_0, .slice A1 l1.length c1] (by rfl) rfl rfl eqT ?_
                   (with_reducible refine (impl_CompareMarks.calls kj20 _ _ (rd_L6 l0_3 x23_2) _ _ (rd_L6 l0_3 (rd y541 0)) _ _ l1 t549 _ ?side1 ?side2 ?side3 ?side4 ?side5 ?side6 A43.out).mono ?_); (case side1 => exact crT HR537_0.out HB.out); (case side2 => exact HC537_0.out); (case side3 => exact crT HR548_0.out HB.out); (case side4 => exact HC548_0.out); (case side5 => exact crT HR1.out HB.out); (case side6 => exact HC1.out); rintro e w49 ⟨rfl, hb⟩; have HS4_ := (hb.cell (World.block_lt_of_cell? _ _ (hHeld.2.2.2.2.1))).trans (hHeld.2.2.2.2.1); refine ⟨_, rfl, ?_⟩; replace HO543 := asT (Kd.R_below (roT HO543.out) hb); replace BK531 := bS BK531 hb; replace HB := hS HB hb; (try clear hb hb2 hk hi)
                   refine hK.out _ _ ⟨bc0 BK531.out, bc1 BK531.out, bc2 BK531.out, bc3 BK531.out, HS4_, (hbc HB.out hw548_0 :)⟩ (fun hHeld => ?_)
                   clear hK K
                   refine nB 59 ?_ rfl; refine pA 14 60 16 32767 HT_.out ?_ rfl rfl; refine pA 15 61 16 65535 HT_.out ?_ rfl rfl
                   refine done_ (done_of HT_.out (by kernel_rfl)) ?_
                   try go_wp2_with (first | ((with_reducible refine gate_builtin (b := .append) (xs := #[.tmp 62, .tmp 64]) rfl ?_); (try (refine gate_guard (by rfl) ?_; dsimp only)); at_builtin; refine Kd.R_append (Kd.int .i64) (w0 := w) w.heap.size rfl (.tmp 62) (.tmp 64) 39 3 (.int .i64 0) 8 rfl Tryz.underlying39 info3 rfl (by decide) (by omega) (.slice (some ad547) y541.length co46) y541 x23_2 [.int .i64 x23_2] (fun _ => True) (fun _ => False) rfl rfl ?aP (fun _ hk => hk.elim) ?aF ?aO ?aB ?aS ?aL ?_; (case aP => exact rfl); (case aB => exact (hbT HB.out)); (case aF => exact (fun _ _ => trivial)); (case aO => exact (roT HO543.out)); (case aS => exact (below_size (hbT HB.out))); (case aL => have := LMc45.out; omega); intro v551 w50 ho hb hg hat; rw [← Ny550.out] at ho; replace BK531 := asT (blk_grown (g := gb531) (o := .cells #[.string a0_0, .slice A0_1 l0_1.length c0_1, .slice A0_2 l0_2.length c0_2, .slice (some ad537) l0_3.length c0_3] 27 (0, 0)) (bkT BK531.out) hg (Kd.R_ne HO543.out BK531.out (by decide))); replace HB := asT (hb); have HO552 := asT (ho); clear HO543 ho hb hg hat))
                   go_roundg kj20
                   case measure => have := HJ2.out; have := HK2.out; have := HJ20.out; omega
                   case rel => exact ⟨(y550), (wrap64 (x23_2 + 1)), rdT, H', ⟨by have := HJ2.out; have := HK2.out; have := HJ20.out; omega⟩, ⟨by (with_reducible repeat (first | apply Kd.R_alloc | apply Kd.R_drewN | apply Kd.R_drew)); exact HO552.out⟩, kpT BK531.out, ⟨hbT HB.out⟩⟩
                  ·rw [if_neg c45] at H
                   exact absurd H (by simp)
                 ·rw [if_neg c44] at H
                  have c44b0 : (t549 == 0) = false := eB c44
                  have c44b1 : (t549 != 0) = true := eD c44
                  have H' := asT H; clear H; obtain ⟨Ao51, co51, eo51⟩ := Kd.R_slice HO_5.out; subst eo51
                  have q52 : (0 : Int) ≤ ((x5_2.length : Int) : Int) := dT asmT
                  obtain ⟨i052, hi052, _, hsz52, _⟩ := info_parts info3; have hcut52 := cut_to (P := Tryz.prog) 39 3 .i64 Tryz.underlying39 hi052 Ao51 x5_2.length co51 0 (by omega) q52 (Kd.R_reads' HO_5.out).2.1; have hr52 := Kd.R_take (m := (0 : Int).toNat) HO_5.out (by omega)
                  have hy52 : y541.length = (0 : Int).toNat := (by rw [Ny541.out, List.length_take]; omega)
                  rw [← Ny541.out] at hr52; rw [← hy52] at hr52 hcut52; clear hy52 hi052 hsz52 HO_5; have HO543 := asT hr52; clear hr52; replace q52 := eq_true q52
                  try go_wp2
                  replace HO543 := asT (Kd.R_drew HO543.out); replace BK531 := asT (blk_drew BK531.out); replace HB := asT (below_drew1 HB.out)
                  have p547 : 0 ≤ (0 : Int) := (by omega)
                  have q547 : 0 < (y541.length : Int) := dT asmT
                  obtain ⟨ad547, e547, hx547_0⟩ := Kd.at_int (Kd.R_reads' HO543.out).2.2 0 p547 q547
                  cases e547
                  have qi547 : (0 < y541.length) = True := eq_true (by omega)
                  (try rw [show ((0 : Int)).toNat = 0 from rfl] at hx547_0)
                  (try rw [Addr.add_zero'] at hx547_0)
                  replace p547 := eq_true p547; replace q547 := eq_true q547
                  have p548 : 0 ≤ ((rd y541 0) : Int) := dT asmT
                  have q548 : (rd y541 0) < (l0_3.length : Int) := dT asmT
                  obtain ⟨ad548, A548_0, c548_0, e548, hx548_0, hl548_0, hi548_0⟩ := at_L6 HR0_3.out (rd y541 0) p548 q548; have hw548_0 := hx548_0
                  obtain rfl : ad537 = ad548 := (by injection e548)
                  replace hx548_0 := hbc HB.out hx548_0; have HR548_0 := asT hi548_0; have HC548_0 := asT hl548_0; clear hi548_0 hl548_0; replace p548 := eq_true p548; replace q548 := eq_true q548
                  refine start_ (n := 16) (S := fun w' => w'.cell? ⟨gb531, 0, none⟩ = some (.string a0_0) ∧ w'.cell? ⟨gb531, 1, none⟩ = some (.slice A0_1 l0_1.length c0_1) ∧ w'.cell? ⟨gb531, 2, none⟩ = some (.slice A0_2 l0_2.length c0_2) ∧ w'.cell? ⟨gb531, 3, none⟩ = some (.slice (some ad537) l0_3.length c0_3) ∧ w'.cell? ad547 = some (.int .i64 (rd y541 0)) ∧ w'.cell? (ad537.add ((rd y541 0)).toNat) = some (.slice A548_0 (rd_L6 l0_3 (rd y541 0)).length c548_0)) (ds := []) (bA 16 0) (by kernel_rfl) rfl rfl ⟨bc0 BK531.out, bc1 BK531.out, bc2 BK531.out, bc3 BK531.out, hx547_0, (hbc HB.out hw548_0 :)⟩ (fun hHeld => ?_); refine with_tabW impl_WinnersOf.tab9 impl_WinnersOf.bits9 (fun HT_ HW_ => ?_)
                  generalize wc.drew = w53 at HO543 BK531 HB HR548_0 hx547_0 hx548_0 hHeld ⊢
                  refine pA 0 46 16 1 HT_.out ?_ rfl rfl; refine pA 1 47 16 3 HT_.out ?_ rfl rfl; refine pA 2 48 16 7 HT_.out ?_ rfl rfl; refine pA 3 49 16 15 HT_.out ?_ rfl rfl; refine pA 4 50 16 31 HT_.out ?_ rfl rfl; refine pA 5 51 16 63 HT_.out ?_ rfl rfl; refine pA 7 53 16 191 HT_.out ?_ rfl rfl; refine pA 8 54 16 447 HT_.out ?_ rfl rfl; refine pA 12 58 16 4543 HT_.out ?_ rfl rfl; refine tA 6 52 16 4607 HT_.out HW_.out hHeld ?_ rfl rfl; refine tA 9 55 16 5119 HT_.out HW_.out hHeld ?_ rfl rfl; refine pA 10 56 16 6143 HT_.out ?_ rfl rfl; refine tA 11 57 16 8191 HT_.out HW_.out hHeld ?_ rfl rfl
                  refine oA 13 59 16 16383 HT_.out (fun K hK => ?_) rfl rfl
                  refine goes_ Tryz.func70 (by kernel_rfl) rfl #[.slice A537_0 (rd_L6 l0_3 x23_2).length c537_0, .slice A548_0 (rd_L6 l0_3 (rd y541 0)).length c548_0, .slice A1 l1.length c1] (by rfl) rfl rfl eqT ?_
                  (with_reducible refine (impl_CompareMarks.calls kj20 _ _ (rd_L6 l0_3 x23_2) _ _ (rd_L6 l0_3 (rd y541 0)) _ _ l1 t549 _ ?side1 ?side2 ?side3 ?side4 ?side5 ?side6 A43.out).mono ?_); (case side1 => exact crT HR537_0.out HB.out); (case side2 => exact HC537_0.out); (case side3 => exact crT HR548_0.out HB.out); (case side4 => exact HC548_0.out); (case side5 => exact crT HR1.out HB.out); (case side6 => exact HC1.out); rintro e w54 ⟨rfl, hb⟩; have HS4_ := (hb.cell (World.block_lt_of_cell? _ _ (hHeld.2.2.2.2.1))).trans (hHeld.2.2.2.2.1); refine ⟨_, rfl, ?_⟩; replace HO543 := asT (Kd.R_below (roT HO543.out) hb); replace BK531 := bS BK531 hb; replace HB := hS HB hb; (try clear hb hb2 hk hi)
                  refine hK.out _ _ ⟨bc0 BK531.out, bc1 BK531.out, bc2 BK531.out, bc3 BK531.out, HS4_, (hbc HB.out hw548_0 :)⟩ (fun hHeld => ?_)
                  clear hK K
                  refine nB 59 ?_ rfl; refine pA 14 60 16 32767 HT_.out ?_ rfl rfl; refine pA 15 61 16 65535 HT_.out ?_ rfl rfl
                  refine done_ (done_of HT_.out (by kernel_rfl)) ?_
                  try go_wp2
                  go_roundg kj20
                  case measure => have := HJ2.out; have := HK2.out; have := HJ20.out; omega
                  case rel => exact ⟨(y541), (wrap64 (x23_2 + 1)), rdT, H', ⟨by have := HJ2.out; have := HK2.out; have := HJ20.out; omega⟩, ⟨by (with_reducible repeat (first | apply Kd.R_alloc | apply Kd.R_drewN | apply Kd.R_drew)); exact HO543.out⟩, kpT BK531.out, ⟨hbT HB.out⟩⟩
                ·rw [if_neg c42] at H
                 exact absurd H (by simp)
               ·rw [if_neg c41] at H
                exact absurd H (by simp)
              ·rw [if_neg c40] at H
               exact absurd H (by simp)
            ·rw [if_neg c33] at H
             exact absurd H (by simp)
           ·replace c32 := eE c32
            subst c32; rw [if_neg nF] at H; have H1 := H; clear H; have H := H1; clear H1
            by_cases c55 : (x5_2.length : Int) = 0
            ·rw [if_pos c55] at H
             have c55b0 : ((x5_2.length : Int) == 0) = true := eC c55
             have c55b1 : ((x5_2.length : Int) != 0) = false := eA c55
             clear c55
             by_cases c56 : x5_2.length < 17592186044416
             ·rw [if_pos c56] at H
              have LMc56 := asT c56; clear c56; obtain ⟨y553, hy553⟩ : ∃ y_ : List Int, y_ = (x5_2 ++ [x23_2]) := ⟨_, rfl⟩
              replace H : (impl_WinnersOf.l0 kj20 l1 y553 l0_3 (l0_3.length : Int) (wrap64 (x23_2 + 1)) a0_0 l0_1 l0_2 l0_3) = some r := by first | (rw [hy553]; with_reducible exact H) | (have H2_ := (Option.bind_some _ _).symm.trans H; rw [hy553]; with_reducible exact H2_) | (have H2_ := (Option.bind_some _ _).symm.trans H; with_reducible exact H2_) | with_reducible exact H | (rw [hy553]; exact H) | exact H
              have Ny553 := asT hy553; clear hy553; have H' := asT H; clear H
              try go_wp2
              replace HO_5 := asT (Kd.R_drew HO_5.out); replace BK531 := asT (blk_drew BK531.out); replace HB := asT (below_drew1 HB.out); obtain ⟨Ao58, co58, eo58⟩ := Kd.R_slice HO_5.out; (first | subst eo58 | (injection eo58 with f1_ f2_ f3_; have f4_ := f1_.symm; have f5_ := f3_.symm; clear f1_ f2_ f3_; subst f4_; subst f5_))
              refine start_ (n := 16) (S := fun w' => True) (ds := []) (bA 16 0) (by kernel_rfl) rfl rfl trivial (fun hHeld => ?_); refine with_tabW impl_WinnersOf.tab9 impl_WinnersOf.bits9 (fun HT_ HW_ => ?_)
              generalize wc.drew = w57 at HO_5 BK531 HB hHeld ⊢
              refine pA 0 46 16 1 HT_.out ?_ rfl rfl; refine pA 1 47 16 3 HT_.out ?_ rfl rfl; refine pA 2 48 16 7 HT_.out ?_ rfl rfl; refine pA 3 49 16 15 HT_.out ?_ rfl rfl; refine uA 4 50 16 31 HT_.out ?_ rfl rfl; refine uA 5 51 16 63 HT_.out ?_ rfl rfl; refine uA 6 52 16 127 HT_.out ?_ rfl rfl; refine uA 7 53 16 255 HT_.out ?_ rfl rfl; refine uA 8 54 16 511 HT_.out ?_ rfl rfl; refine uA 9 55 16 1023 HT_.out ?_ rfl rfl; refine uA 10 56 16 2047 HT_.out ?_ rfl rfl; refine uA 11 57 16 4095 HT_.out ?_ rfl rfl; refine uA 12 58 16 8191 HT_.out ?_ rfl rfl; refine uA 13 59 16 16383 HT_.out ?_ rfl rfl; refine uA 14 60 16 32767 HT_.out ?_ rfl rfl; refine pA 15 61 16 65535 HT_.out ?_ rfl rfl
              refine done_ (done_of HT_.out (by kernel_rfl)) ?_
              try go_wp2_with (first | ((with_reducible refine gate_builtin (b := .append) (xs := #[.tmp 62, .tmp 64]) rfl ?_); (try (refine gate_guard (by rfl) ?_; dsimp only)); at_builtin; refine Kd.R_append (Kd.int .i64) (w0 := w) w.heap.size rfl (.tmp 62) (.tmp 64) 39 3 (.int .i64 0) 8 rfl Tryz.underlying39 info3 rfl (by decide) (by omega) (.slice Ao58 x5_2.length co58) x5_2 x23_2 [.int .i64 x23_2] (fun _ => True) (fun _ => False) rfl rfl ?aP (fun _ hk => hk.elim) ?aF ?aO ?aB ?aS ?aL ?_; (case aP => exact rfl); (case aB => exact (hbT HB.out)); (case aF => exact (fun _ _ => trivial)); (case aO => exact (roT HO_5.out)); (case aS => exact (below_size (hbT HB.out))); (case aL => have := LMc56.out; omega); intro v554 w59 ho hb hg hat; rw [← Ny553.out] at ho; replace BK531 := asT (blk_grown (g := gb531) (o := .cells #[.string a0_0, .slice A0_1 l0_1.length c0_1, .slice A0_2 l0_2.length c0_2, .slice (some ad537) l0_3.length c0_3] 27 (0, 0)) (bkT BK531.out) hg (Kd.R_ne HO_5.out BK531.out (by decide))); replace HB := asT (hb); have HO555 := asT (ho); clear HO_5 ho hb hg hat))
              go_roundg kj20
              case measure => have := HJ2.out; have := HK2.out; have := HJ20.out; omega
              case rel => exact ⟨(y553), (wrap64 (x23_2 + 1)), rdT, H', ⟨by have := HJ2.out; have := HK2.out; have := HJ20.out; omega⟩, ⟨by (with_reducible repeat (first | apply Kd.R_alloc | apply Kd.R_drewN | apply Kd.R_drew)); exact HO555.out⟩, kpT BK531.out, ⟨hbT HB.out⟩⟩
             ·rw [if_neg c56] at H
              exact absurd H (by simp)
            ·rw [if_neg c55] at H
             have c55b0 : ((x5_2.length : Int) == 0) = false := eB c55
             have c55b1 : ((x5_2.length : Int) != 0) = true := eD c55
             have c55b2 : ¬ (x5_2 = []) := fun h_ => c55 (by rw [h_]; rfl)
             by_cases c60 : 0 < (x5_2.length : Int)
             ·rw [if_pos c60] at H
              have c60b0 : decide (0 < (x5_2.length : Int)) = true := dt c60
              have c60b1 : decide (0 < x5_2.length) = true := dt (by omega)
              clear c60
              by_cases c61 : 0 ≤ (rd x5_2 0)
              ·rw [if_pos c61] at H
               have c61b0 : decide (0 ≤ (rd x5_2 0)) = true := dt c61
               clear c61
               by_cases c62 : (rd x5_2 0) < (l0_3.length : Int)
               ·rw [if_pos c62] at H
                have c62b0 : decide ((rd x5_2 0) < (l0_3.length : Int)) = true := dt c62
                clear c62; obtain ⟨t558, A63, H⟩ := be H
                by_cases c64 : t558 = 0
                ·rw [if_pos c64] at H
                 have c64b0 : (t558 == 0) = true := eC c64
                 have c64b1 : (t558 != 0) = false := eA c64
                 clear c64
                 by_cases c65 : x5_2.length < 17592186044416
                 ·rw [if_pos c65] at H
                  have LMc65 := asT c65; clear c65; obtain ⟨y559, hy559⟩ : ∃ y_ : List Int, y_ = (x5_2 ++ [x23_2]) := ⟨_, rfl⟩
                  replace H : (impl_WinnersOf.l0 kj20 l1 y559 l0_3 (l0_3.length : Int) (wrap64 (x23_2 + 1)) a0_0 l0_1 l0_2 l0_3) = some r := by first | (rw [hy559]; with_reducible exact H) | (have H2_ := (Option.bind_some _ _).symm.trans H; rw [hy559]; with_reducible exact H2_) | (have H2_ := (Option.bind_some _ _).symm.trans H; with_reducible exact H2_) | with_reducible exact H | (rw [hy559]; exact H) | exact H
                  have Ny559 := asT hy559; clear hy559; have H' := asT H; clear H
                  try go_wp2
                  replace HO_5 := asT (Kd.R_drew HO_5.out); replace BK531 := asT (blk_drew BK531.out); replace HB := asT (below_drew1 HB.out); obtain ⟨Ao67, co67, eo67⟩ := Kd.R_slice HO_5.out; (first | subst eo67 | (injection eo67 with f1_ f2_ f3_; have f4_ := f1_.symm; have f5_ := f3_.symm; clear f1_ f2_ f3_; subst f4_; subst f5_))
                  have p556 : 0 ≤ (0 : Int) := (by omega)
                  have q556 : 0 < (x5_2.length : Int) := dT asmT
                  obtain ⟨ad556, e556, hx556_0⟩ := Kd.at_int (Kd.R_reads' HO_5.out).2.2 0 p556 q556
                  cases e556
                  have qi556 : (0 < x5_2.length) = True := eq_true (by omega)
                  (try rw [show ((0 : Int)).toNat = 0 from rfl] at hx556_0)
                  (try rw [Addr.add_zero'] at hx556_0)
                  replace p556 := eq_true p556; replace q556 := eq_true q556
                  have p557 : 0 ≤ ((rd x5_2 0) : Int) := dT asmT
                  have q557 : (rd x5_2 0) < (l0_3.length : Int) := dT asmT
                  obtain ⟨ad557, A557_0, c557_0, e557, hx557_0, hl557_0, hi557_0⟩ := at_L6 HR0_3.out (rd x5_2 0) p557 q557; have hw557_0 := hx557_0
                  obtain rfl : ad537 = ad557 := (by injection e557)
                  replace hx557_0 := hbc HB.out hx557_0; have HR557_0 := asT hi557_0; have HC557_0 := asT hl557_0; clear hi557_0 hl557_0; replace p557 := eq_true p557; replace q557 := eq_true q557
                  refine start_ (n := 16) (S := fun w' => w'.cell? ⟨gb531, 0, none⟩ = some (.string a0_0) ∧ w'.cell? ⟨gb531, 1, none⟩ = some (.slice A0_1 l0_1.length c0_1) ∧ w'.cell? ⟨gb531, 2, none⟩ = some (.slice A0_2 l0_2.length c0_2) ∧ w'.cell? ⟨gb531, 3, none⟩ = some (.slice (some ad537) l0_3.length c0_3) ∧ w'.cell? ad556 = some (.int .i64 (rd x5_2 0)) ∧ w'.cell? (ad537.add ((rd x5_2 0)).toNat) = some (.slice A557_0 (rd_L6 l0_3 (rd x5_2 0)).length c557_0)) (ds := []) (bA 16 0) (by kernel_rfl) rfl rfl ⟨bc0 BK531.out, bc1 BK531.out, bc2 BK531.out, bc3 BK531.out, hx556_0, (hbc HB.out hw557_0 :)⟩ (fun hHeld => ?_); refine with_tabW impl_WinnersOf.tab9 impl_WinnersOf.bits9 (fun HT_ HW_ => ?_)
                  generalize wc.drew = w66 at HO_5 BK531 HB HR557_0 hx556_0 hx557_0 hHeld ⊢
                  refine pA 0 46 16 1 HT_.out ?_ rfl rfl; refine pA 1 47 16 3 HT_.out ?_ rfl rfl; refine pA 2 48 16 7 HT_.out ?_ rfl rfl; refine pA 3 49 16 15 HT_.out ?_ rfl rfl; refine pA 4 50 16 31 HT_.out ?_ rfl rfl; refine pA 5 51 16 63 HT_.out ?_ rfl rfl; refine pA 7 53 16 191 HT_.out ?_ rfl rfl; refine pA 8 54 16 447 HT_.out ?_ rfl rfl; refine pA 12 58 16 4543 HT_.out ?_ rfl rfl; refine tA 6 52 16 4607 HT_.out HW_.out hHeld ?_ rfl rfl; refine tA 9 55 16 5119 HT_.out HW_.out hHeld ?_ rfl rfl; refine pA 10 56 16 6143 HT_.out ?_ rfl rfl; refine tA 11 57 16 8191 HT_.out HW_.out hHeld ?_ rfl rfl
                  refine oA 13 59 16 16383 HT_.out (fun K hK => ?_) rfl rfl
                  refine goes_ Tryz.func70 (by kernel_rfl) rfl #[.slice A537_0 (rd_L6 l0_3 x23_2).length c537_0, .slice A557_0 (rd_L6 l0_3 (rd x5_2 0)).length c557_0, .slice A1 l1.length c1] (by rfl) rfl rfl eqT ?_
                  (with_reducible refine (impl_CompareMarks.calls kj20 _ _ (rd_L6 l0_3 x23_2) _ _ (rd_L6 l0_3 (rd x5_2 0)) _ _ l1 t558 _ ?side1 ?side2 ?side3 ?side4 ?side5 ?side6 A63.out).mono ?_); (case side1 => exact crT HR537_0.out HB.out); (case side2 => exact HC537_0.out); (case side3 => exact crT HR557_0.out HB.out); (case side4 => exact HC557_0.out); (case side5 => exact crT HR1.out HB.out); (case side6 => exact HC1.out); rintro e w68 ⟨rfl, hb⟩; have HS4_ := (hb.cell (World.block_lt_of_cell? _ _ (hHeld.2.2.2.2.1))).trans (hHeld.2.2.2.2.1); refine ⟨_, rfl, ?_⟩; replace HO_5 := asT (Kd.R_below (roT HO_5.out) hb); replace BK531 := bS BK531 hb; replace HB := hS HB hb; (try clear hb hb2 hk hi)
                  refine hK.out _ _ ⟨bc0 BK531.out, bc1 BK531.out, bc2 BK531.out, bc3 BK531.out, HS4_, (hbc HB.out hw557_0 :)⟩ (fun hHeld => ?_)
                  clear hK K
                  refine nB 59 ?_ rfl; refine pA 14 60 16 32767 HT_.out ?_ rfl rfl; refine pA 15 61 16 65535 HT_.out ?_ rfl rfl
                  refine done_ (done_of HT_.out (by kernel_rfl)) ?_
                  try go_wp2_with (first | ((with_reducible refine gate_builtin (b := .append) (xs := #[.tmp 62, .tmp 64]) rfl ?_); (try (refine gate_guard (by rfl) ?_; dsimp only)); at_builtin; refine Kd.R_append (Kd.int .i64) (w0 := w) w.heap.size rfl (.tmp 62) (.tmp 64) 39 3 (.int .i64 0) 8 rfl Tryz.underlying39 info3 rfl (by decide) (by omega) (.slice (some ad556) x5_2.length co67) x5_2 x23_2 [.int .i64 x23_2] (fun _ => True) (fun _ => False) rfl rfl ?aP (fun _ hk => hk.elim) ?aF ?aO ?aB ?aS ?aL ?_; (case aP => exact rfl); (case aB => exact (hbT HB.out)); (case aF => exact (fun _ _ => trivial)); (case aO => exact (roT HO_5.out)); (case aS => exact (below_size (hbT HB.out))); (case aL => have := LMc65.out; omega); intro v560 w69 ho hb hg hat; rw [← Ny559.out] at ho; replace BK531 := asT (blk_grown (g := gb531) (o := .cells #[.string a0_0, .slice A0_1 l0_1.length c0_1, .slice A0_2 l0_2.length c0_2, .slice (some ad537) l0_3.length c0_3] 27 (0, 0)) (bkT BK531.out) hg (Kd.R_ne HO_5.out BK531.out (by decide))); replace HB := asT (hb); have HO561 := asT (ho); clear HO_5 ho hb hg hat))
                  go_roundg kj20
                  case measure => have := HJ2.out; have := HK2.out; have := HJ20.out; omega
                  case rel => exact ⟨(y559), (wrap64 (x23_2 + 1)), rdT, H', ⟨by have := HJ2.out; have := HK2.out; have := HJ20.out; omega⟩, ⟨by (with_reducible repeat (first | apply Kd.R_alloc | apply Kd.R_drewN | apply Kd.R_drew)); exact HO561.out⟩, kpT BK531.out, ⟨hbT HB.out⟩⟩
                 ·rw [if_neg c65] at H
                  exact absurd H (by simp)
                ·rw [if_neg c64] at H
                 have c64b0 : (t558 == 0) = false := eB c64
                 have c64b1 : (t558 != 0) = true := eD c64
                 have H' := asT H; clear H
                 try go_wp2
                 replace HO_5 := asT (Kd.R_drew HO_5.out); replace BK531 := asT (blk_drew BK531.out); replace HB := asT (below_drew1 HB.out); obtain ⟨Ao71, co71, eo71⟩ := Kd.R_slice HO_5.out; (first | subst eo71 | (injection eo71 with f1_ f2_ f3_; have f4_ := f1_.symm; have f5_ := f3_.symm; clear f1_ f2_ f3_; subst f4_; subst f5_))
                 have p556 : 0 ≤ (0 : Int) := (by omega)
                 have q556 : 0 < (x5_2.length : Int) := dT asmT
                 obtain ⟨ad556, e556, hx556_0⟩ := Kd.at_int (Kd.R_reads' HO_5.out).2.2 0 p556 q556
                 cases e556
                 have qi556 : (0 < x5_2.length) = True := eq_true (by omega)
                 (try rw [show ((0 : Int)).toNat = 0 from rfl] at hx556_0)
                 (try rw [Addr.add_zero'] at hx556_0)
                 replace p556 := eq_true p556; replace q556 := eq_true q556
                 have p557 : 0 ≤ ((rd x5_2 0) : Int) := dT asmT
                 have q557 : (rd x5_2 0) < (l0_3.length : Int) := dT asmT
                 obtain ⟨ad557, A557_0, c557_0, e557, hx557_0, hl557_0, hi557_0⟩ := at_L6 HR0_3.out (rd x5_2 0) p557 q557; have hw557_0 := hx557_0
                 obtain rfl : ad537 = ad557 := (by injection e557)
                 replace hx557_0 := hbc HB.out hx557_0; have HR557_0 := asT hi557_0; have HC557_0 := asT hl557_0; clear hi557_0 hl557_0; replace p557 := eq_true p557; replace q557 := eq_true q557
                 refine start_ (n := 16) (S := fun w' => w'.cell? ⟨gb531, 0, none⟩ = some (.string a0_0) ∧ w'.cell? ⟨gb531, 1, none⟩ = some (.slice A0_1 l0_1.length c0_1) ∧ w'.cell? ⟨gb531, 2, none⟩ = some (.slice A0_2 l0_2.length c0_2) ∧ w'.cell? ⟨gb531, 3, none⟩ = some (.slice (some ad537) l0_3.length c0_3) ∧ w'.cell? ad556 = some (.int .i64 (rd x5_2 0)) ∧ w'.cell? (ad537.add ((rd x5_2 0)).toNat) = some (.slice A557_0 (rd_L6 l0_3 (rd x5_2 0)).length c557_0)) (ds := []) (bA 16 0) (by kernel_rfl) rfl rfl ⟨bc0 BK531.out, bc1 BK531.out, bc2 BK531.out, bc3 BK531.out, hx556_0, (hbc HB.out hw557_0 :)⟩ (fun hHeld => ?_); refine with_tabW impl_WinnersOf.tab9 impl_WinnersOf.bits9 (fun HT_ HW_ => ?_)
                 generalize wc.drew = w70 at HO_5 BK531 HB HR557_0 hx556_0 hx557_0 hHeld ⊢
                 refine pA 0 46 16 1 HT_.out ?_ rfl rfl; refine pA 1 47 16 3 HT_.out ?_ rfl rfl; refine pA 2 48 16 7 HT_.out ?_ rfl rfl; refine pA 3 49 16 15 HT_.out ?_ rfl rfl; refine pA 4 50 16 31 HT_.out ?_ rfl rfl; refine pA 5 51 16 63 HT_.out ?_ rfl rfl; refine pA 7 53 16 191 HT_.out ?_ rfl rfl; refine pA 8 54 16 447 HT_.out ?_ rfl rfl; refine pA 12 58 16 4543 HT_.out ?_ rfl rfl; refine tA 6 52 16 4607 HT_.out HW_.out hHeld ?_ rfl rfl; refine tA 9 55 16 5119 HT_.out HW_.out hHeld ?_ rfl rfl; refine pA 10 56 16 6143 HT_.out ?_ rfl rfl; refine tA 11 57 16 8191 HT_.out HW_.out hHeld ?_ rfl rfl
                 refine oA 13 59 16 16383 HT_.out (fun K hK => ?_) rfl rfl
                 refine goes_ Tryz.func70 (by kernel_rfl) rfl #[.slice A537_0 (rd_L6 l0_3 x23_2).length c537_0, .slice A557_0 (rd_L6 l0_3 (rd x5_2 0)).length c557_0, .slice A1 l1.length c1] (by rfl) rfl rfl eqT ?_
                 (with_reducible refine (impl_CompareMarks.calls kj20 _ _ (rd_L6 l0_3 x23_2) _ _ (rd_L6 l0_3 (rd x5_2 0)) _ _ l1 t558 _ ?side1 ?side2 ?side3 ?side4 ?side5 ?side6 A63.out).mono ?_); (case side1 => exact crT HR537_0.out HB.out); (case side2 => exact HC537_0.out); (case side3 => exact crT HR557_0.out HB.out); (case side4 => exact HC557_0.out); (case side5 => exact crT HR1.out HB.out); (case side6 => exact HC1.out); rintro e w72 ⟨rfl, hb⟩; have HS4_ := (hb.cell (World.block_lt_of_cell? _ _ (hHeld.2.2.2.2.1))).trans (hHeld.2.2.2.2.1); refine ⟨_, rfl, ?_⟩; replace HO_5 := asT (Kd.R_below (roT HO_5.out) hb); replace BK531 := bS BK531 hb; replace HB := hS HB hb; (try clear hb hb2 hk hi)
                 refine hK.out _ _ ⟨bc0 BK531.out, bc1 BK531.out, bc2 BK531.out, bc3 BK531.out, HS4_, (hbc HB.out hw557_0 :)⟩ (fun hHeld => ?_)
                 clear hK K
                 refine nB 59 ?_ rfl; refine pA 14 60 16 32767 HT_.out ?_ rfl rfl; refine pA 15 61 16 65535 HT_.out ?_ rfl rfl
                 refine done_ (done_of HT_.out (by kernel_rfl)) ?_
                 try go_wp2
                 go_roundg kj20
                 case measure => have := HJ2.out; have := HK2.out; have := HJ20.out; omega
                 case rel => exact ⟨(x5_2), (wrap64 (x23_2 + 1)), rdT, H', ⟨by have := HJ2.out; have := HK2.out; have := HJ20.out; omega⟩, ⟨by (with_reducible repeat (first | apply Kd.R_alloc | apply Kd.R_drewN | apply Kd.R_drew)); exact HO_5.out⟩, kpT BK531.out, ⟨hbT HB.out⟩⟩
               ·rw [if_neg c62] at H
                exact absurd H (by simp)
              ·rw [if_neg c61] at H
               exact absurd H (by simp)
             ·rw [if_neg c60] at H
              exact absurd H (by simp)
        ·rw [if_neg c20] at H
         exact absurd H (by simp)
       ·rw [if_neg c19] at H
        exact absurd H (by simp)
      ·rw [if_neg c18] at H
       have c18b0 : decide (x23_2 < (l0_3.length : Int)) = false := df c18
       clear c18
       obtain rfl := oI H
       go_wp2
       go_ret
       exact ⟨_, rlT, by (with_reducible repeat (first | apply Kd.R_alloc | apply Kd.R_drewN | apply Kd.R_drew)); exact HO_5.out, hbT HB.out⟩
def laws_FnExactWinnersOf.f (k : Nat) (a0_0 : ByteArray) (l0_1 : List ByteArray) (l0_2 : List (S96)) (l0_3 : List (List Int)) (l1 : List Int) : Option (Bool) := if (l1.length : Int) > 1048576 then some true else ((laws_szTableau.f k a0_0 l0_1 l0_2 l0_3 1048576).bind fun b1 => (if (b1) < 0 then some true else ((laws_toTableau.f k a0_0 l0_1 l0_2 l0_3).bind fun b2 => ((laws_toIntS.f k l1).bind fun b3 => ((spec_WinnersOf.f k (b2.1) (b2.2.1) (b2.2.2.1) (b2.2.2.2) (b3)).bind fun b4 => ((laws_toTableau.f k a0_0 l0_1 l0_2 l0_3).bind fun b5 => ((laws_toIntS.f k l1).bind fun b6 => ((impl_WinnersOf.f k (b5.1) (b5.2.1) (b5.2.2.1) (b5.2.2.2) (b6)).bind fun b7 => ((laws_eqIntS.f k (b7) (b4)).bind fun b8 => (if (b8) = true then ((laws_toTableau.f k a0_0 l0_1 l0_2 l0_3).bind fun b9 => ((laws_eqTableau.f k (b5.1) (b5.2.1) (b5.2.2.1) (b5.2.2.2) (b9.1) (b9.2.1) (b9.2.2.1) (b9.2.2.2)).bind fun b10 => (if (b10) = true then ((laws_toIntS.f k l1).bind fun b11 => ((laws_eqIntS.f k (b6) (b11)).bind fun b12 => (if (b12) = true then ((laws_markTableau.f k (b5.1) (b5.2.1) (b5.2.2.1) (b5.2.2.2) 1).bind fun b13 => ((laws_markIntS.f k (b6) (b13.1)).bind fun b14 => (if (b14.1) < 0 then none else ((laws_eqIntS.f k (b7) (b4)).bind fun b15 => (if (b15) = true then ((laws_markIntS.f k (b7) 1).bind fun b16 => ((laws_heldIntS.f k (b16.2) 1).bind fun b17 => (if (b17) < 0 then none else (if (b17) = (b16.1) then ((laws_toTableau.f k a0_0 l0_1 l0_2 l0_3).bind fun b18 => ((laws_toIntS.f k l1).bind fun b19 => ((impl_WinnersOf.f k (b18.1) (b18.2.1) (b18.2.2.1) (b18.2.2.2) (b19)).bind fun b20 => ((laws_eqIntS.f k (b20) (b4)).bind fun b21 => (if (b21) = true then ((laws_heldIntS.f k (b16.2) 1).bind fun b22 => (if (b22) < 0 then none else (if (b22) = (b16.1) then (some true) else none))) else none))))) else none)))) else none))))) else none))) else none))) else none))))))))))
theorem laws_FnExactWinnersOf.calls (k : Nat) (a0_0 : ByteArray) (A0_1 : Option Addr) (c0_1 : Nat) (l0_1 : List ByteArray) (A0_2 : Option Addr) (c0_2 : Nat) (l0_2 : List (S96)) (A0_3 : Option Addr) (c0_3 : Nat) (l0_3 : List (List Int)) (A1 : Option Addr) (c1 : Nat) (l1 : List Int) (r : Bool) (w : World) (hr0_1 : Kd.C Kd.string w A0_1 l0_1.length l0_1) (hc0_1 : l0_1.length ≤ c0_1) (hr0_2 : Kd.C k96 w A0_2 l0_2.length l0_2) (hc0_2 : l0_2.length ≤ c0_2) (hr0_3 : Kd.C (Kd.slice 3 (Kd.int .i64)) w A0_3 l0_3.length l0_3) (hc0_3 : l0_3.length ≤ c0_3) (hr1 : Kd.C (Kd.int .i64) w A1 l1.length l1) (hc1 : l1.length ≤ c1) (h : laws_FnExactWinnersOf.f k a0_0 l0_1 l0_2 l0_3 l1 = some r) :
    Calls Tryz.prog 6 #[.agg #[.string a0_0, .slice A0_1 l0_1.length c0_1, .slice A0_2 l0_2.length c0_2, .slice A0_3 l0_3.length c0_3], .slice A1 l1.length c1] w fun e w' => e = .returned (.bool r) ∧ Below w.heap.size w w' := by
  unfold laws_FnExactWinnersOf.f at h
  have HB0 : Aside0 (Below w.heap.size w w) := ⟨Below.refl _ _⟩
  have HR0_1 := asT hr0_1; have HC0_1 := asT hc0_1; clear hr0_1 hc0_1
  have HR0_2 := asT hr0_2; have HC0_2 := asT hc0_2; clear hr0_2 hc0_2
  have HR0_3 := asT hr0_3; have HC0_3 := asT hc0_3; clear hr0_3 hc0_3
  have HR1 := asT hr1; have HC1 := asT hc1; clear hr1 hc1
  by_cases cc : (l1.length : Int) > 1048576
  · rw [if_pos cc] at h
    obtain rfl := oI h
    have cb0 : decide (1048576 < (l1.length : Int)) = true := dt cc
    have cb1 : decide (1048576 < l1.length) = true := dt (by omega)
    clear cc h
    go_enter Tryz.func6, Tryz.ntmps6
    go_wp2_with (first
      | ((with_reducible refine gate_dst (N := 2) rfl ?_); refine boxT (N := 2) (cs := #[.string a0_0, .slice A0_1 l0_1.length c0_1, .slice A0_2 l0_2.length c0_2, .slice A0_3 l0_3.length c0_3]) (t := 37) ?_; intro gb2 hgq w1 hbox hb; have hg2 := asT hgq; have hz1 : Aside0 (w.heap.size ≤ w1.heap.size) := ⟨hb.size⟩; have hZ1 := hz1; have HB1 := asT (below_step HB0.out hb); have BK2 := asT hbox; have hlt2 : Aside0 (gb2 < w1.heap.size) := ⟨blk_lt hbox⟩; clear hb hbox hgq; have hc2_0 := bc0 BK2.out; have hc2_1 := bc1 BK2.out; have hc2_2 := bc2 BK2.out; have hc2_3 := bc3 BK2.out))
    go_ret
    exact ⟨rfl, HB1.out⟩
  · rw [if_neg cc] at h
    have cbl1lengthInt : decide (1048576 < (l1.length : Int)) = false := df cc
    have cbl1lengthIntn : decide (1048576 < l1.length) = false := df (by omega)
    clear cc
    replace h := Option.bind_eq_some_iff.mp h; obtain ⟨t1_0, hf1_, h⟩ := h; have hf1 := asT hf1_; clear hf1_
    by_cases cc : t1_0 < 0
    · rw [if_pos cc] at h
      obtain rfl := oI h
      have cb0 : decide (t1_0 < 0) = true := dt cc
      clear cc h
      go_enter Tryz.func6, Tryz.ntmps6
      go_wp2_with (first
        | (go_at_call 17; refine (laws_szTableau.calls k _ _ _ _ _ _ _ _ _ _ _ _ w1 (Kd.C_below HR0_1.out HB1.out) HC0_1.out (Kd.C_below HR0_2.out HB1.out) HC0_2.out (Kd.C_below HR0_3.out HB1.out) HC0_3.out hf1.out).mono ?_; rintro e w2 ⟨rfl, hb0⟩; have hb : Below w1.heap.size w1 w2 := hb0; clear hb0; have hz2 : Aside0 (w1.heap.size ≤ w2.heap.size) := ⟨hb.size⟩; have hZ2 := asT (And.intro hz2.out hZ1.out); clear hc2_0 hc2_1 hc2_2 hc2_3; replace BK2 := asT (blk_below BK2.out hb); have HB2 := asT (below_step HB1.out hb); clear hb; have hc2_0 := bc0 BK2.out; have hc2_1 := bc1 BK2.out; have hc2_2 := bc2 BK2.out; have hc2_3 := bc3 BK2.out)
        | ((with_reducible refine gate_dst (N := 2) rfl ?_); refine boxT (N := 2) (cs := #[.string a0_0, .slice A0_1 l0_1.length c0_1, .slice A0_2 l0_2.length c0_2, .slice A0_3 l0_3.length c0_3]) (t := 37) ?_; intro gb2 hgq w1 hbox hb; have hg2 := asT hgq; have hz1 : Aside0 (w.heap.size ≤ w1.heap.size) := ⟨hb.size⟩; have hZ1 := hz1; have HB1 := asT (below_step HB0.out hb); have BK2 := asT hbox; have hlt2 : Aside0 (gb2 < w1.heap.size) := ⟨blk_lt hbox⟩; clear hb hbox hgq; have hc2_0 := bc0 BK2.out; have hc2_1 := bc1 BK2.out; have hc2_2 := bc2 BK2.out; have hc2_3 := bc3 BK2.out))
      go_ret
      exact ⟨rfl, HB2.out⟩
    · rw [if_neg cc] at h
      have cbt1_0 : decide (t1_0 < 0) = false := df cc
      clear cc
      replace h := Option.bind_eq_some_iff.mp h; obtain ⟨⟨t2_0, t2_1, t2_2, t2_3⟩, hf2_, h⟩ := h; have hf2 := asT hf2_; clear hf2_; try dsimp only at h
      replace h := Option.bind_eq_some_iff.mp h; obtain ⟨t3_0, hf3_, h⟩ := h; have hf3 := asT hf3_; clear hf3_
      replace h := Option.bind_eq_some_iff.mp h; obtain ⟨t4_0, hf4_, h⟩ := h; have hf4 := asT hf4_; clear hf4_
      replace h := Option.bind_eq_some_iff.mp h; obtain ⟨⟨t5_0, t5_1, t5_2, t5_3⟩, hf5_, h⟩ := h; have hf5 := asT hf5_; clear hf5_; try dsimp only at h
      replace h := Option.bind_eq_some_iff.mp h; obtain ⟨t6_0, hf6_, h⟩ := h; have hf6 := asT hf6_; clear hf6_
      replace h := Option.bind_eq_some_iff.mp h; obtain ⟨t7_0, hf7_, h⟩ := h; have hf7 := asT hf7_; clear hf7_
      replace h := Option.bind_eq_some_iff.mp h; obtain ⟨t8_0, hf8_, h⟩ := h; have hf8 := asT hf8_; clear hf8_
      by_cases cc : t8_0 = true
      rotate_left
      · rw [if_neg cc] at h
        cases h
      rw [if_pos cc] at h
      subst cc
      replace h := Option.bind_eq_some_iff.mp h; obtain ⟨⟨t9_0, t9_1, t9_2, t9_3⟩, hf9_, h⟩ := h; have hf9 := asT hf9_; clear hf9_; try dsimp only at h
      replace h := Option.bind_eq_some_iff.mp h; obtain ⟨t10_0, hf10_, h⟩ := h; have hf10 := asT hf10_; clear hf10_
      by_cases cc : t10_0 = true
      rotate_left
      · rw [if_neg cc] at h
        cases h
      rw [if_pos cc] at h
      subst cc
      replace h := Option.bind_eq_some_iff.mp h; obtain ⟨t11_0, hf11_, h⟩ := h; have hf11 := asT hf11_; clear hf11_
      replace h := Option.bind_eq_some_iff.mp h; obtain ⟨t12_0, hf12_, h⟩ := h; have hf12 := asT hf12_; clear hf12_
      by_cases cc : t12_0 = true
      rotate_left
      · rw [if_neg cc] at h
        cases h
      rw [if_pos cc] at h
      subst cc
      replace h := Option.bind_eq_some_iff.mp h; obtain ⟨⟨t13_0, t13_1, t13_2, t13_3⟩, hf13_, h⟩ := h; have hf13 := asT hf13_; clear hf13_; try dsimp only at h
      replace h := Option.bind_eq_some_iff.mp h; obtain ⟨⟨t14_0, t14_1⟩, hf14_, h⟩ := h; have hf14 := asT hf14_; clear hf14_; try dsimp only at h
      by_cases cc : t14_0 < 0
      · rw [if_pos cc] at h
        cases h
      rw [if_neg cc] at h
      have cbt14_0 : decide (t14_0 < 0) = false := df cc
      clear cc
      replace h := Option.bind_eq_some_iff.mp h; obtain ⟨t15_0, hf15_, h⟩ := h; have hf15 := asT hf15_; clear hf15_
      by_cases cc : t15_0 = true
      rotate_left
      · rw [if_neg cc] at h
        cases h
      rw [if_pos cc] at h
      subst cc
      replace h := Option.bind_eq_some_iff.mp h; obtain ⟨⟨t16_0, t16_1⟩, hf16_, h⟩ := h; have hf16 := asT hf16_; clear hf16_; try dsimp only at h
      replace h := Option.bind_eq_some_iff.mp h; obtain ⟨t17_0, hf17_, h⟩ := h; have hf17 := asT hf17_; clear hf17_
      by_cases cc : t17_0 < 0
      · rw [if_pos cc] at h
        cases h
      rw [if_neg cc] at h
      have cbt17_0 : decide (t17_0 < 0) = false := df cc
      clear cc
      by_cases cc : t17_0 = t16_0
      rotate_left
      · rw [if_neg cc] at h
        cases h
      rw [if_pos cc] at h
      subst cc
      replace h := Option.bind_eq_some_iff.mp h; obtain ⟨⟨t18_0, t18_1, t18_2, t18_3⟩, hf18_, h⟩ := h; have hf18 := asT hf18_; clear hf18_; try dsimp only at h
      replace h := Option.bind_eq_some_iff.mp h; obtain ⟨t19_0, hf19_, h⟩ := h; have hf19 := asT hf19_; clear hf19_
      replace h := Option.bind_eq_some_iff.mp h; obtain ⟨t20_0, hf20_, h⟩ := h; have hf20 := asT hf20_; clear hf20_
      replace h := Option.bind_eq_some_iff.mp h; obtain ⟨t21_0, hf21_, h⟩ := h; have hf21 := asT hf21_; clear hf21_
      by_cases cc : t21_0 = true
      rotate_left
      · rw [if_neg cc] at h
        cases h
      rw [if_pos cc] at h
      subst cc
      replace h := Option.bind_eq_some_iff.mp h; obtain ⟨t22_0, hf22_, h⟩ := h; have hf22 := asT hf22_; clear hf22_
      by_cases cc : t22_0 < 0
      · rw [if_pos cc] at h
        cases h
      rw [if_neg cc] at h
      have cbt22_0 : decide (t22_0 < 0) = false := df cc
      clear cc
      by_cases cc : t22_0 = t17_0
      rotate_left
      · rw [if_neg cc] at h
        cases h
      rw [if_pos cc] at h
      subst cc
      obtain rfl := oI h
      clear h
      go_enter Tryz.func6, Tryz.ntmps6
      go_wp2_with (first
        | (go_at_call 21; refine (laws_eqIntS.calls k _ _ _ _ _ _ _ w10 (Kd.R_reads' L7_v0.out.now).2.2 (Kd.R_reads' L7_v0.out.now).2.1 (Kd.R_reads' L4_v0.out.now).2.2 (Kd.R_reads' L4_v0.out.now).2.1 hf8.out).mono ?_; rintro e w11 ⟨rfl, hb0⟩; have hb : Below w10.heap.size w10 w11 := hb0.below; clear hb0; have hz11 : Aside0 (w10.heap.size ≤ w11.heap.size) := ⟨hb.size⟩; have hZ11 := asT (And.intro hz11.out hZ10.out); replace L2_v1 := asT (L2_v1.out.below hb); replace L2_v2 := asT (L2_v2.out.below hb); replace L2_v3 := asT (L2_v3.out.below hb); replace L3_v0 := asT (L3_v0.out.below hb); replace L4_v0 := asT (L4_v0.out.below hb); replace L5_v1 := asT (L5_v1.out.below hb); replace L5_v2 := asT (L5_v2.out.below hb); replace L5_v3 := asT (L5_v3.out.below hb); replace L6_v0 := asT (L6_v0.out.below hb); replace L7_v0 := asT (L7_v0.out.below hb); clear hc2_0 hc2_1 hc2_2 hc2_3; clear hc7_0 hc7_1 hc7_2 hc7_3; replace BK2 := asT (blk_below BK2.out hb); replace BK7 := asT (blk_below BK7.out hb); have HB11 := asT (below_step HB10.out hb); clear hb; have hc2_0 := bc0 BK2.out; have hc2_1 := bc1 BK2.out; have hc2_2 := bc2 BK2.out; have hc2_3 := bc3 BK2.out; have hc7_0 := bc0 BK7.out; have hc7_1 := bc1 BK7.out; have hc7_2 := bc2 BK7.out; have hc7_3 := bc3 BK7.out)
        | (go_at_call 31; refine (impl_WinnersOf.calls k _ _ _ _ _ _ _ _ _ _ _ _ _ _ w9 (Kd.R_reads' L5_v1.out.now).2.2 (Kd.R_reads' L5_v1.out.now).2.1 (Kd.S_reads' L5_v2.out.now).2.2 (Kd.S_reads' L5_v2.out.now).2.1 (Kd.S_reads' L5_v3.out.now).2.2 (Kd.S_reads' L5_v3.out.now).2.1 (Kd.R_reads' L6_v0.out.now).2.2 (Kd.R_reads' L6_v0.out.now).2.1 hf7.out).mono ?_; rintro e w10 ⟨q7_v0_, rfl, ho0, hb0⟩; have hb : Below w9.heap.size w9 w10 := hb0; clear hb0; have hz10 : Aside0 (w9.heap.size ≤ w10.heap.size) := ⟨hb.size⟩; have hZ10 := asT (And.intro hz10.out hZ9.out); replace L2_v1 := asT (L2_v1.out.below hb); replace L2_v2 := asT (L2_v2.out.below hb); replace L2_v3 := asT (L2_v3.out.below hb); replace L3_v0 := asT (L3_v0.out.below hb); replace L4_v0 := asT (L4_v0.out.below hb); replace L5_v1 := asT (L5_v1.out.below hb); replace L5_v2 := asT (L5_v2.out.below hb); replace L5_v3 := asT (L5_v3.out.below hb); replace L6_v0 := asT (L6_v0.out.below hb); clear hc2_0 hc2_1 hc2_2 hc2_3; clear hc7_0 hc7_1 hc7_2 hc7_3; replace BK2 := asT (blk_below BK2.out hb); replace BK7 := asT (blk_below BK7.out hb); obtain ⟨A7_v0_, c7_v0_, ev⟩ := Kd.R_slice ho0; subst ev; have L7_v0 := asT (made_R ho0 HB9.out.size); have HB10 := asT (below_step HB9.out hb); clear hb ho0; have hc2_0 := bc0 BK2.out; have hc2_1 := bc1 BK2.out; have hc2_2 := bc2 BK2.out; have hc2_3 := bc3 BK2.out; have hc7_0 := bc0 BK7.out; have hc7_1 := bc1 BK7.out; have hc7_2 := bc2 BK7.out; have hc7_3 := bc3 BK7.out)
        | (go_at_call 30; refine (laws_toIntS.calls k _ _ _ _ w8 (Kd.C_below HR1.out HB8.out) HC1.out hf6.out).mono ?_; rintro e w9 ⟨q6_v0_, rfl, ho0, hb0⟩; have hb : Below w8.heap.size w8 w9 := hb0; clear hb0; have hz9 : Aside0 (w8.heap.size ≤ w9.heap.size) := ⟨hb.size⟩; have hZ9 := asT (And.intro hz9.out hZ8.out); replace L2_v1 := asT (L2_v1.out.below hb); replace L2_v2 := asT (L2_v2.out.below hb); replace L2_v3 := asT (L2_v3.out.below hb); replace L3_v0 := asT (L3_v0.out.below hb); replace L4_v0 := asT (L4_v0.out.below hb); replace L5_v1 := asT (L5_v1.out.below hb); replace L5_v2 := asT (L5_v2.out.below hb); replace L5_v3 := asT (L5_v3.out.below hb); clear hc2_0 hc2_1 hc2_2 hc2_3; clear hc7_0 hc7_1 hc7_2 hc7_3; replace BK2 := asT (blk_below BK2.out hb); replace BK7 := asT (blk_below BK7.out hb); obtain ⟨A6_v0_, c6_v0_, ev⟩ := Kd.R_slice ho0; subst ev; have L6_v0 := asT (made_R ho0 HB8.out.size); have HB9 := asT (below_step HB8.out hb); clear hb ho0; have hc2_0 := bc0 BK2.out; have hc2_1 := bc1 BK2.out; have hc2_2 := bc2 BK2.out; have hc2_3 := bc3 BK2.out; have hc7_0 := bc0 BK7.out; have hc7_1 := bc1 BK7.out; have hc7_2 := bc2 BK7.out; have hc7_3 := bc3 BK7.out)
        | ((with_reducible refine gate_store (t := 27) (p := 7) rfl ?_); refine store_event (t := 27) (p := 7) (v := .tmp 28) (w1 := ((((w7.setCell ⟨gb7, 0, none⟩ (.string t5_0)).setCell ⟨gb7, 1, none⟩ (.slice A5_v1_ t5_1.length c5_v1_)).setCell ⟨gb7, 2, none⟩ (.slice A5_v2_ t5_2.length c5_v2_)).setCell ⟨gb7, 3, none⟩ (.slice A5_v3_ t5_3.length c5_v3_))) ?hg ?ho ?hn ?hr ?_; (case ho => rfl); (case hg => rfl); (case hn => rfl); (case hr => first | (go_simp; done) | (go_simp; rfl)); intro w8 hw; have hz8 : Aside0 (w7.heap.size ≤ w8.heap.size) := ⟨by rw [hw]; simp only [size_set]; exact Nat.le_refl _⟩; have hZ8 := asT (And.intro hz8.out hZ7.out); clear hc2_0 hc2_1 hc2_2 hc2_3; clear hc7_0 hc7_1 hc7_2 hc7_3; clear hf7_0 hf7_1 hf7_2 hf7_3; replace L2_v1 := asT ((Live.set (g := gb7) (j := 3) ((Live.set (g := gb7) (j := 2) ((Live.set (g := gb7) (j := 1) ((Live.set (g := gb7) (j := 0) (L2_v1.out) (by have := hZ7.out; have := hg2.out; have := hlt2.out; have := hg7.out; have := hlt7.out; first | exact .inl (by omega) | exact .inr (by omega)) (.string t5_0))) (by have := hZ7.out; have := hg2.out; have := hlt2.out; have := hg7.out; have := hlt7.out; first | exact .inl (by omega) | exact .inr (by omega)) (.slice A5_v1_ t5_1.length c5_v1_))) (by have := hZ7.out; have := hg2.out; have := hlt2.out; have := hg7.out; have := hlt7.out; first | exact .inl (by omega) | exact .inr (by omega)) (.slice A5_v2_ t5_2.length c5_v2_))) (by have := hZ7.out; have := hg2.out; have := hlt2.out; have := hg7.out; have := hlt7.out; first | exact .inl (by omega) | exact .inr (by omega)) (.slice A5_v3_ t5_3.length c5_v3_))); rw [← hw] at L2_v1; replace L2_v2 := asT ((Live.set (g := gb7) (j := 3) ((Live.set (g := gb7) (j := 2) ((Live.set (g := gb7) (j := 1) ((Live.set (g := gb7) (j := 0) (L2_v2.out) (by have := hZ7.out; have := hg2.out; have := hlt2.out; have := hg7.out; have := hlt7.out; first | exact .inl (by omega) | exact .inr (by omega)) (.string t5_0))) (by have := hZ7.out; have := hg2.out; have := hlt2.out; have := hg7.out; have := hlt7.out; first | exact .inl (by omega) | exact .inr (by omega)) (.slice A5_v1_ t5_1.length c5_v1_))) (by have := hZ7.out; have := hg2.out; have := hlt2.out; have := hg7.out; have := hlt7.out; first | exact .inl (by omega) | exact .inr (by omega)) (.slice A5_v2_ t5_2.length c5_v2_))) (by have := hZ7.out; have := hg2.out; have := hlt2.out; have := hg7.out; have := hlt7.out; first | exact .inl (by omega) | exact .inr (by omega)) (.slice A5_v3_ t5_3.length c5_v3_))); rw [← hw] at L2_v2; replace L2_v3 := asT ((Live.set (g := gb7) (j := 3) ((Live.set (g := gb7) (j := 2) ((Live.set (g := gb7) (j := 1) ((Live.set (g := gb7) (j := 0) (L2_v3.out) (by have := hZ7.out; have := hg2.out; have := hlt2.out; have := hg7.out; have := hlt7.out; first | exact .inl (by omega) | exact .inr (by omega)) (.string t5_0))) (by have := hZ7.out; have := hg2.out; have := hlt2.out; have := hg7.out; have := hlt7.out; first | exact .inl (by omega) | exact .inr (by omega)) (.slice A5_v1_ t5_1.length c5_v1_))) (by have := hZ7.out; have := hg2.out; have := hlt2.out; have := hg7.out; have := hlt7.out; first | exact .inl (by omega) | exact .inr (by omega)) (.slice A5_v2_ t5_2.length c5_v2_))) (by have := hZ7.out; have := hg2.out; have := hlt2.out; have := hg7.out; have := hlt7.out; first | exact .inl (by omega) | exact .inr (by omega)) (.slice A5_v3_ t5_3.length c5_v3_))); rw [← hw] at L2_v3; replace L3_v0 := asT ((Live.set (g := gb7) (j := 3) ((Live.set (g := gb7) (j := 2) ((Live.set (g := gb7) (j := 1) ((Live.set (g := gb7) (j := 0) (L3_v0.out) (by have := hZ7.out; have := hg2.out; have := hlt2.out; have := hg7.out; have := hlt7.out; first | exact .inl (by omega) | exact .inr (by omega)) (.string t5_0))) (by have := hZ7.out; have := hg2.out; have := hlt2.out; have := hg7.out; have := hlt7.out; first | exact .inl (by omega) | exact .inr (by omega)) (.slice A5_v1_ t5_1.length c5_v1_))) (by have := hZ7.out; have := hg2.out; have := hlt2.out; have := hg7.out; have := hlt7.out; first | exact .inl (by omega) | exact .inr (by omega)) (.slice A5_v2_ t5_2.length c5_v2_))) (by have := hZ7.out; have := hg2.out; have := hlt2.out; have := hg7.out; have := hlt7.out; first | exact .inl (by omega) | exact .inr (by omega)) (.slice A5_v3_ t5_3.length c5_v3_))); rw [← hw] at L3_v0; replace L4_v0 := asT ((Live.set (g := gb7) (j := 3) ((Live.set (g := gb7) (j := 2) ((Live.set (g := gb7) (j := 1) ((Live.set (g := gb7) (j := 0) (L4_v0.out) (by have := hZ7.out; have := hg2.out; have := hlt2.out; have := hg7.out; have := hlt7.out; first | exact .inl (by omega) | exact .inr (by omega)) (.string t5_0))) (by have := hZ7.out; have := hg2.out; have := hlt2.out; have := hg7.out; have := hlt7.out; first | exact .inl (by omega) | exact .inr (by omega)) (.slice A5_v1_ t5_1.length c5_v1_))) (by have := hZ7.out; have := hg2.out; have := hlt2.out; have := hg7.out; have := hlt7.out; first | exact .inl (by omega) | exact .inr (by omega)) (.slice A5_v2_ t5_2.length c5_v2_))) (by have := hZ7.out; have := hg2.out; have := hlt2.out; have := hg7.out; have := hlt7.out; first | exact .inl (by omega) | exact .inr (by omega)) (.slice A5_v3_ t5_3.length c5_v3_))); rw [← hw] at L4_v0; replace L5_v1 := asT ((Live.set (g := gb7) (j := 3) ((Live.set (g := gb7) (j := 2) ((Live.set (g := gb7) (j := 1) ((Live.set (g := gb7) (j := 0) (L5_v1.out) (by have := hZ7.out; have := hg2.out; have := hlt2.out; have := hg7.out; have := hlt7.out; first | exact .inl (by omega) | exact .inr (by omega)) (.string t5_0))) (by have := hZ7.out; have := hg2.out; have := hlt2.out; have := hg7.out; have := hlt7.out; first | exact .inl (by omega) | exact .inr (by omega)) (.slice A5_v1_ t5_1.length c5_v1_))) (by have := hZ7.out; have := hg2.out; have := hlt2.out; have := hg7.out; have := hlt7.out; first | exact .inl (by omega) | exact .inr (by omega)) (.slice A5_v2_ t5_2.length c5_v2_))) (by have := hZ7.out; have := hg2.out; have := hlt2.out; have := hg7.out; have := hlt7.out; first | exact .inl (by omega) | exact .inr (by omega)) (.slice A5_v3_ t5_3.length c5_v3_))); rw [← hw] at L5_v1; replace L5_v2 := asT ((Live.set (g := gb7) (j := 3) ((Live.set (g := gb7) (j := 2) ((Live.set (g := gb7) (j := 1) ((Live.set (g := gb7) (j := 0) (L5_v2.out) (by have := hZ7.out; have := hg2.out; have := hlt2.out; have := hg7.out; have := hlt7.out; first | exact .inl (by omega) | exact .inr (by omega)) (.string t5_0))) (by have := hZ7.out; have := hg2.out; have := hlt2.out; have := hg7.out; have := hlt7.out; first | exact .inl (by omega) | exact .inr (by omega)) (.slice A5_v1_ t5_1.length c5_v1_))) (by have := hZ7.out; have := hg2.out; have := hlt2.out; have := hg7.out; have := hlt7.out; first | exact .inl (by omega) | exact .inr (by omega)) (.slice A5_v2_ t5_2.length c5_v2_))) (by have := hZ7.out; have := hg2.out; have := hlt2.out; have := hg7.out; have := hlt7.out; first | exact .inl (by omega) | exact .inr (by omega)) (.slice A5_v3_ t5_3.length c5_v3_))); rw [← hw] at L5_v2; replace L5_v3 := asT ((Live.set (g := gb7) (j := 3) ((Live.set (g := gb7) (j := 2) ((Live.set (g := gb7) (j := 1) ((Live.set (g := gb7) (j := 0) (L5_v3.out) (by have := hZ7.out; have := hg2.out; have := hlt2.out; have := hg7.out; have := hlt7.out; first | exact .inl (by omega) | exact .inr (by omega)) (.string t5_0))) (by have := hZ7.out; have := hg2.out; have := hlt2.out; have := hg7.out; have := hlt7.out; first | exact .inl (by omega) | exact .inr (by omega)) (.slice A5_v1_ t5_1.length c5_v1_))) (by have := hZ7.out; have := hg2.out; have := hlt2.out; have := hg7.out; have := hlt7.out; first | exact .inl (by omega) | exact .inr (by omega)) (.slice A5_v2_ t5_2.length c5_v2_))) (by have := hZ7.out; have := hg2.out; have := hlt2.out; have := hg7.out; have := hlt7.out; first | exact .inl (by omega) | exact .inr (by omega)) (.slice A5_v3_ t5_3.length c5_v3_))); rw [← hw] at L5_v3; replace BK2 := asT ((blk_far (p := ⟨gb7, 3, none⟩) ((blk_far (p := ⟨gb7, 2, none⟩) ((blk_far (p := ⟨gb7, 1, none⟩) ((blk_far (p := ⟨gb7, 0, none⟩) (BK2.out) (by have := hZ7.out; have := hg2.out; have := hlt2.out; have := hg7.out; have := hlt7.out; show gb2 ≠ gb7; omega) (.string t5_0))) (by have := hZ7.out; have := hg2.out; have := hlt2.out; have := hg7.out; have := hlt7.out; show gb2 ≠ gb7; omega) (.slice A5_v1_ t5_1.length c5_v1_))) (by have := hZ7.out; have := hg2.out; have := hlt2.out; have := hg7.out; have := hlt7.out; show gb2 ≠ gb7; omega) (.slice A5_v2_ t5_2.length c5_v2_))) (by have := hZ7.out; have := hg2.out; have := hlt2.out; have := hg7.out; have := hlt7.out; show gb2 ≠ gb7; omega) (.slice A5_v3_ t5_3.length c5_v3_))); rw [← hw] at BK2; have BKn : Aside0 (w8.heap[gb7]? = some (.cells #[.string t5_0, .slice A5_v1_ t5_1.length c5_v1_, .slice A5_v2_ t5_2.length c5_v2_, .slice A5_v3_ t5_3.length c5_v3_] 27 (0, 0))) := (by rw [hw]; exact asT ((blk_put ((blk_put ((blk_put ((blk_put (BK7.out) 0 _ rfl)) 1 _ rfl)) 2 _ rfl)) 3 _ rfl))); clear BK7; have BK7 := BKn; clear BKn; have HB8 : Aside0 (Below w.heap.size w w8) := (by rw [hw]; exact asT ((Below.setCell (p := ⟨gb7, 3, none⟩) ((Below.setCell (p := ⟨gb7, 2, none⟩) ((Below.setCell (p := ⟨gb7, 1, none⟩) ((Below.setCell (p := ⟨gb7, 0, none⟩) (HB7.out) (by have := hZ7.out; have := hg2.out; have := hlt2.out; have := hg7.out; have := hlt7.out; show w.heap.size ≤ gb7; omega) _)) (by have := hZ7.out; have := hg2.out; have := hlt2.out; have := hg7.out; have := hlt7.out; show w.heap.size ≤ gb7; omega) _)) (by have := hZ7.out; have := hg2.out; have := hlt2.out; have := hg7.out; have := hlt7.out; show w.heap.size ≤ gb7; omega) _)) (by have := hZ7.out; have := hg2.out; have := hlt2.out; have := hg7.out; have := hlt7.out; show w.heap.size ≤ gb7; omega) _))); clear hw; have hc2_0 := bc0 BK2.out; have hc2_1 := bc1 BK2.out; have hc2_2 := bc2 BK2.out; have hc2_3 := bc3 BK2.out; have hc7_0 := bc0 BK7.out; have hc7_1 := bc1 BK7.out; have hc7_2 := bc2 BK7.out; have hc7_3 := bc3 BK7.out)
        | ((with_reducible refine gate_dst (N := 7) rfl ?_); refine boxT (N := 7) (cs := #[.string ByteArray.empty, .slice none 0 0, .slice none 0 0, .slice none 0 0]) (t := 27) ?_; intro gb7 hgq w7 hbox hb; have hg7 := asT hgq; have hz7 : Aside0 (w6.heap.size ≤ w7.heap.size) := ⟨hb.size⟩; have hZ7 := asT (And.intro hz7.out hZ6.out); clear hc2_0 hc2_1 hc2_2 hc2_3; replace L2_v1 := asT (L2_v1.out.below hb); replace L2_v2 := asT (L2_v2.out.below hb); replace L2_v3 := asT (L2_v3.out.below hb); replace L3_v0 := asT (L3_v0.out.below hb); replace L4_v0 := asT (L4_v0.out.below hb); replace L5_v1 := asT (L5_v1.out.below hb); replace L5_v2 := asT (L5_v2.out.below hb); replace L5_v3 := asT (L5_v3.out.below hb); replace BK2 := asT (blk_below BK2.out hb); have HB7 := asT (below_step HB6.out hb); have BK7 := asT hbox; have hlt7 : Aside0 (gb7 < w7.heap.size) := ⟨blk_lt hbox⟩; clear hb hbox hgq; have hc2_0 := bc0 BK2.out; have hc2_1 := bc1 BK2.out; have hc2_2 := bc2 BK2.out; have hc2_3 := bc3 BK2.out; have hc7_0 := bc0 BK7.out; have hc7_1 := bc1 BK7.out; have hc7_2 := bc2 BK7.out; have hc7_3 := bc3 BK7.out; have hf7_0 := blk_frozen BK7.out 0; have hf7_1 := blk_frozen BK7.out 1; have hf7_2 := blk_frozen BK7.out 2; have hf7_3 := blk_frozen BK7.out 3)
        | (go_at_call 19; refine (laws_toTableau.calls k _ _ _ _ _ _ _ _ _ _ _ _ _ _ w5 (Kd.C_below HR0_1.out HB5.out) HC0_1.out (Kd.C_below HR0_2.out HB5.out) HC0_2.out (Kd.C_below HR0_3.out HB5.out) HC0_3.out hf5.out).mono ?_; rintro e w6 ⟨q5_v1_, q5_v2_, q5_v3_, rfl, ho0, ho1, ho2, hb0⟩; have hb : Below w5.heap.size w5 w6 := hb0; clear hb0; have hz6 : Aside0 (w5.heap.size ≤ w6.heap.size) := ⟨hb.size⟩; have hZ6 := asT (And.intro hz6.out hZ5.out); replace L2_v1 := asT (L2_v1.out.below hb); replace L2_v2 := asT (L2_v2.out.below hb); replace L2_v3 := asT (L2_v3.out.below hb); replace L3_v0 := asT (L3_v0.out.below hb); replace L4_v0 := asT (L4_v0.out.below hb); clear hc2_0 hc2_1 hc2_2 hc2_3; replace BK2 := asT (blk_below BK2.out hb); obtain ⟨A5_v1_, c5_v1_, ev⟩ := Kd.R_slice ho0; subst ev; have L5_v1 := asT (made_R ho0 HB5.out.size); obtain ⟨A5_v2_, c5_v2_, ev⟩ := Kd.S_slice ho1; subst ev; have L5_v2 := asT (made_S ho1 HB5.out.size); obtain ⟨A5_v3_, c5_v3_, ev⟩ := Kd.S_slice ho2; subst ev; have L5_v3 := asT (made_S ho2 HB5.out.size); have HB6 := asT (below_step HB5.out hb); clear hb ho0 ho1 ho2; have hc2_0 := bc0 BK2.out; have hc2_1 := bc1 BK2.out; have hc2_2 := bc2 BK2.out; have hc2_3 := bc3 BK2.out)
        | (go_at_call 29; refine (spec_WinnersOf.calls k _ _ _ _ _ _ _ _ _ _ _ _ _ _ w4 (Kd.R_reads' L2_v1.out.now).2.2 (Kd.R_reads' L2_v1.out.now).2.1 (Kd.S_reads' L2_v2.out.now).2.2 (Kd.S_reads' L2_v2.out.now).2.1 (Kd.S_reads' L2_v3.out.now).2.2 (Kd.S_reads' L2_v3.out.now).2.1 (Kd.R_reads' L3_v0.out.now).2.2 (Kd.R_reads' L3_v0.out.now).2.1 hf4.out).mono ?_; rintro e w5 ⟨q4_v0_, rfl, ho0, hb0⟩; have hb : Below w4.heap.size w4 w5 := hb0; clear hb0; have hz5 : Aside0 (w4.heap.size ≤ w5.heap.size) := ⟨hb.size⟩; have hZ5 := asT (And.intro hz5.out hZ4.out); replace L2_v1 := asT (L2_v1.out.below hb); replace L2_v2 := asT (L2_v2.out.below hb); replace L2_v3 := asT (L2_v3.out.below hb); replace L3_v0 := asT (L3_v0.out.below hb); clear hc2_0 hc2_1 hc2_2 hc2_3; replace BK2 := asT (blk_below BK2.out hb); obtain ⟨A4_v0_, c4_v0_, ev⟩ := Kd.R_slice ho0; subst ev; have L4_v0 := asT (made_R ho0 HB4.out.size); have HB5 := asT (below_step HB4.out hb); clear hb ho0; have hc2_0 := bc0 BK2.out; have hc2_1 := bc1 BK2.out; have hc2_2 := bc2 BK2.out; have hc2_3 := bc3 BK2.out)
        | (go_at_call 30; refine (laws_toIntS.calls k _ _ _ _ w3 (Kd.C_below HR1.out HB3.out) HC1.out hf3.out).mono ?_; rintro e w4 ⟨q3_v0_, rfl, ho0, hb0⟩; have hb : Below w3.heap.size w3 w4 := hb0; clear hb0; have hz4 : Aside0 (w3.heap.size ≤ w4.heap.size) := ⟨hb.size⟩; have hZ4 := asT (And.intro hz4.out hZ3.out); replace L2_v1 := asT (L2_v1.out.below hb); replace L2_v2 := asT (L2_v2.out.below hb); replace L2_v3 := asT (L2_v3.out.below hb); clear hc2_0 hc2_1 hc2_2 hc2_3; replace BK2 := asT (blk_below BK2.out hb); obtain ⟨A3_v0_, c3_v0_, ev⟩ := Kd.R_slice ho0; subst ev; have L3_v0 := asT (made_R ho0 HB3.out.size); have HB4 := asT (below_step HB3.out hb); clear hb ho0; have hc2_0 := bc0 BK2.out; have hc2_1 := bc1 BK2.out; have hc2_2 := bc2 BK2.out; have hc2_3 := bc3 BK2.out)
        | (go_at_call 19; refine (laws_toTableau.calls k _ _ _ _ _ _ _ _ _ _ _ _ _ _ w2 (Kd.C_below HR0_1.out HB2.out) HC0_1.out (Kd.C_below HR0_2.out HB2.out) HC0_2.out (Kd.C_below HR0_3.out HB2.out) HC0_3.out hf2.out).mono ?_; rintro e w3 ⟨q2_v1_, q2_v2_, q2_v3_, rfl, ho0, ho1, ho2, hb0⟩; have hb : Below w2.heap.size w2 w3 := hb0; clear hb0; have hz3 : Aside0 (w2.heap.size ≤ w3.heap.size) := ⟨hb.size⟩; have hZ3 := asT (And.intro hz3.out hZ2.out); clear hc2_0 hc2_1 hc2_2 hc2_3; replace BK2 := asT (blk_below BK2.out hb); obtain ⟨A2_v1_, c2_v1_, ev⟩ := Kd.R_slice ho0; subst ev; have L2_v1 := asT (made_R ho0 HB2.out.size); obtain ⟨A2_v2_, c2_v2_, ev⟩ := Kd.S_slice ho1; subst ev; have L2_v2 := asT (made_S ho1 HB2.out.size); obtain ⟨A2_v3_, c2_v3_, ev⟩ := Kd.S_slice ho2; subst ev; have L2_v3 := asT (made_S ho2 HB2.out.size); have HB3 := asT (below_step HB2.out hb); clear hb ho0 ho1 ho2; have hc2_0 := bc0 BK2.out; have hc2_1 := bc1 BK2.out; have hc2_2 := bc2 BK2.out; have hc2_3 := bc3 BK2.out)
        | (go_at_call 17; refine (laws_szTableau.calls k _ _ _ _ _ _ _ _ _ _ _ _ w1 (Kd.C_below HR0_1.out HB1.out) HC0_1.out (Kd.C_below HR0_2.out HB1.out) HC0_2.out (Kd.C_below HR0_3.out HB1.out) HC0_3.out hf1.out).mono ?_; rintro e w2 ⟨rfl, hb0⟩; have hb : Below w1.heap.size w1 w2 := hb0; clear hb0; have hz2 : Aside0 (w1.heap.size ≤ w2.heap.size) := ⟨hb.size⟩; have hZ2 := asT (And.intro hz2.out hZ1.out); clear hc2_0 hc2_1 hc2_2 hc2_3; replace BK2 := asT (blk_below BK2.out hb); have HB2 := asT (below_step HB1.out hb); clear hb; have hc2_0 := bc0 BK2.out; have hc2_1 := bc1 BK2.out; have hc2_2 := bc2 BK2.out; have hc2_3 := bc3 BK2.out)
        | ((with_reducible refine gate_dst (N := 2) rfl ?_); refine boxT (N := 2) (cs := #[.string a0_0, .slice A0_1 l0_1.length c0_1, .slice A0_2 l0_2.length c0_2, .slice A0_3 l0_3.length c0_3]) (t := 37) ?_; intro gb2 hgq w1 hbox hb; have hg2 := asT hgq; have hz1 : Aside0 (w.heap.size ≤ w1.heap.size) := ⟨hb.size⟩; have hZ1 := hz1; have HB1 := asT (below_step HB0.out hb); have BK2 := asT hbox; have hlt2 : Aside0 (gb2 < w1.heap.size) := ⟨blk_lt hbox⟩; clear hb hbox hgq; have hc2_0 := bc0 BK2.out; have hc2_1 := bc1 BK2.out; have hc2_2 := bc2 BK2.out; have hc2_3 := bc3 BK2.out))
      clear hc2_0 hc2_1 hc2_2 hc2_3; clear hc7_0 hc7_1 hc7_2 hc7_3
      have hb := below_drew1 (Below.refl w11.heap.size w11); have hz12 : Aside0 (w11.heap.size ≤ w11.drew.heap.size) := ⟨hb.size⟩; have hZ12 := asT (And.intro hz12.out hZ11.out); replace L2_v1 := asT (L2_v1.out.below hb); replace L2_v2 := asT (L2_v2.out.below hb); replace L2_v3 := asT (L2_v3.out.below hb); replace L3_v0 := asT (L3_v0.out.below hb); replace L4_v0 := asT (L4_v0.out.below hb); replace L5_v1 := asT (L5_v1.out.below hb); replace L5_v2 := asT (L5_v2.out.below hb); replace L5_v3 := asT (L5_v3.out.below hb); replace L6_v0 := asT (L6_v0.out.below hb); replace L7_v0 := asT (L7_v0.out.below hb); replace BK2 := asT (blk_below BK2.out hb); replace BK7 := asT (blk_below BK7.out hb); have HB12 := asT (below_drew1 HB11.out); clear hb
      refine start_ (n := 5) (S := fun w' => w'.cell? ⟨gb7, 0, none⟩ = some (.string t5_0) ∧ w'.cell? ⟨gb7, 1, none⟩ = some (.slice A5_v1_ t5_1.length c5_v1_) ∧ w'.cell? ⟨gb7, 2, none⟩ = some (.slice A5_v2_ t5_2.length c5_v2_) ∧ w'.cell? ⟨gb7, 3, none⟩ = some (.slice A5_v3_ t5_3.length c5_v3_) ∧ w'.cell? ⟨gb2, 0, none⟩ = some (.string a0_0) ∧ w'.cell? ⟨gb2, 1, none⟩ = some (.slice A0_1 l0_1.length c0_1) ∧ w'.cell? ⟨gb2, 2, none⟩ = some (.slice A0_2 l0_2.length c0_2) ∧ w'.cell? ⟨gb2, 3, none⟩ = some (.slice A0_3 l0_3.length c0_3)) (ds := []) #[false, false, false, false, false] (by kernel_rfl) rfl rfl ⟨bc0 BK7.out, bc1 BK7.out, bc2 BK7.out, bc3 BK7.out, bc0 BK2.out, bc1 BK2.out, bc2 BK2.out, bc3 BK2.out⟩ (fun hHeld => ?_)
      generalize w11.drew = w12 at L2_v1 L2_v2 L2_v3 L3_v0 L4_v0 L5_v1 L5_v2 L5_v3 L6_v0 L7_v0 BK2 BK7 HB12 hz12 hZ12 hHeld ⊢
      refine take_ (i := 0) (N := some 38) (v := ?_) (a' := ?_) #[true, false, false, false, false] rfl rfl (by kernel_rfl) (fun _ _ _ h => h) (Or.inl ⟨by rfl, ?_⟩) hHeld ?_ ?_
      rotate_left
      · rintro w' ⟨s0, s1, s2, s3, s4, s5, s6, s7⟩
        go_simp
        (with_reducible rfl)
      rotate_left
      · simp only [Act.put, sA, sZ, sS, i64_w, i32_w]
        rfl
      refine take_ (i := 1) (N := some 39) (v := ?_) (a' := ?_) #[true, true, false, false, false] rfl rfl (by kernel_rfl) (fun _ _ _ h => h) (Or.inl ⟨by rfl, ?_⟩) hHeld ?_ ?_
      rotate_left
      · rintro w' ⟨s0, s1, s2, s3, s4, s5, s6, s7⟩
        go_simp
        (with_reducible rfl)
      rotate_left
      · simp only [Act.put, sA, sZ, sS, i64_w, i32_w]
        rfl
      refine one_ (i := 2) (N := some 40) #[true, true, true, false, false] rfl rfl (by kernel_rfl) (by decide) (fun K hK => ?_)
      refine goes_ Tryz.func19 (by kernel_rfl) rfl #[.agg #[.string a0_0, .slice A0_1 l0_1.length c0_1, .slice A0_2 l0_2.length c0_2, .slice A0_3 l0_3.length c0_3]] (by rfl) rfl rfl eqT ?_
      refine (laws_toTableau.calls k _ _ _ _ _ _ _ _ _ _ _ _ _ _ w12 (Kd.C_below HR0_1.out HB12.out) HC0_1.out (Kd.C_below HR0_2.out HB12.out) HC0_2.out (Kd.C_below HR0_3.out HB12.out) HC0_3.out hf9.out).mono ?_; rintro e w13 ⟨q9_v1_, q9_v2_, q9_v3_, rfl, ho0, ho1, ho2, hb0⟩; refine ⟨_, rfl, ?_⟩; have hb : Below w12.heap.size w12 w13 := hb0; clear hb0; have hz13 : Aside0 (w12.heap.size ≤ w13.heap.size) := ⟨hb.size⟩; have hZ13 := asT (And.intro hz13.out hZ12.out); replace L2_v1 := asT (L2_v1.out.below hb); replace L2_v2 := asT (L2_v2.out.below hb); replace L2_v3 := asT (L2_v3.out.below hb); replace L3_v0 := asT (L3_v0.out.below hb); replace L4_v0 := asT (L4_v0.out.below hb); replace L5_v1 := asT (L5_v1.out.below hb); replace L5_v2 := asT (L5_v2.out.below hb); replace L5_v3 := asT (L5_v3.out.below hb); replace L6_v0 := asT (L6_v0.out.below hb); replace L7_v0 := asT (L7_v0.out.below hb); replace BK2 := asT (blk_below BK2.out hb); replace BK7 := asT (blk_below BK7.out hb); obtain ⟨A9_v1_, c9_v1_, ev⟩ := Kd.R_slice ho0; subst ev; have L9_v1 := asT (made_R ho0 HB12.out.size); obtain ⟨A9_v2_, c9_v2_, ev⟩ := Kd.S_slice ho1; subst ev; have L9_v2 := asT (made_S ho1 HB12.out.size); obtain ⟨A9_v3_, c9_v3_, ev⟩ := Kd.S_slice ho2; subst ev; have L9_v3 := asT (made_S ho2 HB12.out.size); have HB13 := asT (below_step HB12.out hb); clear hb ho0 ho1 ho2
      refine hK.out _ _ ⟨bc0 BK7.out, bc1 BK7.out, bc2 BK7.out, bc3 BK7.out, bc0 BK2.out, bc1 BK2.out, bc2 BK2.out, bc3 BK2.out⟩ (fun hHeld => ?_)
      clear hK K
      refine nB 40 ?_ rfl
      refine one_ (i := 3) (N := some 41) #[true, true, true, true, false] rfl rfl (by kernel_rfl) (by decide) (fun K hK => ?_)
      refine goes_ Tryz.func12 (by kernel_rfl) rfl #[.agg #[.string t5_0, .slice A5_v1_ t5_1.length c5_v1_, .slice A5_v2_ t5_2.length c5_v2_, .slice A5_v3_ t5_3.length c5_v3_], .agg #[.string t9_0, .slice A9_v1_ t9_1.length c9_v1_, .slice A9_v2_ t9_2.length c9_v2_, .slice A9_v3_ t9_3.length c9_v3_]] (by rfl) rfl rfl eqT ?_
      refine (laws_eqTableau.calls k _ _ _ _ _ _ _ _ _ _ _ _ _ _ _ _ _ _ _ _ _ w13 (Kd.R_reads' L5_v1.out.now).2.2 (Kd.R_reads' L5_v1.out.now).2.1 (Kd.S_reads' L5_v2.out.now).2.2 (Kd.S_reads' L5_v2.out.now).2.1 (Kd.S_reads' L5_v3.out.now).2.2 (Kd.S_reads' L5_v3.out.now).2.1 (Kd.R_reads' L9_v1.out.now).2.2 (Kd.R_reads' L9_v1.out.now).2.1 (Kd.S_reads' L9_v2.out.now).2.2 (Kd.S_reads' L9_v2.out.now).2.1 (Kd.S_reads' L9_v3.out.now).2.2 (Kd.S_reads' L9_v3.out.now).2.1 hf10.out).mono ?_; rintro e w14 ⟨rfl, hb0⟩; refine ⟨_, rfl, ?_⟩; have hb : Below w13.heap.size w13 w14 := hb0; clear hb0; have hz14 : Aside0 (w13.heap.size ≤ w14.heap.size) := ⟨hb.size⟩; have hZ14 := asT (And.intro hz14.out hZ13.out); replace L2_v1 := asT (L2_v1.out.below hb); replace L2_v2 := asT (L2_v2.out.below hb); replace L2_v3 := asT (L2_v3.out.below hb); replace L3_v0 := asT (L3_v0.out.below hb); replace L4_v0 := asT (L4_v0.out.below hb); replace L5_v1 := asT (L5_v1.out.below hb); replace L5_v2 := asT (L5_v2.out.below hb); replace L5_v3 := asT (L5_v3.out.below hb); replace L6_v0 := asT (L6_v0.out.below hb); replace L7_v0 := asT (L7_v0.out.below hb); replace L9_v1 := asT (L9_v1.out.below hb); replace L9_v2 := asT (L9_v2.out.below hb); replace L9_v3 := asT (L9_v3.out.below hb); replace BK2 := asT (blk_below BK2.out hb); replace BK7 := asT (blk_below BK7.out hb); have HB14 := asT (below_step HB13.out hb); clear hb
      refine hK.out _ _ ⟨bc0 BK7.out, bc1 BK7.out, bc2 BK7.out, bc3 BK7.out, bc0 BK2.out, bc1 BK2.out, bc2 BK2.out, bc3 BK2.out⟩ (fun hHeld => ?_)
      clear hK K
      refine nB 41 ?_ rfl
      refine pure_ (i := 4) (N := some 42) (v := ?_) (a' := ?_) #[true, true, true, true, true] rfl rfl (by kernel_rfl) (fun _ _ _ h => h) (Or.inl ⟨by rfl, ?_⟩) ?_ ?_
      rotate_left
      · intro w'
        go_simp
        (with_reducible rfl)
      rotate_left
      · simp only [Act.put, sA, sZ, sS, i64_w, i32_w]
        rfl
      refine done_ (by kernel_rfl) ?_
      have hc2_0 := bc0 BK2.out; have hc2_1 := bc1 BK2.out; have hc2_2 := bc2 BK2.out; have hc2_3 := bc3 BK2.out; have hc7_0 := bc0 BK7.out; have hc7_1 := bc1 BK7.out; have hc7_2 := bc2 BK7.out; have hc7_3 := bc3 BK7.out
      go_wp2_with (first
        | (go_at_call 23; refine (laws_heldIntS.calls k _ _ _ _ _ w25 (Kd.R_reads' L7_v0.out.now).2.2 (Kd.R_reads' L7_v0.out.now).2.1 hf22.out).mono ?_; rintro e w26 ⟨rfl, hb0⟩; have hb : Below w25.heap.size w25 w26 := hb0.below; clear hb0; have hz26 : Aside0 (w25.heap.size ≤ w26.heap.size) := ⟨hb.size⟩; have hZ26 := asT (And.intro hz26.out hZ25.out); replace L2_v1 := asT (L2_v1.out.below hb); replace L2_v2 := asT (L2_v2.out.below hb); replace L2_v3 := asT (L2_v3.out.below hb); replace L3_v0 := asT (L3_v0.out.below hb); replace L4_v0 := asT (L4_v0.out.below hb); replace L5_v1 := asT (L5_v1.out.below hb); replace L5_v2 := asT (L5_v2.out.below hb); replace L5_v3 := asT (L5_v3.out.below hb); replace L6_v0 := asT (L6_v0.out.below hb); replace L7_v0 := asT (L7_v0.out.below hb); replace L9_v1 := asT (L9_v1.out.below hb); replace L9_v2 := asT (L9_v2.out.below hb); replace L9_v3 := asT (L9_v3.out.below hb); replace L11_v0 := asT (L11_v0.out.below hb); replace L18_v1 := asT (L18_v1.out.below hb); replace L18_v2 := asT (L18_v2.out.below hb); replace L18_v3 := asT (L18_v3.out.below hb); replace L19_v0 := asT (L19_v0.out.below hb); replace L20_v0 := asT (L20_v0.out.below hb); clear hc2_0 hc2_1 hc2_2 hc2_3; clear hc7_0 hc7_1 hc7_2 hc7_3; replace BK2 := asT (blk_below BK2.out hb); replace BK7 := asT (blk_below BK7.out hb); have HB26 := asT (below_step HB25.out hb); clear hb; have hc2_0 := bc0 BK2.out; have hc2_1 := bc1 BK2.out; have hc2_2 := bc2 BK2.out; have hc2_3 := bc3 BK2.out; have hc7_0 := bc0 BK7.out; have hc7_1 := bc1 BK7.out; have hc7_2 := bc2 BK7.out; have hc7_3 := bc3 BK7.out)
        | (go_at_call 21; refine (laws_eqIntS.calls k _ _ _ _ _ _ _ w24 (Kd.R_reads' L20_v0.out.now).2.2 (Kd.R_reads' L20_v0.out.now).2.1 (Kd.R_reads' L4_v0.out.now).2.2 (Kd.R_reads' L4_v0.out.now).2.1 hf21.out).mono ?_; rintro e w25 ⟨rfl, hb0⟩; have hb : Below w24.heap.size w24 w25 := hb0.below; clear hb0; have hz25 : Aside0 (w24.heap.size ≤ w25.heap.size) := ⟨hb.size⟩; have hZ25 := asT (And.intro hz25.out hZ24.out); replace L2_v1 := asT (L2_v1.out.below hb); replace L2_v2 := asT (L2_v2.out.below hb); replace L2_v3 := asT (L2_v3.out.below hb); replace L3_v0 := asT (L3_v0.out.below hb); replace L4_v0 := asT (L4_v0.out.below hb); replace L5_v1 := asT (L5_v1.out.below hb); replace L5_v2 := asT (L5_v2.out.below hb); replace L5_v3 := asT (L5_v3.out.below hb); replace L6_v0 := asT (L6_v0.out.below hb); replace L7_v0 := asT (L7_v0.out.below hb); replace L9_v1 := asT (L9_v1.out.below hb); replace L9_v2 := asT (L9_v2.out.below hb); replace L9_v3 := asT (L9_v3.out.below hb); replace L11_v0 := asT (L11_v0.out.below hb); replace L18_v1 := asT (L18_v1.out.below hb); replace L18_v2 := asT (L18_v2.out.below hb); replace L18_v3 := asT (L18_v3.out.below hb); replace L19_v0 := asT (L19_v0.out.below hb); replace L20_v0 := asT (L20_v0.out.below hb); clear hc2_0 hc2_1 hc2_2 hc2_3; clear hc7_0 hc7_1 hc7_2 hc7_3; replace BK2 := asT (blk_below BK2.out hb); replace BK7 := asT (blk_below BK7.out hb); have HB25 := asT (below_step HB24.out hb); clear hb; have hc2_0 := bc0 BK2.out; have hc2_1 := bc1 BK2.out; have hc2_2 := bc2 BK2.out; have hc2_3 := bc3 BK2.out; have hc7_0 := bc0 BK7.out; have hc7_1 := bc1 BK7.out; have hc7_2 := bc2 BK7.out; have hc7_3 := bc3 BK7.out)
        | (go_at_call 31; refine (impl_WinnersOf.calls k _ _ _ _ _ _ _ _ _ _ _ _ _ _ w23 (Kd.R_reads' L18_v1.out.now).2.2 (Kd.R_reads' L18_v1.out.now).2.1 (Kd.S_reads' L18_v2.out.now).2.2 (Kd.S_reads' L18_v2.out.now).2.1 (Kd.S_reads' L18_v3.out.now).2.2 (Kd.S_reads' L18_v3.out.now).2.1 (Kd.R_reads' L19_v0.out.now).2.2 (Kd.R_reads' L19_v0.out.now).2.1 hf20.out).mono ?_; rintro e w24 ⟨q20_v0_, rfl, ho0, hb0⟩; have hb : Below w23.heap.size w23 w24 := hb0; clear hb0; have hz24 : Aside0 (w23.heap.size ≤ w24.heap.size) := ⟨hb.size⟩; have hZ24 := asT (And.intro hz24.out hZ23.out); replace L2_v1 := asT (L2_v1.out.below hb); replace L2_v2 := asT (L2_v2.out.below hb); replace L2_v3 := asT (L2_v3.out.below hb); replace L3_v0 := asT (L3_v0.out.below hb); replace L4_v0 := asT (L4_v0.out.below hb); replace L5_v1 := asT (L5_v1.out.below hb); replace L5_v2 := asT (L5_v2.out.below hb); replace L5_v3 := asT (L5_v3.out.below hb); replace L6_v0 := asT (L6_v0.out.below hb); replace L7_v0 := asT (L7_v0.out.below hb); replace L9_v1 := asT (L9_v1.out.below hb); replace L9_v2 := asT (L9_v2.out.below hb); replace L9_v3 := asT (L9_v3.out.below hb); replace L11_v0 := asT (L11_v0.out.below hb); replace L18_v1 := asT (L18_v1.out.below hb); replace L18_v2 := asT (L18_v2.out.below hb); replace L18_v3 := asT (L18_v3.out.below hb); replace L19_v0 := asT (L19_v0.out.below hb); clear hc2_0 hc2_1 hc2_2 hc2_3; clear hc7_0 hc7_1 hc7_2 hc7_3; replace BK2 := asT (blk_below BK2.out hb); replace BK7 := asT (blk_below BK7.out hb); obtain ⟨A20_v0_, c20_v0_, ev⟩ := Kd.R_slice ho0; subst ev; have L20_v0 := asT (made_R ho0 HB23.out.size); have HB24 := asT (below_step HB23.out hb); clear hb ho0; have hc2_0 := bc0 BK2.out; have hc2_1 := bc1 BK2.out; have hc2_2 := bc2 BK2.out; have hc2_3 := bc3 BK2.out; have hc7_0 := bc0 BK7.out; have hc7_1 := bc1 BK7.out; have hc7_2 := bc2 BK7.out; have hc7_3 := bc3 BK7.out)
        | (go_at_call 30; refine (laws_toIntS.calls k _ _ _ _ w22 (Kd.C_below HR1.out HB22.out) HC1.out hf19.out).mono ?_; rintro e w23 ⟨q19_v0_, rfl, ho0, hb0⟩; have hb : Below w22.heap.size w22 w23 := hb0; clear hb0; have hz23 : Aside0 (w22.heap.size ≤ w23.heap.size) := ⟨hb.size⟩; have hZ23 := asT (And.intro hz23.out hZ22.out); replace L2_v1 := asT (L2_v1.out.below hb); replace L2_v2 := asT (L2_v2.out.below hb); replace L2_v3 := asT (L2_v3.out.below hb); replace L3_v0 := asT (L3_v0.out.below hb); replace L4_v0 := asT (L4_v0.out.below hb); replace L5_v1 := asT (L5_v1.out.below hb); replace L5_v2 := asT (L5_v2.out.below hb); replace L5_v3 := asT (L5_v3.out.below hb); replace L6_v0 := asT (L6_v0.out.below hb); replace L7_v0 := asT (L7_v0.out.below hb); replace L9_v1 := asT (L9_v1.out.below hb); replace L9_v2 := asT (L9_v2.out.below hb); replace L9_v3 := asT (L9_v3.out.below hb); replace L11_v0 := asT (L11_v0.out.below hb); replace L18_v1 := asT (L18_v1.out.below hb); replace L18_v2 := asT (L18_v2.out.below hb); replace L18_v3 := asT (L18_v3.out.below hb); clear hc2_0 hc2_1 hc2_2 hc2_3; clear hc7_0 hc7_1 hc7_2 hc7_3; replace BK2 := asT (blk_below BK2.out hb); replace BK7 := asT (blk_below BK7.out hb); obtain ⟨A19_v0_, c19_v0_, ev⟩ := Kd.R_slice ho0; subst ev; have L19_v0 := asT (made_R ho0 HB22.out.size); have HB23 := asT (below_step HB22.out hb); clear hb ho0; have hc2_0 := bc0 BK2.out; have hc2_1 := bc1 BK2.out; have hc2_2 := bc2 BK2.out; have hc2_3 := bc3 BK2.out; have hc7_0 := bc0 BK7.out; have hc7_1 := bc1 BK7.out; have hc7_2 := bc2 BK7.out; have hc7_3 := bc3 BK7.out)
        | (go_at_call 19; refine (laws_toTableau.calls k _ _ _ _ _ _ _ _ _ _ _ _ _ _ w21 (Kd.C_below HR0_1.out HB21.out) HC0_1.out (Kd.C_below HR0_2.out HB21.out) HC0_2.out (Kd.C_below HR0_3.out HB21.out) HC0_3.out hf18.out).mono ?_; rintro e w22 ⟨q18_v1_, q18_v2_, q18_v3_, rfl, ho0, ho1, ho2, hb0⟩; have hb : Below w21.heap.size w21 w22 := hb0; clear hb0; have hz22 : Aside0 (w21.heap.size ≤ w22.heap.size) := ⟨hb.size⟩; have hZ22 := asT (And.intro hz22.out hZ21.out); replace L2_v1 := asT (L2_v1.out.below hb); replace L2_v2 := asT (L2_v2.out.below hb); replace L2_v3 := asT (L2_v3.out.below hb); replace L3_v0 := asT (L3_v0.out.below hb); replace L4_v0 := asT (L4_v0.out.below hb); replace L5_v1 := asT (L5_v1.out.below hb); replace L5_v2 := asT (L5_v2.out.below hb); replace L5_v3 := asT (L5_v3.out.below hb); replace L6_v0 := asT (L6_v0.out.below hb); replace L7_v0 := asT (L7_v0.out.below hb); replace L9_v1 := asT (L9_v1.out.below hb); replace L9_v2 := asT (L9_v2.out.below hb); replace L9_v3 := asT (L9_v3.out.below hb); replace L11_v0 := asT (L11_v0.out.below hb); clear hc2_0 hc2_1 hc2_2 hc2_3; clear hc7_0 hc7_1 hc7_2 hc7_3; replace BK2 := asT (blk_below BK2.out hb); replace BK7 := asT (blk_below BK7.out hb); obtain ⟨A18_v1_, c18_v1_, ev⟩ := Kd.R_slice ho0; subst ev; have L18_v1 := asT (made_R ho0 HB21.out.size); obtain ⟨A18_v2_, c18_v2_, ev⟩ := Kd.S_slice ho1; subst ev; have L18_v2 := asT (made_S ho1 HB21.out.size); obtain ⟨A18_v3_, c18_v3_, ev⟩ := Kd.S_slice ho2; subst ev; have L18_v3 := asT (made_S ho2 HB21.out.size); have HB22 := asT (below_step HB21.out hb); clear hb ho0 ho1 ho2; have hc2_0 := bc0 BK2.out; have hc2_1 := bc1 BK2.out; have hc2_2 := bc2 BK2.out; have hc2_3 := bc3 BK2.out; have hc7_0 := bc0 BK7.out; have hc7_1 := bc1 BK7.out; have hc7_2 := bc2 BK7.out; have hc7_3 := bc3 BK7.out)
        | (go_at_call 23; refine (laws_heldIntS.calls k _ _ _ _ _ w20 (Kd.R_reads' L7_v0.out.now).2.2 (Kd.R_reads' L7_v0.out.now).2.1 hf17.out).mono ?_; rintro e w21 ⟨rfl, hb0⟩; have hb : Below w20.heap.size w20 w21 := hb0.below; clear hb0; have hz21 : Aside0 (w20.heap.size ≤ w21.heap.size) := ⟨hb.size⟩; have hZ21 := asT (And.intro hz21.out hZ20.out); replace L2_v1 := asT (L2_v1.out.below hb); replace L2_v2 := asT (L2_v2.out.below hb); replace L2_v3 := asT (L2_v3.out.below hb); replace L3_v0 := asT (L3_v0.out.below hb); replace L4_v0 := asT (L4_v0.out.below hb); replace L5_v1 := asT (L5_v1.out.below hb); replace L5_v2 := asT (L5_v2.out.below hb); replace L5_v3 := asT (L5_v3.out.below hb); replace L6_v0 := asT (L6_v0.out.below hb); replace L7_v0 := asT (L7_v0.out.below hb); replace L9_v1 := asT (L9_v1.out.below hb); replace L9_v2 := asT (L9_v2.out.below hb); replace L9_v3 := asT (L9_v3.out.below hb); replace L11_v0 := asT (L11_v0.out.below hb); clear hc2_0 hc2_1 hc2_2 hc2_3; clear hc7_0 hc7_1 hc7_2 hc7_3; replace BK2 := asT (blk_below BK2.out hb); replace BK7 := asT (blk_below BK7.out hb); have HB21 := asT (below_step HB20.out hb); clear hb; have hc2_0 := bc0 BK2.out; have hc2_1 := bc1 BK2.out; have hc2_2 := bc2 BK2.out; have hc2_3 := bc3 BK2.out; have hc7_0 := bc0 BK7.out; have hc7_1 := bc1 BK7.out; have hc7_2 := bc2 BK7.out; have hc7_3 := bc3 BK7.out)
        | (go_at_call 22; refine (laws_markIntS.calls k _ _ _ _ _ _ w w19 HB19.out L7_v0.out.now hf16.out).mono ?_; rintro e w20 ⟨rfl, ho0, hb, hk⟩; have hz20 : Aside0 (w19.heap.size ≤ w20.heap.size) := ⟨hk.1⟩; have hZ20 := asT (And.intro hz20.out hZ19.out); have L7_v0n := asT (left_R rfl ho0 L7_v0.out.now rfl (Nat.le_trans L7_v0.out.1 hk.1)); replace L2_v1 := asT (L2_v1.out.far hk (by have := hZ19.out; first | exact .inl (by omega) | exact .inr (by omega))); replace L2_v2 := asT (L2_v2.out.far hk (by have := hZ19.out; first | exact .inl (by omega) | exact .inr (by omega))); replace L2_v3 := asT (L2_v3.out.far hk (by have := hZ19.out; first | exact .inl (by omega) | exact .inr (by omega))); replace L3_v0 := asT (L3_v0.out.far hk (by have := hZ19.out; first | exact .inl (by omega) | exact .inr (by omega))); replace L4_v0 := asT (L4_v0.out.far hk (by have := hZ19.out; first | exact .inl (by omega) | exact .inr (by omega))); replace L5_v1 := asT (L5_v1.out.far hk (by have := hZ19.out; first | exact .inl (by omega) | exact .inr (by omega))); replace L5_v2 := asT (L5_v2.out.far hk (by have := hZ19.out; first | exact .inl (by omega) | exact .inr (by omega))); replace L5_v3 := asT (L5_v3.out.far hk (by have := hZ19.out; first | exact .inl (by omega) | exact .inr (by omega))); replace L6_v0 := asT (L6_v0.out.far hk (by have := hZ19.out; first | exact .inl (by omega) | exact .inr (by omega))); replace L9_v1 := asT (L9_v1.out.far hk (by have := hZ19.out; first | exact .inl (by omega) | exact .inr (by omega))); replace L9_v2 := asT (L9_v2.out.far hk (by have := hZ19.out; first | exact .inl (by omega) | exact .inr (by omega))); replace L9_v3 := asT (L9_v3.out.far hk (by have := hZ19.out; first | exact .inl (by omega) | exact .inr (by omega))); replace L11_v0 := asT (L11_v0.out.far hk (by have := hZ19.out; first | exact .inl (by omega) | exact .inr (by omega))); clear hc2_0 hc2_1 hc2_2 hc2_3; clear hc7_0 hc7_1 hc7_2 hc7_3; replace BK2 := asT (blk_kept BK2.out hk (fun hin => by have := hZ20.out; have := hg2.out; have := hlt2.out; have := hg7.out; have := hlt7.out; have := hin.1; have := hin.2; omega)); replace BK7 := asT (blk_kept BK7.out hk (fun hin => by have := hZ20.out; have := hg2.out; have := hlt2.out; have := hg7.out; have := hlt7.out; have := hin.1; have := hin.2; omega)); clear L7_v0; have L7_v0 := L7_v0n; clear L7_v0n; have en := (Kd.R_reads' L7_v0.out.now).1; rw [en] at L7_v0; (try rw [en] at BK2); (try rw [en] at BK7); (try rw [en]); clear en; have HB20 := asT hb; clear hb hk ho0; have hc2_0 := bc0 BK2.out; have hc2_1 := bc1 BK2.out; have hc2_2 := bc2 BK2.out; have hc2_3 := bc3 BK2.out; have hc7_0 := bc0 BK7.out; have hc7_1 := bc1 BK7.out; have hc7_2 := bc2 BK7.out; have hc7_3 := bc3 BK7.out)
        | (go_at_call 21; refine (laws_eqIntS.calls k _ _ _ _ _ _ _ w18 (Kd.R_reads' L7_v0.out.now).2.2 (Kd.R_reads' L7_v0.out.now).2.1 (Kd.R_reads' L4_v0.out.now).2.2 (Kd.R_reads' L4_v0.out.now).2.1 hf15.out).mono ?_; rintro e w19 ⟨rfl, hb0⟩; have hb : Below w18.heap.size w18 w19 := hb0.below; clear hb0; have hz19 : Aside0 (w18.heap.size ≤ w19.heap.size) := ⟨hb.size⟩; have hZ19 := asT (And.intro hz19.out hZ18.out); replace L2_v1 := asT (L2_v1.out.below hb); replace L2_v2 := asT (L2_v2.out.below hb); replace L2_v3 := asT (L2_v3.out.below hb); replace L3_v0 := asT (L3_v0.out.below hb); replace L4_v0 := asT (L4_v0.out.below hb); replace L5_v1 := asT (L5_v1.out.below hb); replace L5_v2 := asT (L5_v2.out.below hb); replace L5_v3 := asT (L5_v3.out.below hb); replace L6_v0 := asT (L6_v0.out.below hb); replace L7_v0 := asT (L7_v0.out.below hb); replace L9_v1 := asT (L9_v1.out.below hb); replace L9_v2 := asT (L9_v2.out.below hb); replace L9_v3 := asT (L9_v3.out.below hb); replace L11_v0 := asT (L11_v0.out.below hb); clear hc2_0 hc2_1 hc2_2 hc2_3; clear hc7_0 hc7_1 hc7_2 hc7_3; replace BK2 := asT (blk_below BK2.out hb); replace BK7 := asT (blk_below BK7.out hb); have HB19 := asT (below_step HB18.out hb); clear hb; have hc2_0 := bc0 BK2.out; have hc2_1 := bc1 BK2.out; have hc2_2 := bc2 BK2.out; have hc2_3 := bc3 BK2.out; have hc7_0 := bc0 BK7.out; have hc7_1 := bc1 BK7.out; have hc7_2 := bc2 BK7.out; have hc7_3 := bc3 BK7.out)
        | (go_at_call 22; refine (laws_markIntS.calls k _ _ _ _ _ _ w w17 HB17.out L6_v0.out.now hf14.out).mono ?_; rintro e w18 ⟨rfl, ho0, hb, hk⟩; have hz18 : Aside0 (w17.heap.size ≤ w18.heap.size) := ⟨hk.1⟩; have hZ18 := asT (And.intro hz18.out hZ17.out); have L6_v0n := asT (left_R rfl ho0 L6_v0.out.now rfl (Nat.le_trans L6_v0.out.1 hk.1)); replace L2_v1 := asT (L2_v1.out.far hk (by have := hZ17.out; first | exact .inl (by omega) | exact .inr (by omega))); replace L2_v2 := asT (L2_v2.out.far hk (by have := hZ17.out; first | exact .inl (by omega) | exact .inr (by omega))); replace L2_v3 := asT (L2_v3.out.far hk (by have := hZ17.out; first | exact .inl (by omega) | exact .inr (by omega))); replace L3_v0 := asT (L3_v0.out.far hk (by have := hZ17.out; first | exact .inl (by omega) | exact .inr (by omega))); replace L4_v0 := asT (L4_v0.out.far hk (by have := hZ17.out; first | exact .inl (by omega) | exact .inr (by omega))); replace L5_v1 := asT (L5_v1.out.far hk (by have := hZ17.out; first | exact .inl (by omega) | exact .inr (by omega))); replace L5_v2 := asT (L5_v2.out.far hk (by have := hZ17.out; first | exact .inl (by omega) | exact .inr (by omega))); replace L5_v3 := asT (L5_v3.out.far hk (by have := hZ17.out; first | exact .inl (by omega) | exact .inr (by omega))); replace L7_v0 := asT (L7_v0.out.far hk (by have := hZ17.out; first | exact .inl (by omega) | exact .inr (by omega))); replace L9_v1 := asT (L9_v1.out.far hk (by have := hZ17.out; first | exact .inl (by omega) | exact .inr (by omega))); replace L9_v2 := asT (L9_v2.out.far hk (by have := hZ17.out; first | exact .inl (by omega) | exact .inr (by omega))); replace L9_v3 := asT (L9_v3.out.far hk (by have := hZ17.out; first | exact .inl (by omega) | exact .inr (by omega))); replace L11_v0 := asT (L11_v0.out.far hk (by have := hZ17.out; first | exact .inl (by omega) | exact .inr (by omega))); clear hc2_0 hc2_1 hc2_2 hc2_3; clear hc7_0 hc7_1 hc7_2 hc7_3; replace BK2 := asT (blk_kept BK2.out hk (fun hin => by have := hZ18.out; have := hg2.out; have := hlt2.out; have := hg7.out; have := hlt7.out; have := hin.1; have := hin.2; omega)); replace BK7 := asT (blk_kept BK7.out hk (fun hin => by have := hZ18.out; have := hg2.out; have := hlt2.out; have := hg7.out; have := hlt7.out; have := hin.1; have := hin.2; omega)); clear L6_v0; have L6_v0 := L6_v0n; clear L6_v0n; have en := (Kd.R_reads' L6_v0.out.now).1; rw [en] at L6_v0; (try rw [en] at BK2); (try rw [en] at BK7); (try rw [en]); clear en; have HB18 := asT hb; clear hb hk ho0; have hc2_0 := bc0 BK2.out; have hc2_1 := bc1 BK2.out; have hc2_2 := bc2 BK2.out; have hc2_3 := bc3 BK2.out; have hc7_0 := bc0 BK7.out; have hc7_1 := bc1 BK7.out; have hc7_2 := bc2 BK7.out; have hc7_3 := bc3 BK7.out)
        | (go_at_call 15; refine (laws_markTableau.calls k _ _ _ _ _ _ _ _ _ _ _ _ _ w w16 HB16.out L5_v1.out.now L5_v2.out.now L5_v3.out.now hf13.out).mono ?_; rintro e w17 ⟨rfl, ho0, ho1, ho2, hb, hk⟩; have hz17 : Aside0 (w16.heap.size ≤ w17.heap.size) := ⟨hk.1⟩; have hZ17 := asT (And.intro hz17.out hZ16.out); have L5_v1n := asT (left_R rfl ho0 L5_v1.out.now rfl (Nat.le_trans L5_v1.out.1 hk.1)); have L5_v2n := asT (left_S ho1 (Nat.le_trans L5_v2.out.1 hk.1)); have L5_v3n := asT (left_S ho2 (Nat.le_trans L5_v3.out.1 hk.1)); replace L2_v1 := asT (L2_v1.out.far hk (by have := hZ16.out; first | exact .inl (by omega) | exact .inr (by omega))); replace L2_v2 := asT (L2_v2.out.far hk (by have := hZ16.out; first | exact .inl (by omega) | exact .inr (by omega))); replace L2_v3 := asT (L2_v3.out.far hk (by have := hZ16.out; first | exact .inl (by omega) | exact .inr (by omega))); replace L3_v0 := asT (L3_v0.out.far hk (by have := hZ16.out; first | exact .inl (by omega) | exact .inr (by omega))); replace L4_v0 := asT (L4_v0.out.far hk (by have := hZ16.out; first | exact .inl (by omega) | exact .inr (by omega))); replace L6_v0 := asT (L6_v0.out.far hk (by have := hZ16.out; first | exact .inl (by omega) | exact .inr (by omega))); replace L7_v0 := asT (L7_v0.out.far hk (by have := hZ16.out; first | exact .inl (by omega) | exact .inr (by omega))); replace L9_v1 := asT (L9_v1.out.far hk (by have := hZ16.out; first | exact .inl (by omega) | exact .inr (by omega))); replace L9_v2 := asT (L9_v2.out.far hk (by have := hZ16.out; first | exact .inl (by omega) | exact .inr (by omega))); replace L9_v3 := asT (L9_v3.out.far hk (by have := hZ16.out; first | exact .inl (by omega) | exact .inr (by omega))); replace L11_v0 := asT (L11_v0.out.far hk (by have := hZ16.out; first | exact .inl (by omega) | exact .inr (by omega))); clear hc2_0 hc2_1 hc2_2 hc2_3; clear hc7_0 hc7_1 hc7_2 hc7_3; replace BK2 := asT (blk_kept BK2.out hk (fun hin => by have := hZ17.out; have := hg2.out; have := hlt2.out; have := hg7.out; have := hlt7.out; have := hin.1; have := hin.2; omega)); replace BK7 := asT (blk_kept BK7.out hk (fun hin => by have := hZ17.out; have := hg2.out; have := hlt2.out; have := hg7.out; have := hlt7.out; have := hin.1; have := hin.2; omega)); clear L5_v1; have L5_v1 := L5_v1n; clear L5_v1n; clear L5_v2; have L5_v2 := L5_v2n; clear L5_v2n; clear L5_v3; have L5_v3 := L5_v3n; clear L5_v3n; have en := (Kd.R_reads' L5_v1.out.now).1; rw [en] at L5_v1; (try rw [en] at BK2); (try rw [en] at BK7); (try rw [en]); clear en; have en := (Kd.S_reads' L5_v2.out.now).1; rw [en] at L5_v2; (try rw [en] at BK2); (try rw [en] at BK7); (try rw [en]); clear en; have en := (Kd.S_reads' L5_v3.out.now).1; rw [en] at L5_v3; (try rw [en] at BK2); (try rw [en] at BK7); (try rw [en]); clear en; have HB17 := asT hb; clear hb hk ho0 ho1 ho2; have hc2_0 := bc0 BK2.out; have hc2_1 := bc1 BK2.out; have hc2_2 := bc2 BK2.out; have hc2_3 := bc3 BK2.out; have hc7_0 := bc0 BK7.out; have hc7_1 := bc1 BK7.out; have hc7_2 := bc2 BK7.out; have hc7_3 := bc3 BK7.out)
        | (go_at_call 21; refine (laws_eqIntS.calls k _ _ _ _ _ _ _ w15 (Kd.R_reads' L6_v0.out.now).2.2 (Kd.R_reads' L6_v0.out.now).2.1 (Kd.R_reads' L11_v0.out.now).2.2 (Kd.R_reads' L11_v0.out.now).2.1 hf12.out).mono ?_; rintro e w16 ⟨rfl, hb0⟩; have hb : Below w15.heap.size w15 w16 := hb0.below; clear hb0; have hz16 : Aside0 (w15.heap.size ≤ w16.heap.size) := ⟨hb.size⟩; have hZ16 := asT (And.intro hz16.out hZ15.out); replace L2_v1 := asT (L2_v1.out.below hb); replace L2_v2 := asT (L2_v2.out.below hb); replace L2_v3 := asT (L2_v3.out.below hb); replace L3_v0 := asT (L3_v0.out.below hb); replace L4_v0 := asT (L4_v0.out.below hb); replace L5_v1 := asT (L5_v1.out.below hb); replace L5_v2 := asT (L5_v2.out.below hb); replace L5_v3 := asT (L5_v3.out.below hb); replace L6_v0 := asT (L6_v0.out.below hb); replace L7_v0 := asT (L7_v0.out.below hb); replace L9_v1 := asT (L9_v1.out.below hb); replace L9_v2 := asT (L9_v2.out.below hb); replace L9_v3 := asT (L9_v3.out.below hb); replace L11_v0 := asT (L11_v0.out.below hb); clear hc2_0 hc2_1 hc2_2 hc2_3; clear hc7_0 hc7_1 hc7_2 hc7_3; replace BK2 := asT (blk_below BK2.out hb); replace BK7 := asT (blk_below BK7.out hb); have HB16 := asT (below_step HB15.out hb); clear hb; have hc2_0 := bc0 BK2.out; have hc2_1 := bc1 BK2.out; have hc2_2 := bc2 BK2.out; have hc2_3 := bc3 BK2.out; have hc7_0 := bc0 BK7.out; have hc7_1 := bc1 BK7.out; have hc7_2 := bc2 BK7.out; have hc7_3 := bc3 BK7.out)
        | (go_at_call 30; refine (laws_toIntS.calls k _ _ _ _ w14 (Kd.C_below HR1.out HB14.out) HC1.out hf11.out).mono ?_; rintro e w15 ⟨q11_v0_, rfl, ho0, hb0⟩; have hb : Below w14.heap.size w14 w15 := hb0; clear hb0; have hz15 : Aside0 (w14.heap.size ≤ w15.heap.size) := ⟨hb.size⟩; have hZ15 := asT (And.intro hz15.out hZ14.out); replace L2_v1 := asT (L2_v1.out.below hb); replace L2_v2 := asT (L2_v2.out.below hb); replace L2_v3 := asT (L2_v3.out.below hb); replace L3_v0 := asT (L3_v0.out.below hb); replace L4_v0 := asT (L4_v0.out.below hb); replace L5_v1 := asT (L5_v1.out.below hb); replace L5_v2 := asT (L5_v2.out.below hb); replace L5_v3 := asT (L5_v3.out.below hb); replace L6_v0 := asT (L6_v0.out.below hb); replace L7_v0 := asT (L7_v0.out.below hb); replace L9_v1 := asT (L9_v1.out.below hb); replace L9_v2 := asT (L9_v2.out.below hb); replace L9_v3 := asT (L9_v3.out.below hb); clear hc2_0 hc2_1 hc2_2 hc2_3; clear hc7_0 hc7_1 hc7_2 hc7_3; replace BK2 := asT (blk_below BK2.out hb); replace BK7 := asT (blk_below BK7.out hb); obtain ⟨A11_v0_, c11_v0_, ev⟩ := Kd.R_slice ho0; subst ev; have L11_v0 := asT (made_R ho0 HB14.out.size); have HB15 := asT (below_step HB14.out hb); clear hb ho0; have hc2_0 := bc0 BK2.out; have hc2_1 := bc1 BK2.out; have hc2_2 := bc2 BK2.out; have hc2_3 := bc3 BK2.out; have hc7_0 := bc0 BK7.out; have hc7_1 := bc1 BK7.out; have hc7_2 := bc2 BK7.out; have hc7_3 := bc3 BK7.out))
      go_ret
      exact ⟨rfl, HB26.out⟩
def Bd134 : S134 → Prop := fun x => (BdInt .u8) x.f0 ∧ (BdInt .u8) x.f1
def Bd96 : S96 → Prop := fun x => (BdSlice 2 Bd134) x.f0
def Bd37 : S37 → Prop := fun x => BdStr x.f0 ∧ (BdSlice 16 BdStr) x.f1 ∧ (BdSlice 24 Bd96) x.f2 ∧ (BdSlice 24 (BdSlice 8 (BdInt .i64))) x.f3
/-- THE ONE PURE STATEMENT of laws_FnExactWinnersOf -/
def laws_FnExactWinnersOf.Pure : Prop := ∀ (a0_0 : ByteArray) (l0_1 : List ByteArray) (l0_2 : List (S96)) (l0_3 : List (List Int)) (l1 : List Int), BdStr a0_0 → (BdSlice 16 BdStr) l0_1 → (BdSlice 24 Bd96) l0_2 → (BdSlice 24 (BdSlice 8 (BdInt .i64))) l0_3 → (BdSlice 8 (BdInt .i64)) l1 → ∃ k, laws_FnExactWinnersOf.f k a0_0 l0_1 l0_2 l0_3 l1 = some true
end Go.Proofs.YtlmfpkiaikjlbaaGreat.PFnExactWinnersOf
