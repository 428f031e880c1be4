-- Made by gen.py (a program of this session) out of the translation; Lean checks it.
import Derived.Test.YtmfhaplhgaehhaaPFnExactAllRankingsx0
namespace Go.Proofs.Ytmfhaplhgaehhaa.PFnExactAllRankings
open Go.RowKit Go.Proofs.YtmfhaplhgaehhaaB Go.Proofs.YtmfhaplhgaehhaaW.PrintWords Go.Proofs.YtmfhaplhgaehhaaW.PrintLast Go.Proofs.YtmfhaplhgaehhaaW.PrintMore
attribute [local go_sem] max2_int min2_int max_two min_two max_three min_three max_four min_four   -- for this text's walks alone
set_option linter.unusedVariables false
set_option linter.unusedSimpArgs false

/-! ### spec_l1In: function 103 -/
def spec_l1In.f (a0 : Int) (a1 : Int) (a2 : Int) : Option (Bool) := if a0 ≥ a1 then (some (decide (a0 ≤ a2))) else (some false)
set_option maxHeartbeats 8000000 in
set_option maxRecDepth 100000 in
theorem spec_l1In.calls (a0 : Int) (a1 : Int) (a2 : Int) (r : Bool) (w : World) (h : spec_l1In.f a0 a1 a2 = some r) :
  Calls Try.prog 103 #[.int .i64 a0, .int .i64 a1, .int .i64 a2] w fun e w' => e = .returned (.bool r) ∧ Drawn0 w w' := by
 have H := h; unfold spec_l1In.f at H; clear h
 by_cases c4 : a0 ≥ a1
 ·rw [if_pos c4] at H
  have c4b0 : decide (a1 ≤ a0) = true := decide_eq_true c4
  clear c4
  obtain rfl := Option.some.inj H
  go_enter Try.func103, Try.ntmps103
  go_wp2
  go_ret
  exact ⟨rdT, drT⟩
 ·rw [if_neg c4] at H
  have c4b0 : decide (a1 ≤ a0) = false := decide_eq_false c4
  clear c4
  obtain rfl := Option.some.inj H
  go_enter Try.func103, Try.ntmps103
  go_wp2
  go_ret
  exact ⟨rdT, drT⟩

/-! ### spec_l12Has: function 104 -/
def spec_l12Has.l0 : Nat → List Int → Int → Int → Option (Bool)
 | 0, _, _, _ => none
 | k + 1, x0, x1, x5 => if x5 < (x0.length : Int) then (if 0 ≤ x5 then (if (rd x0 x5) = x1 then (some true) else (spec_l12Has.l0 k x0 x1 (wrap64 (x5 + 1)))) else (none)) else (some false)
def spec_l12Has.f (k : Nat) (l0 : List Int) (a1 : Int) : Option (Bool) := spec_l12Has.l0 k l0 a1 0
theorem spec_l12Has.mono_l : ∀ k, (∀ y0 y1 y2, LeO (spec_l12Has.l0 k y0 y1 y2) (spec_l12Has.l0 (k + 1) y0 y1 y2))
 | 0 => fun _ _ _ r h => by simp [spec_l12Has.l0] at h
 | k + 1 => by
  have ih0 := spec_l12Has.mono_l k
  ·intro y0 y1 y2
   unfold spec_l12Has.l0
   with_reducible repeat' first | exact ih0 _ _ _ | exact LeO.refl _ | exact LeO.none _ | refine LeO.ite ?_ ?_ | refine LeO.bind ?_ (fun _ => ?_)
theorem spec_l12Has.mono : ∀ a0 a1 k, LeO (spec_l12Has.f k a0 a1) (spec_l12Has.f (k + 1) a0 a1) := by
 intro a0 a1 k
 have ih0 := spec_l12Has.mono_l k
 unfold spec_l12Has.f
 with_reducible repeat' first | exact ih0 _ _ _ | exact LeO.refl _ | exact LeO.none _ | refine LeO.ite ?_ ?_ | refine LeO.bind ?_ (fun _ => ?_)
set_option maxHeartbeats 8000000 in
set_option maxRecDepth 100000 in
theorem spec_l12Has.calls (k : Nat) (A0 : Option Addr) (c0 : Nat) (l0 : List Int) (a1 : Int) (r : Bool) (w : World) (hr0 : Kd.C (Kd.int .i64) w A0 l0.length l0) (hc0 : l0.length ≤ c0) (h : spec_l12Has.f k l0 a1 = some r) :
  Calls Try.prog 104 #[.slice A0 l0.length c0, .int .i64 a1] w fun e w' => e = .returned (.bool r) ∧ Drawn0 w w' := by
 have HR0 := Aside0.mk hr0; have HC0 := Aside0.mk hc0; clear hr0 hc0; have H := h; unfold spec_l12Has.f at H; clear h; have H' := Aside0.mk H; clear H
 go_enter Try.func104, Try.ntmps104
 go_wp2
 go_loopg [5] k (fun kq v5 w' => ∃ (x5_1 : Int), v5 = .int .i64 x5_1 ∧ Aside0 (spec_l12Has.l0 kq l0 a1 x5_1 = some r) ∧ Aside0 (kq ≤ k) ∧ Drawn0 w w')
 case atStart => exact ⟨(0), rdT, H', ⟨Nat.le_refl _⟩, drT⟩
 case round =>
  clear H'; (try clear c1 p2); obtain ⟨x5_1, rfl, HA, HK1, ⟨m1, rfl⟩⟩ := hrel
  cases gk with
  | zero => exact absurd HA.out (by simp [spec_l12Has.l0])
  | succ k1 =>
   have H := HA.out; clear HA
   simp only [spec_l12Has.l0] at H
   by_cases c3 : x5_1 < (l0.length : Int)
   ·rw [if_pos c3] at H
    have c3b0 : decide (x5_1 < (l0.length : Int)) = true := decide_eq_true c3
    clear c3
    by_cases c4 : 0 ≤ x5_1
    ·rw [if_pos c4] at H
     have c4b0 : decide (0 ≤ x5_1) = true := decide_eq_true c4
     clear c4
     by_cases c5 : (rd l0 x5_1) = a1
     ·rw [if_pos c5] at H
      have c5b0 : ((rd l0 x5_1) == a1) = true := beq_iff_eq.mpr c5
      have c5b1 : ((rd l0 x5_1) != a1) = false := bne_eq_false_iff_eq.mpr c5
      clear c5
      obtain rfl := Option.some.inj H
      have p101 : 0 ≤ (x5_1 : Int) := of_decide_eq_true asmT
      have q101 : x5_1 < (l0.length : Int) := of_decide_eq_true asmT
      obtain ⟨ad101, e101, hx101_0⟩ := Kd.at_int HR0.out x5_1 p101 q101
      cases e101
      replace p101 := eq_true p101; replace q101 := eq_true q101
      go_wp2
      go_ret
      exact ⟨rdT, drT⟩
     ·rw [if_neg c5] at H
      have c5b0 : ((rd l0 x5_1) == a1) = false := beq_eq_false_iff_ne.mpr c5
      have c5b1 : ((rd l0 x5_1) != a1) = true := bne_iff_ne.mpr c5
      have H' := Aside0.mk H; clear H
      have p101 : 0 ≤ (x5_1 : Int) := of_decide_eq_true asmT
      have q101 : x5_1 < (l0.length : Int) := of_decide_eq_true asmT
      obtain ⟨ad101, e101, hx101_0⟩ := Kd.at_int HR0.out x5_1 p101 q101
      cases e101
      replace p101 := eq_true p101; replace q101 := eq_true q101
      go_wp2
      go_roundg k1
      case measure => have := HK1.out; omega
      case rel => exact ⟨(wrap64 (x5_1 + 1)), rdT, H', ⟨by have := HK1.out; omega⟩, drT⟩
    ·rw [if_neg c4] at H
     exact absurd H (by simp)
   ·rw [if_neg c3] at H
    have c3b0 : decide (x5_1 < (l0.length : Int)) = false := decide_eq_false c3
    clear c3
    obtain rfl := Option.some.inj H
    go_wp2
    go_ret
    exact ⟨rdT, drT⟩

/-! ### spec_AllRankings: function 50 -/
mutual
def spec_AllRankings.l0 : Nat → Int → List (List Int) → Int → Option ((List (List Int)))
 | 0, _, _, _ => none
 | k + 1, x0, x3, x4 => if x4 < x0 then (spec_AllRankings.l1 k x0 x3 x4 (([] : List (List Int))) 0) else (some x3)
def spec_AllRankings.l1 : Nat → Int → List (List Int) → Int → List (List Int) → Int → Option ((List (List Int)))
 | 0, _, _, _, _, _ => none
 | k + 1, x0, x3, x4, x5, x6 => if x6 < (x3.length : Int) then (spec_AllRankings.l2 k x0 x3 x4 x5 x6 0) else (spec_AllRankings.l0 k x0 x5 (wrap64 (x4 + 1)))
def spec_AllRankings.l2 : Nat → Int → List (List Int) → Int → List (List Int) → Int → Int → Option ((List (List Int)))
 | 0, _, _, _, _, _, _ => none
 | k + 1, x0, x3, x4, x5, x6, x7 => if x7 < x0 then (if 0 ≤ x6 then (if x6 < (x3.length : Int) then ((spec_l12Has.f k (rd_L1 x3 x6) x7).bind fun t116 => (if t116 = true then (spec_AllRankings.l2 k x0 x3 x4 x5 x6 (wrap64 (x7 + 1))) else ((some (([] : List Int) : List Int)).bind fun y117 => (if y117.length + (rd_L1 x3 x6).length < 17592186044416 then ((some (y117 ++ (rd_L1 x3 x6) : List Int)).bind fun y121 => (if y121.length < 17592186044416 then (if x5.length < 5864062014805 then (spec_AllRankings.l2 k x0 x3 x4 (x5 ++ [(y121 ++ [x7])]) x6 (wrap64 (x7 + 1))) else (none)) else (none))) else (none))))) else (none)) else (none)) else (spec_AllRankings.l1 k x0 x3 x4 x5 (wrap64 (x6 + 1)))
end
def spec_AllRankings.f (k : Nat) (a0 : Int) : Option ((List (List Int))) := (spec_l1In.f a0 1 5).bind fun t102 => (if t102 = true then (spec_AllRankings.l0 k a0 (([(([] : List Int))] : List (List Int))) 0) else (some (([] : List (List Int)))))
theorem spec_AllRankings.mono_l : ∀ k, (∀ y0 y1 y2, LeO (spec_AllRankings.l0 k y0 y1 y2) (spec_AllRankings.l0 (k + 1) y0 y1 y2)) ∧ (∀ y0 y1 y2 y3 y4, LeO (spec_AllRankings.l1 k y0 y1 y2 y3 y4) (spec_AllRankings.l1 (k + 1) y0 y1 y2 y3 y4)) ∧ (∀ y0 y1 y2 y3 y4 y5, LeO (spec_AllRankings.l2 k y0 y1 y2 y3 y4 y5) (spec_AllRankings.l2 (k + 1) y0 y1 y2 y3 y4 y5))
 | 0 => ⟨fun _ _ _ r h => by simp [spec_AllRankings.l0] at h, fun _ _ _ _ _ r h => by simp [spec_AllRankings.l1] at h, fun _ _ _ _ _ _ r h => by simp [spec_AllRankings.l2] at h⟩
 | k + 1 => by
  obtain ⟨ih0, ih1, ih2⟩ := spec_AllRankings.mono_l k; refine ⟨?_, ?_, ?_⟩
  ·intro y0 y1 y2
   unfold spec_AllRankings.l0
   with_reducible repeat' first | exact ih0 _ _ _ | exact ih1 _ _ _ _ _ | exact ih2 _ _ _ _ _ _ | exact spec_l12Has.mono _ _ _ | exact LeO.refl _ | exact LeO.none _ | refine LeO.ite ?_ ?_ | refine LeO.bind ?_ (fun _ => ?_)
  ·intro y0 y1 y2 y3 y4
   unfold spec_AllRankings.l1
   with_reducible repeat' first | exact ih0 _ _ _ | exact ih1 _ _ _ _ _ | exact ih2 _ _ _ _ _ _ | exact spec_l12Has.mono _ _ _ | exact LeO.refl _ | exact LeO.none _ | refine LeO.ite ?_ ?_ | refine LeO.bind ?_ (fun _ => ?_)
  ·intro y0 y1 y2 y3 y4 y5
   unfold spec_AllRankings.l2
   with_reducible repeat' first | exact ih0 _ _ _ | exact ih1 _ _ _ _ _ | exact ih2 _ _ _ _ _ _ | exact spec_l12Has.mono _ _ _ | exact LeO.refl _ | exact LeO.none _ | refine LeO.ite ?_ ?_ | refine LeO.bind ?_ (fun _ => ?_)
theorem spec_AllRankings.mono : ∀ a0 k, LeO (spec_AllRankings.f k a0) (spec_AllRankings.f (k + 1) a0) := by
 intro a0 k
 obtain ⟨ih0, ih1, ih2⟩ := spec_AllRankings.mono_l k
 unfold spec_AllRankings.f
 with_reducible repeat' first | exact ih0 _ _ _ | exact ih1 _ _ _ _ _ | exact ih2 _ _ _ _ _ _ | exact spec_l12Has.mono _ _ _ | exact LeO.refl _ | exact LeO.none _ | refine LeO.ite ?_ ?_ | refine LeO.bind ?_ (fun _ => ?_)
set_option maxHeartbeats 8000000 in
set_option maxRecDepth 100000 in
theorem spec_AllRankings.calls (k : Nat) (a0 : Int) (r : List (List Int)) (w : World) (h : spec_AllRankings.f k a0 = some r) :
  Calls Try.prog 50 #[.int .i64 a0] w fun e w' => ∃ v0_ : Value, e = .returned (v0_) ∧ Kd.N (Kd.slice 3 (Kd.int .i64)) 58 w' w.heap.size (fun k_ => (w.heap.size ≤ k_)) v0_ r ∧ Below w.heap.size w w' := by
 have HB := asT (Below.refl w.heap.size w); have H := h; unfold spec_AllRankings.f at H; clear h; obtain ⟨t102, A2, H⟩ := be H
 by_cases c3 : t102 = true
 ·subst c3
  rw [if_pos rfl] at H; obtain ⟨y106, hy106⟩ : ∃ y_ : List Int, y_ = (([] : List Int)) := ⟨_, rfl⟩
  replace H : (spec_AllRankings.l0 k a0 (([y106] : List (List Int))) 0) = some r := by first | (rw [hy106]; with_reducible exact H) | (have H2_ := (Option.bind_some _ _).symm.trans H; rw [hy106]; with_reducible exact H2_) | (have H2_ := (Option.bind_some _ _).symm.trans H; with_reducible exact H2_) | with_reducible exact H | (rw [hy106]; exact H) | exact H
  have Ny106 := Aside0.mk hy106; clear hy106; obtain ⟨y109, hy109⟩ : ∃ y_ : List (List Int), y_ = (([y106] : List (List Int))) := ⟨_, rfl⟩
  replace H : (spec_AllRankings.l0 k a0 y109 0) = some r := by first | (rw [hy109]; with_reducible exact H) | (have H2_ := (Option.bind_some _ _).symm.trans H; rw [hy109]; with_reducible exact H2_) | (have H2_ := (Option.bind_some _ _).symm.trans H; with_reducible exact H2_) | with_reducible exact H | (rw [hy109]; exact H) | exact H
  have Ny109 := Aside0.mk hy109; clear hy109; have H' := Aside0.mk H; clear H
  go_enter Try.func50, Try.ntmps50
  go_wp2_with (first | ((with_reducible refine gate_callee (f := 103) rfl ?_); refine goesL_ (some 9) rfl rfl Try.func103 (by kernel_rfl) rfl #[.int .i64 a0, .int .i64 1, .int .i64 5] rfl eqT ?_; (with_reducible refine (spec_l1In.calls a0 1 5 true _ A2.out).mono ?_); rintro e w' ⟨rfl, ⟨nd, rfl⟩⟩; refine ⟨_, rfl, ?_⟩) | ((with_reducible refine gate_dst (N := 12) rfl ?_); refine Kd.R_lit (Kd.int .i64) _ 3 ?hg (N := 12) ?hd (xs := ([] : List Int)) (inner := []) (ok := fun _ => True) (okp := fun _ => True) ?hr ?hp (fun _ hk => hk) trivial (Below.refl _ _) (Nat.le_refl _) (by simp) ?_; (case hd => rfl); (case hg => rfl); (case hr => first | (go_simp; done) | (go_simp; rfl)); (case hp => exact (Reps.none _ _)); intro v107 w4 ho5 hb hg_ hnew_; clear hg_ hnew_; (first | rw [← Ny106.out] at ho5 | (simp only [Int.reduceToNat] at ho5; rw [← Ny106.out] at ho5)); have HO108 := asT (Kd.R_lower (Kd.R_newM (M := fun k_ => (w.heap.size ≤ k_)) ho5 (below_size (hbT HB.out)) (fun k_ h_ => h_)) (below_size (hbT HB.out))); replace HB := hS HB hb; clear hb ho5; obtain ⟨Ao6, co6, eo6⟩ := Kd.R_slice HO108.out; subst eo6) | ((with_reducible refine gate_dst (N := 13) rfl ?_); refine Kd.N_lit (Kd.slice 3 (Kd.int .i64)) _ 58 ?hg (N' := 13) ?hd (xs := ([y106] : List (List Int))) (inner := [.slice Ao6 y106.length co6]) (ok := (fun k_ => (w.heap.size ≤ k_))) (okp := (fun k_ => (w.heap.size ≤ k_))) ?hr ?hp (fun _ hk => hk) ((show ∀ k_, w4.heap.size ≤ k_ → (fun k_ => (w.heap.size ≤ k_)) k_ from fun k_ hk => (Nat.le_trans (below_size (hbT HB.out)) hk)) _ (Nat.le_refl _)) (Below.refl _ _) (Nat.le_refl _) (by simp) ?_; (case hd => rfl); (case hg => rfl); (case hr => first | (go_simp; done) | (go_simp; rfl)); (case hp => exact (Reps.one (show Kd.FK (Kd.slice 3 (Kd.int .i64)) _ _ y106 [.slice Ao6 y106.length co6] from (Kd.FK_slice_mk (Kd.R_reads' (Kd.R_mono (ok' := (fun k_ => (w.heap.size ≤ k_))) (HO108.out) (fun k_ hk => hk.1))).2.1 (Kd.R_F (Kd.R_mono (ok' := (fun k_ => (w.heap.size ≤ k_))) (HO108.out) (fun k_ hk => hk.1))))) (Reps.none _ _))); intro v110 w7 ho8 hb hg_ hnew_; clear hg_ hnew_; (first | rw [← Ny109.out] at ho8 | (simp only [Int.reduceToNat] at ho8; rw [← Ny109.out] at ho8)); have HO111 := asT (Kd.N_lower ho8 (below_size (hbT HB.out))); replace HB := hS HB hb; clear HO108 hb ho8))
  go_loopg [3, 4] k (fun kq v3 v4 w' => ∃ (x3_1 : List (List Int)) (x4_1 : Int), v4 = .int .i64 x4_1 ∧ Aside0 (spec_AllRankings.l0 kq a0 x3_1 x4_1 = some r) ∧ Aside0 (kq ≤ k) ∧ Aside0 (Kd.N (Kd.slice 3 (Kd.int .i64)) 58 w' w.heap.size (fun k_ => (w.heap.size ≤ k_)) v3 x3_1) ∧ Aside0 (Below w.heap.size w w'))
  case atStart => exact ⟨(y109), (0), rdT, H', ⟨Nat.le_refl _⟩, ⟨by (with_reducible repeat (first | apply Kd.N_alloc | apply Kd.N_drewN | apply Kd.N_drew)); exact HO111.out⟩, ⟨hbT HB.out⟩⟩
  case round =>
   clear H'; (try clear c1 p2 c3 c5); obtain ⟨x3_1, x4_1, rfl, HA, HK1, HO_3, HB⟩ := hrel
   cases gk with
   | zero => exact absurd HA.out (by simp [spec_AllRankings.l0])
   | succ k1 =>
    have H := HA.out; clear HA
    simp only [spec_AllRankings.l0] at H
    by_cases c9 : x4_1 < a0
    ·rw [if_pos c9] at H
     have c9b0 : decide (x4_1 < a0) = true := decide_eq_true c9
     clear c9; obtain ⟨y112, hy112⟩ : ∃ y_ : List (List Int), y_ = (([] : List (List Int))) := ⟨_, rfl⟩
     replace H : (spec_AllRankings.l1 k1 a0 x3_1 x4_1 y112 0) = some r := by first | (rw [hy112]; with_reducible exact H) | (have H2_ := (Option.bind_some _ _).symm.trans H; rw [hy112]; with_reducible exact H2_) | (have H2_ := (Option.bind_some _ _).symm.trans H; with_reducible exact H2_) | with_reducible exact H | (rw [hy112]; exact H) | exact H
     have Ny112 := Aside0.mk hy112; clear hy112; have H' := Aside0.mk H; clear H
     go_wp2_with (first | ((with_reducible refine gate_dst (N := 19) rfl ?_); refine Kd.N_lit (Kd.slice 3 (Kd.int .i64)) _ 58 ?hg (N' := 19) ?hd (xs := ([] : List (List Int))) (inner := []) (ok := (fun k_ => (w.heap.size ≤ k_) ∧ some k_ ≠ (u3 : Value).ownBlock)) (okp := (fun k_ => (w.heap.size ≤ k_) ∧ some k_ ≠ (u3 : Value).ownBlock)) ?hr ?hp (fun _ hk => hk) ((show ∀ k_, wr.heap.size ≤ k_ → (fun k_ => (w.heap.size ≤ k_) ∧ some k_ ≠ (u3 : Value).ownBlock) k_ from fun k_ hk => ⟨(Nat.le_trans (below_size (hbT HB.out)) hk), Kd.fresh' (Kd.N_lt (by (with_reducible repeat (first | apply Kd.N_alloc | apply Kd.N_drewN | apply Kd.N_drew)); exact HO_3.out)) k_ hk⟩) _ (Nat.le_refl _)) (Below.refl _ _) (Nat.le_refl _) (by simp) ?_; (case hd => rfl); (case hg => rfl); (case hr => first | (go_simp; done) | (go_simp; rfl)); (case hp => exact (Reps.none _ _)); intro v113 w10 ho11 hb hg_ hnew_; clear hg_ hnew_; (first | rw [← Ny112.out] at ho11 | (simp only [Int.reduceToNat] at ho11; rw [← Ny112.out] at ho11)); replace HO_3 := asT (Kd.N_elder' (by (with_reducible repeat (first | apply Kd.N_alloc | apply Kd.N_drewN | apply Kd.N_drew)); exact HO_3.out) (Kd.N_base ho11) hb); have HO114 := asT (Kd.N_lower ho11 (below_size (hbT HB.out))); replace HB := hS HB hb; clear hb ho11))
     go_loopg [5, 6] k1 (fun kq v5 v6 w' => ∃ (x5_2 : List (List Int)) (x6_2 : Int), v6 = .int .i64 x6_2 ∧ Aside0 (spec_AllRankings.l1 kq a0 x3_1 x4_1 x5_2 x6_2 = some r) ∧ Aside0 (kq ≤ k1) ∧ Aside0 (Kd.N (Kd.slice 3 (Kd.int .i64)) 58 w' w.heap.size (fun k_ => (w.heap.size ≤ k_) ∧ some k_ ≠ (v5 : Value).ownBlock) u3 x3_1) ∧ Aside0 (Kd.N (Kd.slice 3 (Kd.int .i64)) 58 w' w.heap.size (fun k_ => (w.heap.size ≤ k_) ∧ some k_ ≠ (u3 : Value).ownBlock) v5 x5_2) ∧ Aside0 (Below w.heap.size w w'))
     case atStart => exact ⟨(y112), (0), rdT, H', ⟨Nat.le_refl _⟩, ⟨by (with_reducible repeat (first | apply Kd.N_alloc | apply Kd.N_drewN | apply Kd.N_drew)); exact HO_3.out⟩, ⟨by (with_reducible repeat (first | apply Kd.N_alloc | apply Kd.N_drewN | apply Kd.N_drew)); exact HO114.out⟩, ⟨hbT HB.out⟩⟩
     case round =>
      clear H'; (try clear c1 p2 c3 c5 c9 c9b0 c10 p2); obtain ⟨x5_2, x6_2, rfl, HA, HK2, HO_3, HO_5, HB⟩ := hrel
      cases gk with
      | zero => exact absurd HA.out (by simp [spec_AllRankings.l1])
      | succ k2 =>
       have H := HA.out; clear HA
       simp only [spec_AllRankings.l1] at H
       by_cases c12 : x6_2 < (x3_1.length : Int)
       ·rw [if_pos c12] at H
        have c12b0 : decide (x6_2 < (x3_1.length : Int)) = true := decide_eq_true c12
        clear c12; have H' := Aside0.mk H; clear H; obtain ⟨Ao13, co13, eo13⟩ := Kd.N_slice HO_3.out; subst eo13
        go_wp2
        go_loopg [5, 7] k2 (fun kq v5 v7 w' => ∃ (x5_3 : List (List Int)) (x7_3 : Int), v7 = .int .i64 x7_3 ∧ Aside0 (spec_AllRankings.l2 kq a0 x3_1 x4_1 x5_3 x6_2 x7_3 = some r) ∧ Aside0 (kq ≤ k2) ∧ Aside0 (Kd.N (Kd.slice 3 (Kd.int .i64)) 58 w' w.heap.size (fun k_ => (w.heap.size ≤ k_) ∧ some k_ ≠ (v5 : Value).ownBlock) (.slice Ao13 x3_1.length co13) x3_1) ∧ Aside0 (Kd.N (Kd.slice 3 (Kd.int .i64)) 58 w' w.heap.size (fun k_ => (w.heap.size ≤ k_) ∧ some k_ ≠ ((.slice Ao13 x3_1.length co13) : Value).ownBlock) v5 x5_3) ∧ Aside0 (Below w.heap.size w w'))
        case atStart => exact ⟨(x5_2), (0), rdT, H', ⟨Nat.le_refl _⟩, ⟨by (with_reducible repeat (first | apply Kd.N_alloc | apply Kd.N_drewN | apply Kd.N_drew)); exact HO_3.out⟩, ⟨by (with_reducible repeat (first | apply Kd.N_alloc | apply Kd.N_drewN | apply Kd.N_drew)); exact HO_5.out⟩, ⟨hbT HB.out⟩⟩
        case round =>
         clear H'; (try clear c1 p2 c3 c5 c9 c9b0 c10 c12 c12b0 p2); obtain ⟨x5_3, x7_3, rfl, HA, HK3, HO_3, HO_5, HB⟩ := hrel
         cases gk with
         | zero => exact absurd HA.out (by simp [spec_AllRankings.l2])
         | succ k3 =>
          have H := HA.out; clear HA
          simp only [spec_AllRankings.l2] at H
          by_cases c14 : x7_3 < a0
          ·rw [if_pos c14] at H
           have c14b0 : decide (x7_3 < a0) = true := decide_eq_true c14
           clear c14
           by_cases c15 : 0 ≤ x6_2
           ·rw [if_pos c15] at H
            have c15b0 : decide (0 ≤ x6_2) = true := decide_eq_true c15
            clear c15
            by_cases c16 : x6_2 < (x3_1.length : Int)
            ·rw [if_pos c16] at H
             have c16b0 : decide (x6_2 < (x3_1.length : Int)) = true := decide_eq_true c16
             clear c16; obtain ⟨t116, A17, H⟩ := be H
             by_cases c18 : t116 = true
             ·subst c18
              rw [if_pos rfl] at H; have H' := Aside0.mk H; clear H
              have p115 : 0 ≤ (x6_2 : Int) := of_decide_eq_true asmT
              have q115 : x6_2 < (x3_1.length : Int) := of_decide_eq_true asmT
              obtain ⟨ad115, A115_0, c115_0, e115, hx115_0, hl115_0, hi115_0⟩ := at_L1 (Kd.N_reads' HO_3.out).2.2 x6_2 p115 q115
              cases e115
              obtain ⟨ce115, hce115, hMe115, hcc115⟩ := Kd.N_get HO_3.out [] x6_2 p115 (by first | exact q115 | exact of_decide_eq_true asmT | (have e_ := (Kd.N_reads' HO_3.out).1; omega)); obtain ⟨ua115_0, uc115_0, rfl, ul115_0, ge115_0⟩ := Kd.FK_slice_open hMe115; have hv115_0 := hcc115 0 _ rfl; rw [Nat.add_zero, show ((Kd.slice 3 (Kd.int .i64))).sz = 1 from rfl, Nat.mul_one] at hv115_0; replace hv115_0 := Option.some.inj (hv115_0.symm.trans hx115_0)
              injection hv115_0 with hva_ hvn_ hvc_
              rw [hva_] at ge115_0; rw [hvc_] at ul115_0; have HL115_0 := asT (show Kd.V (Kd.int .i64) 3 _ w.heap.size _ _ (rd_L1 x3_1 x6_2) from Kd.V_mk ul115_0 ge115_0); clear hva_ hvn_ hvc_ ge115_0 ul115_0 hcc115 hce115; have HR115_0 := Aside0.mk hi115_0; have HC115_0 := Aside0.mk hl115_0; clear hi115_0 hl115_0; replace p115 := eq_true p115; replace q115 := eq_true q115
              go_wp2_with (first | ((with_reducible refine gate_callee (f := 104) rfl ?_); refine goesL_ (some 36) rfl rfl Try.func104 (by kernel_rfl) rfl #[.slice A115_0 (rd_L1 x3_1 x6_2).length c115_0, .int .i64 x7_3] rfl eqT ?_; (with_reducible refine (spec_l12Has.calls k3 _ _ (rd_L1 x3_1 x6_2) x7_3 true _ ?side1 ?side2 A17.out).mono ?_); (case side1 => repeat (first | exact (by repeat (first | (with_reducible exact HR115_0.out) | (with_reducible refine Kd.C_alloc ?_ _) | (with_reducible refine Kd.C_drewN ?_ _) | (with_reducible refine Kd.C_drew ?_) | exact HR115_0.out)) | (with_reducible refine Kd.C_alloc ?_ _) | (with_reducible refine Kd.C_drewN ?_ _) | (with_reducible refine Kd.C_drew ?_))); (case side2 => exact HC115_0.out); rintro e w' ⟨rfl, ⟨nd, rfl⟩⟩; refine ⟨_, rfl, ?_⟩))
              go_roundg k3
              case measure => have := HK1.out; have := HK2.out; have := HK3.out; omega
              case rel => exact ⟨(x5_3), (wrap64 (x7_3 + 1)), rdT, H', ⟨by have := HK1.out; have := HK2.out; have := HK3.out; omega⟩, ⟨by (with_reducible repeat (first | apply Kd.N_alloc | apply Kd.N_drewN | apply Kd.N_drew)); exact HO_3.out⟩, ⟨by (with_reducible repeat (first | apply Kd.N_alloc | apply Kd.N_drewN | apply Kd.N_drew)); exact HO_5.out⟩, ⟨hbT HB.out⟩⟩
             ·replace c18 := Bool.eq_false_iff.mpr c18
              subst c18; rw [if_neg nF] at H; obtain ⟨y117, hy117⟩ : ∃ y_ : List Int, y_ = (([] : List Int)) := ⟨_, rfl⟩
              replace H : (if y117.length + (rd_L1 x3_1 x6_2).length < 17592186044416 then ((some (y117 ++ (rd_L1 x3_1 x6_2) : List Int)).bind fun y121 => (if y121.length < 17592186044416 then (if x5_3.length < 5864062014805 then (spec_AllRankings.l2 k3 a0 x3_1 x4_1 (x5_3 ++ [(y121 ++ [x7_3])]) x6_2 (wrap64 (x7_3 + 1))) else (none)) else (none))) else (none)) = some r := by first | (rw [hy117]; with_reducible exact H) | (have H2_ := (Option.bind_some _ _).symm.trans H; rw [hy117]; with_reducible exact H2_) | (have H2_ := (Option.bind_some _ _).symm.trans H; with_reducible exact H2_) | with_reducible exact H | (rw [hy117]; exact H) | exact H
              have Ny117 := Aside0.mk hy117; clear hy117
              by_cases c19 : y117.length + (rd_L1 x3_1 x6_2).length < 17592186044416
              ·rw [if_pos c19] at H
               have LMc19 := Aside0.mk c19; clear c19; obtain ⟨y121, hy121⟩ : ∃ y_ : List Int, y_ = (y117 ++ (rd_L1 x3_1 x6_2)) := ⟨_, rfl⟩
               replace H : (if y121.length < 17592186044416 then (if x5_3.length < 5864062014805 then (spec_AllRankings.l2 k3 a0 x3_1 x4_1 (x5_3 ++ [(y121 ++ [x7_3])]) x6_2 (wrap64 (x7_3 + 1))) else (none)) else (none)) = some r := by first | (rw [hy121]; with_reducible exact H) | (have H2_ := (Option.bind_some _ _).symm.trans H; rw [hy121]; with_reducible exact H2_) | (have H2_ := (Option.bind_some _ _).symm.trans H; with_reducible exact H2_) | with_reducible exact H | (rw [hy121]; exact H) | exact H
               have Ny121 := Aside0.mk hy121; clear hy121
               by_cases c20 : y121.length < 17592186044416
               ·rw [if_pos c20] at H
                have LMc20 := Aside0.mk c20; clear c20; obtain ⟨y124, hy124⟩ : ∃ y_ : List Int, y_ = (y121 ++ [x7_3]) := ⟨_, rfl⟩
                replace H : (if x5_3.length < 5864062014805 then (spec_AllRankings.l2 k3 a0 x3_1 x4_1 (x5_3 ++ [y124]) x6_2 (wrap64 (x7_3 + 1))) else (none)) = some r := by first | (rw [hy124]; with_reducible exact H) | (have H2_ := (Option.bind_some _ _).symm.trans H; rw [hy124]; with_reducible exact H2_) | (have H2_ := (Option.bind_some _ _).symm.trans H; with_reducible exact H2_) | with_reducible exact H | (rw [hy124]; exact H) | exact H
                have Ny124 := Aside0.mk hy124; clear hy124
                by_cases c21 : x5_3.length < 5864062014805
                ·rw [if_pos c21] at H
                 have LMc21 := Aside0.mk c21; clear c21; obtain ⟨y127, hy127⟩ : ∃ y_ : List (List Int), y_ = (x5_3 ++ [y124]) := ⟨_, rfl⟩
                 replace H : (spec_AllRankings.l2 k3 a0 x3_1 x4_1 y127 x6_2 (wrap64 (x7_3 + 1))) = some r := by first | (rw [hy127]; with_reducible exact H) | (have H2_ := (Option.bind_some _ _).symm.trans H; rw [hy127]; with_reducible exact H2_) | (have H2_ := (Option.bind_some _ _).symm.trans H; with_reducible exact H2_) | with_reducible exact H | (rw [hy127]; exact H) | exact H
                 have Ny127 := Aside0.mk hy127; clear hy127; have H' := Aside0.mk H; clear H
                 have p115 : 0 ≤ (x6_2 : Int) := of_decide_eq_true asmT
                 have q115 : x6_2 < (x3_1.length : Int) := of_decide_eq_true asmT
                 obtain ⟨ad115, A115_0, c115_0, e115, hx115_0, hl115_0, hi115_0⟩ := at_L1 (Kd.N_reads' HO_3.out).2.2 x6_2 p115 q115
                 cases e115
                 obtain ⟨ce115, hce115, hMe115, hcc115⟩ := Kd.N_get HO_3.out [] x6_2 p115 (by first | exact q115 | exact of_decide_eq_true asmT | (have e_ := (Kd.N_reads' HO_3.out).1; omega)); obtain ⟨ua115_0, uc115_0, rfl, ul115_0, ge115_0⟩ := Kd.FK_slice_open hMe115; have hv115_0 := hcc115 0 _ rfl; rw [Nat.add_zero, show ((Kd.slice 3 (Kd.int .i64))).sz = 1 from rfl, Nat.mul_one] at hv115_0; replace hv115_0 := Option.some.inj (hv115_0.symm.trans hx115_0)
                 injection hv115_0 with hva_ hvn_ hvc_
                 rw [hva_] at ge115_0; rw [hvc_] at ul115_0; have HL115_0 := asT (show Kd.V (Kd.int .i64) 3 _ w.heap.size _ _ (rd_L1 x3_1 x6_2) from Kd.V_mk ul115_0 ge115_0); clear hva_ hvn_ hvc_ ge115_0 ul115_0 hcc115 hce115; have HR115_0 := Aside0.mk hi115_0; have HC115_0 := Aside0.mk hl115_0; clear hi115_0 hl115_0; replace p115 := eq_true p115; replace q115 := eq_true q115
                 go_wp2_with (first | ((with_reducible refine gate_callee (f := 104) rfl ?_); refine goesL_ (some 36) rfl rfl Try.func104 (by kernel_rfl) rfl #[.slice A115_0 (rd_L1 x3_1 x6_2).length c115_0, .int .i64 x7_3] rfl eqT ?_; (with_reducible refine (spec_l12Has.calls k3 _ _ (rd_L1 x3_1 x6_2) x7_3 false _ ?side1 ?side2 A17.out).mono ?_); (case side1 => repeat (first | exact (by repeat (first | (with_reducible exact HR115_0.out) | (with_reducible refine Kd.C_alloc ?_ _) | (with_reducible refine Kd.C_drewN ?_ _) | (with_reducible refine Kd.C_drew ?_) | exact HR115_0.out)) | (with_reducible refine Kd.C_alloc ?_ _) | (with_reducible refine Kd.C_drewN ?_ _) | (with_reducible refine Kd.C_drew ?_))); (case side2 => exact HC115_0.out); rintro e w' ⟨rfl, ⟨nd, rfl⟩⟩; refine ⟨_, rfl, ?_⟩) | ((with_reducible refine gate_dst (N := 39) rfl ?_); refine Kd.R_lit (Kd.int .i64) _ 3 ?hg (N := 39) ?hd (xs := ([] : List Int)) (inner := []) (ok := fun _ => True) (okp := fun _ => True) ?hr ?hp (fun _ hk => hk) trivial (Below.refl _ _) (Nat.le_refl _) (by simp) ?_; (case hd => rfl); (case hg => rfl); (case hr => first | (go_simp; done) | (go_simp; rfl)); (case hp => exact (Reps.none _ _)); intro v118 w22 ho23 hb hg_ hnew_; clear hg_ hnew_; (first | rw [← Ny117.out] at ho23 | (simp only [Int.reduceToNat] at ho23; rw [← Ny117.out] at ho23)); replace HO_3 := asT (Kd.N_elder' (by (with_reducible repeat (first | apply Kd.N_alloc | apply Kd.N_drewN | apply Kd.N_drew)); exact HO_3.out) (Kd.R_base ho23) hb); replace HO_5 := asT (Kd.N_elder' (by (with_reducible repeat (first | apply Kd.N_alloc | apply Kd.N_drewN | apply Kd.N_drew)); exact HO_5.out) (Kd.R_base ho23) hb); replace HL115_0 := asT (Kd.V_elder' (by (with_reducible repeat (first | apply Kd.V_alloc | apply Kd.V_drewN | apply Kd.V_drew)); exact HL115_0.out) (Kd.R_base ho23) hb); have HO119 := asT (Kd.R_lower (Kd.R_newM (M := fun k_ => (w.heap.size ≤ k_)) ho23 (below_size (hbT HB.out)) (fun k_ h_ => h_)) (below_size (hbT HB.out))); replace HR115_0 := asT (Kd.C_below (by repeat (first | (with_reducible exact HR115_0.out) | (with_reducible refine Kd.C_alloc ?_ _) | (with_reducible refine Kd.C_drewN ?_ _) | (with_reducible refine Kd.C_drew ?_) | exact HR115_0.out)) hb); replace HB := hS HB hb; clear hb ho23; have p120 : 0 ≤ (x6_2 : Int) := of_decide_eq_true asmT; have q120 : x6_2 < (x3_1.length : Int) := of_decide_eq_true asmT; obtain ⟨ad120, A120_0, c120_0, e120, hx120_0, hl120_0, hi120_0⟩ := at_L1 (Kd.N_reads' HO_3.out).2.2 x6_2 p120 q120; obtain rfl : ad115 = ad120 := (by injection e120); obtain ⟨ce120, hce120, hMe120, hcc120⟩ := Kd.N_get HO_3.out [] x6_2 p120 (by first | exact q120 | exact of_decide_eq_true asmT | (have e_ := (Kd.N_reads' HO_3.out).1; omega)); obtain ⟨ua120_0, uc120_0, rfl, ul120_0, ge120_0⟩ := Kd.FK_slice_open hMe120; have hv120_0 := hcc120 0 _ rfl; rw [Nat.add_zero, show ((Kd.slice 3 (Kd.int .i64))).sz = 1 from rfl, Nat.mul_one] at hv120_0; replace hv120_0 := Option.some.inj (hv120_0.symm.trans hx120_0); injection hv120_0 with hva_ hvn_ hvc_; rw [hva_] at ge120_0; rw [hvc_] at ul120_0; have HL120_0 := asT (show Kd.V (Kd.int .i64) 3 _ w.heap.size _ _ (rd_L1 x3_1 x6_2) from Kd.V_mk ul120_0 ge120_0); clear hva_ hvn_ hvc_ ge120_0 ul120_0 hcc120 hce120; have HR120_0 := Aside0.mk hi120_0; have HC120_0 := Aside0.mk hl120_0; clear hi120_0 hl120_0; replace p120 := eq_true p120; replace q120 := eq_true q120) | ((with_reducible refine gate_builtin (b := .append) (xs := #[.tmp 39, .tmp 43]) rfl ?_); at_builtin; refine Kd.R_append_rows (Kd.int .i64) (w0 := w) w.heap.size rfl (.tmp 39) (.tmp 43) 58 3 (.int .i64 0) 8 rfl Try.underlying58 info3 rfl (by decide) (by omega) v118 y117 (rd_L1 x3_1 x6_2) _ _ _ (fun k_ => (w.heap.size ≤ k_)) (fun _ => False) rfl rfl ?aO ?aR (fun _ _ h => h) (fun _ h => h.elim) ?aF ?aB ?aS ?aL ?_; (case aR => repeat (first | exact (by repeat (first | (with_reducible exact HR120_0.out) | (with_reducible refine Kd.C_alloc ?_ _) | (with_reducible refine Kd.C_drewN ?_ _) | (with_reducible refine Kd.C_drew ?_) | exact HR120_0.out)) | (with_reducible refine Kd.C_alloc ?_ _) | (with_reducible refine Kd.C_drewN ?_ _) | (with_reducible refine Kd.C_drew ?_))); (case aB => exact (hbT HB.out)); (case aF => exact (fun k_ hk => (Nat.le_trans (below_size (hbT HB.out)) hk))); (case aO => exact (by (with_reducible repeat (first | apply Kd.R_alloc | apply Kd.R_drewN | apply Kd.R_drew)); exact Kd.R_mono HO119.out (fun _ hk => hk.1))); (case aS => exact (below_size (hbT HB.out))); (case aL => have := LMc19.out; omega); intro v122 w24 ho hb hg hat; rw [← Ny121.out] at ho; replace HO_3 := asT (Kd.N_afterv (ok := (fun k_ => (w.heap.size ≤ k_) ∧ some k_ ≠ (u5 : Value).ownBlock)) (by (with_reducible repeat (first | apply Kd.N_alloc | apply Kd.N_drewN | apply Kd.N_drew)); exact HO_3.out) hg hat); replace HO_5 := asT (Kd.N_afterv (ok := (fun k_ => (w.heap.size ≤ k_) ∧ some k_ ≠ (.slice (some ad115) x3_1.length co13 : Value).ownBlock)) (by (with_reducible repeat (first | apply Kd.N_alloc | apply Kd.N_drewN | apply Kd.N_drew)); exact HO_5.out) hg hat); replace HL115_0 := asT (Kd.V_afterv (ok := (fun k_ => (w.heap.size ≤ k_) ∧ some k_ ≠ (.slice (some ad115) x3_1.length co13 : Value).ownBlock ∧ some k_ ≠ (u5 : Value).ownBlock)) (by (with_reducible repeat (first | apply Kd.V_alloc | apply Kd.V_drewN | apply Kd.V_drew)); exact Kd.V_mono HL115_0.out (fun _ hk => ⟨⟨hk.1.1.1, ⟨hk.1.2, hk.1.1.2⟩⟩, hk.2⟩)) hg hat); replace HL120_0 := asT (Kd.V_afterv (ok := (fun k_ => (w.heap.size ≤ k_) ∧ some k_ ≠ (.slice (some ad115) x3_1.length co13 : Value).ownBlock ∧ some k_ ≠ (u5 : Value).ownBlock)) (by (with_reducible repeat (first | apply Kd.V_alloc | apply Kd.V_drewN | apply Kd.V_drew)); exact Kd.V_mono HL120_0.out (fun _ hk => ⟨⟨hk.1.1.1, ⟨hk.2, hk.1.1.2⟩⟩, hk.1.2⟩)) hg hat); replace HB := asT (hb); have HO123 := asT (ho); clear HO119 ho hb hg hat) | ((with_reducible refine gate_builtin (b := .append) (xs := #[.tmp 44, .tmp 46]) rfl ?_); at_builtin; refine Kd.R_append (Kd.int .i64) (w0 := w) w.heap.size rfl (.tmp 44) (.tmp 46) 58 3 (.int .i64 0) 8 rfl Try.underlying58 info3 rfl (by decide) (by omega) v122 y121 x7_3 [.int .i64 x7_3] (fun k_ => (w.heap.size ≤ k_)) (fun _ => False) rfl rfl ?aP (fun _ hk => hk.elim) ?aF ?aO ?aB ?aS ?aL ?_; (case aP => exact rfl); (case aB => exact (hbT HB.out)); (case aF => exact (fun k_ hk => (Nat.le_trans (below_size (hbT HB.out)) hk))); (case aO => exact (roT HO123.out)); (case aS => exact (below_size (hbT HB.out))); (case aL => have := LMc20.out; omega); intro v125 w25 ho hb hg hat; rw [← Ny124.out] at ho; replace HO_3 := asT (Kd.N_afterv (ok := (fun k_ => (w.heap.size ≤ k_) ∧ some k_ ≠ (u5 : Value).ownBlock)) (by (with_reducible repeat (first | apply Kd.N_alloc | apply Kd.N_drewN | apply Kd.N_drew)); exact HO_3.out) hg hat); replace HO_5 := asT (Kd.N_afterv (ok := (fun k_ => (w.heap.size ≤ k_) ∧ some k_ ≠ (.slice (some ad115) x3_1.length co13 : Value).ownBlock)) (by (with_reducible repeat (first | apply Kd.N_alloc | apply Kd.N_drewN | apply Kd.N_drew)); exact HO_5.out) hg hat); replace HL115_0 := asT (Kd.V_afterv (ok := (fun k_ => (w.heap.size ≤ k_) ∧ some k_ ≠ (.slice (some ad115) x3_1.length co13 : Value).ownBlock ∧ some k_ ≠ (u5 : Value).ownBlock)) (by (with_reducible repeat (first | apply Kd.V_alloc | apply Kd.V_drewN | apply Kd.V_drew)); exact HL115_0.out) hg hat); replace HL120_0 := asT (Kd.V_afterv (ok := (fun k_ => (w.heap.size ≤ k_) ∧ some k_ ≠ (.slice (some ad115) x3_1.length co13 : Value).ownBlock ∧ some k_ ≠ (u5 : Value).ownBlock)) (by (with_reducible repeat (first | apply Kd.V_alloc | apply Kd.V_drewN | apply Kd.V_drew)); exact HL120_0.out) hg hat); replace HB := asT (hb); have HO126 := asT (ho); clear HO123 ho hb hg hat; obtain ⟨Ao27, co27, eo27⟩ := Kd.R_slice HO126.out; subst eo27) | ((with_reducible refine gate_builtin (b := .append) (xs := #[.tmp 38, .tmp 48]) rfl ?_); at_builtin; refine Kd.N_append (Kd.slice 3 (Kd.int .i64)) (w0 := w) w.heap.size rfl (.tmp 38) (.tmp 48) 51 58 (.slice none 0 0) 24 rfl Try.underlying51 info58 rfl (by decide) (by omega) u5 x5_3 y124 [.slice Ao27 y124.length co27] (fun k_ => (w.heap.size ≤ k_) ∧ some k_ ≠ (.slice (some ad115) x3_1.length co13 : Value).ownBlock) (fun k_ => ((fun k_ => (w.heap.size ≤ k_) ∧ some k_ ≠ (.slice (some ad115) x3_1.length co13 : Value).ownBlock)) k_ ∧ some k_ ≠ (u5 : Value).ownBlock) rfl rfl ?aP (fun _ hk => hk) ?aF ?aO ?aB ?aS ?aL ?_; (case aP => exact (Kd.FK_slice_mk (Kd.R_reads' (Kd.R_mono (ok' := (fun k_ => ((fun k_ => (w.heap.size ≤ k_) ∧ some k_ ≠ (.slice (some ad115) x3_1.length co13 : Value).ownBlock)) k_ ∧ some k_ ≠ (u5 : Value).ownBlock)) (Kd.R_apart' (Kd.R_apart' (HO126.out) (Kd.N_typed HO_3.out) (by decide)) (Kd.N_typed HO_5.out) (by decide)) (fun k_ hk => ⟨⟨hk.1.1, hk.1.2⟩, hk.2⟩))).2.1 (Kd.R_F (Kd.R_mono (ok' := (fun k_ => ((fun k_ => (w.heap.size ≤ k_) ∧ some k_ ≠ (.slice (some ad115) x3_1.length co13 : Value).ownBlock)) k_ ∧ some k_ ≠ (u5 : Value).ownBlock)) (Kd.R_apart' (Kd.R_apart' (HO126.out) (Kd.N_typed HO_3.out) (by decide)) (Kd.N_typed HO_5.out) (by decide)) (fun k_ hk => ⟨⟨hk.1.1, hk.1.2⟩, hk.2⟩))))); (case aB => exact (hbT HB.out)); (case aF => exact (fun k_ hk => ⟨(Nat.le_trans (below_size (hbT HB.out)) hk), Kd.fresh' (Kd.N_lt (by (with_reducible repeat (first | apply Kd.N_alloc | apply Kd.N_drewN | apply Kd.N_drew)); exact HO_3.out)) k_ hk⟩)); (case aO => exact (by (with_reducible repeat (first | apply Kd.N_alloc | apply Kd.N_drewN | apply Kd.N_drew)); exact Kd.N_mono HO_5.out (fun _ hk => ⟨hk.1.1, hk.1.2⟩))); (case aS => exact (below_size (hbT HB.out))); (case aL => have := LMc21.out; omega); intro v128 w26 ho hb hg hat; rw [← Ny127.out] at ho; replace HO_3 := asT (Kd.N_afterv (ok := (fun k_ => (w.heap.size ≤ k_) ∧ some k_ ≠ (.slice Ao27 y124.length co27 : Value).ownBlock)) (by (with_reducible repeat (first | apply Kd.N_alloc | apply Kd.N_drewN | apply Kd.N_drew)); exact Kd.N_mono HO_3.out (fun _ hk => ⟨⟨hk.1.1, hk.2⟩, hk.1.2⟩)) hg hat); replace HL115_0 := asT (Kd.V_afterv (ok := (fun k_ => (w.heap.size ≤ k_) ∧ some k_ ≠ (.slice (some ad115) x3_1.length co13 : Value).ownBlock ∧ some k_ ≠ (.slice Ao27 y124.length co27 : Value).ownBlock)) (by (with_reducible repeat (first | apply Kd.V_alloc | apply Kd.V_drewN | apply Kd.V_drew)); exact Kd.V_mono HL115_0.out (fun _ hk => ⟨⟨hk.1.1, ⟨hk.1.2.1, hk.2⟩⟩, hk.1.2.2⟩)) hg hat); replace HL120_0 := asT (Kd.V_afterv (ok := (fun k_ => (w.heap.size ≤ k_) ∧ some k_ ≠ (.slice (some ad115) x3_1.length co13 : Value).ownBlock ∧ some k_ ≠ (.slice Ao27 y124.length co27 : Value).ownBlock)) (by (with_reducible repeat (first | apply Kd.V_alloc | apply Kd.V_drewN | apply Kd.V_drew)); exact Kd.V_mono HL120_0.out (fun _ hk => ⟨⟨hk.1.1, ⟨hk.1.2.1, hk.2⟩⟩, hk.1.2.2⟩)) hg hat); replace HB := asT (hb); have HO129 := asT (ho); clear HO_5 HO126 ho hb hg hat))
                 go_roundg k3
                 case measure => have := HK1.out; have := HK2.out; have := HK3.out; omega
                 case rel => exact ⟨(y127), (wrap64 (x7_3 + 1)), rdT, H', ⟨by have := HK1.out; have := HK2.out; have := HK3.out; omega⟩, ⟨by (with_reducible repeat (first | apply Kd.N_alloc | apply Kd.N_drewN | apply Kd.N_drew)); exact Kd.N_mono HO_3.out (fun _ hk => ⟨hk.1.1, hk.2⟩)⟩, ⟨by (with_reducible repeat (first | apply Kd.N_alloc | apply Kd.N_drewN | apply Kd.N_drew)); exact HO129.out⟩, ⟨hbT HB.out⟩⟩
                ·rw [if_neg c21] at H
                 exact absurd H (by simp)
               ·rw [if_neg c20] at H
                exact absurd H (by simp)
              ·rw [if_neg c19] at H
               exact absurd H (by simp)
            ·rw [if_neg c16] at H
             exact absurd H (by simp)
           ·rw [if_neg c15] at H
            exact absurd H (by simp)
          ·rw [if_neg c14] at H
           have c14b0 : decide (x7_3 < a0) = false := decide_eq_false c14
           clear c14; have H' := Aside0.mk H; clear H
           go_wp2
           go_roundg k3
           case measure => have := HK1.out; have := HK2.out; have := HK3.out; omega
           case rel => exact ⟨(x5_3), (wrap64 (x6_2 + 1)), rdT, H', ⟨by have := HK1.out; have := HK2.out; have := HK3.out; omega⟩, ⟨by (with_reducible repeat (first | apply Kd.N_alloc | apply Kd.N_drewN | apply Kd.N_drew)); exact HO_3.out⟩, ⟨by (with_reducible repeat (first | apply Kd.N_alloc | apply Kd.N_drewN | apply Kd.N_drew)); exact HO_5.out⟩, ⟨hbT HB.out⟩⟩
       ·rw [if_neg c12] at H
        have c12b0 : decide (x6_2 < (x3_1.length : Int)) = false := decide_eq_false c12
        clear c12; have H' := Aside0.mk H; clear H; obtain ⟨Ao28, co28, eo28⟩ := Kd.N_slice HO_3.out; subst eo28
        go_wp2
        go_roundg k2
        case measure => have := HK1.out; have := HK2.out; omega
        case rel => exact ⟨(x5_2), (wrap64 (x4_1 + 1)), rdT, H', ⟨by have := HK1.out; have := HK2.out; omega⟩, ⟨by (with_reducible repeat (first | apply Kd.N_alloc | apply Kd.N_drewN | apply Kd.N_drew)); exact Kd.N_mono HO_5.out (fun _ hk => hk.1)⟩, ⟨hbT HB.out⟩⟩
    ·rw [if_neg c9] at H
     have c9b0 : decide (x4_1 < a0) = false := decide_eq_false c9
     clear c9
     obtain rfl := Option.some.inj H
     go_wp2
     go_ret
     exact ⟨_, rlT, by (with_reducible repeat (first | apply Kd.N_alloc | apply Kd.N_drewN | apply Kd.N_drew)); exact HO_3.out, hbT HB.out⟩
 ·replace c3 := Bool.eq_false_iff.mpr c3
  subst c3; rw [if_neg nF] at H; obtain ⟨y103, hy103⟩ : ∃ y_ : List (List Int), y_ = (([] : List (List Int))) := ⟨_, rfl⟩
  replace H : (some y103) = some r := by first | (rw [hy103]; with_reducible exact H) | (have H2_ := (Option.bind_some _ _).symm.trans H; rw [hy103]; with_reducible exact H2_) | (have H2_ := (Option.bind_some _ _).symm.trans H; with_reducible exact H2_) | with_reducible exact H | (rw [hy103]; exact H) | exact H
  have Ny103 := Aside0.mk hy103; clear hy103
  obtain rfl := Option.some.inj H
  go_enter Try.func50, Try.ntmps50
  go_wp2_with (first | ((with_reducible refine gate_callee (f := 103) rfl ?_); refine goesL_ (some 9) rfl rfl Try.func103 (by kernel_rfl) rfl #[.int .i64 a0, .int .i64 1, .int .i64 5] rfl eqT ?_; (with_reducible refine (spec_l1In.calls a0 1 5 false _ A2.out).mono ?_); rintro e w' ⟨rfl, ⟨nd, rfl⟩⟩; refine ⟨_, rfl, ?_⟩) | ((with_reducible refine gate_dst (N := 11) rfl ?_); refine Kd.N_lit (Kd.slice 3 (Kd.int .i64)) _ 58 ?hg (N' := 11) ?hd (xs := ([] : List (List Int))) (inner := []) (ok := (fun k_ => (w.heap.size ≤ k_))) (okp := (fun k_ => (w.heap.size ≤ k_))) ?hr ?hp (fun _ hk => hk) ((show ∀ k_, w.heap.size ≤ k_ → (fun k_ => (w.heap.size ≤ k_)) k_ from fun k_ hk => (Nat.le_trans (below_size (hbT HB.out)) hk)) _ (Nat.le_refl _)) (Below.refl _ _) (Nat.le_refl _) (by simp) ?_; (case hd => rfl); (case hg => rfl); (case hr => first | (go_simp; done) | (go_simp; rfl)); (case hp => exact (Reps.none _ _)); intro v104 w29 ho30 hb hg_ hnew_; clear hg_ hnew_; (first | rw [← Ny103.out] at ho30 | (simp only [Int.reduceToNat] at ho30; rw [← Ny103.out] at ho30)); have HO105 := asT (Kd.N_lower ho30 (below_size (hbT HB.out))); replace HB := hS HB hb; clear hb ho30))
  go_ret
  exact ⟨_, rlT, by (with_reducible repeat (first | apply Kd.N_alloc | apply Kd.N_drewN | apply Kd.N_drew)); exact HO105.out, hbT HB.out⟩

/-! ### impl_within: function 105 -/
def impl_within.f (a0 : Int) (a1 : Int) (a2 : Int) : Option (Bool) := if a1 ≤ a0 then (some (decide (a0 ≤ a2))) else (some false)
set_option maxHeartbeats 8000000 in
set_option maxRecDepth 100000 in
theorem impl_within.calls (a0 : Int) (a1 : Int) (a2 : Int) (r : Bool) (w : World) (h : impl_within.f a0 a1 a2 = some r) :
  Calls Try.prog 105 #[.int .i64 a0, .int .i64 a1, .int .i64 a2] w fun e w' => e = .returned (.bool r) ∧ Drawn0 w w' := by
 have H := h; unfold impl_within.f at H; clear h
 by_cases c4 : a1 ≤ a0
 ·rw [if_pos c4] at H
  have c4b0 : decide (a1 ≤ a0) = true := decide_eq_true c4
  clear c4
  obtain rfl := Option.some.inj H
  go_enter Try.func105, Try.ntmps105
  go_wp2
  go_ret
  exact ⟨rdT, drT⟩
 ·rw [if_neg c4] at H
  have c4b0 : decide (a1 ≤ a0) = false := decide_eq_false c4
  clear c4
  obtain rfl := Option.some.inj H
  go_enter Try.func105, Try.ntmps105
  go_wp2
  go_ret
  exact ⟨rdT, drT⟩

/-! ### slices_Index_int_int: function 138 -/
def slices_Index_int_int.l0 : Nat → List Int → Int → Int → Int → Option (Int)
 | 0, _, _, _, _ => none
 | k + 1, x0, x1, x7, x8 => if x8 < x7 then (if 0 ≤ x8 then (if x8 < (x0.length : Int) then (if x1 = (rd x0 x8) then (some x8) else (slices_Index_int_int.l0 k x0 x1 x7 (wrap64 (x8 + 1)))) else (none)) else (none)) else (some (-1))
def slices_Index_int_int.f (k : Nat) (l0 : List Int) (a1 : Int) : Option (Int) := slices_Index_int_int.l0 k l0 a1 (l0.length : Int) 0
theorem slices_Index_int_int.mono_l : ∀ k, (∀ y0 y1 y2 y3, LeO (slices_Index_int_int.l0 k y0 y1 y2 y3) (slices_Index_int_int.l0 (k + 1) y0 y1 y2 y3))
 | 0 => fun _ _ _ _ r h => by simp [slices_Index_int_int.l0] at h
 | k + 1 => by
  have ih0 := slices_Index_int_int.mono_l k
  ·intro y0 y1 y2 y3
   unfold slices_Index_int_int.l0
   with_reducible repeat' first | exact ih0 _ _ _ _ | exact LeO.refl _ | exact LeO.none _ | refine LeO.ite ?_ ?_ | refine LeO.bind ?_ (fun _ => ?_)
theorem slices_Index_int_int.mono : ∀ a0 a1 k, LeO (slices_Index_int_int.f k a0 a1) (slices_Index_int_int.f (k + 1) a0 a1) := by
 intro a0 a1 k
 have ih0 := slices_Index_int_int.mono_l k
 unfold slices_Index_int_int.f
 with_reducible repeat' first | exact ih0 _ _ _ _ | exact LeO.refl _ | exact LeO.none _ | refine LeO.ite ?_ ?_ | refine LeO.bind ?_ (fun _ => ?_)
set_option maxHeartbeats 8000000 in
set_option maxRecDepth 100000 in
theorem slices_Index_int_int.calls (k : Nat) (A0 : Option Addr) (c0 : Nat) (l0 : List Int) (a1 : Int) (r : Int) (w : World) (hr0 : Kd.C (Kd.int .i64) w A0 l0.length l0) (hc0 : l0.length ≤ c0) (h : slices_Index_int_int.f k l0 a1 = some r) :
  Calls Try.prog 138 #[.slice A0 l0.length c0, .int .i64 a1] w fun e w' => e = .returned (.int .i64 r) ∧ Drawn0 w w' := by
 have HR0 := Aside0.mk hr0; have HC0 := Aside0.mk hc0; clear hr0 hc0; have H := h; unfold slices_Index_int_int.f at H; clear h; have H' := Aside0.mk H; clear H
 go_enter Try.func138, Try.ntmps138
 go_wp2
 go_loopg [8] k (fun kq v8 w' => ∃ (x8_1 : Int), v8 = .int .i64 x8_1 ∧ Aside0 (slices_Index_int_int.l0 kq l0 a1 (l0.length : Int) x8_1 = some r) ∧ Aside0 (kq ≤ k) ∧ Drawn0 w w')
 case atStart => exact ⟨(0), rdT, H', ⟨Nat.le_refl _⟩, drT⟩
 case round =>
  clear H'; (try clear c1 p2); obtain ⟨x8_1, rfl, HA, HK1, ⟨m1, rfl⟩⟩ := hrel
  cases gk with
  | zero => exact absurd HA.out (by simp [slices_Index_int_int.l0])
  | succ k1 =>
   have H := HA.out; clear HA
   simp only [slices_Index_int_int.l0] at H
   by_cases c3 : x8_1 < (l0.length : Int)
   ·rw [if_pos c3] at H
    have c3b0 : decide (x8_1 < (l0.length : Int)) = true := decide_eq_true c3
    clear c3
    by_cases c4 : 0 ≤ x8_1
    ·rw [if_pos c4] at H
     have c4b0 : decide (0 ≤ x8_1) = true := decide_eq_true c4
     clear c4
     by_cases c5 : x8_1 < (l0.length : Int)
     ·rw [if_pos c5] at H
      have c5b0 : decide (x8_1 < (l0.length : Int)) = true := decide_eq_true c5
      clear c5
      by_cases c6 : a1 = (rd l0 x8_1)
      ·rw [if_pos c6] at H
       have c6b0 : (a1 == (rd l0 x8_1)) = true := beq_iff_eq.mpr c6
       have c6b1 : (a1 != (rd l0 x8_1)) = false := bne_eq_false_iff_eq.mpr c6
       clear c6
       obtain rfl := Option.some.inj H
       have p130 : 0 ≤ (x8_1 : Int) := of_decide_eq_true asmT
       have q130 : x8_1 < (l0.length : Int) := of_decide_eq_true asmT
       obtain ⟨ad130, e130, hx130_0⟩ := Kd.at_int HR0.out x8_1 p130 q130
       cases e130
       replace p130 := eq_true p130; replace q130 := eq_true q130
       go_wp2
       go_ret
       exact ⟨rdT, drT⟩
      ·rw [if_neg c6] at H
       have c6b0 : (a1 == (rd l0 x8_1)) = false := beq_eq_false_iff_ne.mpr c6
       have c6b1 : (a1 != (rd l0 x8_1)) = true := bne_iff_ne.mpr c6
       have H' := Aside0.mk H; clear H
       have p130 : 0 ≤ (x8_1 : Int) := of_decide_eq_true asmT
       have q130 : x8_1 < (l0.length : Int) := of_decide_eq_true asmT
       obtain ⟨ad130, e130, hx130_0⟩ := Kd.at_int HR0.out x8_1 p130 q130
       cases e130
       replace p130 := eq_true p130; replace q130 := eq_true q130
       go_wp2
       go_roundg k1
       case measure => have := HK1.out; omega
       case rel => exact ⟨(wrap64 (x8_1 + 1)), rdT, H', ⟨by have := HK1.out; omega⟩, drT⟩
     ·rw [if_neg c5] at H
      exact absurd H (by simp)
    ·rw [if_neg c4] at H
     exact absurd H (by simp)
   ·rw [if_neg c3] at H
    have c3b0 : decide (x8_1 < (l0.length : Int)) = false := decide_eq_false c3
    clear c3
    obtain rfl := Option.some.inj H
    go_wp2
    go_ret
    exact ⟨rdT, drT⟩

/-! ### slices_Contains_int_int: function 108 -/
def slices_Contains_int_int.f (k : Nat) (l0 : List Int) (a1 : Int) : Option (Bool) := (slices_Index_int_int.f k l0 a1).bind fun t131 => (some (decide (t131 ≥ 0)))
theorem slices_Contains_int_int.mono : ∀ a0 a1 k, LeO (slices_Contains_int_int.f k a0 a1) (slices_Contains_int_int.f (k + 1) a0 a1) := by
 intro a0 a1 k
 unfold slices_Contains_int_int.f
 with_reducible repeat' first | exact slices_Index_int_int.mono _ _ _ | exact LeO.refl _ | exact LeO.none _ | refine LeO.ite ?_ ?_ | refine LeO.bind ?_ (fun _ => ?_)
set_option maxHeartbeats 8000000 in
set_option maxRecDepth 100000 in
theorem slices_Contains_int_int.calls (k : Nat) (A0 : Option Addr) (c0 : Nat) (l0 : List Int) (a1 : Int) (r : Bool) (w : World) (hr0 : Kd.C (Kd.int .i64) w A0 l0.length l0) (hc0 : l0.length ≤ c0) (h : slices_Contains_int_int.f k l0 a1 = some r) :
  Calls Try.prog 108 #[.slice A0 l0.length c0, .int .i64 a1] w fun e w' => e = .returned (.bool r) ∧ Drawn0 w w' := by
 have HR0 := Aside0.mk hr0; have HC0 := Aside0.mk hc0; clear hr0 hc0; have H := h; unfold slices_Contains_int_int.f at H; clear h; obtain ⟨t131, A3, H⟩ := be H
 obtain rfl := Option.some.inj H
 go_enter Try.func108, Try.ntmps108
 go_wp2_with (first | ((with_reducible refine gate_callee (f := 138) rfl ?_); refine goesL_ (some 7) rfl rfl Try.func138 (by kernel_rfl) rfl #[.slice A0 l0.length c0, .int .i64 a1] rfl eqT ?_; (with_reducible refine (slices_Index_int_int.calls k _ _ l0 a1 t131 _ ?side1 ?side2 A3.out).mono ?_); (case side1 => repeat (first | exact HR0.out | (with_reducible refine Kd.C_alloc ?_ _) | (with_reducible refine Kd.C_drewN ?_ _) | (with_reducible refine Kd.C_drew ?_))); (case side2 => exact HC0.out); rintro e w' ⟨rfl, ⟨nd, rfl⟩⟩; refine ⟨_, rfl, ?_⟩))
 go_ret
 exact ⟨rdT, drT⟩

/-! ### impl_AllRankings: function 51 -/
def rk (n : Nat) : Nat → List Int → List (List Int)
  | 0, _ => []
  | m + 1, L => if L.length = n then [L] else (List.range n).flatMap fun (k : Nat) => if (k : Int) ∈ L then [] else rk n m (L ++ [(k : Int)])
abbrev KI : Kd Int := Kd.int .i64
abbrev KS : Kd (List Int) := Kd.slice 3 (Kd.int .i64)
def farB (Bl Bn Bo Br k : Nat) : Prop := k ≠ Bl ∧ k ≠ Bn ∧ k ≠ Bo ∧ k ≠ Br
structure RInv (n Bl Bn Bo Br : Nat) (w0 w : World) (v : Value) (L : List Int) (u : Value) (O : List (List Int)) : Prop where
  nl : w0.heap.size ≤ Bl
  no : w0.heap.size ≤ Bo
  hl : w.heap[Bl]? = some (.cells #[v] 58 (0, 0))
  hn : w.heap[Bn]? = some (.cells #[.int .i64 (n : Int)] 3 (0, 0))
  ho : w.heap[Bo]? = some (.cells #[u] 51 (0, 0))
  hr : w.heap[Br]? = some (.cells #[.func (.func 106) #[] #[.pointer (some ⟨Bl, 0, none⟩), .pointer (some ⟨Bn, 0, none⟩), .pointer (some ⟨Bo, 0, none⟩), .pointer (some ⟨Br, 0, none⟩)]] 1 (0, 0))
  oL : Kd.R KI 3 w w0.heap.size (farB Bl Bn Bo Br) v L
  oO : Kd.S KS 58 w w0.heap.size (fun k => farB Bl Bn Bo Br k ∧ some k ≠ v.ownBlock) u O
  bel : Below w0.heap.size w0 w
section
variable {n Bl Bn Bo Br : Nat} {w0 w w1 w2 : World} {v v1 u u1 cv : Value} {L : List Int} {O : List (List Int)}
theorem RInv.below (I : RInv n Bl Bn Bo Br w0 w v L u O) (hb : Below w.heap.size w w1) : RInv n Bl Bn Bo Br w0 w1 v L u O :=
  ⟨I.nl, I.no, blk_below I.hl hb, blk_below I.hn hb, blk_below I.ho hb, blk_below I.hr hb, Kd.R_below I.oL hb, Kd.S_below I.oO hb, below_step I.bel hb⟩
theorem RInv.fresh (I : RInv n Bl Bn Bo Br w0 w v L u O) {k : Nat} (h : w.heap.size ≤ k) : farB Bl Bn Bo Br k := by
  have h1 := blk_lt I.hl
  have h2 := blk_lt I.hn
  have h3 := blk_lt I.ho
  have h4 := blk_lt I.hr
  exact ⟨by omega, by omega, by omega, by omega⟩
theorem RInv.grownL (I : RInv n Bl Bn Bo Br w0 w v L u O) (hg : w.grownBy w1 v.ownBlock) : w1.heap[Bl]? = some (.cells #[v] 58 (0, 0)) := blk_grown I.hl hg (Kd.R_away I.oL (fun k h => h.1))
theorem RInv.push (I : RInv n Bl Bn Bo Br w0 w v L u O) (x : Int) (hv : Kd.R KI 3 w1 w0.heap.size (farB Bl Bn Bo Br) v1 (L ++ [x])) (hb : Below w0.heap.size w0 w1) (hg : w.grownBy w1 v.ownBlock) (hat : v1.ownBlock = v.ownBlock ∨ ∃ b, v1.ownBlock = some b ∧ w.heap.size ≤ b) :
    RInv n Bl Bn Bo Br w0 (w1.setCell ⟨Bl, 0, none⟩ v1) v1 (L ++ [x]) u O := by
  have el := blk_grown I.hl hg (Kd.R_away I.oL (fun k h => h.1))
  have en := blk_grown I.hn hg (Kd.R_away I.oL (fun k h => h.2.1))
  have eo := blk_grown I.ho hg (Kd.R_away I.oL (fun k h => h.2.2.1))
  have er := blk_grown I.hr hg (Kd.R_away I.oL (fun k h => h.2.2.2))
  refine ⟨I.nl, I.no, blk_set el 0 v1, blk_far en (blk_ne en el (by decide)) _, blk_far eo (blk_ne eo el (by decide)) _, blk_far er (blk_ne er el (by decide)) _, Kd.R_far hv (p := ⟨Bl, 0, none⟩) (fun k h => h.1) v1, ?_, hb.setCell (p := ⟨Bl, 0, none⟩) I.nl v1⟩
  exact Kd.S_far (p := ⟨Bl, 0, none⟩) (Kd.S_after I.oO hg hat) (fun k h => h.1.1) v1
theorem RInv.pop {A : Option Addr} {m c : Nat} {x : Int} (I : RInv n Bl Bn Bo Br w0 w (.slice A m c) (L ++ [x]) u O) :
    RInv n Bl Bn Bo Br w0 (w.setCell ⟨Bl, 0, none⟩ (.slice A L.length c)) (.slice A L.length c) L u O := by
  have hne : (Value.slice A L.length c).ownBlock = (Value.slice A m c).ownBlock := by cases A <;> rfl
  have ht := Kd.R_take I.oL (m := L.length) (by simp)
  rw [List.take_left'] at ht
  · refine ⟨I.nl, I.no, blk_set I.hl 0 _, blk_far I.hn (blk_ne I.hn I.hl (by decide)) _, blk_far I.ho (blk_ne I.ho I.hl (by decide)) _, blk_far I.hr (blk_ne I.hr I.hl (by decide)) _, Kd.R_far ht (p := ⟨Bl, 0, none⟩) (fun k h => h.1) _, ?_, I.bel.setCell (p := ⟨Bl, 0, none⟩) I.nl _⟩
    rw [hne]
    exact Kd.S_far (p := ⟨Bl, 0, none⟩) I.oO (fun k h => h.1.1) _
  · rfl
theorem RInv.emit (I : RInv n Bl Bn Bo Br w0 w1 v L u O) (ho : Kd.S KS 58 w2 w0.heap.size (fun k => farB Bl Bn Bo Br k ∧ some k ≠ v.ownBlock) u1 (O ++ [L])) (hB : Below w0.heap.size w0 w2) (hg : w1.grownBy w2 u.ownBlock) :
    RInv n Bl Bn Bo Br w0 (w2.setCell ⟨Bo, 0, none⟩ u1) v L u1 (O ++ [L]) := by
  have el := blk_grown I.hl hg (Kd.S_away I.oO (fun k h => h.1.1))
  have en := blk_grown I.hn hg (Kd.S_away I.oO (fun k h => h.1.2.1))
  have eo := blk_grown I.ho hg (Kd.S_away I.oO (fun k h => h.1.2.2.1))
  have er := blk_grown I.hr hg (Kd.S_away I.oO (fun k h => h.1.2.2.2))
  exact ⟨I.nl, I.no, blk_far el (blk_ne el eo (by decide)) _, blk_far en (blk_ne en eo (by decide)) _, blk_set eo 0 u1, blk_far er (blk_ne er eo (by decide)) _,
    Kd.R_far (p := ⟨Bo, 0, none⟩) (Kd.R_over' I.oL (Kd.S_typed I.oO) (by decide) hg) (fun k h => h.2.2.1) u1, Kd.S_far (p := ⟨Bo, 0, none⟩) ho (fun k h => h.1.2.2.1) u1, hB.setCell (p := ⟨Bo, 0, none⟩) I.no u1⟩
theorem remit_ok (I : RInv n Bl Bn Bo Br w0 w v L u O) (hc : Kd.R KI 3 w1 w.heap.size (fun _ => True) cv L) (k : Nat) (hk : some k = cv.ownBlock) : (farB Bl Bn Bo Br k ∧ some k ≠ v.ownBlock) ∧ some k ≠ u.ownBlock := by
  have h1 := Kd.R_base hc k hk.symm
  exact ⟨⟨I.fresh h1, fun e => by have := Kd.R_lt I.oL k e.symm; omega⟩, fun e => by have := Kd.S_lt I.oO k e.symm; omega⟩
theorem remit_row (I : RInv n Bl Bn Bo Br w0 w v L u O) (hb : Below w.heap.size w w1) (hc : Kd.R KI 3 w1 w.heap.size (fun _ => True) cv L) : Kd.S KS 58 w1 w0.heap.size (fun k => (farB Bl Bn Bo Br k ∧ some k ≠ v.ownBlock) ∧ ¬ some k = cv.ownBlock) u O :=
  Kd.S_below (Kd.S_mono (Kd.S_bound I.oO) (fun k hk => ⟨hk.1, fun e => by have := Kd.R_base hc k e.symm; have := hk.2.2.1; omega⟩)) hb
end
set_option maxRecDepth 100000 in
set_option maxHeartbeats 4000000 in
theorem cloneInts (A : Option Addr) (c : Nat) (L : List Int) (w : World) (hr : Kd.C KI w A L.length L) (hc : L.length ≤ c) (hl : L.length ≤ 1000) :
    Calls Try.prog 107 #[.slice A L.length c] w fun e w' => ∃ v, e = .returned v ∧ Kd.R KI 3 w' w.heap.size (fun _ => True) v L ∧ Below w.heap.size w w' := by
  have hq : ∀ (W : World) (a : Option Addr) (n c n' c' : Nat), (binOp .eql 58 (.slice a n c) (.slice none n' c')).run Try.prog W = .ok (.bool a.isNone) W := fun W a n c n' c' => Lib.run_eql_slice_nil W 58 3 a n c n' c' Try.underlying58
  cases A with
  | none =>
    have h0 : L = [] := by
      by_cases h : 0 < L.length
      · obtain ⟨ad, e, _⟩ := hr.2.2 h
        cases e
      · exact List.length_eq_zero_iff.1 (by omega)
    subst h0
    go_enter Try.func107, Try.ntmps107
    go_wp2_with fail
    go_ret
    exact ⟨_, rfl, Kd.R_nil _ _ _ _ _, Below.refl _ _⟩
  | some ad =>
    go_enter Try.func107, Try.ntmps107
    go_wp2_with (first
      | ((with_reducible refine gate_dst (N := 5) rfl ?_); refine Kd.R_lit KI _ 3 ?hg (N := 5) ?hd (xs := ([] : List Int)) (inner := []) (ok := fun _ => True) (okp := fun _ => True) ?hr ?hp (fun _ hk => hk) trivial (Below.refl _ _) (Nat.le_refl _) (by simp) ?_; (case hd => rfl); (case hg => rfl); (case hr => first | (go_simp; done) | (go_simp; rfl)); (case hp => exact (Reps.none _ _)); intro v1 w1 ho hb hg1 hnew; obtain ⟨A1, c1, e1⟩ := Kd.R_slice ho; subst e1)
      | ((with_reducible refine gate_builtin (b := .append) (xs := #[.tmp 5, .tmp 6]) rfl ?_); at_builtin; refine Kd.R_append_rows KI (w0 := w) (Rr := KI.K w1) w.heap.size rfl (.tmp 5) (.tmp 6) 58 3 (.int .i64 0) 8 rfl Try.underlying58 info3 rfl (by decide) (by omega) _ [] L (some ad) L.length c (fun _ => True) (fun _ => False) rfl rfl ho (Kd.C_below hr hb) (fun _ _ h => h) (fun _ h => h.elim) (fun _ _ => trivial) hb hb.size (by simp; omega) ?_; intro v2 w2 ho2 hb2 hg2 hat2))
    go_ret
    exact ⟨_, rfl, ho2, hb2⟩
def RRest (n Bl Bn Bo Br : Nat) (w0 : World) (m : Nat) : Prop :=
  ∀ (w : World) (v : Value) (L : List Int) (u : Value) (O : List (List Int)), RInv n Bl Bn Bo Br w0 w v L u O → L.length + m = n → O.length + (rk n (m + 1) L).length ≤ 1000000 →
    Calls Try.prog 106 #[.pointer (some ⟨Bl, 0, none⟩), .pointer (some ⟨Bn, 0, none⟩), .pointer (some ⟨Bo, 0, none⟩), .pointer (some ⟨Br, 0, none⟩)] w fun e w' =>
      e = .returned (.tuple #[]) ∧ ∃ v' u', RInv n Bl Bn Bo Br w0 w' v' L u' (O ++ rk n (m + 1) L)
def arT1 : Bool × List (List Nat × List Nat) := (true, [([], []), ([], []), ([1], [1]), ([2], [2]), ([0, 3, 2], [0, 3]), ([4, 4, 0, 1, 2, 3, 4], [4])])
theorem ar_tab1 : rtab .any (opsOf Try.f106 1) = arT1 := by kernel_rfl
theorem ar_bits1 : waitsOk arT1.2 [0, 0, 2, 6, 15, 31] = true := by kernel_rfl
set_option maxRecDepth 100000 in
set_option maxHeartbeats 4000000 in
theorem rrest_out (n Bl Bn Bo Br : Nat) (w0 : World) (hn5 : n ≤ 5) : RRest n Bl Bn Bo Br w0 0 := by
  intro w v L u O I hL hO
  have hrk : rk n (0 + 1) L = [L] := by rw [rk, if_pos (by omega)]
  rw [hrk] at hO ⊢
  simp only [List.length_cons, List.length_nil] at hO
  obtain ⟨AL, cL, eL, hcL, hRL⟩ := Kd.R_reads I.oL
  subst eL
  have cl := bc0 I.hl
  have cn := bc0 I.hn
  have c8b0 : ((L.length : Int) == (n : Int)) = true := beq_iff_eq.mpr (by omega)
  have c8b1 : ((L.length : Int) != (n : Int)) = false := bne_eq_false_iff_eq.mpr (by omega)
  go_enter Try.func106, Try.ntmps106
  go_wp2_with fail
  have co := bc0 I.ho
  refine start_ (n := 6) (S := fun w' => w'.cell? ⟨Bo, 0, none⟩ = some u ∧ w'.cell? ⟨Bl, 0, none⟩ = some (.slice AL L.length cL)) (ds := [5]) (bA 6 0) (by kernel_rfl) rfl rfl ⟨co, cl⟩ (fun hHeld => ?_); refine with_tabW ar_tab1 ar_bits1 (fun HT_ HW_ => ?_)
  have I0 := I.below (below_drew (Below.refl _ _))
  have hRL0 := Kd.C_below hRL (below_drew (Below.refl _ _))
  generalize w.drew = wa at hHeld I0 hRL0 ⊢
  refine tA 0 9 6 1 HT_.out HW_.out hHeld ?_ rfl rfl; refine tA 1 10 6 3 HT_.out HW_.out hHeld ?_ rfl rfl
  refine oA 2 11 6 7 HT_.out (fun K hK => ?_) rfl rfl
  refine goes_ Try.func107 (by kernel_rfl) rfl #[.slice AL L.length cL] (by rfl) rfl rfl eqT ?_
  refine (cloneInts AL cL L wa hRL0 hcL (by omega)).mono ?_; rintro e w1 ⟨cv, rfl, hcv, hb⟩; refine ⟨_, rfl, ?_⟩
  obtain ⟨Ac, cc, ec, hcc, _⟩ := Kd.R_reads hcv
  subst ec
  have I1 := I0.below hb
  refine hK.out _ _ ⟨bc0 I1.ho, bc0 I1.hl⟩ (fun hHeld => ?_)
  clear hK K
  refine nB 11 ?_ rfl
  refine oA 3 12 6 15 HT_.out (fun K hK => ?_) rfl rfl
  refine value_ (w1 := ?_) (v := ?_) (by rfl) rfl ?_ ?_
  rotate_left 2
  · go_simp
    constructor
    · rfl
    · rfl
  refine hK.out _ _ ⟨bc0 (blk_alloc I1.ho _), bc0 (blk_alloc I1.hl _)⟩ (fun hHeld => ?_)
  clear hK K
  refine nB 12 ?_ rfl
  refine oA 4 13 6 31 HT_.out (fun K hK => ?_) rfl rfl
  refine Kd.S_append_step KS (w0 := w0) w0.heap.size (by rfl) (.tmp 9) (.tmp 12) 51 58 (.slice none 0 0) 24 rfl Try.underlying51 info58 rfl (by decide) (by omega) u O L [.slice Ac L.length cc] (fun k => farB Bl Bn Bo Br k ∧ some k ≠ (Value.slice AL L.length cL).ownBlock) (fun k => some k = (Value.slice Ac L.length cc).ownBlock) rfl rfl
    (⟨_, rfl, Kd.R_lower (Kd.R_tight rfl hcv) I0.bel.size⟩) (fun k hk => remit_ok I0 hcv k hk) (fun k hk => ⟨I1.fresh hk, fun e => by have := Kd.R_lt I1.oL k e.symm; omega⟩) (remit_row I0 hb hcv) I1.bel I1.bel.size (by omega) ?_
  intro u8 w8 ho8 hb8 hg8 hat8
  have I9 := I1.emit ho8 hb8 hg8
  have e8 := bc0 (blk_grown I1.ho hg8 (Kd.S_away I1.oO (fun k h => h.1.2.2.1)))
  have f8 := blk_frozen (blk_grown I1.ho hg8 (Kd.S_away I1.oO (fun k h => h.1.2.2.1))) 0
  have l8 := bc0 (blk_grown I1.hl hg8 (Kd.S_away I1.oO (fun k h => h.1.1)))
  refine hK.out _ _ ⟨e8, l8⟩ (fun hHeld => ?_)
  clear hK K
  refine nB 13 ?_ rfl
  refine last_ (i := 5) (N := none) (bA 6 63) rfl rfl (one_of HT_.out (by kernel_rfl)) (by decide) (fun K hK => ?_)
  obtain ⟨A8, c8, e8'⟩ := Kd.S_slice ho8
  subst e8'
  refine skip_ (w1 := w8.setCell ⟨Bo, 0, none⟩ (.slice A8 (O ++ [L]).length c8)) (by rfl) rfl (by first | (go_simp; done) | (go_simp; rfl)) ?_
  refine hK.out _ _ ?_
  clear hK K
  generalize w8.setCell ⟨Bo, 0, none⟩ (.slice A8 (O ++ [L]).length c8) = w9 at I9 ⊢
  refine done_ (done_of HT_.out (by kernel_rfl)) ?_
  go_wp2_with fail
  (try simp only [Exit.inBlock, Exit.then]); refine bodyPost_ret (results_none rfl _ _ _) rfl ?_
  exact ⟨rfl, (.slice AL L.length cL), (.slice A8 (O ++ [L]).length c8), I9⟩
theorem cont_f (L : List Int) (hL : L.length ≤ 1000) (x : Int) : ∃ k, slices_Contains_int_int.f k L x = some (decide (x ∈ L)) := by
  have key : ∀ d i, i + d = L.length → ∃ r, slices_Index_int_int.l0 (d + 1) L x (L.length : Int) (i : Int) = some r ∧ (decide (r ≥ 0)) = decide (x ∈ L.drop i) := by
    intro d
    induction d with
    | zero =>
      intro i h
      refine ⟨-1, ?_, ?_⟩
      · rw [slices_Index_int_int.l0, if_neg (by omega)]
      · rw [List.drop_of_length_le (by omega)]
        simp
    | succ d ih =>
      intro i h
      have hi : i < L.length := by omega
      have hrd : rd L (i : Int) = L[i] := by simp [rd, hi]
      rw [slices_Index_int_int.l0, if_pos (by omega), if_pos (by omega), if_pos (by omega), hrd]
      by_cases e : x = L[i]
      · rw [if_pos e]
        refine ⟨i, rfl, ?_⟩
        rw [List.drop_eq_getElem_cons hi]
        exact (decide_eq_true (show (i : Int) ≥ 0 by omega)).trans (decide_eq_true (show x ∈ L[i] :: L.drop (i + 1) by rw [← e]; exact List.mem_cons_self)).symm
      · rw [if_neg e, show wrap64 ((i : Int) + 1) = ((i + 1 : Nat) : Int) by unfold wrap64; omega]
        obtain ⟨r, h1, h2⟩ := ih (i + 1) (by omega)
        refine ⟨r, h1, ?_⟩
        rw [h2, List.drop_eq_getElem_cons hi]
        exact decide_eq_decide.2 ⟨fun h => List.mem_cons_of_mem _ h, fun h => (List.mem_cons.1 h).resolve_left e⟩
  obtain ⟨r, h1, h2⟩ := key L.length 0 (by omega)
  refine ⟨L.length + 1, ?_⟩
  unfold slices_Contains_int_int.f slices_Index_int_int.f
  have h1' : slices_Index_int_int.l0 (L.length + 1) L x (L.length : Int) 0 = some r := h1
  rw [h1', Option.bind_some, h2, List.drop_zero]
def rkG (n m : Nat) (L : List Int) (k : Nat) : List (List Int) := if (k : Int) ∈ L then [] else rk n m (L ++ [(k : Int)])
theorem rk_step (n m : Nat) (L : List Int) (h : L.length ≠ n) : rk n (m + 1) L = (List.range n).flatMap (rkG n m L) := by
  rw [rk, if_neg h]
  rfl
theorem rkG_len (n m : Nat) (L : List Int) {i j : Nat} (h : i ≤ j) : ((List.range i).flatMap (rkG n m L)).length ≤ ((List.range j).flatMap (rkG n m L)).length := by
  induction j with
  | zero =>
    obtain rfl : i = 0 := by omega
    exact Nat.le_refl _
  | succ j ih =>
    by_cases e : i = j + 1
    · rw [e]
      exact Nat.le_refl _
    · refine Nat.le_trans (ih (by omega)) ?_
      rw [List.range_succ, List.flatMap_append, List.length_append]
      omega
theorem rkG_succ (n m : Nat) (L : List Int) (i : Nat) : (List.range (i + 1)).flatMap (rkG n m L) = (List.range i).flatMap (rkG n m L) ++ rkG n m L i := by
  rw [List.range_succ, List.flatMap_append]
  simp
set_option maxRecDepth 100000 in
set_option maxHeartbeats 4000000 in
theorem rrest_in (n Bl Bn Bo Br : Nat) (w0 : World) (hn5 : n ≤ 5) (m : Nat) (hR : RRest n Bl Bn Bo Br w0 m) : RRest n Bl Bn Bo Br w0 (m + 1) := by
  intro w v L u O I hL hO
  rw [rk_step n (m + 1) L (by omega)] at hO ⊢
  obtain ⟨AL, cL, eL, hcL, hRL⟩ := Kd.R_reads I.oL
  subst eL
  have cl := bc0 I.hl
  have cn := bc0 I.hn
  have c8b0 : ((L.length : Int) == (n : Int)) = false := beq_eq_false_iff_ne.mpr (by omega)
  have c8b1 : ((L.length : Int) != (n : Int)) = true := bne_iff_ne.mpr (by omega)
  have HI0 := asT I
  have HO := asT hO
  clear hO
  go_enter Try.func106, Try.ntmps106
  go_wp2_with fail
  clear cl cn I hcL hRL
  go_loopg [15] (n + 1) (fun kq v15 wr => ∃ (i : Nat) (v1 : Value) (u1 : Value), v15 = .int .i64 (i : Int) ∧ kq + i = n + 1 ∧ i ≤ n ∧ Aside0 (RInv n Bl Bn Bo Br w0 wr v1 L u1 (O ++ (List.range i).flatMap (rkG n (m + 1) L))))
  case atStart => exact ⟨0, _, u, rfl, rfl, Nat.zero_le _, ⟨by simpa using HI0.out⟩⟩
  case round =>
    clear HI0
    obtain ⟨i, v1, u1, rfl, hk, hi, HI⟩ := hrel
    cases gk with
    | zero => omega
    | succ k1 =>
      obtain ⟨A1, c1, e1, hc1, hR1⟩ := Kd.R_reads HI.out.oL
      subst e1
      have HC1 := asT hc1
      have HR1 := asT hR1
      clear hc1 hR1
      obtain ⟨kc, hkc⟩ := cont_f L (by omega) (i : Int)
      have cl := bc0 HI.out.hl
      have cn := bc0 HI.out.hn
      by_cases hin : i < n
      · have c3b : decide ((i : Int) < (n : Int)) = true := decide_eq_true (by omega)
        have hw : wrap64 ((i : Int) + 1) = ((i + 1 : Nat) : Int) := by unfold wrap64; omega
        by_cases hmem : (i : Int) ∈ L
        · rw [decide_eq_true hmem] at hkc
          have HKC := asT hkc
          have HMEM := asT hmem
          clear hkc hmem
          go_wp2_with (first
            | (go_at_call 108; refine (slices_Contains_int_int.calls kc _ _ L (i : Int) true wr HR1.out HC1.out HKC.out).mono ?_; rintro e w2 ⟨rfl, hd⟩; obtain ⟨nq, hnq⟩ := hd.out; have I2 := asT (show RInv n Bl Bn Bo Br w0 w2 _ L u1 _ by rw [hnq]; exact HI.out.below (pw_below_drewN (Below.refl _ _) nq)); clear hnq hd))
          go_roundg k1
          case rel =>
            refine ⟨i + 1, .slice A1 L.length c1, u1, by first | rfl | rw [hw], by omega, by omega, ⟨?_⟩⟩
            rw [rkG_succ, show rkG n (m + 1) L i = [] from if_pos HMEM.out, List.append_nil]
            exact I2.out
          case measure => omega
        · rw [decide_eq_false hmem] at hkc
          have HKC := asT hkc
          have HMEM := asT hmem
          have hlen : (O ++ (List.range i).flatMap (rkG n (m + 1) L)).length + (rk n (m + 1) (L ++ [(i : Int)])).length ≤ 1000000 := by
            have h1 := rkG_len n (m + 1) L (i := i + 1) (j := n) (by omega)
            rw [rkG_succ, show rkG n (m + 1) L i = rk n (m + 1) (L ++ [(i : Int)]) from if_neg hmem, List.length_append] at h1
            have h2 := HO.out
            rw [List.length_append]
            omega
          have HLEN := asT hlen
          clear hkc hmem hlen
          go_wp2_with (first
            | (go_at_call 108; refine (slices_Contains_int_int.calls kc _ _ L (i : Int) false wr HR1.out HC1.out HKC.out).mono ?_; rintro e w2 ⟨rfl, hd⟩; obtain ⟨nq, hnq⟩ := hd.out; have I2 := asT (show RInv n Bl Bn Bo Br w0 w2 _ L u1 _ by rw [hnq]; exact HI.out.below (pw_below_drewN (Below.refl _ _) nq)); clear hnq hd; have cl2 := bc0 I2.out.hl)
            | ((with_reducible refine gate_builtin (b := .append) (xs := #[.tmp 22, .tmp 24]) rfl ?_); at_builtin; refine Kd.R_append KI (w0 := w0) w0.heap.size rfl (.tmp 22) (.tmp 24) 58 3 (.int .i64 0) 8 rfl Try.underlying58 info3 rfl (by decide) (by omega) (.slice A1 L.length c1) L (i : Int) [.int .i64 (i : Int)] (farB Bl Bn Bo Br) (fun _ => False) rfl rfl ?aP (fun _ hk => hk.elim) (fun k hk => I2.out.fresh hk) I2.out.oL I2.out.bel I2.out.bel.size (by omega) ?_; (case aP => exact rfl); intro v3_ w3 ho hb hg hat; obtain ⟨A3, c3, e3⟩ := Kd.R_slice ho; subst e3; have I3 := I2.out.push (i : Int) ho hb hg hat; have f3 := blk_frozen (I2.out.grownL hg) 0; have cl3 := bc0 (I2.out.grownL hg))
            | ((with_reducible refine gate_store (t := 58) (p := 0) rfl ?_); refine store_event (t := 58) (p := 0) (v := .tmp 25) (w1 := w3.setCell ⟨Bl, 0, none⟩ (.slice A3 (L ++ [(i : Int)]).length c3)) ?hg ?ho ?hn ?hr ?_; (case ho => rfl); (case hg => rfl); (case hn => rfl); (case hr => first | (go_simp; done) | (go_simp; rfl)); intro w4 hw4; rw [← hw4] at I3; clear hw4; have cr := bc0 I3.hr)
            | (go_at_call 106; refine (hR w4 _ (L ++ [(i : Int)]) u1 _ I3 (by rw [List.length_append]; simp; omega) HLEN.out).mono ?_; rintro e w5 ⟨rfl, v5, u5, I5⟩; obtain ⟨A5, c5, e5, hc5, _⟩ := Kd.R_reads I5.oL; subst e5; have hc6 : L.length ≤ c5 := (by rw [List.length_append] at hc5; omega); have cl5 := bc0 I5.hl; have fl5 := blk_frozen I5.hl 0))
          go_roundg k1
          case rel =>
            refine ⟨i + 1, .slice A5 L.length c5, u5, by first | rfl | rw [hw], by omega, by omega, ⟨?_⟩⟩
            rw [rkG_succ, show rkG n (m + 1) L i = rk n (m + 1) (L ++ [(i : Int)]) from if_neg HMEM.out, ← List.append_assoc]
            exact I5.pop
          case measure => omega
      · have c3b : decide ((i : Int) < (n : Int)) = false := decide_eq_false (by omega)
        obtain rfl : i = n := by omega
        go_wp2
        go_end0
        exact ⟨rfl, _, u1, HI.out⟩
theorem rrest_all (n Bl Bn Bo Br : Nat) (w0 : World) (hn5 : n ≤ 5) : ∀ m, RRest n Bl Bn Bo Br w0 m
  | 0 => rrest_out n Bl Bn Bo Br w0 hn5
  | m + 1 => rrest_in n Bl Bn Bo Br w0 hn5 m (rrest_all n Bl Bn Bo Br w0 hn5 m)
structure RPre (n Bl Bn Bo : Nat) (w0 w : World) (v u b : Value) : Prop where
  nl : w0.heap.size ≤ Bl
  no : w0.heap.size ≤ Bo
  hl : w.heap[Bl]? = some (.cells #[b] 58 (0, 0))
  hn : w.heap[Bn]? = some (.cells #[.int .i64 (n : Int)] 3 (0, 0))
  ho : w.heap[Bo]? = some (.cells #[u] 51 (0, 0))
  oL : Kd.R KI 3 w w0.heap.size (fun k => k ≠ Bl ∧ k ≠ Bn ∧ k ≠ Bo) v []
  oO : Kd.S KS 58 w w0.heap.size (fun k => (k ≠ Bl ∧ k ≠ Bn ∧ k ≠ Bo) ∧ some k ≠ v.ownBlock) u []
  bel : Below w0.heap.size w0 w
section
variable {n Bl Bn Bo Br : Nat} {w0 w w1 w2 w3 w4 w5 : World} {v v1 u b : Value}
theorem rpre_store (hb1 : Below w.heap.size w w1) (hn1 : w1.heap[Bn]? = some (.cells #[.int .i64 (n : Int)] 3 (0, 0))) (hb2 : Below w1.heap.size w1 w2) (hoO : Kd.S KS 58 w2 w1.heap.size (fun _ => True) u []) (hb3 : Below w2.heap.size w2 w3) (hoL : Kd.R KI 3 w3 w2.heap.size (fun _ => True) v [])
    (hb4 : Below w3.heap.size w3 w4) (hgo : Bo = w3.heap.size) (hbo : w4.heap[Bo]? = some (.cells #[.slice none 0 0] 51 (0, 0))) (hb5 : Below w4.heap.size w4 w5) (hgl : Bl = w4.heap.size) (hbl : w5.heap[Bl]? = some (.cells #[.slice none 0 0] 58 (0, 0))) :
    RPre n Bl Bn Bo w (w5.setCell ⟨Bo, 0, none⟩ u) v u (.slice none 0 0) := by
  have eo := blk_below hbo hb5
  have en := blk_below (blk_below (blk_below (blk_below hn1 hb2) hb3) hb4) hb5
  have hB := below_step (below_step (below_step (below_step hb1 hb2) hb3) hb4) hb5
  have h1 := hb1.size
  have h2 := hb2.size
  have h3 := hb3.size
  have h4 := hb4.size
  have hnl := blk_lt hn1
  have no : w.heap.size ≤ Bo := by omega
  refine ⟨by omega, no, blk_far hbl (blk_ne hbl eo (by decide)) _, blk_far en (blk_ne en eo (by decide)) _, blk_set eo 0 u, ?_, ?_, hB.setCell (p := ⟨Bo, 0, none⟩) no u⟩
  · refine Kd.R_far (p := ⟨Bo, 0, none⟩) (Kd.R_lower (Kd.R_below (Kd.R_below (Kd.R_mono (Kd.R_bound hoL) (fun k hk => ?_)) hb4) hb5) (by omega)) (fun k h => h.2.2) u
    have h6 := hk.2.1
    have h7 := hk.2.2.1
    exact ⟨by omega, by omega, by omega⟩
  · refine Kd.S_far (p := ⟨Bo, 0, none⟩) (Kd.S_below (Kd.S_below (Kd.S_below (Kd.S_lower (Kd.S_mono (Kd.S_bound hoO) (fun k hk => ?_)) (by omega)) hb3) hb4) hb5) (fun k h => h.1.2.2) u
    have h6 := hk.2.1
    have h7 := hk.2.2.1
    refine ⟨⟨by omega, by omega, by omega⟩, fun e => ?_⟩
    have := Kd.R_base hoL k e.symm
    omega
theorem RPre.store (I : RPre n Bl Bn Bo w0 w v u b) : RPre n Bl Bn Bo w0 (w.setCell ⟨Bl, 0, none⟩ v) v u v :=
  ⟨I.nl, I.no, blk_set I.hl 0 v, blk_far I.hn (blk_ne I.hn I.hl (by decide)) _, blk_far I.ho (blk_ne I.ho I.hl (by decide)) _, Kd.R_far (p := ⟨Bl, 0, none⟩) I.oL (fun k h => h.1) v, Kd.S_far (p := ⟨Bl, 0, none⟩) I.oO (fun k h => h.1.1) v, I.bel.setCell (p := ⟨Bl, 0, none⟩) I.nl v⟩
theorem RPre.below (I : RPre n Bl Bn Bo w0 w v u b) (hb : Below w.heap.size w w1) : RPre n Bl Bn Bo w0 w1 v u b :=
  ⟨I.nl, I.no, blk_below I.hl hb, blk_below I.hn hb, blk_below I.ho hb, Kd.R_below I.oL hb, Kd.S_below I.oO hb, below_step I.bel hb⟩
theorem RPre.done {f : Value} (I : RPre n Bl Bn Bo w0 w v u v) (hr : w.heap[Br]? = some (.cells #[.nilFunc] 1 (0, 0))) (nr : w0.heap.size ≤ Br) (hf : f = .func (.func 106) #[] #[.pointer (some ⟨Bl, 0, none⟩), .pointer (some ⟨Bn, 0, none⟩), .pointer (some ⟨Bo, 0, none⟩), .pointer (some ⟨Br, 0, none⟩)]) :
    RInv n Bl Bn Bo Br w0 (w.setCell ⟨Br, 0, none⟩ f) v [] u [] := by
  subst hf
  refine ⟨I.nl, I.no, blk_far I.hl (blk_ne I.hl hr (by decide)) _, blk_far I.hn (blk_ne I.hn hr (by decide)) _, blk_far I.ho (blk_ne I.ho hr (by decide)) _, blk_set hr 0 _, ?_, ?_, I.bel.setCell (p := ⟨Br, 0, none⟩) nr _⟩
  · refine Kd.R_far (p := ⟨Br, 0, none⟩) (Kd.R_mono (Kd.R_bound I.oL) (fun k hk => ?_)) (fun k h => h.2.2.2) _
    obtain ⟨hk1, _, _, q, hq, cells, hc⟩ := hk
    exact ⟨hk1.1, hk1.2.1, hk1.2.2, blk_ne hc hr ((by decide : ∀ q, q ∈ (3 :: KI.E) → q ≠ 1) q hq)⟩
  · refine Kd.S_far (p := ⟨Br, 0, none⟩) (Kd.S_mono (Kd.S_bound I.oO) (fun k hk => ?_)) (fun k h => h.1.2.2.2) _
    obtain ⟨hk1, _, _, q, hq, cells, hc⟩ := hk
    exact ⟨⟨hk1.1.1, hk1.1.2.1, hk1.1.2.2, blk_ne hc hr ((by decide : ∀ q, q ∈ (58 :: KS.E) → q ≠ 1) q hq)⟩, hk1.2⟩
end
theorem rk_small : ∀ n, n ≤ 5 → (rk n (n + 1) []).length ≤ 1000000 := by decide +kernel
set_option maxRecDepth 100000 in
set_option maxHeartbeats 4000000 in
theorem allrankings_any (n : Nat) (h1 : 1 ≤ n) (h5 : n ≤ 5) (w : World) :
    Calls Try.prog 51 #[.int .i64 (n : Int)] w fun e w' => ∃ v0_ : Value, e = .returned v0_ ∧ Kd.S KS 58 w' w.heap.size (fun _ => True) v0_ (rk n (n + 1) []) ∧ Below w.heap.size w w' := by
  have hwi : impl_within.f (n : Int) 1 5 = some true := by
    unfold impl_within.f
    rw [if_pos (by omega), decide_eq_true (by omega)]
  have hsm := rk_small n h5
  go_enter Try.func51, Try.ntmps51
  go_wp2_with (first
    | ((with_reducible refine gate_dst (N := 1) rfl ?_); refine boxT (N := 1) (cs := #[.int .i64 (n : Int)]) (t := 3) ?_; intro Bn hgn w0 hn0 hb0; have cn0 := bc0 hn0; clear hgn)
    | (go_at_call 105; refine (impl_within.calls (n : Int) 1 5 true w0 hwi).mono ?_; rintro e w1 ⟨rfl, hd⟩; obtain ⟨nq, hnq⟩ := hd.out; have hbd : Below w0.heap.size w0 w1 := (by rw [hnq]; exact pw_below_drewN (Below.refl _ _) nq); have hn1 := blk_below hn0 hbd; have hb1 := below_step hb0 hbd; clear hnq hd)
    | ((with_reducible refine gate_dst (N := 9) rfl ?_); refine Kd.S_lit KS _ 58 ?hg (N := 9) ?hd (xs := ([] : List (List Int))) (inner := []) (ok := fun _ => True) (okp := fun _ => True) ?hr ?hp (fun _ hk => hk) trivial (Below.refl _ _) (Nat.le_refl _) (by simp) ?_; (case hd => rfl); (case hg => rfl); (case hr => first | (go_simp; done) | (go_simp; rfl)); (case hp => exact (Reps.none _ _)); intro u w2 hoO hb2 hg2 hn2; obtain ⟨Au, cu, eu⟩ := Kd.S_slice hoO; subst eu; clear hg2 hn2)
    | ((with_reducible refine gate_dst (N := 10) rfl ?_); refine Kd.R_lit KI _ 3 ?hg (N := 10) ?hd (xs := ([] : List Int)) (inner := []) (ok := fun _ => True) (okp := fun _ => True) ?hr ?hp (fun _ hk => hk) trivial (Below.refl _ _) (Nat.le_refl _) (by simp) ?_; (case hd => rfl); (case hg => rfl); (case hr => first | (go_simp; done) | (go_simp; rfl)); (case hp => exact (Reps.none _ _)); intro v w3 hoL hb3 hg3 hn3; obtain ⟨Av, cv, ev⟩ := Kd.R_slice hoL; subst ev; clear hg3 hn3)
    | ((with_reducible refine gate_dst (N := 3) rfl ?_); refine boxT (N := 3) (cs := #[.slice none 0 0]) (t := 51) ?_; intro Bo hgo w4 hbo hb4; have HGO := asT hgo; clear hgo)
    | ((with_reducible refine gate_dst (N := 4) rfl ?_); refine boxT (N := 4) (cs := #[.slice none 0 0]) (t := 58) ?_; intro Bl hgl w5 hbl hb5; have HGL := asT hgl; clear hgl; have o1 := bc0 (blk_below hbo hb5); have o2 := blk_frozen (blk_below hbo hb5) 0)
    | ((with_reducible refine gate_store (t := 51) (p := 3) rfl ?_); refine store_event (t := 51) (p := 3) (v := .tmp 9) (w1 := w5.setCell ⟨Bo, 0, none⟩ (.slice Au 0 cu)) ?hg ?ho ?hn ?hr ?_; (case ho => rfl); (case hg => rfl); (case hn => rfl); (case hr => first | (go_simp; done) | (go_simp; rfl)); intro w6 hw6; have I6 : RPre n Bl Bn Bo w w6 _ _ _ := (by rw [hw6]; exact rpre_store hb1 hn1 hb2 hoO hb3 hoL hb4 HGO.out hbo hb5 HGL.out hbl); clear hw6; have l2 := bc0 I6.hl; have l3 := blk_frozen I6.hl 0)
    | ((with_reducible refine gate_store (t := 58) (p := 4) rfl ?_); refine store_event (t := 58) (p := 4) (v := .tmp 10) (w1 := w6.setCell ⟨Bl, 0, none⟩ (.slice Av 0 cv)) ?hg ?ho ?hn ?hr ?_; (case ho => rfl); (case hg => rfl); (case hn => rfl); (case hr => first | (go_simp; done) | (go_simp; rfl)); intro w7 hw7; have I7 : RPre n Bl Bn Bo w w7 _ _ _ := (by rw [hw7]; exact I6.store); clear hw7)
    | ((with_reducible refine gate_dst (N := 5) rfl ?_); refine boxT (N := 5) (cs := #[.nilFunc]) (t := 1) ?_; intro Br hgr w8 hbr hb8; have nbr : w.heap.size ≤ Br := (by rw [hgr]; exact I7.bel.size); clear hgr; have I8 := I7.below hb8; have r1 := bc0 hbr; have r2 := blk_frozen hbr 0)
    | ((with_reducible refine gate_store (t := 1) (p := 5) rfl ?_); refine store_event (t := 1) (p := 5) (v := .tmp 11) (w1 := w8.setCell ⟨Br, 0, none⟩ (.func (.func 106) #[] #[.pointer (some ⟨Bl, 0, none⟩), .pointer (some ⟨Bn, 0, none⟩), .pointer (some ⟨Bo, 0, none⟩), .pointer (some ⟨Br, 0, none⟩)])) ?hg ?ho ?hn ?hr ?_; (case ho => rfl); (case hg => rfl); (case hn => rfl); (case hr => first | (go_simp; done) | (go_simp; rfl)); intro w9 hw9; have I9 : RInv n Bl Bn Bo Br w w9 _ [] _ [] := (by rw [hw9]; exact I8.done hbr nbr rfl); clear hw9; have r9 := bc0 I9.hr)
    | (go_at_call 106; refine (rrest_all n Bl Bn Bo Br w h5 n w9 _ [] _ [] I9 (by simp) (by simpa using hsm)).mono ?_; rintro e w10 ⟨rfl, v10, u10, I10⟩; have e10 := bc0 I10.ho))
  go_ret
  refine ⟨_, rfl, ?_, I10.bel⟩
  have h := I10.oO
  rw [List.nil_append] at h
  exact Kd.S_mono h (fun _ _ => trivial)
set_option maxRecDepth 100000 in
set_option maxHeartbeats 4000000 in
theorem allrankings_none (a : Int) (h : ¬ (1 ≤ a ∧ a ≤ 5)) (w : World) :
    Calls Try.prog 51 #[.int .i64 a] w fun e w' => ∃ v0_ : Value, e = .returned v0_ ∧ Kd.S KS 58 w' w.heap.size (fun _ => True) v0_ [] ∧ Below w.heap.size w w' := by
  have hwi : impl_within.f a 1 5 = some false := by
    unfold impl_within.f
    by_cases h1 : 1 ≤ a
    · rw [if_pos h1, decide_eq_false (by omega)]
    · rw [if_neg h1]
  go_enter Try.func51, Try.ntmps51
  go_wp2_with (first
    | ((with_reducible refine gate_dst (N := 1) rfl ?_); refine boxT (N := 1) (cs := #[.int .i64 a]) (t := 3) ?_; intro Bn hgn w0 hn0 hb0; have cn0 := bc0 hn0; clear hgn)
    | (go_at_call 105; refine (impl_within.calls a 1 5 false w0 hwi).mono ?_; rintro e w1 ⟨rfl, hd⟩; obtain ⟨nq, hnq⟩ := hd.out; have hbd : Below w0.heap.size w0 w1 := (by rw [hnq]; exact pw_below_drewN (Below.refl _ _) nq); have hb1 := below_step hb0 hbd; clear hnq hd))
  go_ret
  exact ⟨_, rfl, Kd.S_nil _ _ _ _ _, hb1⟩
def impl_AllRankings.f (a0 : Int) : Option (List (List Int)) := some (if 1 ≤ a0 ∧ a0 ≤ 5 then rk a0.toNat (a0.toNat + 1) [] else [])
theorem impl_AllRankings.calls (a0 : Int) (r : List (List Int)) (w : World) (h : impl_AllRankings.f a0 = some r) :
    Calls Try.prog 51 #[.int .i64 a0] w fun e w' => ∃ v0_ : Value, e = .returned (v0_) ∧ Kd.S (Kd.slice 3 (Kd.int .i64)) 58 w' w.heap.size (fun _ => True) v0_ r ∧ Below w.heap.size w w' := by
  unfold impl_AllRankings.f at h
  obtain rfl := Option.some.inj h
  by_cases hc : 1 ≤ a0 ∧ a0 ≤ 5
  · rw [if_pos hc]
    obtain ⟨n, rfl⟩ := Int.eq_ofNat_of_zero_le (show 0 ≤ a0 by omega)
    rw [Int.toNat_natCast]
    exact allrankings_any n (by omega) (by omega) w
  · rw [if_neg hc]
    exact allrankings_none a0 hc w

/-! ### laws_eqIntS: function 109 -/
def laws_eqIntS.l0 : Nat → List Int → List Int → Int → Option (Bool)
 | 0, _, _, _ => none
 | k + 1, x0, x1, x5 => if x5 < (x0.length : Int) then (if 0 ≤ x5 then (if x5 < (x1.length : Int) then (if (rd x0 x5) = (rd x1 x5) then (laws_eqIntS.l0 k x0 x1 (wrap64 (x5 + 1))) else (some false)) else (none)) else (none)) else (some true)
def laws_eqIntS.f (k : Nat) (l0 : List Int) (l1 : List Int) : Option (Bool) := if (l0.length : Int) = (l1.length : Int) then (laws_eqIntS.l0 k l0 l1 0) else (some false)
theorem laws_eqIntS.mono_l : ∀ k, (∀ y0 y1 y2, LeO (laws_eqIntS.l0 k y0 y1 y2) (laws_eqIntS.l0 (k + 1) y0 y1 y2))
 | 0 => fun _ _ _ r h => by simp [laws_eqIntS.l0] at h
 | k + 1 => by
  have ih0 := laws_eqIntS.mono_l k
  ·intro y0 y1 y2
   unfold laws_eqIntS.l0
   with_reducible repeat' first | exact ih0 _ _ _ | exact LeO.refl _ | exact LeO.none _ | refine LeO.ite ?_ ?_ | refine LeO.bind ?_ (fun _ => ?_)
theorem laws_eqIntS.mono : ∀ a0 a1 k, LeO (laws_eqIntS.f k a0 a1) (laws_eqIntS.f (k + 1) a0 a1) := by
 intro a0 a1 k
 have ih0 := laws_eqIntS.mono_l k
 unfold laws_eqIntS.f
 with_reducible repeat' first | exact ih0 _ _ _ | exact LeO.refl _ | exact LeO.none _ | refine LeO.ite ?_ ?_ | refine LeO.bind ?_ (fun _ => ?_)
set_option maxHeartbeats 8000000 in
set_option maxRecDepth 100000 in
theorem laws_eqIntS.calls (k : Nat) (A0 : Option Addr) (c0 : Nat) (l0 : List Int) (A1 : Option Addr) (c1 : Nat) (l1 : List Int) (r : Bool) (w : World) (hr0 : Kd.C (Kd.int .i64) w A0 l0.length l0) (hc0 : l0.length ≤ c0) (hr1 : Kd.C (Kd.int .i64) w A1 l1.length l1) (hc1 : l1.length ≤ c1) (h : laws_eqIntS.f k l0 l1 = some r) :
  Calls Try.prog 109 #[.slice A0 l0.length c0, .slice A1 l1.length c1] w fun e w' => e = .returned (.bool r) ∧ Drawn0 w w' := by
 have HR0 := Aside0.mk hr0; have HC0 := Aside0.mk hc0; clear hr0 hc0; have HR1 := Aside0.mk hr1; have HC1 := Aside0.mk hc1; clear hr1 hc1; have H := h; unfold laws_eqIntS.f at H; clear h
 by_cases c3 : (l0.length : Int) = (l1.length : Int)
 ·rw [if_pos c3] at H
  have c3b0 : ((l0.length : Int) == (l1.length : Int)) = true := beq_iff_eq.mpr c3
  have c3b1 : ((l0.length : Int) != (l1.length : Int)) = false := bne_eq_false_iff_eq.mpr c3
  have c3b2 : (l0.length == l1.length) = true := by first | simpa using c3 | (simp at c3 ⊢; omega)
  clear c3; have H' := Aside0.mk H; clear H
  go_enter Try.func109, Try.ntmps109
  go_wp2
  repeat (go_quiet (fail); try go_wp2)
  go_loopg [5] k (fun kq v5 w' => ∃ (x5_1 : Int), v5 = .int .i64 x5_1 ∧ Aside0 (laws_eqIntS.l0 kq l0 l1 x5_1 = some r) ∧ Aside0 (kq ≤ k) ∧ Drawn0 w w')
  case atStart => exact ⟨(0), rdT, H', ⟨Nat.le_refl _⟩, drT⟩
  case round =>
   clear H'; (try clear c1 p2 c3 c3b0 c3b1 c3b2); obtain ⟨x5_1, rfl, HA, HK1, ⟨m1, rfl⟩⟩ := hrel
   cases gk with
   | zero => exact absurd HA.out (by simp [laws_eqIntS.l0])
   | succ k1 =>
    have H := HA.out; clear HA
    simp only [laws_eqIntS.l0] at H
    by_cases c4 : x5_1 < (l0.length : Int)
    ·rw [if_pos c4] at H
     have c4b0 : decide (x5_1 < (l0.length : Int)) = true := decide_eq_true c4
     clear c4
     by_cases c5 : 0 ≤ x5_1
     ·rw [if_pos c5] at H
      have c5b0 : decide (0 ≤ x5_1) = true := decide_eq_true c5
      clear c5
      by_cases c6 : x5_1 < (l1.length : Int)
      ·rw [if_pos c6] at H
       have c6b0 : decide (x5_1 < (l1.length : Int)) = true := decide_eq_true c6
       clear c6
       by_cases c7 : (rd l0 x5_1) = (rd l1 x5_1)
       ·rw [if_pos c7] at H
        have c7b0 : ((rd l0 x5_1) == (rd l1 x5_1)) = true := beq_iff_eq.mpr c7
        have c7b1 : ((rd l0 x5_1) != (rd l1 x5_1)) = false := bne_eq_false_iff_eq.mpr c7
        clear c7; have H' := Aside0.mk H; clear H
        have p132 : 0 ≤ (x5_1 : Int) := of_decide_eq_true asmT
        have q132 : x5_1 < (l0.length : Int) := of_decide_eq_true asmT
        obtain ⟨ad132, e132, hx132_0⟩ := Kd.at_int HR0.out x5_1 p132 q132
        cases e132
        replace p132 := eq_true p132; replace q132 := eq_true q132
        have p133 : 0 ≤ (x5_1 : Int) := of_decide_eq_true asmT
        have q133 : x5_1 < (l1.length : Int) := of_decide_eq_true asmT
        obtain ⟨ad133, e133, hx133_0⟩ := Kd.at_int HR1.out x5_1 p133 q133
        cases e133
        replace p133 := eq_true p133; replace q133 := eq_true q133
        go_wp2
        repeat (go_quiet (fail); try go_wp2)
        go_roundg k1
        case measure => have := HK1.out; omega
        case rel => exact ⟨(wrap64 (x5_1 + 1)), rdT, H', ⟨by have := HK1.out; omega⟩, drT⟩
       ·rw [if_neg c7] at H
        have c7b0 : ((rd l0 x5_1) == (rd l1 x5_1)) = false := beq_eq_false_iff_ne.mpr c7
        have c7b1 : ((rd l0 x5_1) != (rd l1 x5_1)) = true := bne_iff_ne.mpr c7
        obtain rfl := Option.some.inj H
        have p132 : 0 ≤ (x5_1 : Int) := of_decide_eq_true asmT
        have q132 : x5_1 < (l0.length : Int) := of_decide_eq_true asmT
        obtain ⟨ad132, e132, hx132_0⟩ := Kd.at_int HR0.out x5_1 p132 q132
        cases e132
        replace p132 := eq_true p132; replace q132 := eq_true q132
        have p133 : 0 ≤ (x5_1 : Int) := of_decide_eq_true asmT
        have q133 : x5_1 < (l1.length : Int) := of_decide_eq_true asmT
        obtain ⟨ad133, e133, hx133_0⟩ := Kd.at_int HR1.out x5_1 p133 q133
        cases e133
        replace p133 := eq_true p133; replace q133 := eq_true q133
        go_wp2
        repeat (go_quiet (fail); try go_wp2)
        go_ret
        exact ⟨rdT, drT⟩
      ·rw [if_neg c6] at H
       exact absurd H (by simp)
     ·rw [if_neg c5] at H
      exact absurd H (by simp)
    ·rw [if_neg c4] at H
     have c4b0 : decide (x5_1 < (l0.length : Int)) = false := decide_eq_false c4
     clear c4
     obtain rfl := Option.some.inj H
     go_wp2
     repeat (go_quiet (fail); try go_wp2)
     go_ret
     exact ⟨rdT, drT⟩
 ·rw [if_neg c3] at H
  have c3b0 : ((l0.length : Int) == (l1.length : Int)) = false := beq_eq_false_iff_ne.mpr c3
  have c3b1 : ((l0.length : Int) != (l1.length : Int)) = true := bne_iff_ne.mpr c3
  have c3b2 : (l0.length == l1.length) = false := by first | simpa using c3 | (simp at c3 ⊢; omega)
  obtain rfl := Option.some.inj H
  go_enter Try.func109, Try.ntmps109
  go_wp2
  repeat (go_quiet (fail); try go_wp2)
  go_ret
  exact ⟨rdT, drT⟩

end Go.Proofs.Ytmfhaplhgaehhaa.PFnExactAllRankings
