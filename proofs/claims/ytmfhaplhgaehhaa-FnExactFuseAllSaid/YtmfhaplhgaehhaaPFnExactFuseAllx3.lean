-- Made by gen.py (a program of this session) out of the translation; Lean checks it.
import Derived.Test.YtmfhaplhgaehhaaPFnExactFuseAllx0
import Derived.Test.YtmfhaplhgaehhaaPFnExactFuseAllx1
import Derived.Test.YtmfhaplhgaehhaaPFnExactFuseAllx2
namespace Go.Proofs.Ytmfhaplhgaehhaa.PFnExactFuseAll
open Go.RowKit Go.Proofs.YtmfhaplhgaehhaaB Go.Proofs.YtmfhaplhgaehhaaW.PrintWords Go.Proofs.YtmfhaplhgaehhaaW.PrintLast Go.Proofs.YtmfhaplhgaehhaaW.PrintMore
attribute [local go_sem] max2_int min2_int max_two min_two max_three min_three max_four min_four   -- for this text's walks alone
set_option linter.unusedVariables false
set_option linter.unusedSimpArgs false

/-! ### laws_eqRowS: function 60 -/
def laws_eqRowS.l0 : Nat → List (S60) → List (S60) → Int → Option (Bool)
 | 0, _, _, _ => none
 | k + 1, x0, x1, x5 => if x5 < (x0.length : Int) then (if 0 ≤ x5 then (if x5 < (x1.length : Int) then ((laws_eqRow.f k ((rd_T60 x0 x5).f0) ((rd_T60 x1 x5).f0)).bind fun t209 => (if t209 = true then (laws_eqRowS.l0 k x0 x1 (wrap64 (x5 + 1))) else (some false))) else (none)) else (none)) else (some true)
def laws_eqRowS.f (k : Nat) (l0 : List (S60)) (l1 : List (S60)) : Option (Bool) := if (l0.length : Int) = (l1.length : Int) then (laws_eqRowS.l0 k l0 l1 0) else (some false)
theorem laws_eqRowS.mono_l : ∀ k, (∀ y0 y1 y2, LeO (laws_eqRowS.l0 k y0 y1 y2) (laws_eqRowS.l0 (k + 1) y0 y1 y2))
 | 0 => fun _ _ _ r h => by simp [laws_eqRowS.l0] at h
 | k + 1 => by
  have ih0 := laws_eqRowS.mono_l k
  ·intro y0 y1 y2
   unfold laws_eqRowS.l0
   with_reducible repeat' first | exact ih0 _ _ _ | exact laws_eqRow.mono _ _ _ | exact LeO.refl _ | exact LeO.none _ | refine LeO.ite ?_ ?_ | refine LeO.bind ?_ (fun _ => ?_)
theorem laws_eqRowS.mono : ∀ a0 a1 k, LeO (laws_eqRowS.f k a0 a1) (laws_eqRowS.f (k + 1) a0 a1) := by
 intro a0 a1 k
 have ih0 := laws_eqRowS.mono_l k
 unfold laws_eqRowS.f
 with_reducible repeat' first | exact ih0 _ _ _ | exact laws_eqRow.mono _ _ _ | exact LeO.refl _ | exact LeO.none _ | refine LeO.ite ?_ ?_ | refine LeO.bind ?_ (fun _ => ?_)
def laws_eqRowS.T6 : Bool × List (List Nat × List Nat) := (true, [([], []), ([], []), ([0, 1], [0, 1]), ([2], [2]), ([], []), ([], []), ([4, 5], [4, 5]), ([6], [6]), ([3, 7], [3, 7]), ([8], [8])])
def laws_eqRowS.B6 : List Nat := [0, 0, 3, 7, 0, 0, 48, 112, 255, 511]
theorem laws_eqRowS.tab6 : rtab .any (opsOf Try.f60 6) = laws_eqRowS.T6 := by kernel_rfl
theorem laws_eqRowS.bits6 : waitsOk laws_eqRowS.T6.2 laws_eqRowS.B6 = true := by kernel_rfl
set_option maxHeartbeats 8000000 in
set_option maxRecDepth 100000 in
theorem laws_eqRowS.calls (k : Nat) (A0 : Option Addr) (c0 : Nat) (l0 : List (S60)) (A1 : Option Addr) (c1 : Nat) (l1 : List (S60)) (r : Bool) (w : World) (hr0 : Kd.C k60 w A0 l0.length l0) (hc0 : l0.length ≤ c0) (hr1 : Kd.C k60 w A1 l1.length l1) (hc1 : l1.length ≤ c1) (h : laws_eqRowS.f k l0 l1 = some r) :
  Calls Try.prog 60 #[.slice A0 l0.length c0, .slice A1 l1.length c1] w fun e w' => e = .returned (.bool r) ∧ Below w.heap.size w w' := by
 have hu60 := Try.underlying60; have HR0 := Aside0.mk hr0; have HC0 := Aside0.mk hc0; clear hr0 hc0; have HR1 := Aside0.mk hr1; have HC1 := Aside0.mk hc1; clear hr1 hc1; have HB := asT (Below.refl w.heap.size w); have H := h; unfold laws_eqRowS.f at H; clear h
 by_cases c3 : (l0.length : Int) = (l1.length : Int)
 ·rw [if_pos c3] at H
  have c3b0 : ((l0.length : Int) == (l1.length : Int)) = true := beq_iff_eq.mpr c3
  have c3b1 : ((l0.length : Int) != (l1.length : Int)) = false := bne_eq_false_iff_eq.mpr c3
  have c3b2 : (l0.length == l1.length) = true := by first | simpa using c3 | (simp at c3 ⊢; omega)
  clear c3; have H' := Aside0.mk H; clear H
  go_enter Try.func60, Try.ntmps60
  go_wp2
  go_loopg [5] k (fun kq v5 w' => ∃ (x5_1 : Int), v5 = .int .i64 x5_1 ∧ Aside0 (laws_eqRowS.l0 kq l0 l1 x5_1 = some r) ∧ Aside0 (kq ≤ k) ∧ Aside0 (Below w.heap.size w w'))
  case atStart => exact ⟨(0), rdT, H', ⟨Nat.le_refl _⟩, ⟨hbT HB.out⟩⟩
  case round =>
   clear H'; (try clear c1 p2 c3 c3b0 c3b1 c3b2); obtain ⟨x5_1, rfl, HA, HK1, HB⟩ := hrel
   cases gk with
   | zero => exact absurd HA.out (by simp [laws_eqRowS.l0])
   | succ k1 =>
    have H := HA.out; clear HA
    simp only [laws_eqRowS.l0] at H
    by_cases c4 : x5_1 < (l0.length : Int)
    ·rw [if_pos c4] at H
     have c4b0 : decide (x5_1 < (l0.length : Int)) = true := decide_eq_true c4
     clear c4
     by_cases c5 : 0 ≤ x5_1
     ·rw [if_pos c5] at H
      have c5b0 : decide (0 ≤ x5_1) = true := decide_eq_true c5
      clear c5
      by_cases c6 : x5_1 < (l1.length : Int)
      ·rw [if_pos c6] at H
       have c6b0 : decide (x5_1 < (l1.length : Int)) = true := decide_eq_true c6
       clear c6; obtain ⟨t209, A7, H⟩ := be H
       by_cases c8 : t209 = true
       ·subst c8
        rw [if_pos rfl] at H; have H' := Aside0.mk H; clear H
        try go_wp2
        replace HB := asT (below_drew1 HB.out)
        have p207 : 0 ≤ (x5_1 : Int) := of_decide_eq_true asmT
        have q207 : x5_1 < (l0.length : Int) := of_decide_eq_true asmT
        obtain ⟨ad207, A207_0, c207_0, e207, hx207_0, hl207_0, hi207_0⟩ := at_T60 HR0.out x5_1 p207 q207; have hw207_0 := hx207_0
        cases e207
        replace hx207_0 := hbc HB.out hx207_0; have HR207_0 := Aside0.mk hi207_0; have HC207_0 := Aside0.mk hl207_0; clear hi207_0 hl207_0; replace p207 := eq_true p207; replace q207 := eq_true q207
        have p208 : 0 ≤ (x5_1 : Int) := of_decide_eq_true asmT
        have q208 : x5_1 < (l1.length : Int) := of_decide_eq_true asmT
        obtain ⟨ad208, A208_0, c208_0, e208, hx208_0, hl208_0, hi208_0⟩ := at_T60 HR1.out x5_1 p208 q208; have hw208_0 := hx208_0
        cases e208
        replace hx208_0 := hbc HB.out hx208_0; have HR208_0 := Aside0.mk hi208_0; have HC208_0 := Aside0.mk hl208_0; clear hi208_0 hl208_0; replace p208 := eq_true p208; replace q208 := eq_true q208
        refine start_ (n := 10) (S := fun w' => w'.cell? (ad207.add (x5_1).toNat) = some (.slice A207_0 ((rd_T60 l0 x5_1).f0).length c207_0) ∧ w'.cell? (ad208.add (x5_1).toNat) = some (.slice A208_0 ((rd_T60 l1 x5_1).f0).length c208_0)) (ds := []) (bA 10 0) (by kernel_rfl) rfl rfl ⟨(hbc HB.out hw207_0 :), (hbc HB.out hw208_0 :)⟩ (fun hHeld => ?_); refine with_tabW laws_eqRowS.tab6 laws_eqRowS.bits6 (fun HT_ HW_ => ?_)
        generalize wr.drew = w9 at HB HR207_0 HR208_0 hx207_0 hx208_0 hHeld ⊢
        refine pA 0 17 10 1 HT_.out ?_ rfl rfl; refine pA 1 18 10 3 HT_.out ?_ rfl rfl; refine pA 2 19 10 7 HT_.out ?_ rfl rfl; refine pA 4 21 10 23 HT_.out ?_ rfl rfl; refine pA 5 22 10 55 HT_.out ?_ rfl rfl; refine pA 6 23 10 119 HT_.out ?_ rfl rfl; refine tA 3 20 10 127 HT_.out HW_.out hHeld ?_ rfl rfl; refine tA 7 24 10 255 HT_.out HW_.out hHeld ?_ rfl rfl
        refine oA 8 25 10 511 HT_.out (fun K hK => ?_) rfl rfl
        refine goes_ Try.func59 (by kernel_rfl) rfl #[.agg #[.slice A207_0 ((rd_T60 l0 x5_1).f0).length c207_0], .agg #[.slice A208_0 ((rd_T60 l1 x5_1).f0).length c208_0]] (by rfl) rfl rfl eqT ?_
        (with_reducible refine (laws_eqRow.calls k1 _ _ ((rd_T60 l0 x5_1).f0) _ _ ((rd_T60 l1 x5_1).f0) true _ ?side1 ?side2 ?side3 ?side4 A7.out).mono ?_); (case side1 => exact crT HR207_0.out HB.out); (case side2 => exact HC207_0.out); (case side3 => exact crT HR208_0.out HB.out); (case side4 => exact HC208_0.out); rintro e w10 ⟨rfl, hb⟩; refine ⟨_, rfl, ?_⟩; replace HB := hS HB hb; (try clear hb hb2 hk hi)
        refine hK.out _ _ ⟨(hbc HB.out hw207_0 :), (hbc HB.out hw208_0 :)⟩ (fun hHeld => ?_)
        clear hK K
        refine nB 25 ?_ rfl; refine pA 9 26 10 1023 HT_.out ?_ rfl rfl
        refine done_ (done_of HT_.out (by kernel_rfl)) ?_
        try go_wp2
        go_roundg k1
        case measure => have := HK1.out; omega
        case rel => exact ⟨(wrap64 (x5_1 + 1)), rdT, H', ⟨by have := HK1.out; omega⟩, ⟨hbT HB.out⟩⟩
       ·replace c8 := Bool.eq_false_iff.mpr c8
        subst c8; rw [if_neg nF] at H; have H1 := H; clear H; have H := H1; clear H1
        obtain rfl := Option.some.inj H
        try go_wp2
        replace HB := asT (below_drew1 HB.out)
        have p207 : 0 ≤ (x5_1 : Int) := of_decide_eq_true asmT
        have q207 : x5_1 < (l0.length : Int) := of_decide_eq_true asmT
        obtain ⟨ad207, A207_0, c207_0, e207, hx207_0, hl207_0, hi207_0⟩ := at_T60 HR0.out x5_1 p207 q207; have hw207_0 := hx207_0
        cases e207
        replace hx207_0 := hbc HB.out hx207_0; have HR207_0 := Aside0.mk hi207_0; have HC207_0 := Aside0.mk hl207_0; clear hi207_0 hl207_0; replace p207 := eq_true p207; replace q207 := eq_true q207
        have p208 : 0 ≤ (x5_1 : Int) := of_decide_eq_true asmT
        have q208 : x5_1 < (l1.length : Int) := of_decide_eq_true asmT
        obtain ⟨ad208, A208_0, c208_0, e208, hx208_0, hl208_0, hi208_0⟩ := at_T60 HR1.out x5_1 p208 q208; have hw208_0 := hx208_0
        cases e208
        replace hx208_0 := hbc HB.out hx208_0; have HR208_0 := Aside0.mk hi208_0; have HC208_0 := Aside0.mk hl208_0; clear hi208_0 hl208_0; replace p208 := eq_true p208; replace q208 := eq_true q208
        refine start_ (n := 10) (S := fun w' => w'.cell? (ad207.add (x5_1).toNat) = some (.slice A207_0 ((rd_T60 l0 x5_1).f0).length c207_0) ∧ w'.cell? (ad208.add (x5_1).toNat) = some (.slice A208_0 ((rd_T60 l1 x5_1).f0).length c208_0)) (ds := []) (bA 10 0) (by kernel_rfl) rfl rfl ⟨(hbc HB.out hw207_0 :), (hbc HB.out hw208_0 :)⟩ (fun hHeld => ?_); refine with_tabW laws_eqRowS.tab6 laws_eqRowS.bits6 (fun HT_ HW_ => ?_)
        generalize wr.drew = w11 at HB HR207_0 HR208_0 hx207_0 hx208_0 hHeld ⊢
        refine pA 0 17 10 1 HT_.out ?_ rfl rfl; refine pA 1 18 10 3 HT_.out ?_ rfl rfl; refine pA 2 19 10 7 HT_.out ?_ rfl rfl; refine pA 4 21 10 23 HT_.out ?_ rfl rfl; refine pA 5 22 10 55 HT_.out ?_ rfl rfl; refine pA 6 23 10 119 HT_.out ?_ rfl rfl; refine tA 3 20 10 127 HT_.out HW_.out hHeld ?_ rfl rfl; refine tA 7 24 10 255 HT_.out HW_.out hHeld ?_ rfl rfl
        refine oA 8 25 10 511 HT_.out (fun K hK => ?_) rfl rfl
        refine goes_ Try.func59 (by kernel_rfl) rfl #[.agg #[.slice A207_0 ((rd_T60 l0 x5_1).f0).length c207_0], .agg #[.slice A208_0 ((rd_T60 l1 x5_1).f0).length c208_0]] (by rfl) rfl rfl eqT ?_
        (with_reducible refine (laws_eqRow.calls k1 _ _ ((rd_T60 l0 x5_1).f0) _ _ ((rd_T60 l1 x5_1).f0) false _ ?side1 ?side2 ?side3 ?side4 A7.out).mono ?_); (case side1 => exact crT HR207_0.out HB.out); (case side2 => exact HC207_0.out); (case side3 => exact crT HR208_0.out HB.out); (case side4 => exact HC208_0.out); rintro e w12 ⟨rfl, hb⟩; refine ⟨_, rfl, ?_⟩; replace HB := hS HB hb; (try clear hb hb2 hk hi)
        refine hK.out _ _ ⟨(hbc HB.out hw207_0 :), (hbc HB.out hw208_0 :)⟩ (fun hHeld => ?_)
        clear hK K
        refine nB 25 ?_ rfl; refine pA 9 26 10 1023 HT_.out ?_ rfl rfl
        refine done_ (done_of HT_.out (by kernel_rfl)) ?_
        try go_wp2
        go_ret
        exact ⟨rlT, hbT HB.out⟩
      ·rw [if_neg c6] at H
       exact absurd H (by simp)
     ·rw [if_neg c5] at H
      exact absurd H (by simp)
    ·rw [if_neg c4] at H
     have c4b0 : decide (x5_1 < (l0.length : Int)) = false := decide_eq_false c4
     clear c4
     obtain rfl := Option.some.inj H
     go_wp2
     go_ret
     exact ⟨rlT, hbT HB.out⟩
 ·rw [if_neg c3] at H
  have c3b0 : ((l0.length : Int) == (l1.length : Int)) = false := beq_eq_false_iff_ne.mpr c3
  have c3b1 : ((l0.length : Int) != (l1.length : Int)) = true := bne_iff_ne.mpr c3
  have c3b2 : (l0.length == l1.length) = false := by first | simpa using c3 | (simp at c3 ⊢; omega)
  obtain rfl := Option.some.inj H
  go_enter Try.func60, Try.ntmps60
  go_wp2
  go_ret
  exact ⟨rlT, hbT HB.out⟩

/-! ### laws_markIntS: function 110 -/
def laws_markIntS.l0 : Nat → List Int → Int → Int → Option (Int × List Int)
 | 0, _, _, _ => none
 | k + 1, x0, x1, x5 => if x5 < (x0.length : Int) then (if 0 ≤ x5 then (laws_markIntS.l0 k (x0.set (x5 : Int).toNat x1) (wrap64 (x1 + 1)) (wrap64 (x5 + 1))) else (none)) else (some (x1, x0))
def laws_markIntS.f (k : Nat) (l0 : List Int) (a1 : Int) : Option (Int × List Int) := laws_markIntS.l0 k l0 a1 0
theorem laws_markIntS.mono_l : ∀ k, (∀ y0 y1 y2, LeO (laws_markIntS.l0 k y0 y1 y2) (laws_markIntS.l0 (k + 1) y0 y1 y2))
 | 0 => fun _ _ _ r h => by simp [laws_markIntS.l0] at h
 | k + 1 => by
  have ih0 := laws_markIntS.mono_l k
  ·intro y0 y1 y2
   unfold laws_markIntS.l0
   with_reducible repeat' first | exact ih0 _ _ _ | exact LeO.refl _ | exact LeO.none _ | refine LeO.ite ?_ ?_ | refine LeO.bind ?_ (fun _ => ?_)
theorem laws_markIntS.mono : ∀ a0 a1 k, LeO (laws_markIntS.f k a0 a1) (laws_markIntS.f (k + 1) a0 a1) := by
 intro a0 a1 k
 have ih0 := laws_markIntS.mono_l k
 unfold laws_markIntS.f
 with_reducible repeat' first | exact ih0 _ _ _ | exact LeO.refl _ | exact LeO.none _ | refine LeO.ite ?_ ?_ | refine LeO.bind ?_ (fun _ => ?_)
set_option maxHeartbeats 8000000 in
set_option maxRecDepth 100000 in
theorem laws_markIntS.calls (k : Nat) (P0_ : Nat → Prop) (u9000_ : Value) (l0 : List Int) (a1 : Int) (r1 : Int) (r2 : List Int) (w0 w : World) (hB : Below w0.heap.size w0 w) (ho0 : Kd.R (Kd.int .i64) 3 w w0.heap.size P0_ u9000_ l0) (h : laws_markIntS.f k l0 a1 = some (r1, r2)) :
  Calls Try.prog 110 #[u9000_, .int .i64 a1] w fun e w' => e = .returned (.int .i64 r1) ∧ Kd.R (Kd.int .i64) 3 w' w0.heap.size (fun k_ => (P0_ k_ ∨ w.heap.size ≤ k_)) u9000_ r2 ∧ Below w0.heap.size w0 w' ∧ Kept w w' (fun k_ => P0_ k_) := by
 have HO0 := asT (show Kd.R (Kd.int .i64) 3 w w0.heap.size (fun k_ => (P0_ k_ ∨ w.heap.size ≤ k_)) u9000_ l0 from Kd.R_mono ho0 (fun k_ hk => (.inl hk))); have HK := asT (Kept.refl w (fun k_ => P0_ k_)); have HW0 := Aside0.mk hB.size; have HB := Aside0.mk hB; clear hB; have H := h; unfold laws_markIntS.f at H; clear h; have H' := Aside0.mk H; clear H
 go_enter Try.func110, Try.ntmps110
 go_wp2
 go_loopg [1, 5] k (fun kq v1 v5 w' => ∃ (x0_1 : List Int) (x1_1 : Int) (x5_1 : Int), v1 = .int .i64 x1_1 ∧ v5 = .int .i64 x5_1 ∧ Aside0 (laws_markIntS.l0 kq x0_1 x1_1 x5_1 = some (r1, r2)) ∧ Aside0 (kq ≤ k) ∧ Aside0 (Kd.R (Kd.int .i64) 3 w' w0.heap.size (fun k_ => (P0_ k_ ∨ w.heap.size ≤ k_)) u9000_ x0_1) ∧ Aside0 (Kept w w' (fun k_ => P0_ k_)) ∧ Aside0 (Below w0.heap.size w0 w'))
 case atStart => exact ⟨(l0), (a1), (0), rdT, rdT, H', ⟨Nat.le_refl _⟩, ⟨by (with_reducible repeat (first | apply Kd.R_alloc | apply Kd.R_drewN | apply Kd.R_drew)); exact HO0.out⟩, ⟨by repeat (first | (with_reducible first | exact HK.out | apply Kept.alloc | apply Kept.drewN | apply Kept.drew) | exact HK.out)⟩, ⟨hbT HB.out⟩⟩
 case round =>
  clear H'; (try clear c1 p2); obtain ⟨x0_1, x1_1, x5_1, rfl, rfl, HA, HK1, HO_0, HK, HB⟩ := hrel
  cases gk with
  | zero => exact absurd HA.out (by simp [laws_markIntS.l0])
  | succ k1 =>
   have H := HA.out; clear HA
   simp only [laws_markIntS.l0] at H
   by_cases c3 : x5_1 < (x0_1.length : Int)
   ·rw [if_pos c3] at H
    have c3b0 : decide (x5_1 < (x0_1.length : Int)) = true := decide_eq_true c3
    clear c3
    by_cases c4 : 0 ≤ x5_1
    ·rw [if_pos c4] at H
     have c4b0 : decide (0 ≤ x5_1) = true := decide_eq_true c4
     clear c4; obtain ⟨y210, hy210⟩ : ∃ y_ : List Int, y_ = (x0_1.set (x5_1 : Int).toNat x1_1) := ⟨_, rfl⟩
     replace H : (laws_markIntS.l0 k1 y210 (wrap64 (x1_1 + 1)) (wrap64 (x5_1 + 1))) = some (r1, r2) := by first | (rw [hy210]; with_reducible exact H) | (have H2_ := (Option.bind_some _ _).symm.trans H; rw [hy210]; with_reducible exact H2_) | (have H2_ := (Option.bind_some _ _).symm.trans H; with_reducible exact H2_) | with_reducible exact H | (rw [hy210]; exact H) | exact H
     have Ny210 := Aside0.mk hy210; clear hy210; have H' := Aside0.mk H; clear H; obtain ⟨Ao6, co6, eo6⟩ := Kd.R_slice HO_0.out; subst eo6
     have p5 : 0 ≤ (x5_1 : Int) := of_decide_eq_true asmT
     have q5 : (x5_1 : Int) < ((x0_1.length : Int) : Int) := of_decide_eq_true asmT
     obtain ⟨go5, co5, eo5, gb5, gl5, cl5, HG5⟩ := Kd.R_form HO_0.out (by omega)
     (first | cases eo5 | (injection eo5 with ea_ en_ ec_; (first | subst ea_ | (injection ea_ with ea_; subst ea_)); subst ec_; clear en_))
     have GB5 := Aside0.mk gb5; have GG5 := Aside0.mk HG5; clear gb5 gl5 HG5; have HMgo5 := asT (show (P0_ go5 ∨ w.heap.size ≤ go5) from (HO_0.out.1 _ rfl)); obtain ⟨hx5_0, hf5_0⟩ := Kd.R_celln 0 HO_0.out (x5_1 : Int) p5 q5; replace p5 := eq_true p5; replace q5 := eq_true q5; have HP7 := Kd.R_putg HO_0.out (x5_1 : Int) x1_1
     go_wp2_with (first | ((with_reducible refine gate_store (t := 3) (p := 15) rfl ?_); refine store_event (t := 3) (p := 15) (v := ?vo_w8) (w1 := (wr.setCell ⟨go5, (x5_1 : Int).toNat, none⟩ (.int .i64 x1_1))) ?hg ?ho ?hn ?hr ?_; (case ho => rfl); (case hg => rfl); (case hn => rfl); (case hr => first | (go_simp; done) | (go_simp; rfl)); intro w8 hw; have hg : wr.grownBy w8 (some go5) := (by rw [hw]; exact HP7.2); have hp_ : Kd.R (Kd.int .i64) 3 w8 w0.heap.size (fun k_ => (P0_ k_ ∨ w.heap.size ≤ k_)) (.slice (some ⟨go5, 0, none⟩) x0_1.length co6) y210 := (by rw [hw, Ny210.out]; exact HP7.1); clear HP7; replace HB := asT ((by rw [hw]; exact below_set (HB.out) GB5.out : Below w0.heap.size w0 w8)); replace HK := asT (Kept.of_grown (S := (fun k_ => P0_ k_)) hg (by repeat (first | (with_reducible first | exact HK.out | apply Kept.alloc | apply Kept.drewN | apply Kept.drew) | exact HK.out)) (fun k_ e_ => (HO_0.out.1 k_ e_))); replace HO_0 := asT (hp_); clear hg hw hp_))
     go_roundg k1
     case measure => have := HK1.out; omega
     case rel => exact ⟨(y210), (wrap64 (x1_1 + 1)), (wrap64 (x5_1 + 1)), rdT, rdT, H', ⟨by have := HK1.out; omega⟩, ⟨by (with_reducible repeat (first | apply Kd.R_alloc | apply Kd.R_drewN | apply Kd.R_drew)); exact HO_0.out⟩, ⟨by repeat (first | (with_reducible first | exact HK.out | apply Kept.alloc | apply Kept.drewN | apply Kept.drew) | exact HK.out)⟩, ⟨hbT HB.out⟩⟩
    ·rw [if_neg c4] at H
     exact absurd H (by simp)
   ·rw [if_neg c3] at H
    have c3b0 : decide (x5_1 < (x0_1.length : Int)) = false := decide_eq_false c3
    clear c3
    simp only [Option.some.injEq, Prod.mk.injEq] at H
    obtain ⟨rfl, rfl⟩ := H; obtain ⟨Ao9, co9, eo9⟩ := Kd.R_slice HO_0.out; subst eo9
    go_wp2
    go_ret
    exact ⟨rlT, by (with_reducible repeat (first | apply Kd.R_alloc | apply Kd.R_drewN | apply Kd.R_drew)); exact HO_0.out, hbT HB.out, by repeat (first | (with_reducible first | exact HK.out | apply Kept.alloc | apply Kept.drewN | apply Kept.drew) | exact HK.out)⟩

/-! ### laws_markRowS: function 61 -/
def laws_markRowS.l0 : Nat → List S60 → Int → Int → Option (Int × List S60)
  | 0, _, _, _ => none
  | k + 1, xs, a, i => if i < (xs.length : Int) then (if 0 ≤ i then ((laws_markIntS.f k ((xs.getD i.toNat z60).f0) a).bind fun bt => laws_markRowS.l0 k (xs.set i.toNat (⟨bt.2⟩ : S60)) bt.1 (wrap64 (i + 1))) else none) else some (a, xs)
def laws_markRowS.f (k : Nat) (l0 : List S60) (a1 : Int) : Option (Int × List S60) := laws_markRowS.l0 k l0 a1 0
theorem laws_markRowS.mono_l : ∀ k, (∀ y0 y1 y2, LeO (laws_markRowS.l0 k y0 y1 y2) (laws_markRowS.l0 (k + 1) y0 y1 y2))
  | 0 => fun _ _ _ r h => by simp [laws_markRowS.l0] at h
  | k + 1 => by
    have ih0 := laws_markRowS.mono_l k
    intro y0 y1 y2
    unfold laws_markRowS.l0
    with_reducible repeat' first | exact ih0 _ _ _ | exact laws_markIntS.mono _ _ _ | exact LeO.refl _ | exact LeO.none _ | refine LeO.ite ?_ ?_ | refine LeO.bind ?_ (fun _ => ?_)
theorem laws_markRowS.mono : ∀ a0 a1 k, LeO (laws_markRowS.f k a0 a1) (laws_markRowS.f (k + 1) a0 a1) := fun a0 a1 k => laws_markRowS.mono_l k a0 a1 0
set_option maxHeartbeats 8000000 in
set_option maxRecDepth 100000 in
theorem laws_markRowS.calls (k : Nat) (P0_ : Nat → Prop) (u_ : Value) (l0 : List S60) (a1 : Int) (r1 : Int) (r2 : List S60) (w0 w : World) (hB : Below w0.heap.size w0 w) (ho0 : Kd.S k60 60 w w0.heap.size P0_ u_ l0) (h : laws_markRowS.f k l0 a1 = some (r1, r2)) :
    Calls Try.prog 61 #[u_, .int .i64 a1] w fun e w' => e = .returned (.int .i64 r1) ∧ Kd.S k60 60 w' w0.heap.size P0_ u_ r2 ∧ Below w0.heap.size w0 w' ∧ Kept w w' P0_ := by
  obtain ⟨A, c, hu⟩ := Kd.S_slice ho0
  subst hu
  have H' := Aside0.mk h
  clear h
  go_enter Try.func61, Try.ntmps61
  go_wp2
  go_loopg [1, 5] k (fun kq v1 v5 wr => ∃ (xs : List S60) (a i : Int), v1 = .int .i64 a ∧ v5 = .int .i64 i ∧ Aside0 (laws_markRowS.l0 kq xs a i = some (r1, r2)) ∧ Aside0 (kq ≤ k) ∧ Aside0 (xs.length = l0.length) ∧ Aside0 (Kd.S k60 60 wr w0.heap.size P0_ (.slice A l0.length c) xs) ∧ Aside0 (Below w0.heap.size w0 wr) ∧ Aside0 (Kept w wr P0_))
  case atStart => exact ⟨l0, a1, 0, rfl, rfl, H', ⟨Nat.le_refl _⟩, ⟨rfl⟩, ⟨ho0⟩, ⟨hB⟩, ⟨Nat.le_refl _, fun _ _ _ => rfl⟩⟩
  case round =>
    clear H' ho0 hB
    obtain ⟨xs, a, i, rfl, rfl, HA, HK1, HL, HS, HB, HKp⟩ := hrel
    cases gk with
    | zero => exact absurd HA.out (by simp [laws_markRowS.l0])
    | succ k1 =>
      have H := HA.out
      clear HA
      simp only [laws_markRowS.l0] at H
      by_cases c3 : i < (xs.length : Int)
      · rw [if_pos c3] at H
        by_cases c4 : 0 ≤ i
        · rw [if_pos c4] at H
          obtain ⟨⟨b1, b2⟩, hf, H2⟩ := Option.bind_eq_some_iff.mp H
          clear H
          obtain ⟨g, cap, e, hg0, hgl, _⟩ := Kd.S_form HS.out (by omega)
          injection e with e1 e2 e3
          subst e1
          have hlen := HL.out
          have c3b : decide (i < (l0.length : Int)) = true := decide_eq_true (by omega)
          have p : (0 ≤ i) = True := eq_true c4
          have q : (i < (l0.length : Int)) = True := eq_true (by omega)
          obtain ⟨oki, cs, hcl, hM, hcc, hoki, hH⟩ := Kd.S_lend HS.out z60 i c4 (show i < (l0.length : Int) by omega)
          obtain ⟨uv, rfl, hR⟩ := k60_openM hM
          obtain ⟨A2, c2, e4⟩ := Kd.R_slice hR
          subst e4
          have hx : wr.cell? ⟨g, i.toNat, none⟩ = some (.slice A2 (xs.getD i.toNat z60).f0.length c2) := by
            have := hcc 0 _ rfl
            rwa [show i.toNat * k60.sz + 0 = i.toNat from Nat.mul_one _] at this
          have hR' := Aside0.mk hR
          have hH' := Aside0.mk hH
          have hf' := Aside0.mk hf
          have H' := Aside0.mk H2
          have hM' := Aside0.mk hoki
          clear hR hH hf H2 hM hcc HS c3 hcl e2 e3 hlen
          go_wp2_with (first
            | (go_at_call 110; refine (laws_markIntS.calls k1 oki _ _ a b1 b2 w0 wr HB.out hR'.out hf'.out).mono ?_; rintro e w2 ⟨rfl, hR2, hB2, hK2⟩; have HR2 := Aside0.mk hR2; have HB2 := Aside0.mk hB2; have HK2 := Aside0.mk hK2; clear hR2 hB2 hK2))
          have c4 := of_eq_true p
          go_roundg k1
          case rel =>
            refine ⟨xs.set i.toNat (⟨b2⟩ : S60), b1, wrap64 (i + 1), rfl, by first | rfl | (simp only [i64_w]; done) | skip, H', ⟨by have := HK1.out; omega⟩, ⟨by rw [List.length_set]; exact HL.out⟩, ⟨?_⟩, HB2, ⟨?_⟩⟩
            · exact Kd.H_back (Kd.H_step hH'.out (fun k _ hn hlt => HK2.out.2 k hlt hn)) (k60_mkM _ _ _ (⟨b2⟩ : S60) (Kd.R_mono (Kd.R_tight rfl HR2.out) (fun k hk => hR'.out.1 k hk.symm))) (fun _ hk => hk)
            · exact ⟨Nat.le_trans HKp.out.1 HK2.out.1, fun k hlt hn => (HK2.out.2 k (Nat.lt_of_lt_of_le hlt HKp.out.1) (fun ho => hn (hM'.out k ho).1)).trans (HKp.out.2 k hlt hn)⟩
          case measure => have := HK1.out; omega
        · rw [if_neg c4] at H
          cases H
      · rw [if_neg c3] at H
        obtain ⟨rfl, rfl⟩ := Prod.mk.inj (Option.some.inj H)
        have hlen := HL.out
        have c3b : decide (i < (l0.length : Int)) = false := decide_eq_false (by omega)
        clear hlen
        go_wp2
        go_ret
        exact ⟨rfl, HS.out, HB.out, HKp.out⟩

/-! ### laws_markRow: function 62 -/
def laws_markRow.f (k : Nat) (l0_0 : List Int) (a1 : Int) : Option (Int × List Int) := (laws_markIntS.f k l0_0 a1).bind fun bt212 => (some (bt212.1, bt212.2))
theorem laws_markRow.mono : ∀ a0 a1 k, LeO (laws_markRow.f k a0 a1) (laws_markRow.f (k + 1) a0 a1) := by
 intro a0 a1 k
 unfold laws_markRow.f
 with_reducible repeat' first | exact laws_markIntS.mono _ _ _ | exact LeO.refl _ | exact LeO.none _ | refine LeO.ite ?_ ?_ | refine LeO.bind ?_ (fun _ => ?_)
set_option maxHeartbeats 8000000 in
set_option maxRecDepth 100000 in
theorem laws_markRow.calls (k : Nat) (P0_0_ : Nat → Prop) (u9000_ : Value) (l0_0 : List Int) (a1 : Int) (r1 : Int) (r2 : List Int) (w0 w : World) (hB : Below w0.heap.size w0 w) (ho0_0 : Kd.R (Kd.int .i64) 3 w w0.heap.size P0_0_ u9000_ l0_0) (h : laws_markRow.f k l0_0 a1 = some (r1, r2)) :
  Calls Try.prog 62 #[.agg #[u9000_], .int .i64 a1] w fun e w' => e = .returned (.int .i64 r1) ∧ Kd.R (Kd.int .i64) 3 w' w0.heap.size (fun k_ => (P0_0_ k_ ∨ w.heap.size ≤ k_)) u9000_ r2 ∧ Below w0.heap.size w0 w' ∧ Kept w w' (fun k_ => P0_0_ k_) := by
 have hu60 := Try.underlying60; have HO0_0 := asT (show Kd.R (Kd.int .i64) 3 w w0.heap.size (fun k_ => (P0_0_ k_ ∨ w.heap.size ≤ k_)) u9000_ l0_0 from Kd.R_mono ho0_0 (fun k_ hk => (.inl hk))); have HK := asT (Kept.refl w (fun k_ => P0_0_ k_)); have HW0 := Aside0.mk hB.size; have HB := Aside0.mk hB; clear hB; have H := h; unfold laws_markRow.f at H; clear h; replace H := Option.bind_eq_some_iff.mp H; obtain ⟨⟨t212, t213⟩, A30, H⟩ := H; replace H : (some (t212, t213)) = some (r1, r2) := H; have A3 := Aside0.mk A30; clear A30
 simp only [Option.some.injEq, Prod.mk.injEq] at H
 obtain ⟨rfl, rfl⟩ := H; obtain ⟨Ao4, co4, eo4⟩ := Kd.R_slice HO0_0.out; subst eo4
 go_enter Try.func62, Try.ntmps62
 go_wp2_with (first | ((with_reducible refine gate_dst (N := 2) rfl ?_); refine boxT (N := 2) (cs := #[.slice Ao4 l0_0.length co4]) (t := 60) ?_; intro gb211 hg w5 hbox hb; replace HO0_0 := asT (Kd.R_below (roT HO0_0.out) hb); have BK211 := asT (hbox); have GW211 := asT ((by rw [hg]; exact (by first | exact HK.out.1 | exact (show Kept w _ (fun k_ => P0_0_ k_) from by repeat (first | (with_reducible first | exact HK.out | apply Kept.alloc | apply Kept.drewN | apply Kept.drew) | exact HK.out)).1) : w.heap.size ≤ gb211)); replace HK := asT (Kept.below (S := (fun k_ => P0_0_ k_)) (by repeat (first | (with_reducible first | exact HK.out | apply Kept.alloc | apply Kept.drewN | apply Kept.drew) | exact HK.out)) hb); have GE211 := asT ((by rw [hg]; exact (below_size (hbT HB.out)) : w0.heap.size ≤ gb211)); replace HB := hS HB hb; clear hb hbox hg; obtain ⟨hcz6_0, hfz6_0⟩ := bx1 BK211.out) | ((with_reducible refine gate_callee (f := 110) rfl ?_); refine goesL_ (some 8) rfl rfl Try.func110 (by kernel_rfl) rfl #[.slice Ao4 l0_0.length co4, .int .i64 a1] rfl eqT ?_; (with_reducible refine (laws_markIntS.calls k (fun k_ => some k_ = (.slice Ao4 l0_0.length co4 : Value).ownBlock) (.slice Ao4 l0_0.length co4) l0_0 a1 t212 t213 w0 _ ?side1 ?side2 A3.out).mono ?_); (case side1 => repeat (first | (with_reducible first | exact HB.out | apply below_alloc | apply pw_below_drewN | apply below_drew1 | refine below_set ?_ GE211.out) | exact HB.out)); (case side2 => exact Kd.R_tight rfl HO0_0.out); rintro e w7 ⟨rfl, hy0, hb, hkp⟩; refine ⟨_, rfl, ?_⟩; replace BK211 := asT (blk_kept (bkT BK211.out) hkp (fun hs_ => (fun e_ => (Kd.R_ne HO0_0.out BK211.out (by decide)) e_) hs_)); replace HK := asT (Kept.then_ (S := (fun k_ => P0_0_ k_)) (by repeat (first | (with_reducible first | exact HK.out | apply Kept.alloc | apply Kept.drewN | apply Kept.drew | refine Kept.setCell ?_ (.inr GW211.out) _) | exact HK.out)) hkp (fun k_ hs_ => (fun e_ => (HO0_0.out.1 k_ e_.symm)) hs_)); replace HO0_0 := asT (Kd.R_reok rfl hy0 (fun k_ e_ => HO0_0.out.1 k_ e_)); replace HB := asT (hb); (try clear hb hkp hy0)))
 go_ret
 exact ⟨rlT, by (with_reducible repeat (first | apply Kd.R_alloc | apply Kd.R_drewN | apply Kd.R_drew)); exact HO0_0.out, hbT HB.out, by repeat (first | (with_reducible first | exact HK.out | apply Kept.alloc | apply Kept.drewN | apply Kept.drew | refine Kept.setCell ?_ (.inr GW211.out) _) | exact HK.out)⟩

/-! ### laws_heldIntS: function 111 -/
def laws_heldIntS.l0 : Nat → List Int → Int → Int → Option (Int)
 | 0, _, _, _ => none
 | k + 1, x0, x1, x5 => if x5 < (x0.length : Int) then (if 0 ≤ x5 then (if (rd x0 x5) = x1 then (laws_heldIntS.l0 k x0 (wrap64 (x1 + 1)) (wrap64 (x5 + 1))) else (some (-1))) else (none)) else (some x1)
def laws_heldIntS.f (k : Nat) (l0 : List Int) (a1 : Int) : Option (Int) := laws_heldIntS.l0 k l0 a1 0
theorem laws_heldIntS.mono_l : ∀ k, (∀ y0 y1 y2, LeO (laws_heldIntS.l0 k y0 y1 y2) (laws_heldIntS.l0 (k + 1) y0 y1 y2))
 | 0 => fun _ _ _ r h => by simp [laws_heldIntS.l0] at h
 | k + 1 => by
  have ih0 := laws_heldIntS.mono_l k
  ·intro y0 y1 y2
   unfold laws_heldIntS.l0
   with_reducible repeat' first | exact ih0 _ _ _ | exact LeO.refl _ | exact LeO.none _ | refine LeO.ite ?_ ?_ | refine LeO.bind ?_ (fun _ => ?_)
theorem laws_heldIntS.mono : ∀ a0 a1 k, LeO (laws_heldIntS.f k a0 a1) (laws_heldIntS.f (k + 1) a0 a1) := by
 intro a0 a1 k
 have ih0 := laws_heldIntS.mono_l k
 unfold laws_heldIntS.f
 with_reducible repeat' first | exact ih0 _ _ _ | exact LeO.refl _ | exact LeO.none _ | refine LeO.ite ?_ ?_ | refine LeO.bind ?_ (fun _ => ?_)
set_option maxHeartbeats 8000000 in
set_option maxRecDepth 100000 in
theorem laws_heldIntS.calls (k : Nat) (A0 : Option Addr) (c0 : Nat) (l0 : List Int) (a1 : Int) (r : Int) (w : World) (hr0 : Kd.C (Kd.int .i64) w A0 l0.length l0) (hc0 : l0.length ≤ c0) (h : laws_heldIntS.f k l0 a1 = some r) :
  Calls Try.prog 111 #[.slice A0 l0.length c0, .int .i64 a1] w fun e w' => e = .returned (.int .i64 r) ∧ Drawn0 w w' := by
 have HR0 := Aside0.mk hr0; have HC0 := Aside0.mk hc0; clear hr0 hc0; have H := h; unfold laws_heldIntS.f at H; clear h; have H' := Aside0.mk H; clear H
 go_enter Try.func111, Try.ntmps111
 go_wp2
 go_loopg [1, 5] k (fun kq v1 v5 w' => ∃ (x1_1 : Int) (x5_1 : Int), v1 = .int .i64 x1_1 ∧ v5 = .int .i64 x5_1 ∧ Aside0 (laws_heldIntS.l0 kq l0 x1_1 x5_1 = some r) ∧ Aside0 (kq ≤ k) ∧ Drawn0 w w')
 case atStart => exact ⟨(a1), (0), rdT, rdT, H', ⟨Nat.le_refl _⟩, drT⟩
 case round =>
  clear H'; (try clear c1 p2); obtain ⟨x1_1, x5_1, rfl, rfl, HA, HK1, ⟨m1, rfl⟩⟩ := hrel
  cases gk with
  | zero => exact absurd HA.out (by simp [laws_heldIntS.l0])
  | succ k1 =>
   have H := HA.out; clear HA
   simp only [laws_heldIntS.l0] at H
   by_cases c3 : x5_1 < (l0.length : Int)
   ·rw [if_pos c3] at H
    have c3b0 : decide (x5_1 < (l0.length : Int)) = true := decide_eq_true c3
    clear c3
    by_cases c4 : 0 ≤ x5_1
    ·rw [if_pos c4] at H
     have c4b0 : decide (0 ≤ x5_1) = true := decide_eq_true c4
     clear c4
     by_cases c5 : (rd l0 x5_1) = x1_1
     ·rw [if_pos c5] at H
      have c5b0 : ((rd l0 x5_1) == x1_1) = true := beq_iff_eq.mpr c5
      have c5b1 : ((rd l0 x5_1) != x1_1) = false := bne_eq_false_iff_eq.mpr c5
      clear c5; have H' := Aside0.mk H; clear H
      have p214 : 0 ≤ (x5_1 : Int) := of_decide_eq_true asmT
      have q214 : x5_1 < (l0.length : Int) := of_decide_eq_true asmT
      obtain ⟨ad214, e214, hx214_0⟩ := Kd.at_int HR0.out x5_1 p214 q214
      cases e214
      replace p214 := eq_true p214; replace q214 := eq_true q214
      go_wp2
      go_roundg k1
      case measure => have := HK1.out; omega
      case rel => exact ⟨(wrap64 (x1_1 + 1)), (wrap64 (x5_1 + 1)), rdT, rdT, H', ⟨by have := HK1.out; omega⟩, drT⟩
     ·rw [if_neg c5] at H
      have c5b0 : ((rd l0 x5_1) == x1_1) = false := beq_eq_false_iff_ne.mpr c5
      have c5b1 : ((rd l0 x5_1) != x1_1) = true := bne_iff_ne.mpr c5
      obtain rfl := Option.some.inj H
      have p214 : 0 ≤ (x5_1 : Int) := of_decide_eq_true asmT
      have q214 : x5_1 < (l0.length : Int) := of_decide_eq_true asmT
      obtain ⟨ad214, e214, hx214_0⟩ := Kd.at_int HR0.out x5_1 p214 q214
      cases e214
      replace p214 := eq_true p214; replace q214 := eq_true q214
      go_wp2
      go_ret
      exact ⟨rdT, drT⟩
    ·rw [if_neg c4] at H
     exact absurd H (by simp)
   ·rw [if_neg c3] at H
    have c3b0 : decide (x5_1 < (l0.length : Int)) = false := decide_eq_false c3
    clear c3
    obtain rfl := Option.some.inj H
    go_wp2
    go_ret
    exact ⟨rdT, drT⟩

/-! ### laws_heldRow: function 63 -/
def laws_heldRow.f (k : Nat) (l0_0 : List Int) (a1 : Int) : Option (Int) := (laws_heldIntS.f k l0_0 a1).bind fun t216 => (if t216 < 0 then (some (-1)) else (some t216))
theorem laws_heldRow.mono : ∀ a0 a1 k, LeO (laws_heldRow.f k a0 a1) (laws_heldRow.f (k + 1) a0 a1) := by
 intro a0 a1 k
 unfold laws_heldRow.f
 with_reducible repeat' first | exact laws_heldIntS.mono _ _ _ | exact LeO.refl _ | exact LeO.none _ | refine LeO.ite ?_ ?_ | refine LeO.bind ?_ (fun _ => ?_)
set_option maxHeartbeats 8000000 in
set_option maxRecDepth 100000 in
theorem laws_heldRow.calls (k : Nat) (A0_0 : Option Addr) (c0_0 : Nat) (l0_0 : List Int) (a1 : Int) (r : Int) (w : World) (hr0_0 : Kd.C (Kd.int .i64) w A0_0 l0_0.length l0_0) (hc0_0 : l0_0.length ≤ c0_0) (h : laws_heldRow.f k l0_0 a1 = some r) :
  Calls Try.prog 63 #[.agg #[.slice A0_0 l0_0.length c0_0], .int .i64 a1] w fun e w' => e = .returned (.int .i64 r) ∧ Below w.heap.size w w' := by
 have hu60 := Try.underlying60; have HR0_0 := Aside0.mk hr0_0; have HC0_0 := Aside0.mk hc0_0; clear hr0_0 hc0_0; have HB := asT (Below.refl w.heap.size w); have H := h; unfold laws_heldRow.f at H; clear h; obtain ⟨t216, A3, H⟩ := be H
 by_cases c4 : t216 < 0
 ·rw [if_pos c4] at H
  have c4b0 : decide (t216 < 0) = true := decide_eq_true c4
  clear c4
  obtain rfl := Option.some.inj H
  go_enter Try.func63, Try.ntmps63
  go_wp2_with (first | ((with_reducible refine gate_dst (N := 2) rfl ?_); refine boxT (N := 2) (cs := #[.slice A0_0 l0_0.length c0_0]) (t := 60) ?_; intro gb215 hg w5 hbox hb; have BK215 := asT hbox; have GW215 := asT (geT hg HB.out); have GE215 := GW215; replace HB := hS HB hb; clear hb hbox hg; obtain ⟨hcz6_0, hfz6_0⟩ := bx1 BK215.out) | ((with_reducible refine gate_callee (f := 111) rfl ?_); refine goesL_ (some 8) rfl rfl Try.func111 (by kernel_rfl) rfl #[.slice A0_0 l0_0.length c0_0, .int .i64 a1] rfl eqT ?_; (with_reducible refine (laws_heldIntS.calls k _ _ l0_0 a1 t216 _ ?side1 ?side2 A3.out).mono ?_); (case side1 => exact crT HR0_0.out HB.out); (case side2 => exact HC0_0.out); rintro e w' ⟨rfl, ⟨nd, rfl⟩⟩; refine ⟨_, rfl, ?_⟩))
  go_ret
  exact ⟨rlT, hbT HB.out⟩
 ·rw [if_neg c4] at H
  have c4b0 : decide (t216 < 0) = false := decide_eq_false c4
  clear c4
  obtain rfl := Option.some.inj H
  go_enter Try.func63, Try.ntmps63
  go_wp2_with (first | ((with_reducible refine gate_dst (N := 2) rfl ?_); refine boxT (N := 2) (cs := #[.slice A0_0 l0_0.length c0_0]) (t := 60) ?_; intro gb215 hg w7 hbox hb; have BK215 := asT hbox; have GW215 := asT (geT hg HB.out); have GE215 := GW215; replace HB := hS HB hb; clear hb hbox hg; obtain ⟨hcz8_0, hfz8_0⟩ := bx1 BK215.out) | ((with_reducible refine gate_callee (f := 111) rfl ?_); refine goesL_ (some 8) rfl rfl Try.func111 (by kernel_rfl) rfl #[.slice A0_0 l0_0.length c0_0, .int .i64 a1] rfl eqT ?_; (with_reducible refine (laws_heldIntS.calls k _ _ l0_0 a1 t216 _ ?side1 ?side2 A3.out).mono ?_); (case side1 => exact crT HR0_0.out HB.out); (case side2 => exact HC0_0.out); rintro e w' ⟨rfl, ⟨nd, rfl⟩⟩; refine ⟨_, rfl, ?_⟩))
  go_ret
  exact ⟨rlT, hbT HB.out⟩

/-! ### laws_FnExactFuseAll: function 5 -/
def laws_FnExactFuseAll.f (k : Nat) (l0 : List (S110)) : Option (Bool) := (laws_szRowS.f k l0 1048576).bind fun b1 => (if (b1) < 0 then some true else ((laws_toRowS.f k l0).bind fun b2 => ((spec_FuseAll.f k (b2)).bind fun b3 => ((laws_toRowS.f k l0).bind fun b4 => ((impl_FuseAll.f k (b4)).bind fun b5 => ((laws_eqRow.f k (b5.1) (b3.1)).bind fun b6 => (if (b6) = true then (if (b5.2) = (b3.2) then ((laws_toRowS.f k l0).bind fun b7 => ((laws_eqRowS.f k (b4) (b7)).bind fun b8 => (if (b8) = true then ((laws_markRowS.f k (b4) 1).bind fun b9 => (if (b9.1) < 0 then none else ((laws_eqRow.f k (b5.1) (b3.1)).bind fun b10 => (if (b10) = true then (if (b5.2) = (b3.2) then ((laws_markRow.f k (b5.1) 1).bind fun b11 => ((laws_heldRow.f k (b11.2) 1).bind fun b12 => (if (b12) < 0 then none else (if (b12) = (b11.1) then ((laws_toRowS.f k l0).bind fun b13 => ((impl_FuseAll.f k (b13)).bind fun b14 => ((laws_eqRow.f k (b14.1) (b3.1)).bind fun b15 => (if (b15) = true then (if (b14.2) = (b3.2) then ((laws_heldRow.f k (b11.2) 1).bind fun b16 => (if (b16) < 0 then none else (if (b16) = (b11.1) then (some true) else none))) else none) else none)))) else none)))) else none) else none)))) else none))) else none) else none)))))))
set_option maxHeartbeats 8000000 in
set_option maxRecDepth 100000 in
theorem laws_FnExactFuseAll.calls (k : Nat) (A0 : Option Addr) (c0 : Nat) (l0 : List (S110)) (r : Bool) (w : World) (hr0 : Kd.C k110 w A0 l0.length l0) (hc0 : l0.length ≤ c0) (h : laws_FnExactFuseAll.f k l0 = some r) :
    Calls Try.prog 5 #[.slice A0 l0.length c0] w fun e w' => e = .returned (.bool r) ∧ Below w.heap.size w w' := by
  unfold laws_FnExactFuseAll.f at h
  have HB0 : Aside0 (Below w.heap.size w w) := ⟨Below.refl _ _⟩
  have HR0 := Aside0.mk hr0; have HC0 := Aside0.mk hc0; clear hr0 hc0
  replace h := Option.bind_eq_some_iff.mp h; obtain ⟨t1_0, hf1_, h⟩ := h; have hf1 := asT hf1_; clear hf1_
  by_cases cc : t1_0 < 0
  · rw [if_pos cc] at h
    obtain rfl := Option.some.inj h
    have cb0 : decide (t1_0 < 0) = true := decide_eq_true cc
    clear cc h
    go_enter Try.func5, Try.ntmps5
    go_wp2_with (first
      | (go_at_call 55; refine (laws_szRowS.calls k _ _ _ _ _ w (Kd.C_below HR0.out HB0.out) HC0.out hf1.out).mono ?_; rintro e w1 ⟨rfl, hb0⟩; have hb : Below w.heap.size w w1 := hb0; clear hb0; have hz1 : Aside0 (w.heap.size ≤ w1.heap.size) := ⟨hb.size⟩; have HB1 := asT (below_step HB0.out hb); clear hb))
    go_ret
    exact ⟨rfl, HB1.out⟩
  · rw [if_neg cc] at h
    have cbt1_0 : decide (t1_0 < 0) = false := decide_eq_false cc
    clear cc
    replace h := Option.bind_eq_some_iff.mp h; obtain ⟨t2_0, hf2_, h⟩ := h; have hf2 := asT hf2_; clear hf2_
    replace h := Option.bind_eq_some_iff.mp h; obtain ⟨⟨t3_0, t3_1⟩, hf3_, h⟩ := h; have hf3 := asT hf3_; clear hf3_; try dsimp only at h
    replace h := Option.bind_eq_some_iff.mp h; obtain ⟨t4_0, hf4_, h⟩ := h; have hf4 := asT hf4_; clear hf4_
    replace h := Option.bind_eq_some_iff.mp h; obtain ⟨⟨t5_0, t5_1⟩, hf5_, h⟩ := h; have hf5 := asT hf5_; clear hf5_; try dsimp only at h
    replace h := Option.bind_eq_some_iff.mp h; obtain ⟨t6_0, hf6_, h⟩ := h; have hf6 := asT hf6_; clear hf6_
    by_cases cc : t6_0 = true
    rotate_left
    · rw [if_neg cc] at h
      cases h
    rw [if_pos cc] at h
    subst cc
    by_cases cc : t5_1 = t3_1
    rotate_left
    · rw [if_neg cc] at h
      cases h
    rw [if_pos cc] at h
    subst cc
    replace h := Option.bind_eq_some_iff.mp h; obtain ⟨t7_0, hf7_, h⟩ := h; have hf7 := asT hf7_; clear hf7_
    replace h := Option.bind_eq_some_iff.mp h; obtain ⟨t8_0, hf8_, h⟩ := h; have hf8 := asT hf8_; clear hf8_
    by_cases cc : t8_0 = true
    rotate_left
    · rw [if_neg cc] at h
      cases h
    rw [if_pos cc] at h
    subst cc
    replace h := Option.bind_eq_some_iff.mp h; obtain ⟨⟨t9_0, t9_1⟩, hf9_, h⟩ := h; have hf9 := asT hf9_; clear hf9_; try dsimp only at h
    by_cases cc : t9_0 < 0
    · rw [if_pos cc] at h
      cases h
    rw [if_neg cc] at h
    have cbt9_0 : decide (t9_0 < 0) = false := decide_eq_false cc
    clear cc
    replace h := Option.bind_eq_some_iff.mp h; obtain ⟨t10_0, hf10_, h⟩ := h; have hf10 := asT hf10_; clear hf10_
    by_cases cc : t10_0 = true
    rotate_left
    · rw [if_neg cc] at h
      cases h
    rw [if_pos cc] at h
    subst cc
    rw [if_pos rfl] at h
    replace h := Option.bind_eq_some_iff.mp h; obtain ⟨⟨t11_0, t11_1⟩, hf11_, h⟩ := h; have hf11 := asT hf11_; clear hf11_; try dsimp only at h
    replace h := Option.bind_eq_some_iff.mp h; obtain ⟨t12_0, hf12_, h⟩ := h; have hf12 := asT hf12_; clear hf12_
    by_cases cc : t12_0 < 0
    · rw [if_pos cc] at h
      cases h
    rw [if_neg cc] at h
    have cbt12_0 : decide (t12_0 < 0) = false := decide_eq_false cc
    clear cc
    by_cases cc : t12_0 = t11_0
    rotate_left
    · rw [if_neg cc] at h
      cases h
    rw [if_pos cc] at h
    subst cc
    replace h := Option.bind_eq_some_iff.mp h; obtain ⟨t13_0, hf13_, h⟩ := h; have hf13 := asT hf13_; clear hf13_
    replace h := Option.bind_eq_some_iff.mp h; obtain ⟨⟨t14_0, t14_1⟩, hf14_, h⟩ := h; have hf14 := asT hf14_; clear hf14_; try dsimp only at h
    replace h := Option.bind_eq_some_iff.mp h; obtain ⟨t15_0, hf15_, h⟩ := h; have hf15 := asT hf15_; clear hf15_
    by_cases cc : t15_0 = true
    rotate_left
    · rw [if_neg cc] at h
      cases h
    rw [if_pos cc] at h
    subst cc
    by_cases cc : t14_1 = t5_1
    rotate_left
    · rw [if_neg cc] at h
      cases h
    rw [if_pos cc] at h
    subst cc
    replace h := Option.bind_eq_some_iff.mp h; obtain ⟨t16_0, hf16_, h⟩ := h; have hf16 := asT hf16_; clear hf16_
    by_cases cc : t16_0 < 0
    · rw [if_pos cc] at h
      cases h
    rw [if_neg cc] at h
    have cbt16_0 : decide (t16_0 < 0) = false := decide_eq_false cc
    clear cc
    by_cases cc : t16_0 = t12_0
    rotate_left
    · rw [if_neg cc] at h
      cases h
    rw [if_pos cc] at h
    subst cc
    obtain rfl := Option.some.inj h
    clear h
    go_enter Try.func5, Try.ntmps5
    go_wp2_with (first
      | (go_at_call 63; refine (laws_heldRow.calls k _ _ _ _ _ w21 (Kd.R_reads' L5_v0.out.now).2.2 (Kd.R_reads' L5_v0.out.now).2.1 hf16.out).mono ?_; rintro e w22 ⟨rfl, hb0⟩; have hb : Below w21.heap.size w21 w22 := hb0; clear hb0; have hz22 : Aside0 (w21.heap.size ≤ w22.heap.size) := ⟨hb.size⟩; replace L2_v0 := asT (L2_v0.out.below hb); replace L3_v0 := asT (L3_v0.out.below hb); replace L4_v0 := asT (L4_v0.out.below hb); replace L5_v0 := asT (L5_v0.out.below hb); replace L7_v0 := asT (L7_v0.out.below hb); replace L13_v0 := asT (L13_v0.out.below hb); replace L14_v0 := asT (L14_v0.out.below hb); clear hc4_0; clear hc7_0; clear hc12_0; replace BK4 := asT (blk_below BK4.out hb); replace BK7 := asT (blk_below BK7.out hb); replace BK12 := asT (blk_below BK12.out hb); have HB22 := asT (below_step HB21.out hb); clear hb; have hc4_0 := bc0 BK4.out; have hc7_0 := bc0 BK7.out; have hc12_0 := bc0 BK12.out)
      | (go_at_call 59; refine (laws_eqRow.calls k _ _ _ _ _ _ _ w20 (Kd.R_reads' L14_v0.out.now).2.2 (Kd.R_reads' L14_v0.out.now).2.1 (Kd.R_reads' L3_v0.out.now).2.2 (Kd.R_reads' L3_v0.out.now).2.1 hf15.out).mono ?_; rintro e w21 ⟨rfl, hb0⟩; have hb : Below w20.heap.size w20 w21 := hb0; clear hb0; have hz21 : Aside0 (w20.heap.size ≤ w21.heap.size) := ⟨hb.size⟩; replace L2_v0 := asT (L2_v0.out.below hb); replace L3_v0 := asT (L3_v0.out.below hb); replace L4_v0 := asT (L4_v0.out.below hb); replace L5_v0 := asT (L5_v0.out.below hb); replace L7_v0 := asT (L7_v0.out.below hb); replace L13_v0 := asT (L13_v0.out.below hb); replace L14_v0 := asT (L14_v0.out.below hb); clear hc4_0; clear hc7_0; clear hc12_0; replace BK4 := asT (blk_below BK4.out hb); replace BK7 := asT (blk_below BK7.out hb); replace BK12 := asT (blk_below BK12.out hb); have HB21 := asT (below_step HB20.out hb); clear hb; have hc4_0 := bc0 BK4.out; have hc7_0 := bc0 BK7.out; have hc12_0 := bc0 BK12.out)
      | ((with_reducible refine gate_store (t := 60) (p := 12) rfl ?_); refine store_event (t := 60) (p := 12) (v := .tmp 77) (w1 := (w19.setCell ⟨gb12, 0, none⟩ (.slice A14_v0_ t14_0.length c14_v0_))) ?hg ?ho ?hn ?hr ?_; (case ho => rfl); (case hg => rfl); (case hn => rfl); (case hr => first | (go_simp; done) | (go_simp; rfl)); intro w20 hw; have hz20 : Aside0 (w19.heap.size ≤ w20.heap.size) := ⟨by rw [hw]; simp only [size_set]; exact Nat.le_refl _⟩; clear hc4_0; clear hc7_0; clear hc12_0; clear hf12_0; replace L2_v0 := asT ((Live.set (g := gb12) (j := 0) (L2_v0.out) (by have := hz1.out; have := hz2.out; have := hz3.out; have := hz4.out; have := hz5.out; have := hz6.out; have := hz7.out; have := hz8.out; have := hz9.out; have := hz10.out; have := hz11.out; have := hz12.out; have := hz13.out; have := hz14.out; have := hz15.out; have := hz16.out; have := hz17.out; have := hz18.out; have := hz19.out; have := hg4.out; have := hlt4.out; have := hg7.out; have := hlt7.out; have := hg12.out; have := hlt12.out; first | exact .inl (by omega) | exact .inr (by omega)) (.slice A14_v0_ t14_0.length c14_v0_))); rw [← hw] at L2_v0; replace L3_v0 := asT ((Live.set (g := gb12) (j := 0) (L3_v0.out) (by have := hz1.out; have := hz2.out; have := hz3.out; have := hz4.out; have := hz5.out; have := hz6.out; have := hz7.out; have := hz8.out; have := hz9.out; have := hz10.out; have := hz11.out; have := hz12.out; have := hz13.out; have := hz14.out; have := hz15.out; have := hz16.out; have := hz17.out; have := hz18.out; have := hz19.out; have := hg4.out; have := hlt4.out; have := hg7.out; have := hlt7.out; have := hg12.out; have := hlt12.out; first | exact .inl (by omega) | exact .inr (by omega)) (.slice A14_v0_ t14_0.length c14_v0_))); rw [← hw] at L3_v0; replace L4_v0 := asT ((Live.set (g := gb12) (j := 0) (L4_v0.out) (by have := hz1.out; have := hz2.out; have := hz3.out; have := hz4.out; have := hz5.out; have := hz6.out; have := hz7.out; have := hz8.out; have := hz9.out; have := hz10.out; have := hz11.out; have := hz12.out; have := hz13.out; have := hz14.out; have := hz15.out; have := hz16.out; have := hz17.out; have := hz18.out; have := hz19.out; have := hg4.out; have := hlt4.out; have := hg7.out; have := hlt7.out; have := hg12.out; have := hlt12.out; first | exact .inl (by omega) | exact .inr (by omega)) (.slice A14_v0_ t14_0.length c14_v0_))); rw [← hw] at L4_v0; replace L5_v0 := asT ((Live.set (g := gb12) (j := 0) (L5_v0.out) (by have := hz1.out; have := hz2.out; have := hz3.out; have := hz4.out; have := hz5.out; have := hz6.out; have := hz7.out; have := hz8.out; have := hz9.out; have := hz10.out; have := hz11.out; have := hz12.out; have := hz13.out; have := hz14.out; have := hz15.out; have := hz16.out; have := hz17.out; have := hz18.out; have := hz19.out; have := hg4.out; have := hlt4.out; have := hg7.out; have := hlt7.out; have := hg12.out; have := hlt12.out; first | exact .inl (by omega) | exact .inr (by omega)) (.slice A14_v0_ t14_0.length c14_v0_))); rw [← hw] at L5_v0; replace L7_v0 := asT ((Live.set (g := gb12) (j := 0) (L7_v0.out) (by have := hz1.out; have := hz2.out; have := hz3.out; have := hz4.out; have := hz5.out; have := hz6.out; have := hz7.out; have := hz8.out; have := hz9.out; have := hz10.out; have := hz11.out; have := hz12.out; have := hz13.out; have := hz14.out; have := hz15.out; have := hz16.out; have := hz17.out; have := hz18.out; have := hz19.out; have := hg4.out; have := hlt4.out; have := hg7.out; have := hlt7.out; have := hg12.out; have := hlt12.out; first | exact .inl (by omega) | exact .inr (by omega)) (.slice A14_v0_ t14_0.length c14_v0_))); rw [← hw] at L7_v0; replace L13_v0 := asT ((Live.set (g := gb12) (j := 0) (L13_v0.out) (by have := hz1.out; have := hz2.out; have := hz3.out; have := hz4.out; have := hz5.out; have := hz6.out; have := hz7.out; have := hz8.out; have := hz9.out; have := hz10.out; have := hz11.out; have := hz12.out; have := hz13.out; have := hz14.out; have := hz15.out; have := hz16.out; have := hz17.out; have := hz18.out; have := hz19.out; have := hg4.out; have := hlt4.out; have := hg7.out; have := hlt7.out; have := hg12.out; have := hlt12.out; first | exact .inl (by omega) | exact .inr (by omega)) (.slice A14_v0_ t14_0.length c14_v0_))); rw [← hw] at L13_v0; replace L14_v0 := asT ((Live.set (g := gb12) (j := 0) (L14_v0.out) (by have := hz1.out; have := hz2.out; have := hz3.out; have := hz4.out; have := hz5.out; have := hz6.out; have := hz7.out; have := hz8.out; have := hz9.out; have := hz10.out; have := hz11.out; have := hz12.out; have := hz13.out; have := hz14.out; have := hz15.out; have := hz16.out; have := hz17.out; have := hz18.out; have := hz19.out; have := hg4.out; have := hlt4.out; have := hg7.out; have := hlt7.out; have := hg12.out; have := hlt12.out; first | exact .inl (by omega) | exact .inr (by omega)) (.slice A14_v0_ t14_0.length c14_v0_))); rw [← hw] at L14_v0; replace BK4 := asT ((blk_far (p := ⟨gb12, 0, none⟩) (BK4.out) (by have := hz1.out; have := hz2.out; have := hz3.out; have := hz4.out; have := hz5.out; have := hz6.out; have := hz7.out; have := hz8.out; have := hz9.out; have := hz10.out; have := hz11.out; have := hz12.out; have := hz13.out; have := hz14.out; have := hz15.out; have := hz16.out; have := hz17.out; have := hz18.out; have := hz19.out; have := hg4.out; have := hlt4.out; have := hg7.out; have := hlt7.out; have := hg12.out; have := hlt12.out; show gb4 ≠ gb12; omega) (.slice A14_v0_ t14_0.length c14_v0_))); rw [← hw] at BK4; replace BK7 := asT ((blk_far (p := ⟨gb12, 0, none⟩) (BK7.out) (by have := hz1.out; have := hz2.out; have := hz3.out; have := hz4.out; have := hz5.out; have := hz6.out; have := hz7.out; have := hz8.out; have := hz9.out; have := hz10.out; have := hz11.out; have := hz12.out; have := hz13.out; have := hz14.out; have := hz15.out; have := hz16.out; have := hz17.out; have := hz18.out; have := hz19.out; have := hg4.out; have := hlt4.out; have := hg7.out; have := hlt7.out; have := hg12.out; have := hlt12.out; show gb7 ≠ gb12; omega) (.slice A14_v0_ t14_0.length c14_v0_))); rw [← hw] at BK7; have BKn : Aside0 (w20.heap[gb12]? = some (.cells #[.slice A14_v0_ t14_0.length c14_v0_] 60 (0, 0))) := (by rw [hw]; exact asT ((blk_put (BK12.out) 0 _ rfl))); clear BK12; have BK12 := BKn; clear BKn; have HB20 : Aside0 (Below w.heap.size w w20) := (by rw [hw]; exact asT ((Below.setCell (p := ⟨gb12, 0, none⟩) (HB19.out) (by have := hz1.out; have := hz2.out; have := hz3.out; have := hz4.out; have := hz5.out; have := hz6.out; have := hz7.out; have := hz8.out; have := hz9.out; have := hz10.out; have := hz11.out; have := hz12.out; have := hz13.out; have := hz14.out; have := hz15.out; have := hz16.out; have := hz17.out; have := hz18.out; have := hz19.out; have := hg4.out; have := hlt4.out; have := hg7.out; have := hlt7.out; have := hg12.out; have := hlt12.out; show w.heap.size ≤ gb12; omega) _))); clear hw; have hc4_0 := bc0 BK4.out; have hc7_0 := bc0 BK7.out; have hc12_0 := bc0 BK12.out)
      | ((with_reducible refine gate_dst (N := 12) rfl ?_); refine boxT (N := 12) (cs := #[.slice none 0 0]) (t := 60) ?_; intro gb12 hgq w19 hbox hb; have hg12 := asT hgq; have hz19 : Aside0 (w18.heap.size ≤ w19.heap.size) := ⟨hb.size⟩; clear hc4_0; clear hc7_0; replace L2_v0 := asT (L2_v0.out.below hb); replace L3_v0 := asT (L3_v0.out.below hb); replace L4_v0 := asT (L4_v0.out.below hb); replace L5_v0 := asT (L5_v0.out.below hb); replace L7_v0 := asT (L7_v0.out.below hb); replace L13_v0 := asT (L13_v0.out.below hb); replace L14_v0 := asT (L14_v0.out.below hb); replace BK4 := asT (blk_below BK4.out hb); replace BK7 := asT (blk_below BK7.out hb); have HB19 := asT (below_step HB18.out hb); have BK12 := asT hbox; have hlt12 : Aside0 (gb12 < w19.heap.size) := ⟨blk_lt hbox⟩; clear hb hbox hgq; have hc4_0 := bc0 BK4.out; have hc7_0 := bc0 BK7.out; have hc12_0 := bc0 BK12.out; have hf12_0 := blk_frozen BK12.out 0)
      | (go_at_call 58; refine (impl_FuseAll.calls k _ _ _ _ _ w17 (Kd.S_reads' L13_v0.out.now).2.2 (Kd.S_reads' L13_v0.out.now).2.1 hf14.out).mono ?_; rintro e w18 ⟨q14_v0_, rfl, ho0, hb0⟩; have hb : Below w17.heap.size w17 w18 := hb0; clear hb0; have hz18 : Aside0 (w17.heap.size ≤ w18.heap.size) := ⟨hb.size⟩; replace L2_v0 := asT (L2_v0.out.below hb); replace L3_v0 := asT (L3_v0.out.below hb); replace L4_v0 := asT (L4_v0.out.below hb); replace L5_v0 := asT (L5_v0.out.below hb); replace L7_v0 := asT (L7_v0.out.below hb); replace L13_v0 := asT (L13_v0.out.below hb); clear hc4_0; clear hc7_0; replace BK4 := asT (blk_below BK4.out hb); replace BK7 := asT (blk_below BK7.out hb); obtain ⟨A14_v0_, c14_v0_, ev⟩ := Kd.R_slice ho0; subst ev; have L14_v0 := asT (made_R ho0 HB17.out.size); have HB18 := asT (below_step HB17.out hb); clear hb ho0; have hc4_0 := bc0 BK4.out; have hc7_0 := bc0 BK7.out)
      | (go_at_call 57; refine (laws_toRowS.calls k _ _ _ _ w16 (Kd.C_below HR0.out HB16.out) HC0.out hf13.out).mono ?_; rintro e w17 ⟨q13_v0_, rfl, ho0, hb0⟩; have hb : Below w16.heap.size w16 w17 := hb0; clear hb0; have hz17 : Aside0 (w16.heap.size ≤ w17.heap.size) := ⟨hb.size⟩; replace L2_v0 := asT (L2_v0.out.below hb); replace L3_v0 := asT (L3_v0.out.below hb); replace L4_v0 := asT (L4_v0.out.below hb); replace L5_v0 := asT (L5_v0.out.below hb); replace L7_v0 := asT (L7_v0.out.below hb); clear hc4_0; clear hc7_0; replace BK4 := asT (blk_below BK4.out hb); replace BK7 := asT (blk_below BK7.out hb); obtain ⟨A13_v0_, c13_v0_, ev⟩ := Kd.S_slice ho0; subst ev; have L13_v0 := asT (made_S ho0 HB16.out.size); have HB17 := asT (below_step HB16.out hb); clear hb ho0; have hc4_0 := bc0 BK4.out; have hc7_0 := bc0 BK7.out)
      | (go_at_call 63; refine (laws_heldRow.calls k _ _ _ _ _ w15 (Kd.R_reads' L5_v0.out.now).2.2 (Kd.R_reads' L5_v0.out.now).2.1 hf12.out).mono ?_; rintro e w16 ⟨rfl, hb0⟩; have hb : Below w15.heap.size w15 w16 := hb0; clear hb0; have hz16 : Aside0 (w15.heap.size ≤ w16.heap.size) := ⟨hb.size⟩; replace L2_v0 := asT (L2_v0.out.below hb); replace L3_v0 := asT (L3_v0.out.below hb); replace L4_v0 := asT (L4_v0.out.below hb); replace L5_v0 := asT (L5_v0.out.below hb); replace L7_v0 := asT (L7_v0.out.below hb); clear hc4_0; clear hc7_0; replace BK4 := asT (blk_below BK4.out hb); replace BK7 := asT (blk_below BK7.out hb); have HB16 := asT (below_step HB15.out hb); clear hb; have hc4_0 := bc0 BK4.out; have hc7_0 := bc0 BK7.out)
      | (go_at_call 62; refine (laws_markRow.calls k _ _ _ _ _ _ w w14 HB14.out L5_v0.out.now hf11.out).mono ?_; rintro e w15 ⟨rfl, ho0, hb, hk⟩; have hz15 : Aside0 (w14.heap.size ≤ w15.heap.size) := ⟨hk.1⟩; have L5_v0n := asT (left_R rfl ho0 L5_v0.out.now rfl (Nat.le_trans L5_v0.out.1 hk.1)); replace L2_v0 := asT (L2_v0.out.far hk (by have := hz1.out; have := hz2.out; have := hz3.out; have := hz4.out; have := hz5.out; have := hz6.out; have := hz7.out; have := hz8.out; have := hz9.out; have := hz10.out; have := hz11.out; have := hz12.out; have := hz13.out; have := hz14.out; first | exact .inl (by omega) | exact .inr (by omega))); replace L3_v0 := asT (L3_v0.out.far hk (by have := hz1.out; have := hz2.out; have := hz3.out; have := hz4.out; have := hz5.out; have := hz6.out; have := hz7.out; have := hz8.out; have := hz9.out; have := hz10.out; have := hz11.out; have := hz12.out; have := hz13.out; have := hz14.out; first | exact .inl (by omega) | exact .inr (by omega))); replace L4_v0 := asT (L4_v0.out.far hk (by have := hz1.out; have := hz2.out; have := hz3.out; have := hz4.out; have := hz5.out; have := hz6.out; have := hz7.out; have := hz8.out; have := hz9.out; have := hz10.out; have := hz11.out; have := hz12.out; have := hz13.out; have := hz14.out; first | exact .inl (by omega) | exact .inr (by omega))); replace L7_v0 := asT (L7_v0.out.far hk (by have := hz1.out; have := hz2.out; have := hz3.out; have := hz4.out; have := hz5.out; have := hz6.out; have := hz7.out; have := hz8.out; have := hz9.out; have := hz10.out; have := hz11.out; have := hz12.out; have := hz13.out; have := hz14.out; first | exact .inl (by omega) | exact .inr (by omega))); clear hc4_0; clear hc7_0; replace BK4 := asT (blk_kept BK4.out hk (fun hin => by have := hz1.out; have := hz2.out; have := hz3.out; have := hz4.out; have := hz5.out; have := hz6.out; have := hz7.out; have := hz8.out; have := hz9.out; have := hz10.out; have := hz11.out; have := hz12.out; have := hz13.out; have := hz14.out; have := hz15.out; have := hg4.out; have := hlt4.out; have := hg7.out; have := hlt7.out; have := hin.1; have := hin.2; omega)); replace BK7 := asT (blk_kept BK7.out hk (fun hin => by have := hz1.out; have := hz2.out; have := hz3.out; have := hz4.out; have := hz5.out; have := hz6.out; have := hz7.out; have := hz8.out; have := hz9.out; have := hz10.out; have := hz11.out; have := hz12.out; have := hz13.out; have := hz14.out; have := hz15.out; have := hg4.out; have := hlt4.out; have := hg7.out; have := hlt7.out; have := hin.1; have := hin.2; omega)); clear L5_v0; have L5_v0 := L5_v0n; clear L5_v0n; have en := (Kd.R_reads' L5_v0.out.now).1; rw [en] at L5_v0; (try rw [en] at BK4); (try rw [en] at BK7); (try rw [en]); clear en; have HB15 := asT hb; clear hb hk ho0; have hc4_0 := bc0 BK4.out; have hc7_0 := bc0 BK7.out)
      | (go_at_call 59; refine (laws_eqRow.calls k _ _ _ _ _ _ _ w13 (Kd.R_reads' L5_v0.out.now).2.2 (Kd.R_reads' L5_v0.out.now).2.1 (Kd.R_reads' L3_v0.out.now).2.2 (Kd.R_reads' L3_v0.out.now).2.1 hf10.out).mono ?_; rintro e w14 ⟨rfl, hb0⟩; have hb : Below w13.heap.size w13 w14 := hb0; clear hb0; have hz14 : Aside0 (w13.heap.size ≤ w14.heap.size) := ⟨hb.size⟩; replace L2_v0 := asT (L2_v0.out.below hb); replace L3_v0 := asT (L3_v0.out.below hb); replace L4_v0 := asT (L4_v0.out.below hb); replace L5_v0 := asT (L5_v0.out.below hb); replace L7_v0 := asT (L7_v0.out.below hb); clear hc4_0; clear hc7_0; replace BK4 := asT (blk_below BK4.out hb); replace BK7 := asT (blk_below BK7.out hb); have HB14 := asT (below_step HB13.out hb); clear hb; have hc4_0 := bc0 BK4.out; have hc7_0 := bc0 BK7.out)
      | (go_at_call 61; refine (laws_markRowS.calls k _ _ _ _ _ _ w w12 HB12.out L4_v0.out.now hf9.out).mono ?_; rintro e w13 ⟨rfl, ho0, hb, hk⟩; have hz13 : Aside0 (w12.heap.size ≤ w13.heap.size) := ⟨hk.1⟩; have L4_v0n := asT (left_S ho0 (Nat.le_trans L4_v0.out.1 hk.1)); replace L2_v0 := asT (L2_v0.out.far hk (by have := hz1.out; have := hz2.out; have := hz3.out; have := hz4.out; have := hz5.out; have := hz6.out; have := hz7.out; have := hz8.out; have := hz9.out; have := hz10.out; have := hz11.out; have := hz12.out; first | exact .inl (by omega) | exact .inr (by omega))); replace L3_v0 := asT (L3_v0.out.far hk (by have := hz1.out; have := hz2.out; have := hz3.out; have := hz4.out; have := hz5.out; have := hz6.out; have := hz7.out; have := hz8.out; have := hz9.out; have := hz10.out; have := hz11.out; have := hz12.out; first | exact .inl (by omega) | exact .inr (by omega))); replace L5_v0 := asT (L5_v0.out.far hk (by have := hz1.out; have := hz2.out; have := hz3.out; have := hz4.out; have := hz5.out; have := hz6.out; have := hz7.out; have := hz8.out; have := hz9.out; have := hz10.out; have := hz11.out; have := hz12.out; first | exact .inl (by omega) | exact .inr (by omega))); replace L7_v0 := asT (L7_v0.out.far hk (by have := hz1.out; have := hz2.out; have := hz3.out; have := hz4.out; have := hz5.out; have := hz6.out; have := hz7.out; have := hz8.out; have := hz9.out; have := hz10.out; have := hz11.out; have := hz12.out; first | exact .inl (by omega) | exact .inr (by omega))); clear hc4_0; clear hc7_0; replace BK4 := asT (blk_kept BK4.out hk (fun hin => by have := hz1.out; have := hz2.out; have := hz3.out; have := hz4.out; have := hz5.out; have := hz6.out; have := hz7.out; have := hz8.out; have := hz9.out; have := hz10.out; have := hz11.out; have := hz12.out; have := hz13.out; have := hg4.out; have := hlt4.out; have := hg7.out; have := hlt7.out; have := hin.1; have := hin.2; omega)); replace BK7 := asT (blk_kept BK7.out hk (fun hin => by have := hz1.out; have := hz2.out; have := hz3.out; have := hz4.out; have := hz5.out; have := hz6.out; have := hz7.out; have := hz8.out; have := hz9.out; have := hz10.out; have := hz11.out; have := hz12.out; have := hz13.out; have := hg4.out; have := hlt4.out; have := hg7.out; have := hlt7.out; have := hin.1; have := hin.2; omega)); clear L4_v0; have L4_v0 := L4_v0n; clear L4_v0n; have en := (Kd.S_reads' L4_v0.out.now).1; rw [en] at L4_v0; (try rw [en] at BK4); (try rw [en] at BK7); (try rw [en]); clear en; have HB13 := asT hb; clear hb hk ho0; have hc4_0 := bc0 BK4.out; have hc7_0 := bc0 BK7.out)
      | (go_at_call 60; refine (laws_eqRowS.calls k _ _ _ _ _ _ _ w11 (Kd.S_reads' L4_v0.out.now).2.2 (Kd.S_reads' L4_v0.out.now).2.1 (Kd.S_reads' L7_v0.out.now).2.2 (Kd.S_reads' L7_v0.out.now).2.1 hf8.out).mono ?_; rintro e w12 ⟨rfl, hb0⟩; have hb : Below w11.heap.size w11 w12 := hb0; clear hb0; have hz12 : Aside0 (w11.heap.size ≤ w12.heap.size) := ⟨hb.size⟩; replace L2_v0 := asT (L2_v0.out.below hb); replace L3_v0 := asT (L3_v0.out.below hb); replace L4_v0 := asT (L4_v0.out.below hb); replace L5_v0 := asT (L5_v0.out.below hb); replace L7_v0 := asT (L7_v0.out.below hb); clear hc4_0; clear hc7_0; replace BK4 := asT (blk_below BK4.out hb); replace BK7 := asT (blk_below BK7.out hb); have HB12 := asT (below_step HB11.out hb); clear hb; have hc4_0 := bc0 BK4.out; have hc7_0 := bc0 BK7.out)
      | (go_at_call 57; refine (laws_toRowS.calls k _ _ _ _ w10 (Kd.C_below HR0.out HB10.out) HC0.out hf7.out).mono ?_; rintro e w11 ⟨q7_v0_, rfl, ho0, hb0⟩; have hb : Below w10.heap.size w10 w11 := hb0; clear hb0; have hz11 : Aside0 (w10.heap.size ≤ w11.heap.size) := ⟨hb.size⟩; replace L2_v0 := asT (L2_v0.out.below hb); replace L3_v0 := asT (L3_v0.out.below hb); replace L4_v0 := asT (L4_v0.out.below hb); replace L5_v0 := asT (L5_v0.out.below hb); clear hc4_0; clear hc7_0; replace BK4 := asT (blk_below BK4.out hb); replace BK7 := asT (blk_below BK7.out hb); obtain ⟨A7_v0_, c7_v0_, ev⟩ := Kd.S_slice ho0; subst ev; have L7_v0 := asT (made_S ho0 HB10.out.size); have HB11 := asT (below_step HB10.out hb); clear hb ho0; have hc4_0 := bc0 BK4.out; have hc7_0 := bc0 BK7.out)
      | (go_at_call 59; refine (laws_eqRow.calls k _ _ _ _ _ _ _ w9 (Kd.R_reads' L5_v0.out.now).2.2 (Kd.R_reads' L5_v0.out.now).2.1 (Kd.R_reads' L3_v0.out.now).2.2 (Kd.R_reads' L3_v0.out.now).2.1 hf6.out).mono ?_; rintro e w10 ⟨rfl, hb0⟩; have hb : Below w9.heap.size w9 w10 := hb0; clear hb0; have hz10 : Aside0 (w9.heap.size ≤ w10.heap.size) := ⟨hb.size⟩; replace L2_v0 := asT (L2_v0.out.below hb); replace L3_v0 := asT (L3_v0.out.below hb); replace L4_v0 := asT (L4_v0.out.below hb); replace L5_v0 := asT (L5_v0.out.below hb); clear hc4_0; clear hc7_0; replace BK4 := asT (blk_below BK4.out hb); replace BK7 := asT (blk_below BK7.out hb); have HB10 := asT (below_step HB9.out hb); clear hb; have hc4_0 := bc0 BK4.out; have hc7_0 := bc0 BK7.out)
      | ((with_reducible refine gate_store (t := 60) (p := 7) rfl ?_); refine store_event (t := 60) (p := 7) (v := .tmp 30) (w1 := (w8.setCell ⟨gb7, 0, none⟩ (.slice A5_v0_ t5_0.length c5_v0_))) ?hg ?ho ?hn ?hr ?_; (case ho => rfl); (case hg => rfl); (case hn => rfl); (case hr => first | (go_simp; done) | (go_simp; rfl)); intro w9 hw; have hz9 : Aside0 (w8.heap.size ≤ w9.heap.size) := ⟨by rw [hw]; simp only [size_set]; exact Nat.le_refl _⟩; clear hc4_0; clear hc7_0; clear hf7_0; replace L2_v0 := asT ((Live.set (g := gb7) (j := 0) (L2_v0.out) (by have := hz1.out; have := hz2.out; have := hz3.out; have := hz4.out; have := hz5.out; have := hz6.out; have := hz7.out; have := hz8.out; have := hg4.out; have := hlt4.out; have := hg7.out; have := hlt7.out; first | exact .inl (by omega) | exact .inr (by omega)) (.slice A5_v0_ t5_0.length c5_v0_))); rw [← hw] at L2_v0; replace L3_v0 := asT ((Live.set (g := gb7) (j := 0) (L3_v0.out) (by have := hz1.out; have := hz2.out; have := hz3.out; have := hz4.out; have := hz5.out; have := hz6.out; have := hz7.out; have := hz8.out; have := hg4.out; have := hlt4.out; have := hg7.out; have := hlt7.out; first | exact .inl (by omega) | exact .inr (by omega)) (.slice A5_v0_ t5_0.length c5_v0_))); rw [← hw] at L3_v0; replace L4_v0 := asT ((Live.set (g := gb7) (j := 0) (L4_v0.out) (by have := hz1.out; have := hz2.out; have := hz3.out; have := hz4.out; have := hz5.out; have := hz6.out; have := hz7.out; have := hz8.out; have := hg4.out; have := hlt4.out; have := hg7.out; have := hlt7.out; first | exact .inl (by omega) | exact .inr (by omega)) (.slice A5_v0_ t5_0.length c5_v0_))); rw [← hw] at L4_v0; replace L5_v0 := asT ((Live.set (g := gb7) (j := 0) (L5_v0.out) (by have := hz1.out; have := hz2.out; have := hz3.out; have := hz4.out; have := hz5.out; have := hz6.out; have := hz7.out; have := hz8.out; have := hg4.out; have := hlt4.out; have := hg7.out; have := hlt7.out; first | exact .inl (by omega) | exact .inr (by omega)) (.slice A5_v0_ t5_0.length c5_v0_))); rw [← hw] at L5_v0; replace BK4 := asT ((blk_far (p := ⟨gb7, 0, none⟩) (BK4.out) (by have := hz1.out; have := hz2.out; have := hz3.out; have := hz4.out; have := hz5.out; have := hz6.out; have := hz7.out; have := hz8.out; have := hg4.out; have := hlt4.out; have := hg7.out; have := hlt7.out; show gb4 ≠ gb7; omega) (.slice A5_v0_ t5_0.length c5_v0_))); rw [← hw] at BK4; have BKn : Aside0 (w9.heap[gb7]? = some (.cells #[.slice A5_v0_ t5_0.length c5_v0_] 60 (0, 0))) := (by rw [hw]; exact asT ((blk_put (BK7.out) 0 _ rfl))); clear BK7; have BK7 := BKn; clear BKn; have HB9 : Aside0 (Below w.heap.size w w9) := (by rw [hw]; exact asT ((Below.setCell (p := ⟨gb7, 0, none⟩) (HB8.out) (by have := hz1.out; have := hz2.out; have := hz3.out; have := hz4.out; have := hz5.out; have := hz6.out; have := hz7.out; have := hz8.out; have := hg4.out; have := hlt4.out; have := hg7.out; have := hlt7.out; show w.heap.size ≤ gb7; omega) _))); clear hw; have hc4_0 := bc0 BK4.out; have hc7_0 := bc0 BK7.out)
      | ((with_reducible refine gate_dst (N := 7) rfl ?_); refine boxT (N := 7) (cs := #[.slice none 0 0]) (t := 60) ?_; intro gb7 hgq w8 hbox hb; have hg7 := asT hgq; have hz8 : Aside0 (w7.heap.size ≤ w8.heap.size) := ⟨hb.size⟩; clear hc4_0; replace L2_v0 := asT (L2_v0.out.below hb); replace L3_v0 := asT (L3_v0.out.below hb); replace L4_v0 := asT (L4_v0.out.below hb); replace L5_v0 := asT (L5_v0.out.below hb); replace BK4 := asT (blk_below BK4.out hb); have HB8 := asT (below_step HB7.out hb); have BK7 := asT hbox; have hlt7 : Aside0 (gb7 < w8.heap.size) := ⟨blk_lt hbox⟩; clear hb hbox hgq; have hc4_0 := bc0 BK4.out; have hc7_0 := bc0 BK7.out; have hf7_0 := blk_frozen BK7.out 0)
      | (go_at_call 58; refine (impl_FuseAll.calls k _ _ _ _ _ w6 (Kd.S_reads' L4_v0.out.now).2.2 (Kd.S_reads' L4_v0.out.now).2.1 hf5.out).mono ?_; rintro e w7 ⟨q5_v0_, rfl, ho0, hb0⟩; have hb : Below w6.heap.size w6 w7 := hb0; clear hb0; have hz7 : Aside0 (w6.heap.size ≤ w7.heap.size) := ⟨hb.size⟩; replace L2_v0 := asT (L2_v0.out.below hb); replace L3_v0 := asT (L3_v0.out.below hb); replace L4_v0 := asT (L4_v0.out.below hb); clear hc4_0; replace BK4 := asT (blk_below BK4.out hb); obtain ⟨A5_v0_, c5_v0_, ev⟩ := Kd.R_slice ho0; subst ev; have L5_v0 := asT (made_R ho0 HB6.out.size); have HB7 := asT (below_step HB6.out hb); clear hb ho0; have hc4_0 := bc0 BK4.out)
      | (go_at_call 57; refine (laws_toRowS.calls k _ _ _ _ w5 (Kd.C_below HR0.out HB5.out) HC0.out hf4.out).mono ?_; rintro e w6 ⟨q4_v0_, rfl, ho0, hb0⟩; have hb : Below w5.heap.size w5 w6 := hb0; clear hb0; have hz6 : Aside0 (w5.heap.size ≤ w6.heap.size) := ⟨hb.size⟩; replace L2_v0 := asT (L2_v0.out.below hb); replace L3_v0 := asT (L3_v0.out.below hb); clear hc4_0; replace BK4 := asT (blk_below BK4.out hb); obtain ⟨A4_v0_, c4_v0_, ev⟩ := Kd.S_slice ho0; subst ev; have L4_v0 := asT (made_S ho0 HB5.out.size); have HB6 := asT (below_step HB5.out hb); clear hb ho0; have hc4_0 := bc0 BK4.out)
      | ((with_reducible refine gate_store (t := 60) (p := 4) rfl ?_); refine store_event (t := 60) (p := 4) (v := .tmp 23) (w1 := (w4.setCell ⟨gb4, 0, none⟩ (.slice A3_v0_ t3_0.length c3_v0_))) ?hg ?ho ?hn ?hr ?_; (case ho => rfl); (case hg => rfl); (case hn => rfl); (case hr => first | (go_simp; done) | (go_simp; rfl)); intro w5 hw; have hz5 : Aside0 (w4.heap.size ≤ w5.heap.size) := ⟨by rw [hw]; simp only [size_set]; exact Nat.le_refl _⟩; clear hc4_0; clear hf4_0; replace L2_v0 := asT ((Live.set (g := gb4) (j := 0) (L2_v0.out) (by have := hz1.out; have := hz2.out; have := hz3.out; have := hz4.out; have := hg4.out; have := hlt4.out; first | exact .inl (by omega) | exact .inr (by omega)) (.slice A3_v0_ t3_0.length c3_v0_))); rw [← hw] at L2_v0; replace L3_v0 := asT ((Live.set (g := gb4) (j := 0) (L3_v0.out) (by have := hz1.out; have := hz2.out; have := hz3.out; have := hz4.out; have := hg4.out; have := hlt4.out; first | exact .inl (by omega) | exact .inr (by omega)) (.slice A3_v0_ t3_0.length c3_v0_))); rw [← hw] at L3_v0; have BKn : Aside0 (w5.heap[gb4]? = some (.cells #[.slice A3_v0_ t3_0.length c3_v0_] 60 (0, 0))) := (by rw [hw]; exact asT ((blk_put (BK4.out) 0 _ rfl))); clear BK4; have BK4 := BKn; clear BKn; have HB5 : Aside0 (Below w.heap.size w w5) := (by rw [hw]; exact asT ((Below.setCell (p := ⟨gb4, 0, none⟩) (HB4.out) (by have := hz1.out; have := hz2.out; have := hz3.out; have := hz4.out; have := hg4.out; have := hlt4.out; show w.heap.size ≤ gb4; omega) _))); clear hw; have hc4_0 := bc0 BK4.out)
      | ((with_reducible refine gate_dst (N := 4) rfl ?_); refine boxT (N := 4) (cs := #[.slice none 0 0]) (t := 60) ?_; intro gb4 hgq w4 hbox hb; have hg4 := asT hgq; have hz4 : Aside0 (w3.heap.size ≤ w4.heap.size) := ⟨hb.size⟩; replace L2_v0 := asT (L2_v0.out.below hb); replace L3_v0 := asT (L3_v0.out.below hb); have HB4 := asT (below_step HB3.out hb); have BK4 := asT hbox; have hlt4 : Aside0 (gb4 < w4.heap.size) := ⟨blk_lt hbox⟩; clear hb hbox hgq; have hc4_0 := bc0 BK4.out; have hf4_0 := blk_frozen BK4.out 0)
      | (go_at_call 56; refine (spec_FuseAll.calls k _ _ _ _ _ w2 (Kd.S_reads' L2_v0.out.now).2.2 (Kd.S_reads' L2_v0.out.now).2.1 hf3.out).mono ?_; rintro e w3 ⟨q3_v0_, rfl, ho0, hb0⟩; have hb : Below w2.heap.size w2 w3 := hb0; clear hb0; have hz3 : Aside0 (w2.heap.size ≤ w3.heap.size) := ⟨hb.size⟩; replace L2_v0 := asT (L2_v0.out.below hb); obtain ⟨A3_v0_, c3_v0_, ev⟩ := Kd.R_slice ho0; subst ev; have L3_v0 := asT (made_R ho0 HB2.out.size); have HB3 := asT (below_step HB2.out hb); clear hb ho0)
      | (go_at_call 57; refine (laws_toRowS.calls k _ _ _ _ w1 (Kd.C_below HR0.out HB1.out) HC0.out hf2.out).mono ?_; rintro e w2 ⟨q2_v0_, rfl, ho0, hb0⟩; have hb : Below w1.heap.size w1 w2 := hb0; clear hb0; have hz2 : Aside0 (w1.heap.size ≤ w2.heap.size) := ⟨hb.size⟩; obtain ⟨A2_v0_, c2_v0_, ev⟩ := Kd.S_slice ho0; subst ev; have L2_v0 := asT (made_S ho0 HB1.out.size); have HB2 := asT (below_step HB1.out hb); clear hb ho0)
      | (go_at_call 55; refine (laws_szRowS.calls k _ _ _ _ _ w (Kd.C_below HR0.out HB0.out) HC0.out hf1.out).mono ?_; rintro e w1 ⟨rfl, hb0⟩; have hb : Below w.heap.size w w1 := hb0; clear hb0; have hz1 : Aside0 (w.heap.size ≤ w1.heap.size) := ⟨hb.size⟩; have HB1 := asT (below_step HB0.out hb); clear hb))
    go_ret
    exact ⟨rfl, HB22.out⟩


def Bd110 : S110 → Prop := fun x => (BdSlice 8 (BdInt .i64)) x.f0
/-- THE ONE PURE STATEMENT of laws_FnExactFuseAll -/
def laws_FnExactFuseAll.Pure : Prop := ∀ (l0 : List (S110)), (BdSlice 24 Bd110) l0 → ∃ k, laws_FnExactFuseAll.f k l0 = some true
end Go.Proofs.Ytmfhaplhgaehhaa.PFnExactFuseAll
