-- Made by gen.py (a program of this session) out of the translation; Lean checks it.
import Derived.Test.YtlmfpkiaikjlbaaDoorPFnExactParseRankingx0
import Derived.Test.YtlmfpkiaikjlbaaDoorPFnExactParseRankingx1
import Derived.Test.YtlmfpkiaikjlbaaDoorPFnExactParseRankingx2
import Derived.Test.YtlmfpkiaikjlbaaDoorPFnExactParseRankingx3
namespace Go.Proofs.YtlmfpkiaikjlbaaDoor.PFnExactParseRanking
open Go.RowKit Go.Proofs.YtlmfpkiaikjlbaaDoorB Go.Proofs.YtlmfpkiaikjlbaaDoorW.PrintWords Go.Proofs.YtlmfpkiaikjlbaaDoorW.PrintLast Go.Proofs.YtlmfpkiaikjlbaaDoorW.PrintMore
attribute [local go_sem] max2_int min2_int max_two min_two max_three min_three max_four min_four   -- for this text's walks alone
set_option linter.unusedVariables false
set_option linter.unusedSimpArgs false

/-! ### laws_eqIntS: function 14 -/
def laws_eqIntS.l0 : Nat → List Int → List Int → Int → Option (Bool)
 | 0, _, _, _ => none
 | k + 1, x0, x1, x5 => if x5 < (x0.length : Int) then (if 0 ≤ x5 then (if x5 < (x1.length : Int) then (if (rd x0 x5) = (rd x1 x5) then (laws_eqIntS.l0 k x0 x1 (wrap64 (x5 + 1))) else (some false)) else (none)) else (none)) else (some true)
def laws_eqIntS.f (k : Nat) (l0 : List Int) (l1 : List Int) : Option (Bool) := if (l0.length : Int) = (l1.length : Int) then (laws_eqIntS.l0 k l0 l1 0) else (some false)
theorem laws_eqIntS.mono_l : ∀ k, (∀ y0 y1 y2, LeO (laws_eqIntS.l0 k y0 y1 y2) (laws_eqIntS.l0 (k + 1) y0 y1 y2))
 | 0 => fun _ _ _ r h => by simp [laws_eqIntS.l0] at h
 | k + 1 => by
  have ih0 := laws_eqIntS.mono_l k
  ·intro y0 y1 y2
   unfold laws_eqIntS.l0
   with_reducible repeat' first | exact ih0 _ _ _ | exact LeO.refl _ | exact LeO.none _ | refine LeO.ite ?_ ?_ | refine LeO.bind ?_ (fun _ => ?_)
theorem laws_eqIntS.mono : ∀ a0 a1 k, LeO (laws_eqIntS.f k a0 a1) (laws_eqIntS.f (k + 1) a0 a1) := by
 intro a0 a1 k
 have ih0 := laws_eqIntS.mono_l k
 unfold laws_eqIntS.f
 with_reducible repeat' first | exact ih0 _ _ _ | exact LeO.refl _ | exact LeO.none _ | refine LeO.ite ?_ ?_ | refine LeO.bind ?_ (fun _ => ?_)
set_option maxHeartbeats 8000000 in
set_option maxRecDepth 100000 in
theorem laws_eqIntS.calls (k : Nat) (A0 : Option Addr) (c0 : Nat) (l0 : List Int) (A1 : Option Addr) (c1 : Nat) (l1 : List Int) (r : Bool) (w : World) (hr0 : Kd.C (Kd.int .i64) w A0 l0.length l0) (hc0 : l0.length ≤ c0) (hr1 : Kd.C (Kd.int .i64) w A1 l1.length l1) (hc1 : l1.length ≤ c1) (h : laws_eqIntS.f k l0 l1 = some r) :
  Calls Tryd.prog 14 #[.slice A0 l0.length c0, .slice A1 l1.length c1] w fun e w' => e = .returned (.bool r) ∧ Drawn0 w w' := by
 have HR0 := Aside0.mk hr0; have HC0 := Aside0.mk hc0; clear hr0 hc0; have HR1 := Aside0.mk hr1; have HC1 := Aside0.mk hc1; clear hr1 hc1; have H := h; unfold laws_eqIntS.f at H; clear h
 by_cases c3 : (l0.length : Int) = (l1.length : Int)
 ·rw [if_pos c3] at H
  have c3b0 : ((l0.length : Int) == (l1.length : Int)) = true := beq_iff_eq.mpr c3
  have c3b1 : ((l0.length : Int) != (l1.length : Int)) = false := bne_eq_false_iff_eq.mpr c3
  have c3b2 : (l0.length == l1.length) = true := by first | simpa using c3 | (simp at c3 ⊢; omega)
  clear c3; have H' := Aside0.mk H; clear H
  go_enter Tryd.func14, Tryd.ntmps14
  go_wp2
  repeat (go_quiet (fail); try go_wp2)
  go_loopg [5] k (fun kq v5 w' => ∃ (x5_1 : Int), v5 = .int .i64 x5_1 ∧ Aside0 (laws_eqIntS.l0 kq l0 l1 x5_1 = some r) ∧ Aside0 (kq ≤ k) ∧ Drawn0 w w')
  case atStart => exact ⟨(0), rdT, H', ⟨Nat.le_refl _⟩, drT⟩
  case round =>
   clear H'; (try clear c1 p2 c3 c3b0 c3b1 c3b2); obtain ⟨x5_1, rfl, HA, HK1, ⟨m1, rfl⟩⟩ := hrel
   cases gk with
   | zero => exact absurd HA.out (by simp [laws_eqIntS.l0])
   | succ k1 =>
    have H := HA.out; clear HA
    simp only [laws_eqIntS.l0] at H
    by_cases c4 : x5_1 < (l0.length : Int)
    ·rw [if_pos c4] at H
     have c4b0 : decide (x5_1 < (l0.length : Int)) = true := decide_eq_true c4
     clear c4
     by_cases c5 : 0 ≤ x5_1
     ·rw [if_pos c5] at H
      have c5b0 : decide (0 ≤ x5_1) = true := decide_eq_true c5
      clear c5
      by_cases c6 : x5_1 < (l1.length : Int)
      ·rw [if_pos c6] at H
       have c6b0 : decide (x5_1 < (l1.length : Int)) = true := decide_eq_true c6
       clear c6
       by_cases c7 : (rd l0 x5_1) = (rd l1 x5_1)
       ·rw [if_pos c7] at H
        have c7b0 : ((rd l0 x5_1) == (rd l1 x5_1)) = true := beq_iff_eq.mpr c7
        have c7b1 : ((rd l0 x5_1) != (rd l1 x5_1)) = false := bne_eq_false_iff_eq.mpr c7
        clear c7; have H' := Aside0.mk H; clear H
        have p206 : 0 ≤ (x5_1 : Int) := of_decide_eq_true asmT
        have q206 : x5_1 < (l0.length : Int) := of_decide_eq_true asmT
        obtain ⟨ad206, e206, hx206_0⟩ := Kd.at_int HR0.out x5_1 p206 q206
        cases e206
        replace p206 := eq_true p206; replace q206 := eq_true q206
        have p207 : 0 ≤ (x5_1 : Int) := of_decide_eq_true asmT
        have q207 : x5_1 < (l1.length : Int) := of_decide_eq_true asmT
        obtain ⟨ad207, e207, hx207_0⟩ := Kd.at_int HR1.out x5_1 p207 q207
        cases e207
        replace p207 := eq_true p207; replace q207 := eq_true q207
        go_wp2
        repeat (go_quiet (fail); try go_wp2)
        go_roundg k1
        case measure => have := HK1.out; omega
        case rel => exact ⟨(wrap64 (x5_1 + 1)), rdT, H', ⟨by have := HK1.out; omega⟩, drT⟩
       ·rw [if_neg c7] at H
        have c7b0 : ((rd l0 x5_1) == (rd l1 x5_1)) = false := beq_eq_false_iff_ne.mpr c7
        have c7b1 : ((rd l0 x5_1) != (rd l1 x5_1)) = true := bne_iff_ne.mpr c7
        obtain rfl := Option.some.inj H
        have p206 : 0 ≤ (x5_1 : Int) := of_decide_eq_true asmT
        have q206 : x5_1 < (l0.length : Int) := of_decide_eq_true asmT
        obtain ⟨ad206, e206, hx206_0⟩ := Kd.at_int HR0.out x5_1 p206 q206
        cases e206
        replace p206 := eq_true p206; replace q206 := eq_true q206
        have p207 : 0 ≤ (x5_1 : Int) := of_decide_eq_true asmT
        have q207 : x5_1 < (l1.length : Int) := of_decide_eq_true asmT
        obtain ⟨ad207, e207, hx207_0⟩ := Kd.at_int HR1.out x5_1 p207 q207
        cases e207
        replace p207 := eq_true p207; replace q207 := eq_true q207
        go_wp2
        repeat (go_quiet (fail); try go_wp2)
        go_ret
        exact ⟨rdT, drT⟩
      ·rw [if_neg c6] at H
       exact absurd H (by simp)
     ·rw [if_neg c5] at H
      exact absurd H (by simp)
    ·rw [if_neg c4] at H
     have c4b0 : decide (x5_1 < (l0.length : Int)) = false := decide_eq_false c4
     clear c4
     obtain rfl := Option.some.inj H
     go_wp2
     repeat (go_quiet (fail); try go_wp2)
     go_ret
     exact ⟨rdT, drT⟩
 ·rw [if_neg c3] at H
  have c3b0 : ((l0.length : Int) == (l1.length : Int)) = false := beq_eq_false_iff_ne.mpr c3
  have c3b1 : ((l0.length : Int) != (l1.length : Int)) = true := bne_iff_ne.mpr c3
  have c3b2 : (l0.length == l1.length) = false := by first | simpa using c3 | (simp at c3 ⊢; omega)
  obtain rfl := Option.some.inj H
  go_enter Tryd.func14, Tryd.ntmps14
  go_wp2
  repeat (go_quiet (fail); try go_wp2)
  go_ret
  exact ⟨rdT, drT⟩

/-! ### laws_markIntS: function 15 -/
def laws_markIntS.l0 : Nat → List Int → Int → Int → Option (Int × List Int)
 | 0, _, _, _ => none
 | k + 1, x0, x1, x5 => if x5 < (x0.length : Int) then (if 0 ≤ x5 then (laws_markIntS.l0 k (x0.set (x5 : Int).toNat x1) (wrap64 (x1 + 1)) (wrap64 (x5 + 1))) else (none)) else (some (x1, x0))
def laws_markIntS.f (k : Nat) (l0 : List Int) (a1 : Int) : Option (Int × List Int) := laws_markIntS.l0 k l0 a1 0
theorem laws_markIntS.mono_l : ∀ k, (∀ y0 y1 y2, LeO (laws_markIntS.l0 k y0 y1 y2) (laws_markIntS.l0 (k + 1) y0 y1 y2))
 | 0 => fun _ _ _ r h => by simp [laws_markIntS.l0] at h
 | k + 1 => by
  have ih0 := laws_markIntS.mono_l k
  ·intro y0 y1 y2
   unfold laws_markIntS.l0
   with_reducible repeat' first | exact ih0 _ _ _ | exact LeO.refl _ | exact LeO.none _ | refine LeO.ite ?_ ?_ | refine LeO.bind ?_ (fun _ => ?_)
theorem laws_markIntS.mono : ∀ a0 a1 k, LeO (laws_markIntS.f k a0 a1) (laws_markIntS.f (k + 1) a0 a1) := by
 intro a0 a1 k
 have ih0 := laws_markIntS.mono_l k
 unfold laws_markIntS.f
 with_reducible repeat' first | exact ih0 _ _ _ | exact LeO.refl _ | exact LeO.none _ | refine LeO.ite ?_ ?_ | refine LeO.bind ?_ (fun _ => ?_)
set_option maxHeartbeats 8000000 in
set_option maxRecDepth 100000 in
theorem laws_markIntS.calls (k : Nat) (P0_ : Nat → Prop) (u9000_ : Value) (l0 : List Int) (a1 : Int) (r1 : Int) (r2 : List Int) (w0 w : World) (hB : Below w0.heap.size w0 w) (ho0 : Kd.R (Kd.int .i64) 3 w w0.heap.size P0_ u9000_ l0) (h : laws_markIntS.f k l0 a1 = some (r1, r2)) :
  Calls Tryd.prog 15 #[u9000_, .int .i64 a1] w fun e w' => e = .returned (.int .i64 r1) ∧ Kd.R (Kd.int .i64) 3 w' w0.heap.size (fun k_ => (P0_ k_ ∨ w.heap.size ≤ k_)) u9000_ r2 ∧ Below w0.heap.size w0 w' ∧ Kept w w' (fun k_ => P0_ k_) := by
 have HO0 := asT (show Kd.R (Kd.int .i64) 3 w w0.heap.size (fun k_ => (P0_ k_ ∨ w.heap.size ≤ k_)) u9000_ l0 from Kd.R_mono ho0 (fun k_ hk => (.inl hk))); have HK := asT (Kept.refl w (fun k_ => P0_ k_)); have HW0 := Aside0.mk hB.size; have HB := Aside0.mk hB; clear hB; have H := h; unfold laws_markIntS.f at H; clear h; have H' := Aside0.mk H; clear H
 go_enter Tryd.func15, Tryd.ntmps15
 go_wp2
 go_loopg [1, 5] k (fun kq v1 v5 w' => ∃ (x0_1 : List Int) (x1_1 : Int) (x5_1 : Int), v1 = .int .i64 x1_1 ∧ v5 = .int .i64 x5_1 ∧ Aside0 (laws_markIntS.l0 kq x0_1 x1_1 x5_1 = some (r1, r2)) ∧ Aside0 (kq ≤ k) ∧ Aside0 (Kd.R (Kd.int .i64) 3 w' w0.heap.size (fun k_ => (P0_ k_ ∨ w.heap.size ≤ k_)) u9000_ x0_1) ∧ Aside0 (Kept w w' (fun k_ => P0_ k_)) ∧ Aside0 (Below w0.heap.size w0 w'))
 case atStart => exact ⟨(l0), (a1), (0), rdT, rdT, H', ⟨Nat.le_refl _⟩, ⟨by (with_reducible repeat (first | apply Kd.R_alloc | apply Kd.R_drewN | apply Kd.R_drew)); exact HO0.out⟩, ⟨by repeat (first | (with_reducible first | exact HK.out | apply Kept.alloc | apply Kept.drewN | apply Kept.drew) | exact HK.out)⟩, ⟨hbT HB.out⟩⟩
 case round =>
  clear H'; (try clear c1 p2); obtain ⟨x0_1, x1_1, x5_1, rfl, rfl, HA, HK1, HO_0, HK, HB⟩ := hrel
  cases gk with
  | zero => exact absurd HA.out (by simp [laws_markIntS.l0])
  | succ k1 =>
   have H := HA.out; clear HA
   simp only [laws_markIntS.l0] at H
   by_cases c3 : x5_1 < (x0_1.length : Int)
   ·rw [if_pos c3] at H
    have c3b0 : decide (x5_1 < (x0_1.length : Int)) = true := decide_eq_true c3
    clear c3
    by_cases c4 : 0 ≤ x5_1
    ·rw [if_pos c4] at H
     have c4b0 : decide (0 ≤ x5_1) = true := decide_eq_true c4
     clear c4; obtain ⟨y208, hy208⟩ : ∃ y_ : List Int, y_ = (x0_1.set (x5_1 : Int).toNat x1_1) := ⟨_, rfl⟩
     replace H : (laws_markIntS.l0 k1 y208 (wrap64 (x1_1 + 1)) (wrap64 (x5_1 + 1))) = some (r1, r2) := by first | (rw [hy208]; with_reducible exact H) | (have H2_ := (Option.bind_some _ _).symm.trans H; rw [hy208]; with_reducible exact H2_) | (have H2_ := (Option.bind_some _ _).symm.trans H; with_reducible exact H2_) | with_reducible exact H | (rw [hy208]; exact H) | exact H
     have Ny208 := Aside0.mk hy208; clear hy208; have H' := Aside0.mk H; clear H; obtain ⟨Ao6, co6, eo6⟩ := Kd.R_slice HO_0.out; subst eo6
     have p5 : 0 ≤ (x5_1 : Int) := of_decide_eq_true asmT
     have q5 : (x5_1 : Int) < ((x0_1.length : Int) : Int) := of_decide_eq_true asmT
     obtain ⟨go5, co5, eo5, gb5, gl5, cl5, HG5⟩ := Kd.R_form HO_0.out (by omega)
     (first | cases eo5 | (injection eo5 with ea_ en_ ec_; (first | subst ea_ | (injection ea_ with ea_; subst ea_)); subst ec_; clear en_))
     have GB5 := Aside0.mk gb5; have GG5 := Aside0.mk HG5; clear gb5 gl5 HG5; have HMgo5 := asT (show (P0_ go5 ∨ w.heap.size ≤ go5) from (HO_0.out.1 _ rfl)); obtain ⟨hx5_0, hf5_0⟩ := Kd.R_celln 0 HO_0.out (x5_1 : Int) p5 q5; replace p5 := eq_true p5; replace q5 := eq_true q5; have HP7 := Kd.R_putg HO_0.out (x5_1 : Int) x1_1
     go_wp2_with (first | ((with_reducible refine gate_store (t := 3) (p := 15) rfl ?_); refine store_event (t := 3) (p := 15) (v := ?vo_w8) (w1 := (wr.setCell ⟨go5, (x5_1 : Int).toNat, none⟩ (.int .i64 x1_1))) ?hg ?ho ?hn ?hr ?_; (case ho => rfl); (case hg => rfl); (case hn => rfl); (case hr => first | (go_simp; done) | (go_simp; rfl)); intro w8 hw; have hg : wr.grownBy w8 (some go5) := (by rw [hw]; exact HP7.2); have hp_ : Kd.R (Kd.int .i64) 3 w8 w0.heap.size (fun k_ => (P0_ k_ ∨ w.heap.size ≤ k_)) (.slice (some ⟨go5, 0, none⟩) x0_1.length co6) y208 := (by rw [hw, Ny208.out]; exact HP7.1); clear HP7; replace HB := asT ((by rw [hw]; exact below_set (HB.out) GB5.out : Below w0.heap.size w0 w8)); replace HK := asT (Kept.of_grown (S := (fun k_ => P0_ k_)) hg (by repeat (first | (with_reducible first | exact HK.out | apply Kept.alloc | apply Kept.drewN | apply Kept.drew) | exact HK.out)) (fun k_ e_ => (HO_0.out.1 k_ e_))); replace HO_0 := asT (hp_); clear hg hw hp_))
     go_roundg k1
     case measure => have := HK1.out; omega
     case rel => exact ⟨(y208), (wrap64 (x1_1 + 1)), (wrap64 (x5_1 + 1)), rdT, rdT, H', ⟨by have := HK1.out; omega⟩, ⟨by (with_reducible repeat (first | apply Kd.R_alloc | apply Kd.R_drewN | apply Kd.R_drew)); exact HO_0.out⟩, ⟨by repeat (first | (with_reducible first | exact HK.out | apply Kept.alloc | apply Kept.drewN | apply Kept.drew) | exact HK.out)⟩, ⟨hbT HB.out⟩⟩
    ·rw [if_neg c4] at H
     exact absurd H (by simp)
   ·rw [if_neg c3] at H
    have c3b0 : decide (x5_1 < (x0_1.length : Int)) = false := decide_eq_false c3
    clear c3
    simp only [Option.some.injEq, Prod.mk.injEq] at H
    obtain ⟨rfl, rfl⟩ := H; obtain ⟨Ao9, co9, eo9⟩ := Kd.R_slice HO_0.out; subst eo9
    go_wp2
    go_ret
    exact ⟨rlT, by (with_reducible repeat (first | apply Kd.R_alloc | apply Kd.R_drewN | apply Kd.R_drew)); exact HO_0.out, hbT HB.out, by repeat (first | (with_reducible first | exact HK.out | apply Kept.alloc | apply Kept.drewN | apply Kept.drew) | exact HK.out)⟩

/-! ### laws_heldIntS: function 16 -/
def laws_heldIntS.l0 : Nat → List Int → Int → Int → Option (Int)
 | 0, _, _, _ => none
 | k + 1, x0, x1, x5 => if x5 < (x0.length : Int) then (if 0 ≤ x5 then (if (rd x0 x5) = x1 then (laws_heldIntS.l0 k x0 (wrap64 (x1 + 1)) (wrap64 (x5 + 1))) else (some (-1))) else (none)) else (some x1)
def laws_heldIntS.f (k : Nat) (l0 : List Int) (a1 : Int) : Option (Int) := laws_heldIntS.l0 k l0 a1 0
theorem laws_heldIntS.mono_l : ∀ k, (∀ y0 y1 y2, LeO (laws_heldIntS.l0 k y0 y1 y2) (laws_heldIntS.l0 (k + 1) y0 y1 y2))
 | 0 => fun _ _ _ r h => by simp [laws_heldIntS.l0] at h
 | k + 1 => by
  have ih0 := laws_heldIntS.mono_l k
  ·intro y0 y1 y2
   unfold laws_heldIntS.l0
   with_reducible repeat' first | exact ih0 _ _ _ | exact LeO.refl _ | exact LeO.none _ | refine LeO.ite ?_ ?_ | refine LeO.bind ?_ (fun _ => ?_)
theorem laws_heldIntS.mono : ∀ a0 a1 k, LeO (laws_heldIntS.f k a0 a1) (laws_heldIntS.f (k + 1) a0 a1) := by
 intro a0 a1 k
 have ih0 := laws_heldIntS.mono_l k
 unfold laws_heldIntS.f
 with_reducible repeat' first | exact ih0 _ _ _ | exact LeO.refl _ | exact LeO.none _ | refine LeO.ite ?_ ?_ | refine LeO.bind ?_ (fun _ => ?_)
set_option maxHeartbeats 8000000 in
set_option maxRecDepth 100000 in
theorem laws_heldIntS.calls (k : Nat) (A0 : Option Addr) (c0 : Nat) (l0 : List Int) (a1 : Int) (r : Int) (w : World) (hr0 : Kd.C (Kd.int .i64) w A0 l0.length l0) (hc0 : l0.length ≤ c0) (h : laws_heldIntS.f k l0 a1 = some r) :
  Calls Tryd.prog 16 #[.slice A0 l0.length c0, .int .i64 a1] w fun e w' => e = .returned (.int .i64 r) ∧ Drawn0 w w' := by
 have HR0 := Aside0.mk hr0; have HC0 := Aside0.mk hc0; clear hr0 hc0; have H := h; unfold laws_heldIntS.f at H; clear h; have H' := Aside0.mk H; clear H
 go_enter Tryd.func16, Tryd.ntmps16
 go_wp2
 go_loopg [1, 5] k (fun kq v1 v5 w' => ∃ (x1_1 : Int) (x5_1 : Int), v1 = .int .i64 x1_1 ∧ v5 = .int .i64 x5_1 ∧ Aside0 (laws_heldIntS.l0 kq l0 x1_1 x5_1 = some r) ∧ Aside0 (kq ≤ k) ∧ Drawn0 w w')
 case atStart => exact ⟨(a1), (0), rdT, rdT, H', ⟨Nat.le_refl _⟩, drT⟩
 case round =>
  clear H'; (try clear c1 p2); obtain ⟨x1_1, x5_1, rfl, rfl, HA, HK1, ⟨m1, rfl⟩⟩ := hrel
  cases gk with
  | zero => exact absurd HA.out (by simp [laws_heldIntS.l0])
  | succ k1 =>
   have H := HA.out; clear HA
   simp only [laws_heldIntS.l0] at H
   by_cases c3 : x5_1 < (l0.length : Int)
   ·rw [if_pos c3] at H
    have c3b0 : decide (x5_1 < (l0.length : Int)) = true := decide_eq_true c3
    clear c3
    by_cases c4 : 0 ≤ x5_1
    ·rw [if_pos c4] at H
     have c4b0 : decide (0 ≤ x5_1) = true := decide_eq_true c4
     clear c4
     by_cases c5 : (rd l0 x5_1) = x1_1
     ·rw [if_pos c5] at H
      have c5b0 : ((rd l0 x5_1) == x1_1) = true := beq_iff_eq.mpr c5
      have c5b1 : ((rd l0 x5_1) != x1_1) = false := bne_eq_false_iff_eq.mpr c5
      clear c5; have H' := Aside0.mk H; clear H
      have p209 : 0 ≤ (x5_1 : Int) := of_decide_eq_true asmT
      have q209 : x5_1 < (l0.length : Int) := of_decide_eq_true asmT
      obtain ⟨ad209, e209, hx209_0⟩ := Kd.at_int HR0.out x5_1 p209 q209
      cases e209
      replace p209 := eq_true p209; replace q209 := eq_true q209
      go_wp2
      go_roundg k1
      case measure => have := HK1.out; omega
      case rel => exact ⟨(wrap64 (x1_1 + 1)), (wrap64 (x5_1 + 1)), rdT, rdT, H', ⟨by have := HK1.out; omega⟩, drT⟩
     ·rw [if_neg c5] at H
      have c5b0 : ((rd l0 x5_1) == x1_1) = false := beq_eq_false_iff_ne.mpr c5
      have c5b1 : ((rd l0 x5_1) != x1_1) = true := bne_iff_ne.mpr c5
      obtain rfl := Option.some.inj H
      have p209 : 0 ≤ (x5_1 : Int) := of_decide_eq_true asmT
      have q209 : x5_1 < (l0.length : Int) := of_decide_eq_true asmT
      obtain ⟨ad209, e209, hx209_0⟩ := Kd.at_int HR0.out x5_1 p209 q209
      cases e209
      replace p209 := eq_true p209; replace q209 := eq_true q209
      go_wp2
      go_ret
      exact ⟨rdT, drT⟩
    ·rw [if_neg c4] at H
     exact absurd H (by simp)
   ·rw [if_neg c3] at H
    have c3b0 : decide (x5_1 < (l0.length : Int)) = false := decide_eq_false c3
    clear c3
    obtain rfl := Option.some.inj H
    go_wp2
    go_ret
    exact ⟨rdT, drT⟩

/-! ### laws_FnExactParseRanking: function 4 -/
def laws_FnExactParseRanking.f (k : Nat) (l0 : List ByteArray) (a1 : ByteArray) : Option (Bool) := if (a1.size : Int) > 1048576 then some true else ((laws_szStringS.f k l0 1048576).bind fun b1 => (if (b1) < 0 then some true else ((laws_toStringS.f k l0).bind fun b2 => ((spec_ParseRanking.f k (b2) a1).bind fun b3 => ((laws_toStringS.f k l0).bind fun b4 => ((impl_ParseRanking.f k (b4) a1).bind fun b5 => ((laws_eqIntS.f k (b5.1) (b3.1)).bind fun b6 => (if (b6) = true then (if (b5.2) = (b3.2) then ((laws_toStringS.f k l0).bind fun b7 => ((laws_eqStringS.f k (b4) (b7)).bind fun b8 => (if (b8) = true then ((laws_markStringS.f k (b4) 1).bind fun b9 => (if (b9.1) < 0 then none else ((laws_eqIntS.f k (b5.1) (b3.1)).bind fun b10 => (if (b10) = true then (if (b5.2) = (b3.2) then ((laws_markIntS.f k (b5.1) 1).bind fun b11 => ((laws_heldIntS.f k (b11.2) 1).bind fun b12 => (if (b12) < 0 then none else (if (b12) = (b11.1) then ((laws_toStringS.f k l0).bind fun b13 => ((impl_ParseRanking.f k (b13) a1).bind fun b14 => ((laws_eqIntS.f k (b14.1) (b3.1)).bind fun b15 => (if (b15) = true then (if (b14.2) = (b3.2) then ((laws_heldIntS.f k (b11.2) 1).bind fun b16 => (if (b16) < 0 then none else (if (b16) = (b11.1) then (some true) else none))) else none) else none)))) else none)))) else none) else none)))) else none))) else none) else none))))))))
set_option maxHeartbeats 8000000 in
set_option maxRecDepth 100000 in
theorem laws_FnExactParseRanking.calls (k : Nat) (A0 : Option Addr) (c0 : Nat) (l0 : List ByteArray) (a1 : ByteArray) (r : Bool) (w : World) (hr0 : Kd.C Kd.string w A0 l0.length l0) (hc0 : l0.length ≤ c0) (hM : MaxL w) (h : laws_FnExactParseRanking.f k l0 a1 = some r) :
    Calls Tryd.prog 4 #[.slice A0 l0.length c0, .string a1] w fun e w' => e = .returned (.bool r) ∧ Below w.heap.size w w' := by
  unfold laws_FnExactParseRanking.f at h
  have HB0 : Aside0 (Below w.heap.size w w) := ⟨Below.refl _ _⟩
  have HR0 := Aside0.mk hr0; have HC0 := Aside0.mk hc0; clear hr0 hc0
  have HM := asT hM; clear hM
  by_cases cc : (a1.size : Int) > 1048576
  · rw [if_pos cc] at h
    obtain rfl := Option.some.inj h
    have cb0 : decide (1048576 < (a1.size : Int)) = true := decide_eq_true cc
    have cb1 : decide (1048576 < a1.size) = true := decide_eq_true (by omega)
    clear cc h
    go_enter Tryd.func4, Tryd.ntmps4
    go_wp2_with fail
    go_ret
    exact ⟨rfl, HB0.out⟩
  · rw [if_neg cc] at h
    have cba1sizeInt : decide (1048576 < (a1.size : Int)) = false := decide_eq_false cc
    have cba1sizeIntn : decide (1048576 < a1.size) = false := decide_eq_false (by omega)
    clear cc
    replace h := Option.bind_eq_some_iff.mp h; obtain ⟨t1_0, hf1_, h⟩ := h; have hf1 := asT hf1_; clear hf1_
    by_cases cc : t1_0 < 0
    · rw [if_pos cc] at h
      obtain rfl := Option.some.inj h
      have cb0 : decide (t1_0 < 0) = true := decide_eq_true cc
      clear cc h
      go_enter Tryd.func4, Tryd.ntmps4
      go_wp2_with (first
        | (go_at_call 10; refine (laws_szStringS.calls k _ _ _ _ _ w (Kd.C_below HR0.out HB0.out) HC0.out hf1.out).mono ?_; rintro e w1 ⟨rfl, hb0⟩; have hb : Below w.heap.size w w1 := hb0.below; clear hb0; have hz1 : Aside0 (w.heap.size ≤ w1.heap.size) := ⟨hb.size⟩; have HB1 := asT (below_step HB0.out hb); clear hb))
      go_ret
      exact ⟨rfl, HB1.out⟩
    · rw [if_neg cc] at h
      have cbt1_0 : decide (t1_0 < 0) = false := decide_eq_false cc
      clear cc
      replace h := Option.bind_eq_some_iff.mp h; obtain ⟨t2_0, hf2_, h⟩ := h; have hf2 := asT hf2_; clear hf2_
      replace h := Option.bind_eq_some_iff.mp h; obtain ⟨⟨t3_0, t3_1⟩, hf3_, h⟩ := h; have hf3 := asT hf3_; clear hf3_; try dsimp only at h
      replace h := Option.bind_eq_some_iff.mp h; obtain ⟨t4_0, hf4_, h⟩ := h; have hf4 := asT hf4_; clear hf4_
      replace h := Option.bind_eq_some_iff.mp h; obtain ⟨⟨t5_0, t5_1⟩, hf5_, h⟩ := h; have hf5 := asT hf5_; clear hf5_; try dsimp only at h
      replace h := Option.bind_eq_some_iff.mp h; obtain ⟨t6_0, hf6_, h⟩ := h; have hf6 := asT hf6_; clear hf6_
      by_cases cc : t6_0 = true
      rotate_left
      · rw [if_neg cc] at h
        cases h
      rw [if_pos cc] at h
      subst cc
      by_cases cc : t5_1 = t3_1
      rotate_left
      · rw [if_neg cc] at h
        cases h
      rw [if_pos cc] at h
      subst cc
      replace h := Option.bind_eq_some_iff.mp h; obtain ⟨t7_0, hf7_, h⟩ := h; have hf7 := asT hf7_; clear hf7_
      replace h := Option.bind_eq_some_iff.mp h; obtain ⟨t8_0, hf8_, h⟩ := h; have hf8 := asT hf8_; clear hf8_
      by_cases cc : t8_0 = true
      rotate_left
      · rw [if_neg cc] at h
        cases h
      rw [if_pos cc] at h
      subst cc
      replace h := Option.bind_eq_some_iff.mp h; obtain ⟨⟨t9_0, t9_1⟩, hf9_, h⟩ := h; have hf9 := asT hf9_; clear hf9_; try dsimp only at h
      by_cases cc : t9_0 < 0
      · rw [if_pos cc] at h
        cases h
      rw [if_neg cc] at h
      have cbt9_0 : decide (t9_0 < 0) = false := decide_eq_false cc
      clear cc
      replace h := Option.bind_eq_some_iff.mp h; obtain ⟨t10_0, hf10_, h⟩ := h; have hf10 := asT hf10_; clear hf10_
      by_cases cc : t10_0 = true
      rotate_left
      · rw [if_neg cc] at h
        cases h
      rw [if_pos cc] at h
      subst cc
      rw [if_pos rfl] at h
      replace h := Option.bind_eq_some_iff.mp h; obtain ⟨⟨t11_0, t11_1⟩, hf11_, h⟩ := h; have hf11 := asT hf11_; clear hf11_; try dsimp only at h
      replace h := Option.bind_eq_some_iff.mp h; obtain ⟨t12_0, hf12_, h⟩ := h; have hf12 := asT hf12_; clear hf12_
      by_cases cc : t12_0 < 0
      · rw [if_pos cc] at h
        cases h
      rw [if_neg cc] at h
      have cbt12_0 : decide (t12_0 < 0) = false := decide_eq_false cc
      clear cc
      by_cases cc : t12_0 = t11_0
      rotate_left
      · rw [if_neg cc] at h
        cases h
      rw [if_pos cc] at h
      subst cc
      replace h := Option.bind_eq_some_iff.mp h; obtain ⟨t13_0, hf13_, h⟩ := h; have hf13 := asT hf13_; clear hf13_
      replace h := Option.bind_eq_some_iff.mp h; obtain ⟨⟨t14_0, t14_1⟩, hf14_, h⟩ := h; have hf14 := asT hf14_; clear hf14_; try dsimp only at h
      replace h := Option.bind_eq_some_iff.mp h; obtain ⟨t15_0, hf15_, h⟩ := h; have hf15 := asT hf15_; clear hf15_
      by_cases cc : t15_0 = true
      rotate_left
      · rw [if_neg cc] at h
        cases h
      rw [if_pos cc] at h
      subst cc
      by_cases cc : t14_1 = t5_1
      rotate_left
      · rw [if_neg cc] at h
        cases h
      rw [if_pos cc] at h
      subst cc
      replace h := Option.bind_eq_some_iff.mp h; obtain ⟨t16_0, hf16_, h⟩ := h; have hf16 := asT hf16_; clear hf16_
      by_cases cc : t16_0 < 0
      · rw [if_pos cc] at h
        cases h
      rw [if_neg cc] at h
      have cbt16_0 : decide (t16_0 < 0) = false := decide_eq_false cc
      clear cc
      by_cases cc : t16_0 = t12_0
      rotate_left
      · rw [if_neg cc] at h
        cases h
      rw [if_pos cc] at h
      subst cc
      obtain rfl := Option.some.inj h
      clear h
      go_enter Tryd.func4, Tryd.ntmps4
      go_wp2_with (first
        | (go_at_call 16; refine (laws_heldIntS.calls k _ _ _ _ _ w15 (Kd.R_reads' L5_v0.out.now).2.2 (Kd.R_reads' L5_v0.out.now).2.1 hf16.out).mono ?_; rintro e w16 ⟨rfl, hb0⟩; have hb : Below w15.heap.size w15 w16 := hb0.below; clear hb0; have hz16 : Aside0 (w15.heap.size ≤ w16.heap.size) := ⟨hb.size⟩; replace L2_v0 := asT (L2_v0.out.below hb); replace L3_v0 := asT (L3_v0.out.below hb); replace L4_v0 := asT (L4_v0.out.below hb); replace L5_v0 := asT (L5_v0.out.below hb); replace L7_v0 := asT (L7_v0.out.below hb); replace L13_v0 := asT (L13_v0.out.below hb); replace L14_v0 := asT (L14_v0.out.below hb); have HB16 := asT (below_step HB15.out hb); clear hb)
        | (go_at_call 14; refine (laws_eqIntS.calls k _ _ _ _ _ _ _ w14 (Kd.R_reads' L14_v0.out.now).2.2 (Kd.R_reads' L14_v0.out.now).2.1 (Kd.R_reads' L3_v0.out.now).2.2 (Kd.R_reads' L3_v0.out.now).2.1 hf15.out).mono ?_; rintro e w15 ⟨rfl, hb0⟩; have hb : Below w14.heap.size w14 w15 := hb0.below; clear hb0; have hz15 : Aside0 (w14.heap.size ≤ w15.heap.size) := ⟨hb.size⟩; replace L2_v0 := asT (L2_v0.out.below hb); replace L3_v0 := asT (L3_v0.out.below hb); replace L4_v0 := asT (L4_v0.out.below hb); replace L5_v0 := asT (L5_v0.out.below hb); replace L7_v0 := asT (L7_v0.out.below hb); replace L13_v0 := asT (L13_v0.out.below hb); replace L14_v0 := asT (L14_v0.out.below hb); have HB15 := asT (below_step HB14.out hb); clear hb)
        | (go_at_call 13; refine (impl_ParseRanking.calls k _ _ _ _ _ _ w13 (HM.out.below HB13.out) (Kd.R_reads' L13_v0.out.now).2.2 (Kd.R_reads' L13_v0.out.now).2.1 hf14.out).mono ?_; rintro e w14 ⟨q14_v0_, rfl, ho0, hb0⟩; have hb : Below w13.heap.size w13 w14 := hb0; clear hb0; have hz14 : Aside0 (w13.heap.size ≤ w14.heap.size) := ⟨hb.size⟩; replace L2_v0 := asT (L2_v0.out.below hb); replace L3_v0 := asT (L3_v0.out.below hb); replace L4_v0 := asT (L4_v0.out.below hb); replace L5_v0 := asT (L5_v0.out.below hb); replace L7_v0 := asT (L7_v0.out.below hb); replace L13_v0 := asT (L13_v0.out.below hb); obtain ⟨A14_v0_, c14_v0_, ev⟩ := Kd.R_slice ho0; subst ev; have L14_v0 := asT (made_R ho0 HB13.out.size); have HB14 := asT (below_step HB13.out hb); clear hb ho0)
        | (go_at_call 12; refine (laws_toStringS.calls k _ _ _ _ w12 (Kd.C_below HR0.out HB12.out) HC0.out hf13.out).mono ?_; rintro e w13 ⟨q13_v0_, rfl, ho0, hb0⟩; have hb : Below w12.heap.size w12 w13 := hb0; clear hb0; have hz13 : Aside0 (w12.heap.size ≤ w13.heap.size) := ⟨hb.size⟩; replace L2_v0 := asT (L2_v0.out.below hb); replace L3_v0 := asT (L3_v0.out.below hb); replace L4_v0 := asT (L4_v0.out.below hb); replace L5_v0 := asT (L5_v0.out.below hb); replace L7_v0 := asT (L7_v0.out.below hb); obtain ⟨A13_v0_, c13_v0_, ev⟩ := Kd.R_slice ho0; subst ev; have L13_v0 := asT (made_R ho0 HB12.out.size); have HB13 := asT (below_step HB12.out hb); clear hb ho0)
        | (go_at_call 16; refine (laws_heldIntS.calls k _ _ _ _ _ w11 (Kd.R_reads' L5_v0.out.now).2.2 (Kd.R_reads' L5_v0.out.now).2.1 hf12.out).mono ?_; rintro e w12 ⟨rfl, hb0⟩; have hb : Below w11.heap.size w11 w12 := hb0.below; clear hb0; have hz12 : Aside0 (w11.heap.size ≤ w12.heap.size) := ⟨hb.size⟩; replace L2_v0 := asT (L2_v0.out.below hb); replace L3_v0 := asT (L3_v0.out.below hb); replace L4_v0 := asT (L4_v0.out.below hb); replace L5_v0 := asT (L5_v0.out.below hb); replace L7_v0 := asT (L7_v0.out.below hb); have HB12 := asT (below_step HB11.out hb); clear hb)
        | (go_at_call 15; refine (laws_markIntS.calls k _ _ _ _ _ _ w w10 HB10.out L5_v0.out.now hf11.out).mono ?_; rintro e w11 ⟨rfl, ho0, hb, hk⟩; have hz11 : Aside0 (w10.heap.size ≤ w11.heap.size) := ⟨hk.1⟩; have L5_v0n := asT (left_R rfl ho0 L5_v0.out.now rfl (Nat.le_trans L5_v0.out.1 hk.1)); replace L2_v0 := asT (L2_v0.out.far hk (by have := hz1.out; have := hz2.out; have := hz3.out; have := hz4.out; have := hz5.out; have := hz6.out; have := hz7.out; have := hz8.out; have := hz9.out; have := hz10.out; first | exact .inl (by omega) | exact .inr (by omega))); replace L3_v0 := asT (L3_v0.out.far hk (by have := hz1.out; have := hz2.out; have := hz3.out; have := hz4.out; have := hz5.out; have := hz6.out; have := hz7.out; have := hz8.out; have := hz9.out; have := hz10.out; first | exact .inl (by omega) | exact .inr (by omega))); replace L4_v0 := asT (L4_v0.out.far hk (by have := hz1.out; have := hz2.out; have := hz3.out; have := hz4.out; have := hz5.out; have := hz6.out; have := hz7.out; have := hz8.out; have := hz9.out; have := hz10.out; first | exact .inl (by omega) | exact .inr (by omega))); replace L7_v0 := asT (L7_v0.out.far hk (by have := hz1.out; have := hz2.out; have := hz3.out; have := hz4.out; have := hz5.out; have := hz6.out; have := hz7.out; have := hz8.out; have := hz9.out; have := hz10.out; first | exact .inl (by omega) | exact .inr (by omega))); clear L5_v0; have L5_v0 := L5_v0n; clear L5_v0n; have en := (Kd.R_reads' L5_v0.out.now).1; rw [en] at L5_v0; (try rw [en]); clear en; have HB11 := asT hb; clear hb hk ho0)
        | (go_at_call 14; refine (laws_eqIntS.calls k _ _ _ _ _ _ _ w9 (Kd.R_reads' L5_v0.out.now).2.2 (Kd.R_reads' L5_v0.out.now).2.1 (Kd.R_reads' L3_v0.out.now).2.2 (Kd.R_reads' L3_v0.out.now).2.1 hf10.out).mono ?_; rintro e w10 ⟨rfl, hb0⟩; have hb : Below w9.heap.size w9 w10 := hb0.below; clear hb0; have hz10 : Aside0 (w9.heap.size ≤ w10.heap.size) := ⟨hb.size⟩; replace L2_v0 := asT (L2_v0.out.below hb); replace L3_v0 := asT (L3_v0.out.below hb); replace L4_v0 := asT (L4_v0.out.below hb); replace L5_v0 := asT (L5_v0.out.below hb); replace L7_v0 := asT (L7_v0.out.below hb); have HB10 := asT (below_step HB9.out hb); clear hb)
        | (go_at_call 8; refine (laws_markStringS.calls k _ _ _ _ _ _ w w8 HB8.out L4_v0.out.now hf9.out).mono ?_; rintro e w9 ⟨rfl, ho0, hb, hk⟩; have hz9 : Aside0 (w8.heap.size ≤ w9.heap.size) := ⟨hk.1⟩; have L4_v0n := asT (left_R rfl ho0 L4_v0.out.now rfl (Nat.le_trans L4_v0.out.1 hk.1)); replace L2_v0 := asT (L2_v0.out.far hk (by have := hz1.out; have := hz2.out; have := hz3.out; have := hz4.out; have := hz5.out; have := hz6.out; have := hz7.out; have := hz8.out; first | exact .inl (by omega) | exact .inr (by omega))); replace L3_v0 := asT (L3_v0.out.far hk (by have := hz1.out; have := hz2.out; have := hz3.out; have := hz4.out; have := hz5.out; have := hz6.out; have := hz7.out; have := hz8.out; first | exact .inl (by omega) | exact .inr (by omega))); replace L5_v0 := asT (L5_v0.out.far hk (by have := hz1.out; have := hz2.out; have := hz3.out; have := hz4.out; have := hz5.out; have := hz6.out; have := hz7.out; have := hz8.out; first | exact .inl (by omega) | exact .inr (by omega))); replace L7_v0 := asT (L7_v0.out.far hk (by have := hz1.out; have := hz2.out; have := hz3.out; have := hz4.out; have := hz5.out; have := hz6.out; have := hz7.out; have := hz8.out; first | exact .inl (by omega) | exact .inr (by omega))); clear L4_v0; have L4_v0 := L4_v0n; clear L4_v0n; have en := (Kd.R_reads' L4_v0.out.now).1; rw [en] at L4_v0; (try rw [en]); clear en; have HB9 := asT hb; clear hb hk ho0)
        | (go_at_call 7; refine (laws_eqStringS.calls k _ _ _ _ _ _ _ w7 (Kd.R_reads' L4_v0.out.now).2.2 (Kd.R_reads' L4_v0.out.now).2.1 (Kd.R_reads' L7_v0.out.now).2.2 (Kd.R_reads' L7_v0.out.now).2.1 hf8.out).mono ?_; rintro e w8 ⟨rfl, hb0⟩; have hb : Below w7.heap.size w7 w8 := hb0.below; clear hb0; have hz8 : Aside0 (w7.heap.size ≤ w8.heap.size) := ⟨hb.size⟩; replace L2_v0 := asT (L2_v0.out.below hb); replace L3_v0 := asT (L3_v0.out.below hb); replace L4_v0 := asT (L4_v0.out.below hb); replace L5_v0 := asT (L5_v0.out.below hb); replace L7_v0 := asT (L7_v0.out.below hb); have HB8 := asT (below_step HB7.out hb); clear hb)
        | (go_at_call 12; refine (laws_toStringS.calls k _ _ _ _ w6 (Kd.C_below HR0.out HB6.out) HC0.out hf7.out).mono ?_; rintro e w7 ⟨q7_v0_, rfl, ho0, hb0⟩; have hb : Below w6.heap.size w6 w7 := hb0; clear hb0; have hz7 : Aside0 (w6.heap.size ≤ w7.heap.size) := ⟨hb.size⟩; replace L2_v0 := asT (L2_v0.out.below hb); replace L3_v0 := asT (L3_v0.out.below hb); replace L4_v0 := asT (L4_v0.out.below hb); replace L5_v0 := asT (L5_v0.out.below hb); obtain ⟨A7_v0_, c7_v0_, ev⟩ := Kd.R_slice ho0; subst ev; have L7_v0 := asT (made_R ho0 HB6.out.size); have HB7 := asT (below_step HB6.out hb); clear hb ho0)
        | (go_at_call 14; refine (laws_eqIntS.calls k _ _ _ _ _ _ _ w5 (Kd.R_reads' L5_v0.out.now).2.2 (Kd.R_reads' L5_v0.out.now).2.1 (Kd.R_reads' L3_v0.out.now).2.2 (Kd.R_reads' L3_v0.out.now).2.1 hf6.out).mono ?_; rintro e w6 ⟨rfl, hb0⟩; have hb : Below w5.heap.size w5 w6 := hb0.below; clear hb0; have hz6 : Aside0 (w5.heap.size ≤ w6.heap.size) := ⟨hb.size⟩; replace L2_v0 := asT (L2_v0.out.below hb); replace L3_v0 := asT (L3_v0.out.below hb); replace L4_v0 := asT (L4_v0.out.below hb); replace L5_v0 := asT (L5_v0.out.below hb); have HB6 := asT (below_step HB5.out hb); clear hb)
        | (go_at_call 13; refine (impl_ParseRanking.calls k _ _ _ _ _ _ w4 (HM.out.below HB4.out) (Kd.R_reads' L4_v0.out.now).2.2 (Kd.R_reads' L4_v0.out.now).2.1 hf5.out).mono ?_; rintro e w5 ⟨q5_v0_, rfl, ho0, hb0⟩; have hb : Below w4.heap.size w4 w5 := hb0; clear hb0; have hz5 : Aside0 (w4.heap.size ≤ w5.heap.size) := ⟨hb.size⟩; replace L2_v0 := asT (L2_v0.out.below hb); replace L3_v0 := asT (L3_v0.out.below hb); replace L4_v0 := asT (L4_v0.out.below hb); obtain ⟨A5_v0_, c5_v0_, ev⟩ := Kd.R_slice ho0; subst ev; have L5_v0 := asT (made_R ho0 HB4.out.size); have HB5 := asT (below_step HB4.out hb); clear hb ho0)
        | (go_at_call 12; refine (laws_toStringS.calls k _ _ _ _ w3 (Kd.C_below HR0.out HB3.out) HC0.out hf4.out).mono ?_; rintro e w4 ⟨q4_v0_, rfl, ho0, hb0⟩; have hb : Below w3.heap.size w3 w4 := hb0; clear hb0; have hz4 : Aside0 (w3.heap.size ≤ w4.heap.size) := ⟨hb.size⟩; replace L2_v0 := asT (L2_v0.out.below hb); replace L3_v0 := asT (L3_v0.out.below hb); obtain ⟨A4_v0_, c4_v0_, ev⟩ := Kd.R_slice ho0; subst ev; have L4_v0 := asT (made_R ho0 HB3.out.size); have HB4 := asT (below_step HB3.out hb); clear hb ho0)
        | (go_at_call 11; refine (spec_ParseRanking.calls k _ _ _ _ _ _ w2 (Kd.R_reads' L2_v0.out.now).2.2 (Kd.R_reads' L2_v0.out.now).2.1 hf3.out).mono ?_; rintro e w3 ⟨q3_v0_, rfl, ho0, hb0⟩; have hb : Below w2.heap.size w2 w3 := hb0; clear hb0; have hz3 : Aside0 (w2.heap.size ≤ w3.heap.size) := ⟨hb.size⟩; replace L2_v0 := asT (L2_v0.out.below hb); obtain ⟨A3_v0_, c3_v0_, ev⟩ := Kd.R_slice ho0; subst ev; have L3_v0 := asT (made_R ho0 HB2.out.size); have HB3 := asT (below_step HB2.out hb); clear hb ho0)
        | (go_at_call 12; refine (laws_toStringS.calls k _ _ _ _ w1 (Kd.C_below HR0.out HB1.out) HC0.out hf2.out).mono ?_; rintro e w2 ⟨q2_v0_, rfl, ho0, hb0⟩; have hb : Below w1.heap.size w1 w2 := hb0; clear hb0; have hz2 : Aside0 (w1.heap.size ≤ w2.heap.size) := ⟨hb.size⟩; obtain ⟨A2_v0_, c2_v0_, ev⟩ := Kd.R_slice ho0; subst ev; have L2_v0 := asT (made_R ho0 HB1.out.size); have HB2 := asT (below_step HB1.out hb); clear hb ho0)
        | (go_at_call 10; refine (laws_szStringS.calls k _ _ _ _ _ w (Kd.C_below HR0.out HB0.out) HC0.out hf1.out).mono ?_; rintro e w1 ⟨rfl, hb0⟩; have hb : Below w.heap.size w w1 := hb0.below; clear hb0; have hz1 : Aside0 (w.heap.size ≤ w1.heap.size) := ⟨hb.size⟩; have HB1 := asT (below_step HB0.out hb); clear hb))
      go_ret
      exact ⟨rfl, HB16.out⟩


/-- THE ONE PURE STATEMENT of laws_FnExactParseRanking -/
def laws_FnExactParseRanking.Pure : Prop := ∀ (l0 : List ByteArray) (a1 : ByteArray), (BdSlice 16 BdStr) l0 → BdStr a1 → ∃ k, laws_FnExactParseRanking.f k l0 a1 = some true
end Go.Proofs.YtlmfpkiaikjlbaaDoor.PFnExactParseRanking
