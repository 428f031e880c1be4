-- Made by gen.py (a program of this session) out of the translation; Lean checks it.
import Derived.Test.YtmfhaplhgaehhabGreatPFnExactFatalMarkx0
namespace Go.Proofs.YtmfhaplhgaehhabGreat.PFnExactFatalMark
open Go.RowKit Go.Proofs.YtmfhaplhgaehhabGreatB Go.Proofs.YtmfhaplhgaehhabGreatW.PrintWords Go.Proofs.YtmfhaplhgaehhabGreatW.PrintLast Go.Proofs.YtmfhaplhgaehhabGreatW.PrintMore
attribute [local go_sem] max2_int min2_int max_two min_two max_three min_three max_four min_four   -- for this text's walks alone
set_option linter.unusedVariables false
set_option linter.unusedSimpArgs false
def spec_l3Has.l0 : Nat → List ByteArray → ByteArray → Int → Option (Bool)
 | 0, _, _, _ => none
 | k + 1, x0, x1, x5 => if x5 < (x0.length : Int) then (if 0 ≤ x5 then (if (rdOf ByteArray.empty x0 x5).toList = x1.toList then (some true) else (spec_l3Has.l0 k x0 x1 (wrap64 (x5 + 1)))) else (none)) else (some false)
def spec_l3Has.f (k : Nat) (l0 : List ByteArray) (a1 : ByteArray) : Option (Bool) := spec_l3Has.l0 k l0 a1 0
theorem spec_l3Has.mono_l : ∀ k, (∀ y0 y1 y2, LeO (spec_l3Has.l0 k y0 y1 y2) (spec_l3Has.l0 (k + 1) y0 y1 y2))
 | 0 => fun _ _ _ r h => by simp [spec_l3Has.l0] at h
 | k + 1 => by
  have ih0 := spec_l3Has.mono_l k
  ·intro y0 y1 y2
   unfold spec_l3Has.l0
   with_reducible repeat' first | exact ih0 _ _ _ | exact LeO.refl _ | exact LeO.none _ | refine LeO.ite ?_ ?_ | refine LeO.bind ?_ (fun _ => ?_)
theorem spec_l3Has.mono : ∀ a0 a1 k, LeO (spec_l3Has.f k a0 a1) (spec_l3Has.f (k + 1) a0 a1) := by
 intro a0 a1 k
 have ih0 := spec_l3Has.mono_l k
 unfold spec_l3Has.f
 with_reducible repeat' first | exact ih0 _ _ _ | exact LeO.refl _ | exact LeO.none _ | refine LeO.ite ?_ ?_ | refine LeO.bind ?_ (fun _ => ?_)
set_option maxHeartbeats 8000000 in
set_option maxRecDepth 100000 in
theorem spec_l3Has.calls (k : Nat) (A0 : Option Addr) (c0 : Nat) (l0 : List ByteArray) (a1 : ByteArray) (r : Bool) (w : World) (hr0 : Kd.C Kd.string w A0 l0.length l0) (hc0 : l0.length ≤ c0) (h : spec_l3Has.f k l0 a1 = some r) :
  Calls Tryz.prog 60 #[.slice A0 l0.length c0, .string a1] w fun e w' => e = .returned (.bool r) ∧ Drawn0 w w' := by
 have HR0 := Aside0.mk hr0; have HC0 := Aside0.mk hc0; clear hr0 hc0; have H := h; unfold spec_l3Has.f at H; clear h; have H' := Aside0.mk H; clear H
 go_enter Tryz.func60, Tryz.ntmps60
 go_wp2
 go_loopg [5] k (fun kq v5 w' => ∃ (x5_1 : Int), v5 = .int .i64 x5_1 ∧ Aside0 (spec_l3Has.l0 kq l0 a1 x5_1 = some r) ∧ Aside0 (kq ≤ k) ∧ Drawn0 w w')
 case atStart => exact ⟨(0), rdT, H', ⟨Nat.le_refl _⟩, drT⟩
 case round =>
  clear H'; (try clear p2); obtain ⟨x5_1, rfl, HA, HK1, ⟨m1, rfl⟩⟩ := hrel
  cases gk with
  | zero => exact absurd HA.out (by simp [spec_l3Has.l0])
  | succ k1 =>
   have H := HA.out; clear HA
   simp only [spec_l3Has.l0] at H
   by_cases c3 : x5_1 < (l0.length : Int)
   ·rw [if_pos c3] at H
    have c3b0 : decide (x5_1 < (l0.length : Int)) = true := decide_eq_true c3
    clear c3
    by_cases c4 : 0 ≤ x5_1
    ·rw [if_pos c4] at H
     have c4b0 : decide (0 ≤ x5_1) = true := decide_eq_true c4
     clear c4
     by_cases c5 : (rdOf ByteArray.empty l0 x5_1).toList = a1.toList
     ·rw [if_pos c5] at H
      have c5b0 : ((rdOf ByteArray.empty l0 x5_1).toList == a1.toList) = true := beq_iff_eq.mpr c5
      have c5b1 : ((rdOf ByteArray.empty l0 x5_1).toList != a1.toList) = false := bne_eq_false_iff_eq.mpr c5
      clear c5
      obtain rfl := Option.some.inj H
      have p192 : 0 ≤ (x5_1 : Int) := of_decide_eq_true asmT
      have q192 : x5_1 < (l0.length : Int) := of_decide_eq_true asmT
      obtain ⟨ad192, e192, hx192_0⟩ := Kd.at_string HR0.out x5_1 p192 q192
      cases e192
      replace p192 := eq_true p192; replace q192 := eq_true q192
      go_wp2
      go_ret
      exact ⟨rdT, drT⟩
     ·rw [if_neg c5] at H
      have c5b0 : ((rdOf ByteArray.empty l0 x5_1).toList == a1.toList) = false := beq_eq_false_iff_ne.mpr c5
      have c5b1 : ((rdOf ByteArray.empty l0 x5_1).toList != a1.toList) = true := bne_iff_ne.mpr c5
      have H' := Aside0.mk H; clear H
      have p192 : 0 ≤ (x5_1 : Int) := of_decide_eq_true asmT
      have q192 : x5_1 < (l0.length : Int) := of_decide_eq_true asmT
      obtain ⟨ad192, e192, hx192_0⟩ := Kd.at_string HR0.out x5_1 p192 q192
      cases e192
      replace p192 := eq_true p192; replace q192 := eq_true q192
      go_wp2
      go_roundg k1
      case measure => have := HK1.out; omega
      case rel => exact ⟨(wrap64 (x5_1 + 1)), rdT, H', ⟨by have := HK1.out; omega⟩, drT⟩
    ·rw [if_neg c4] at H
     exact absurd H (by simp)
   ·rw [if_neg c3] at H
    have c3b0 : decide (x5_1 < (l0.length : Int)) = false := decide_eq_false c3
    clear c3
    obtain rfl := Option.some.inj H
    go_wp2
    go_ret
    exact ⟨rdT, drT⟩
def spec_l1In.f (a0 : Int) (a1 : Int) (a2 : Int) : Option (Bool) := if a0 ≥ a1 then (some (decide (a0 ≤ a2))) else (some false)
set_option maxHeartbeats 8000000 in
set_option maxRecDepth 100000 in
theorem spec_l1In.calls (a0 : Int) (a1 : Int) (a2 : Int) (r : Bool) (w : World) (h : spec_l1In.f a0 a1 a2 = some r) :
  Calls Tryz.prog 67 #[.int .i64 a0, .int .i64 a1, .int .i64 a2] w fun e w' => e = .returned (.bool r) ∧ Drawn0 w w' := by
 have H := h; unfold spec_l1In.f at H; clear h
 by_cases c4 : a0 ≥ a1
 ·rw [if_pos c4] at H
  have c4b0 : decide (a1 ≤ a0) = true := decide_eq_true c4
  clear c4
  obtain rfl := Option.some.inj H
  go_enter Tryz.func67, Tryz.ntmps67
  go_wp2
  go_ret
  exact ⟨rdT, drT⟩
 ·rw [if_neg c4] at H
  have c4b0 : decide (a1 ≤ a0) = false := decide_eq_false c4
  clear c4
  obtain rfl := Option.some.inj H
  go_enter Tryz.func67, Tryz.ntmps67
  go_wp2
  go_ret
  exact ⟨rdT, drT⟩
def spec_ConstraintNames.f  : Option (List ByteArray) := some (([(⟨#[111, 110, 115, 101, 116]⟩ : ByteArray), (⟨#[110, 111, 99, 111, 100, 97]⟩ : ByteArray), (⟨#[99, 108, 117, 115, 116, 101, 114]⟩ : ByteArray), (⟨#[118, 111, 105, 99, 101]⟩ : ByteArray), (⟨#[102, 105, 110, 97, 108]⟩ : ByteArray), (⟨#[110, 97, 115, 97, 108]⟩ : ByteArray), (⟨#[109, 97, 120]⟩ : ByteArray), (⟨#[100, 101, 112]⟩ : ByteArray), (⟨#[105, 100, 101, 110, 116]⟩ : ByteArray), (⟨#[99, 111, 110, 116, 105, 103]⟩ : ByteArray)] : List ByteArray))
set_option maxHeartbeats 8000000 in
set_option maxRecDepth 100000 in
theorem spec_ConstraintNames.calls  (r : List ByteArray) (w : World) (h : spec_ConstraintNames.f  = some r) :
  Calls Tryz.prog 93 #[] w fun e w' => ∃ v0_ : Value, e = .returned (v0_) ∧ Kd.R Kd.string 9 w' w.heap.size (fun _ => True) v0_ r ∧ Below w.heap.size w w' := by
 have HB := asT (Below.refl w.heap.size w); have H := h; unfold spec_ConstraintNames.f at H; clear h; obtain ⟨y193, hy193⟩ : ∃ y_ : List ByteArray, y_ = (([(⟨#[111, 110, 115, 101, 116]⟩ : ByteArray), (⟨#[110, 111, 99, 111, 100, 97]⟩ : ByteArray), (⟨#[99, 108, 117, 115, 116, 101, 114]⟩ : ByteArray), (⟨#[118, 111, 105, 99, 101]⟩ : ByteArray), (⟨#[102, 105, 110, 97, 108]⟩ : ByteArray), (⟨#[110, 97, 115, 97, 108]⟩ : ByteArray), (⟨#[109, 97, 120]⟩ : ByteArray), (⟨#[100, 101, 112]⟩ : ByteArray), (⟨#[105, 100, 101, 110, 116]⟩ : ByteArray), (⟨#[99, 111, 110, 116, 105, 103]⟩ : ByteArray)] : List ByteArray)) := ⟨_, rfl⟩
 replace H : (some y193) = some r := by first | (rw [hy193]; with_reducible exact H) | (have H2_ := (Option.bind_some _ _).symm.trans H; rw [hy193]; with_reducible exact H2_) | (have H2_ := (Option.bind_some _ _).symm.trans H; with_reducible exact H2_) | with_reducible exact H | (rw [hy193]; exact H) | exact H
 have Ny193 := Aside0.mk hy193; clear hy193
 obtain rfl := Option.some.inj H
 go_enter Tryz.func93, Tryz.ntmps93
 go_wp2_with (first | ((with_reducible refine gate_dst (N := 1) rfl ?_); refine Kd.R_lit Kd.string _ 9 ?hg (N := 1) ?hd (xs := ([(⟨#[111, 110, 115, 101, 116]⟩ : ByteArray), (⟨#[110, 111, 99, 111, 100, 97]⟩ : ByteArray), (⟨#[99, 108, 117, 115, 116, 101, 114]⟩ : ByteArray), (⟨#[118, 111, 105, 99, 101]⟩ : ByteArray), (⟨#[102, 105, 110, 97, 108]⟩ : ByteArray), (⟨#[110, 97, 115, 97, 108]⟩ : ByteArray), (⟨#[109, 97, 120]⟩ : ByteArray), (⟨#[100, 101, 112]⟩ : ByteArray), (⟨#[105, 100, 101, 110, 116]⟩ : ByteArray), (⟨#[99, 111, 110, 116, 105, 103]⟩ : ByteArray)] : List ByteArray)) (inner := [.string (⟨#[111, 110, 115, 101, 116]⟩ : ByteArray), .string (⟨#[110, 111, 99, 111, 100, 97]⟩ : ByteArray), .string (⟨#[99, 108, 117, 115, 116, 101, 114]⟩ : ByteArray), .string (⟨#[118, 111, 105, 99, 101]⟩ : ByteArray), .string (⟨#[102, 105, 110, 97, 108]⟩ : ByteArray), .string (⟨#[110, 97, 115, 97, 108]⟩ : ByteArray), .string (⟨#[109, 97, 120]⟩ : ByteArray), .string (⟨#[100, 101, 112]⟩ : ByteArray), .string (⟨#[105, 100, 101, 110, 116]⟩ : ByteArray), .string (⟨#[99, 111, 110, 116, 105, 103]⟩ : ByteArray)]) (ok := fun _ => True) (okp := fun _ => True) ?hr ?hp (fun _ hk => hk) trivial (Below.refl _ _) (Nat.le_refl _) (by simp) ?_; (case hd => rfl); (case hg => rfl); (case hr => first | (go_simp; done) | (go_simp; rfl)); (case hp => exact (Reps.one (show Kd.M Kd.string _ _ _ (⟨#[111, 110, 115, 101, 116]⟩ : ByteArray) [.string (⟨#[111, 110, 115, 101, 116]⟩ : ByteArray)] from rfl) (Reps.one (show Kd.M Kd.string _ _ _ (⟨#[110, 111, 99, 111, 100, 97]⟩ : ByteArray) [.string (⟨#[110, 111, 99, 111, 100, 97]⟩ : ByteArray)] from rfl) (Reps.one (show Kd.M Kd.string _ _ _ (⟨#[99, 108, 117, 115, 116, 101, 114]⟩ : ByteArray) [.string (⟨#[99, 108, 117, 115, 116, 101, 114]⟩ : ByteArray)] from rfl) (Reps.one (show Kd.M Kd.string _ _ _ (⟨#[118, 111, 105, 99, 101]⟩ : ByteArray) [.string (⟨#[118, 111, 105, 99, 101]⟩ : ByteArray)] from rfl) (Reps.one (show Kd.M Kd.string _ _ _ (⟨#[102, 105, 110, 97, 108]⟩ : ByteArray) [.string (⟨#[102, 105, 110, 97, 108]⟩ : ByteArray)] from rfl) (Reps.one (show Kd.M Kd.string _ _ _ (⟨#[110, 97, 115, 97, 108]⟩ : ByteArray) [.string (⟨#[110, 97, 115, 97, 108]⟩ : ByteArray)] from rfl) (Reps.one (show Kd.M Kd.string _ _ _ (⟨#[109, 97, 120]⟩ : ByteArray) [.string (⟨#[109, 97, 120]⟩ : ByteArray)] from rfl) (Reps.one (show Kd.M Kd.string _ _ _ (⟨#[100, 101, 112]⟩ : ByteArray) [.string (⟨#[100, 101, 112]⟩ : ByteArray)] from rfl) (Reps.one (show Kd.M Kd.string _ _ _ (⟨#[105, 100, 101, 110, 116]⟩ : ByteArray) [.string (⟨#[105, 100, 101, 110, 116]⟩ : ByteArray)] from rfl) (Reps.one (show Kd.M Kd.string _ _ _ (⟨#[99, 111, 110, 116, 105, 103]⟩ : ByteArray) [.string (⟨#[99, 111, 110, 116, 105, 103]⟩ : ByteArray)] from rfl) (Reps.none _ _)))))))))))); intro v194 w1 ho2 hb hg_ hnew_; clear hg_ hnew_; (first | rw [← Ny193.out] at ho2 | (simp only [Int.reduceToNat] at ho2; rw [← Ny193.out] at ho2)); have HO195 := asT (Kd.R_lower ho2 (below_size (hbT HB.out))); replace HB := hS HB hb; clear hb ho2))
 go_ret
 exact ⟨_, rlT, by (with_reducible repeat (first | apply Kd.R_alloc | apply Kd.R_drewN | apply Kd.R_drew)); exact HO195.out, hbT HB.out⟩
def spec_AreConstraints.l0 : Nat → List ByteArray → Int → Option (Bool)
 | 0, _, _ => none
 | k + 1, x0, x3 => if x3 < (x0.length : Int) then ((spec_ConstraintNames.f).bind fun t197 => (if 0 ≤ x3 then ((spec_l3Has.f k t197 (rdOf ByteArray.empty x0 x3)).bind fun t201 => (if t201 = true then (if x3 ≤ (x0.length : Int) then ((spec_l3Has.f k (x0.take (x3 : Int).toNat) (rdOf ByteArray.empty x0 x3)).bind fun t204 => (if t204 = true then (some false) else (spec_AreConstraints.l0 k x0 (wrap64 (x3 + 1))))) else (none)) else (some false))) else (none))) else ((spec_l1In.f (x0.length : Int) 1 5).bind fun t196 => (some t196))
def spec_AreConstraints.f (k : Nat) (l0 : List ByteArray) : Option (Bool) := spec_AreConstraints.l0 k l0 0
theorem spec_AreConstraints.mono_l : ∀ k, (∀ y0 y1, LeO (spec_AreConstraints.l0 k y0 y1) (spec_AreConstraints.l0 (k + 1) y0 y1))
 | 0 => fun _ _ r h => by simp [spec_AreConstraints.l0] at h
 | k + 1 => by
  have ih0 := spec_AreConstraints.mono_l k
  ·intro y0 y1
   unfold spec_AreConstraints.l0
   with_reducible repeat' first | exact ih0 _ _ | exact spec_l3Has.mono _ _ _ | exact LeO.refl _ | exact LeO.none _ | refine LeO.ite ?_ ?_ | refine LeO.bind ?_ (fun _ => ?_)
theorem spec_AreConstraints.mono : ∀ a0 k, LeO (spec_AreConstraints.f k a0) (spec_AreConstraints.f (k + 1) a0) := by
 intro a0 k
 have ih0 := spec_AreConstraints.mono_l k
 unfold spec_AreConstraints.f
 with_reducible repeat' first | exact ih0 _ _ | exact spec_l3Has.mono _ _ _ | exact LeO.refl _ | exact LeO.none _ | refine LeO.ite ?_ ?_ | refine LeO.bind ?_ (fun _ => ?_)
def spec_AreConstraints.T4 : Bool × List (List Nat × List Nat) := (true, [([], []), ([], []), ([], []), ([1, 2], [1, 2]), ([3], [3]), ([0, 4, 0], [0, 4]), ([5], [5]), ([6, 5], [6]), ([7], [7]), ([7], [7]), ([8, 9, 7], [7, 8, 9]), ([7], [7]), ([7], [7]), ([11, 12, 7], [7, 11, 12]), ([13, 7], [7, 13]), ([10, 14, 7, 7], [7, 10, 14]), ([7, 15], [7, 15])])
def spec_AreConstraints.B4 : List Nat := [0, 0, 0, 6, 14, 31, 63, 127, 255, 255, 1023, 255, 255, 6399, 14591, 32767, 65535]
theorem spec_AreConstraints.tab4 : rtab .any (opsOf Tryz.f65 4) = spec_AreConstraints.T4 := by kernel_rfl
theorem spec_AreConstraints.bits4 : waitsOk spec_AreConstraints.T4.2 spec_AreConstraints.B4 = true := by kernel_rfl
set_option maxHeartbeats 8000000 in
set_option maxRecDepth 100000 in
theorem spec_AreConstraints.calls (k : Nat) (A0 : Option Addr) (c0 : Nat) (l0 : List ByteArray) (r : Bool) (w : World) (hr0 : Kd.C Kd.string w A0 l0.length l0) (hc0 : l0.length ≤ c0) (h : spec_AreConstraints.f k l0 = some r) :
  Calls Tryz.prog 65 #[.slice A0 l0.length c0] w fun e w' => e = .returned (.bool r) ∧ Below w.heap.size w w' := by
 have HR0 := Aside0.mk hr0; have HC0 := Aside0.mk hc0; clear hr0 hc0; have HB := asT (Below.refl w.heap.size w); have H := h; unfold spec_AreConstraints.f at H; clear h; have H' := Aside0.mk H; clear H
 go_enter Tryz.func65, Tryz.ntmps65
 go_wp2
 go_loopg [3] k (fun kq v3 w' => ∃ (x3_1 : Int), v3 = .int .i64 x3_1 ∧ Aside0 (spec_AreConstraints.l0 kq l0 x3_1 = some r) ∧ Aside0 (kq ≤ k) ∧ Aside0 (Below w.heap.size w w'))
 case atStart => exact ⟨(0), rdT, H', ⟨Nat.le_refl _⟩, ⟨hbT HB.out⟩⟩
 case round =>
  clear H'; obtain ⟨x3_1, rfl, HA, HK1, HB⟩ := hrel
  cases gk with
  | zero => exact absurd HA.out (by simp [spec_AreConstraints.l0])
  | succ k1 =>
   have H := HA.out; clear HA
   simp only [spec_AreConstraints.l0] at H
   by_cases c2 : x3_1 < (l0.length : Int)
   ·rw [if_pos c2] at H
    have c2b0 : decide (x3_1 < (l0.length : Int)) = true := decide_eq_true c2
    clear c2; obtain ⟨t197, A3, H⟩ := be H
    by_cases c4 : 0 ≤ x3_1
    ·rw [if_pos c4] at H
     have c4b0 : decide (0 ≤ x3_1) = true := decide_eq_true c4
     clear c4; obtain ⟨t201, A5, H⟩ := be H
     by_cases c6 : t201 = true
     ·subst c6
      rw [if_pos rfl] at H; have c7b0 := eq_true (of_decide_eq_true asmT : 0 ≤ x3_1)
      by_cases c8 : x3_1 ≤ (l0.length : Int)
      ·rw [if_pos c8] at H
       have c8b0 := eq_true c8
       have c8b1 : decide (x3_1 ≤ (l0.length : Int)) = true := decide_eq_true c8
       clear c8; obtain ⟨t204, A9, H⟩ := be H
       by_cases c10 : t204 = true
       ·subst c10
        rw [if_pos rfl] at H; have H1 := H; clear H; have H := H1; clear H1
        obtain rfl := Option.some.inj H
        try go_wp2
        replace HB := asT (below_drew1 HB.out)
        have p200 : 0 ≤ (x3_1 : Int) := of_decide_eq_true asmT
        have q200 : x3_1 < (l0.length : Int) := of_decide_eq_true asmT
        obtain ⟨ad200, e200, hx200_0⟩ := Kd.at_string HR0.out x3_1 p200 q200; have hw200_0 := hx200_0
        cases e200
        replace hx200_0 := hbc HB.out hx200_0; replace p200 := eq_true p200; replace q200 := eq_true q200
        have p203 : 0 ≤ (x3_1 : Int) := of_decide_eq_true asmT
        have q203 : x3_1 < (l0.length : Int) := of_decide_eq_true asmT
        obtain ⟨ad203, e203, hx203_0⟩ := Kd.at_string HR0.out x3_1 p203 q203; have hw203_0 := hx203_0
        obtain rfl : ad200 = ad203 := (by injection e203)
        replace hx203_0 := hbc HB.out hx203_0; replace p203 := eq_true p203; replace q203 := eq_true q203
        refine start_ (n := 17) (S := fun w' => w'.cell? (ad200.add (x3_1).toNat) = some (.string (rdOf ByteArray.empty l0 x3_1)) ∧ w'.cell? (ad200.add (x3_1).toNat) = some (.string (rdOf ByteArray.empty l0 x3_1))) (ds := []) (bA 17 0) (by kernel_rfl) rfl rfl ⟨(hbc HB.out hw200_0 :), (hbc HB.out hw203_0 :)⟩ (fun hHeld => ?_); refine with_tabW spec_AreConstraints.tab4 spec_AreConstraints.bits4 (fun HT_ HW_ => ?_)
        generalize wr.drew = w11 at HB hx200_0 hx203_0 hHeld ⊢
        refine pA 1 11 17 2 HT_.out ?_ rfl rfl; refine pA 2 12 17 6 HT_.out ?_ rfl rfl; refine pA 3 13 17 14 HT_.out ?_ rfl rfl; refine tA 4 14 17 30 HT_.out HW_.out hHeld ?_ rfl rfl
        refine oA 0 10 17 31 HT_.out (fun K hK => ?_) rfl rfl
        refine goes_ Tryz.func93 (by kernel_rfl) rfl #[] (by rfl) rfl rfl eqT ?_
        (with_reducible refine (spec_ConstraintNames.calls  t197 _ A3.out).mono ?_); rintro e w12 ⟨v198, rfl, ho0, hb⟩; refine ⟨_, rfl, ?_⟩; have HO199 := asT (Kd.R_lower ho0 (below_size (hbT HB.out))); replace HB := hS HB hb; (try clear hb hb2 hk hi ho0); obtain ⟨Ao13, co13, eo13⟩ := Kd.R_slice HO199.out; (first | subst eo13 | (injection eo13 with f1_ f2_ f3_; have f4_ := f1_.symm; have f5_ := f3_.symm; clear f1_ f2_ f3_; subst f4_; subst f5_))
        refine hK.out _ _ ⟨(hbc HB.out hw200_0 :), (hbc HB.out hw203_0 :)⟩ (fun hHeld => ?_)
        clear hK K
        refine nB 10 ?_ rfl
        refine oA 5 15 17 63 HT_.out (fun K hK => ?_) rfl rfl
        refine goes_ Tryz.func60 (by kernel_rfl) rfl #[.slice Ao13 t197.length co13, .string (rdOf ByteArray.empty l0 x3_1)] (by rfl) rfl rfl eqT ?_
        (with_reducible refine (spec_l3Has.calls k1 _ _ t197 (rdOf ByteArray.empty l0 x3_1) true _ ?side1 ?side2 A5.out).mono ?_); (case side1 => repeat (first | exact (Kd.R_reads' HO199.out).2.2 | (with_reducible refine Kd.C_alloc ?_ _) | (with_reducible refine Kd.C_drewN ?_ _) | (with_reducible refine Kd.C_drew ?_))); (case side2 => exact (Kd.R_reads' HO199.out).2.1); rintro e w' ⟨rfl, ⟨nd, rfl⟩⟩; refine ⟨_, rfl, ?_⟩; obtain ⟨i014, hi014, _, hsz14, _⟩ := info_parts info9; obtain ⟨hcut14, hA14, hC14⟩ := print_take_of (P := Tryz.prog) Value.string (⟨#[]⟩ : ByteArray) 22 9 .i64 Tryz.underlying22 hi014 hsz14 (some ad200) c0 l0 x3_1 (of_decide_eq_true asmT) (of_decide_eq_true asmT) HC0.out; have HR202 := asT (Kd.C_of_reads (h1 := fun _ => rfl) (hA14 _ (Kd.reads_of_C HR0.out))); have HC202 := Aside0.mk hC14; clear hA14 hC14 hi014 hsz14
        refine hK.out _ _ ⟨(hbc HB.out hw200_0 :), (hbc HB.out hw203_0 :)⟩ (fun hHeld => ?_)
        clear hK K
        refine nB 15 ?_ rfl; refine pA 6 16 17 127 HT_.out ?_ rfl rfl; refine pA 7 17 17 255 HT_.out ?_ rfl rfl; refine pA 8 18 17 511 HT_.out ?_ rfl rfl; refine pA 9 19 17 1023 HT_.out ?_ rfl rfl; refine pA 10 20 17 2047 HT_.out ?_ rfl rfl; refine pA 11 21 17 4095 HT_.out ?_ rfl rfl; refine pA 12 22 17 8191 HT_.out ?_ rfl rfl; refine pA 13 23 17 16383 HT_.out ?_ rfl rfl; refine tA 14 24 17 32767 HT_.out HW_.out hHeld ?_ rfl rfl
        refine oA 15 25 17 65535 HT_.out (fun K hK => ?_) rfl rfl
        refine goes_ Tryz.func60 (by kernel_rfl) rfl #[.slice (some ad200) (l0.take (x3_1 : Int).toNat).length c0, .string (rdOf ByteArray.empty l0 x3_1)] (by rfl) rfl rfl (by (try simp only [List.map_toArray, List.map_cons, List.map_nil]); first | done | (rw [show (l0.take (x3_1 : Int).toNat).length = x3_1.toNat from (by rw [List.length_take]; have h_ : (x3_1 : Int) ≤ (l0.length : Int) := of_decide_eq_true asmT; omega)] <;> rfl) | rfl | (simp only [List.length_drop, List.length_take]; rfl)) ?_
        (with_reducible refine (spec_l3Has.calls k1 _ _ (l0.take (x3_1 : Int).toNat) (rdOf ByteArray.empty l0 x3_1) true _ ?side1 ?side2 A9.out).mono ?_); (case side1 => exact crT HR202.out (hbT HB.out)); (case side2 => exact HC202.out); rintro e w' ⟨rfl, ⟨nd, rfl⟩⟩; refine ⟨_, rfl, ?_⟩
        refine hK.out _ _ ⟨(hbc HB.out hw200_0 :), (hbc HB.out hw203_0 :)⟩ (fun hHeld => ?_)
        clear hK K
        refine nB 25 ?_ rfl; refine pA 16 26 17 131071 HT_.out ?_ rfl rfl
        refine done_ (done_of HT_.out (by kernel_rfl)) ?_
        try go_wp2
        go_ret
        exact ⟨rlT, hbT HB.out⟩
       ·replace c10 := Bool.eq_false_iff.mpr c10
        subst c10; rw [if_neg nF] at H; have H' := Aside0.mk H; clear H
        try go_wp2
        replace HB := asT (below_drew1 HB.out)
        have p200 : 0 ≤ (x3_1 : Int) := of_decide_eq_true asmT
        have q200 : x3_1 < (l0.length : Int) := of_decide_eq_true asmT
        obtain ⟨ad200, e200, hx200_0⟩ := Kd.at_string HR0.out x3_1 p200 q200; have hw200_0 := hx200_0
        cases e200
        replace hx200_0 := hbc HB.out hx200_0; replace p200 := eq_true p200; replace q200 := eq_true q200
        have p203 : 0 ≤ (x3_1 : Int) := of_decide_eq_true asmT
        have q203 : x3_1 < (l0.length : Int) := of_decide_eq_true asmT
        obtain ⟨ad203, e203, hx203_0⟩ := Kd.at_string HR0.out x3_1 p203 q203; have hw203_0 := hx203_0
        obtain rfl : ad200 = ad203 := (by injection e203)
        replace hx203_0 := hbc HB.out hx203_0; replace p203 := eq_true p203; replace q203 := eq_true q203
        refine start_ (n := 17) (S := fun w' => w'.cell? (ad200.add (x3_1).toNat) = some (.string (rdOf ByteArray.empty l0 x3_1)) ∧ w'.cell? (ad200.add (x3_1).toNat) = some (.string (rdOf ByteArray.empty l0 x3_1))) (ds := []) (bA 17 0) (by kernel_rfl) rfl rfl ⟨(hbc HB.out hw200_0 :), (hbc HB.out hw203_0 :)⟩ (fun hHeld => ?_); refine with_tabW spec_AreConstraints.tab4 spec_AreConstraints.bits4 (fun HT_ HW_ => ?_)
        generalize wr.drew = w15 at HB hx200_0 hx203_0 hHeld ⊢
        refine pA 1 11 17 2 HT_.out ?_ rfl rfl; refine pA 2 12 17 6 HT_.out ?_ rfl rfl; refine pA 3 13 17 14 HT_.out ?_ rfl rfl; refine tA 4 14 17 30 HT_.out HW_.out hHeld ?_ rfl rfl
        refine oA 0 10 17 31 HT_.out (fun K hK => ?_) rfl rfl
        refine goes_ Tryz.func93 (by kernel_rfl) rfl #[] (by rfl) rfl rfl eqT ?_
        (with_reducible refine (spec_ConstraintNames.calls  t197 _ A3.out).mono ?_); rintro e w16 ⟨v198, rfl, ho0, hb⟩; refine ⟨_, rfl, ?_⟩; have HO199 := asT (Kd.R_lower ho0 (below_size (hbT HB.out))); replace HB := hS HB hb; (try clear hb hb2 hk hi ho0); obtain ⟨Ao17, co17, eo17⟩ := Kd.R_slice HO199.out; (first | subst eo17 | (injection eo17 with f1_ f2_ f3_; have f4_ := f1_.symm; have f5_ := f3_.symm; clear f1_ f2_ f3_; subst f4_; subst f5_))
        refine hK.out _ _ ⟨(hbc HB.out hw200_0 :), (hbc HB.out hw203_0 :)⟩ (fun hHeld => ?_)
        clear hK K
        refine nB 10 ?_ rfl
        refine oA 5 15 17 63 HT_.out (fun K hK => ?_) rfl rfl
        refine goes_ Tryz.func60 (by kernel_rfl) rfl #[.slice Ao17 t197.length co17, .string (rdOf ByteArray.empty l0 x3_1)] (by rfl) rfl rfl eqT ?_
        (with_reducible refine (spec_l3Has.calls k1 _ _ t197 (rdOf ByteArray.empty l0 x3_1) true _ ?side1 ?side2 A5.out).mono ?_); (case side1 => repeat (first | exact (Kd.R_reads' HO199.out).2.2 | (with_reducible refine Kd.C_alloc ?_ _) | (with_reducible refine Kd.C_drewN ?_ _) | (with_reducible refine Kd.C_drew ?_))); (case side2 => exact (Kd.R_reads' HO199.out).2.1); rintro e w' ⟨rfl, ⟨nd, rfl⟩⟩; refine ⟨_, rfl, ?_⟩; obtain ⟨i018, hi018, _, hsz18, _⟩ := info_parts info9; obtain ⟨hcut18, hA18, hC18⟩ := print_take_of (P := Tryz.prog) Value.string (⟨#[]⟩ : ByteArray) 22 9 .i64 Tryz.underlying22 hi018 hsz18 (some ad200) c0 l0 x3_1 (of_decide_eq_true asmT) (of_decide_eq_true asmT) HC0.out; have HR202 := asT (Kd.C_of_reads (h1 := fun _ => rfl) (hA18 _ (Kd.reads_of_C HR0.out))); have HC202 := Aside0.mk hC18; clear hA18 hC18 hi018 hsz18
        refine hK.out _ _ ⟨(hbc HB.out hw200_0 :), (hbc HB.out hw203_0 :)⟩ (fun hHeld => ?_)
        clear hK K
        refine nB 15 ?_ rfl; refine pA 6 16 17 127 HT_.out ?_ rfl rfl; refine pA 7 17 17 255 HT_.out ?_ rfl rfl; refine pA 8 18 17 511 HT_.out ?_ rfl rfl; refine pA 9 19 17 1023 HT_.out ?_ rfl rfl; refine pA 10 20 17 2047 HT_.out ?_ rfl rfl; refine pA 11 21 17 4095 HT_.out ?_ rfl rfl; refine pA 12 22 17 8191 HT_.out ?_ rfl rfl; refine pA 13 23 17 16383 HT_.out ?_ rfl rfl; refine tA 14 24 17 32767 HT_.out HW_.out hHeld ?_ rfl rfl
        refine oA 15 25 17 65535 HT_.out (fun K hK => ?_) rfl rfl
        refine goes_ Tryz.func60 (by kernel_rfl) rfl #[.slice (some ad200) (l0.take (x3_1 : Int).toNat).length c0, .string (rdOf ByteArray.empty l0 x3_1)] (by rfl) rfl rfl (by (try simp only [List.map_toArray, List.map_cons, List.map_nil]); first | done | (rw [show (l0.take (x3_1 : Int).toNat).length = x3_1.toNat from (by rw [List.length_take]; have h_ : (x3_1 : Int) ≤ (l0.length : Int) := of_decide_eq_true asmT; omega)] <;> rfl) | rfl | (simp only [List.length_drop, List.length_take]; rfl)) ?_
        (with_reducible refine (spec_l3Has.calls k1 _ _ (l0.take (x3_1 : Int).toNat) (rdOf ByteArray.empty l0 x3_1) false _ ?side1 ?side2 A9.out).mono ?_); (case side1 => exact crT HR202.out (hbT HB.out)); (case side2 => exact HC202.out); rintro e w' ⟨rfl, ⟨nd, rfl⟩⟩; refine ⟨_, rfl, ?_⟩
        refine hK.out _ _ ⟨(hbc HB.out hw200_0 :), (hbc HB.out hw203_0 :)⟩ (fun hHeld => ?_)
        clear hK K
        refine nB 25 ?_ rfl; refine pA 16 26 17 131071 HT_.out ?_ rfl rfl
        refine done_ (done_of HT_.out (by kernel_rfl)) ?_
        try go_wp2
        go_roundg k1
        case measure => have := HK1.out; omega
        case rel => exact ⟨(wrap64 (x3_1 + 1)), rdT, H', ⟨by have := HK1.out; omega⟩, ⟨hbT HB.out⟩⟩
      ·rw [if_neg c8] at H
       exact absurd H (by simp)
     ·replace c6 := Bool.eq_false_iff.mpr c6
      subst c6; rw [if_neg nF] at H; have H1 := H; clear H; have H := H1; clear H1
      obtain rfl := Option.some.inj H
      try go_wp2
      replace HB := asT (below_drew1 HB.out)
      have p200 : 0 ≤ (x3_1 : Int) := of_decide_eq_true asmT
      have q200 : x3_1 < (l0.length : Int) := of_decide_eq_true asmT
      obtain ⟨ad200, e200, hx200_0⟩ := Kd.at_string HR0.out x3_1 p200 q200; have hw200_0 := hx200_0
      cases e200
      replace hx200_0 := hbc HB.out hx200_0; replace p200 := eq_true p200; replace q200 := eq_true q200
      refine start_ (n := 17) (S := fun w' => w'.cell? (ad200.add (x3_1).toNat) = some (.string (rdOf ByteArray.empty l0 x3_1))) (ds := []) (bA 17 0) (by kernel_rfl) rfl rfl (((HB.out.cell (World.block_lt_of_cell? w _ hw200_0)).trans hw200_0)) (fun hHeld => ?_); refine with_tabW spec_AreConstraints.tab4 spec_AreConstraints.bits4 (fun HT_ HW_ => ?_)
      generalize wr.drew = w19 at HB hx200_0 hHeld ⊢
      refine pA 1 11 17 2 HT_.out ?_ rfl rfl; refine pA 2 12 17 6 HT_.out ?_ rfl rfl; refine pA 3 13 17 14 HT_.out ?_ rfl rfl; refine tA 4 14 17 30 HT_.out HW_.out hHeld ?_ rfl rfl
      refine oA 0 10 17 31 HT_.out (fun K hK => ?_) rfl rfl
      refine goes_ Tryz.func93 (by kernel_rfl) rfl #[] (by rfl) rfl rfl eqT ?_
      (with_reducible refine (spec_ConstraintNames.calls  t197 _ A3.out).mono ?_); rintro e w20 ⟨v198, rfl, ho0, hb⟩; refine ⟨_, rfl, ?_⟩; have HO199 := asT (Kd.R_lower ho0 (below_size (hbT HB.out))); replace HB := hS HB hb; (try clear hb hb2 hk hi ho0); obtain ⟨Ao21, co21, eo21⟩ := Kd.R_slice HO199.out; (first | subst eo21 | (injection eo21 with f1_ f2_ f3_; have f4_ := f1_.symm; have f5_ := f3_.symm; clear f1_ f2_ f3_; subst f4_; subst f5_))
      refine hK.out _ _ (((HB.out.cell (World.block_lt_of_cell? w _ hw200_0)).trans hw200_0)) (fun hHeld => ?_)
      clear hK K
      refine nB 10 ?_ rfl
      refine oA 5 15 17 63 HT_.out (fun K hK => ?_) rfl rfl
      refine goes_ Tryz.func60 (by kernel_rfl) rfl #[.slice Ao21 t197.length co21, .string (rdOf ByteArray.empty l0 x3_1)] (by rfl) rfl rfl eqT ?_
      (with_reducible refine (spec_l3Has.calls k1 _ _ t197 (rdOf ByteArray.empty l0 x3_1) false _ ?side1 ?side2 A5.out).mono ?_); (case side1 => repeat (first | exact (Kd.R_reads' HO199.out).2.2 | (with_reducible refine Kd.C_alloc ?_ _) | (with_reducible refine Kd.C_drewN ?_ _) | (with_reducible refine Kd.C_drew ?_))); (case side2 => exact (Kd.R_reads' HO199.out).2.1); rintro e w' ⟨rfl, ⟨nd, rfl⟩⟩; refine ⟨_, rfl, ?_⟩
      refine hK.out _ _ (((HB.out.cell (World.block_lt_of_cell? w _ hw200_0)).trans hw200_0)) (fun hHeld => ?_)
      clear hK K
      refine nB 15 ?_ rfl; refine pA 6 16 17 127 HT_.out ?_ rfl rfl; refine pA 7 17 17 255 HT_.out ?_ rfl rfl; refine uA 8 18 17 511 HT_.out ?_ rfl rfl; refine uA 9 19 17 1023 HT_.out ?_ rfl rfl; refine uA 10 20 17 2047 HT_.out ?_ rfl rfl; refine uA 11 21 17 4095 HT_.out ?_ rfl rfl; refine uA 12 22 17 8191 HT_.out ?_ rfl rfl; refine uA 13 23 17 16383 HT_.out ?_ rfl rfl; refine uA 14 24 17 32767 HT_.out ?_ rfl rfl; refine uA 15 25 17 65535 HT_.out ?_ rfl rfl; refine pA 16 26 17 131071 HT_.out ?_ rfl rfl
      refine done_ (done_of HT_.out (by kernel_rfl)) ?_
      try go_wp2
      go_ret
      exact ⟨rlT, hbT HB.out⟩
    ·rw [if_neg c4] at H
     exact absurd H (by simp)
   ·rw [if_neg c2] at H
    have c2b0 : decide (x3_1 < (l0.length : Int)) = false := decide_eq_false c2
    clear c2; obtain ⟨t196, A22, H⟩ := be H
    obtain rfl := Option.some.inj H
    go_wp2_with (first | ((with_reducible refine gate_callee (f := 67) rfl ?_); refine goesL_ (some 29) rfl rfl Tryz.func67 (by kernel_rfl) rfl #[.int .i64 (l0.length : Int), .int .i64 1, .int .i64 5] rfl eqT ?_; (with_reducible refine (spec_l1In.calls (l0.length : Int) 1 5 t196 _ A22.out).mono ?_); rintro e w' ⟨rfl, ⟨nd, rfl⟩⟩; refine ⟨_, rfl, ?_⟩))
    go_ret
    exact ⟨rlT, hbT HB.out⟩
def spec_IsSound.l0 : Nat → Int → Int → Option (Bool)
 | 0, _, _ => none
 | k + 1, x0, x3 => if x3 < 7 then (if 0 ≤ x3 then (if (bt (⟨#[112, 116, 98, 100, 110, 97, 105]⟩ : ByteArray) x3) = x0 then (some true) else (spec_IsSound.l0 k x0 (wrap64 (x3 + 1)))) else (none)) else (some false)
def spec_IsSound.f (k : Nat) (a0 : Int) : Option (Bool) := spec_IsSound.l0 k a0 0
theorem spec_IsSound.mono_l : ∀ k, (∀ y0 y1, LeO (spec_IsSound.l0 k y0 y1) (spec_IsSound.l0 (k + 1) y0 y1))
 | 0 => fun _ _ r h => by simp [spec_IsSound.l0] at h
 | k + 1 => by
  have ih0 := spec_IsSound.mono_l k
  ·intro y0 y1
   unfold spec_IsSound.l0
   with_reducible repeat' first | exact ih0 _ _ | exact LeO.refl _ | exact LeO.none _ | refine LeO.ite ?_ ?_ | refine LeO.bind ?_ (fun _ => ?_)
theorem spec_IsSound.mono : ∀ a0 k, LeO (spec_IsSound.f k a0) (spec_IsSound.f (k + 1) a0) := by
 intro a0 k
 have ih0 := spec_IsSound.mono_l k
 unfold spec_IsSound.f
 with_reducible repeat' first | exact ih0 _ _ | exact LeO.refl _ | exact LeO.none _ | refine LeO.ite ?_ ?_ | refine LeO.bind ?_ (fun _ => ?_)
set_option maxHeartbeats 8000000 in
set_option maxRecDepth 100000 in
theorem spec_IsSound.calls (k : Nat) (a0 : Int) (r : Bool) (w : World) (h : spec_IsSound.f k a0 = some r) :
  Calls Tryz.prog 97 #[.int .u8 a0] w fun e w' => e = .returned (.bool r) ∧ Drawn0 w w' := by
 have H := h; unfold spec_IsSound.f at H; clear h; have H' := Aside0.mk H; clear H
 go_enter Tryz.func97, Tryz.ntmps97
 go_wp2
 go_loopg [3] k (fun kq v3 w' => ∃ (x3_1 : Int), v3 = .int .i64 x3_1 ∧ Aside0 (spec_IsSound.l0 kq a0 x3_1 = some r) ∧ Aside0 (kq ≤ k) ∧ Drawn0 w w')
 case atStart => exact ⟨(0), rdT, H', ⟨Nat.le_refl _⟩, drT⟩
 case round =>
  clear H'; obtain ⟨x3_1, rfl, HA, HK1, ⟨m1, rfl⟩⟩ := hrel
  cases gk with
  | zero => exact absurd HA.out (by simp [spec_IsSound.l0])
  | succ k1 =>
   have H := HA.out; clear HA
   simp only [spec_IsSound.l0] at H
   by_cases c2 : x3_1 < 7
   ·rw [if_pos c2] at H
    have c2b0 : decide (x3_1 < 7) = true := decide_eq_true c2
    clear c2
    by_cases c3 : 0 ≤ x3_1
    ·rw [if_pos c3] at H
     have c3b0 : decide (0 ≤ x3_1) = true := decide_eq_true c3
     clear c3
     by_cases c5 : (bt (⟨#[112, 116, 98, 100, 110, 97, 105]⟩ : ByteArray) x3_1) = a0
     ·rw [if_pos c5] at H
      have c5b0 : ((bt (⟨#[112, 116, 98, 100, 110, 97, 105]⟩ : ByteArray) x3_1) == a0) = true := beq_iff_eq.mpr c5
      have c5b1 : ((bt (⟨#[112, 116, 98, 100, 110, 97, 105]⟩ : ByteArray) x3_1) != a0) = false := bne_eq_false_iff_eq.mpr c5
      clear c5
      obtain rfl := Option.some.inj H
      have p4 : 0 ≤ (x3_1 : Int) := of_decide_eq_true asmT
      have q4 : x3_1 < (7 : Int) := of_decide_eq_true asmT
      have hx4 := bt_at (⟨#[112, 116, 98, 100, 110, 97, 105]⟩ : ByteArray) x3_1; replace p4 := eq_true p4; replace q4 := eq_true q4
      go_wp2
      go_ret
      exact ⟨rdT, drT⟩
     ·rw [if_neg c5] at H
      have c5b0 : ((bt (⟨#[112, 116, 98, 100, 110, 97, 105]⟩ : ByteArray) x3_1) == a0) = false := beq_eq_false_iff_ne.mpr c5
      have c5b1 : ((bt (⟨#[112, 116, 98, 100, 110, 97, 105]⟩ : ByteArray) x3_1) != a0) = true := bne_iff_ne.mpr c5
      have H' := Aside0.mk H; clear H
      have p4 : 0 ≤ (x3_1 : Int) := of_decide_eq_true asmT
      have q4 : x3_1 < (7 : Int) := of_decide_eq_true asmT
      have hx4 := bt_at (⟨#[112, 116, 98, 100, 110, 97, 105]⟩ : ByteArray) x3_1; replace p4 := eq_true p4; replace q4 := eq_true q4
      go_wp2
      go_roundg k1
      case measure => have := HK1.out; omega
      case rel => exact ⟨(wrap64 (x3_1 + 1)), rdT, H', ⟨by have := HK1.out; omega⟩, drT⟩
    ·rw [if_neg c3] at H
     exact absurd H (by simp)
   ·rw [if_neg c2] at H
    have c2b0 : decide (x3_1 < 7) = false := decide_eq_false c2
    clear c2
    obtain rfl := Option.some.inj H
    go_wp2
    go_ret
    exact ⟨rdT, drT⟩
def spec_l2Sounds.l0 : Nat → ByteArray → Int → Option (Bool)
 | 0, _, _ => none
 | k + 1, x0, x3 => if x3 < (x0.size : Int) then (if 0 ≤ x3 then ((spec_IsSound.f k (bt x0 x3)).bind fun t205 => (if t205 = true then (spec_l2Sounds.l0 k x0 (wrap64 (x3 + 1))) else (some false))) else (none)) else (some (decide ((x0.size : Int) ≤ 20)))
def spec_l2Sounds.f (k : Nat) (a0 : ByteArray) : Option (Bool) := spec_l2Sounds.l0 k a0 0
theorem spec_l2Sounds.mono_l : ∀ k, (∀ y0 y1, LeO (spec_l2Sounds.l0 k y0 y1) (spec_l2Sounds.l0 (k + 1) y0 y1))
 | 0 => fun _ _ r h => by simp [spec_l2Sounds.l0] at h
 | k + 1 => by
  have ih0 := spec_l2Sounds.mono_l k
  ·intro y0 y1
   unfold spec_l2Sounds.l0
   with_reducible repeat' first | exact ih0 _ _ | exact spec_IsSound.mono _ _ | exact LeO.refl _ | exact LeO.none _ | refine LeO.ite ?_ ?_ | refine LeO.bind ?_ (fun _ => ?_)
theorem spec_l2Sounds.mono : ∀ a0 k, LeO (spec_l2Sounds.f k a0) (spec_l2Sounds.f (k + 1) a0) := by
 intro a0 k
 have ih0 := spec_l2Sounds.mono_l k
 unfold spec_l2Sounds.f
 with_reducible repeat' first | exact ih0 _ _ | exact spec_IsSound.mono _ _ | exact LeO.refl _ | exact LeO.none _ | refine LeO.ite ?_ ?_ | refine LeO.bind ?_ (fun _ => ?_)
set_option maxHeartbeats 8000000 in
set_option maxRecDepth 100000 in
theorem spec_l2Sounds.calls (k : Nat) (a0 : ByteArray) (r : Bool) (w : World) (h : spec_l2Sounds.f k a0 = some r) :
  Calls Tryz.prog 94 #[.string a0] w fun e w' => e = .returned (.bool r) ∧ Drawn0 w w' := by
 have H := h; unfold spec_l2Sounds.f at H; clear h; have H' := Aside0.mk H; clear H
 go_enter Tryz.func94, Tryz.ntmps94
 go_wp2
 go_loopg [3] k (fun kq v3 w' => ∃ (x3_1 : Int), v3 = .int .i64 x3_1 ∧ Aside0 (spec_l2Sounds.l0 kq a0 x3_1 = some r) ∧ Aside0 (kq ≤ k) ∧ Drawn0 w w')
 case atStart => exact ⟨(0), rdT, H', ⟨Nat.le_refl _⟩, drT⟩
 case round =>
  clear H'; obtain ⟨x3_1, rfl, HA, HK1, ⟨m1, rfl⟩⟩ := hrel
  cases gk with
  | zero => exact absurd HA.out (by simp [spec_l2Sounds.l0])
  | succ k1 =>
   have H := HA.out; clear HA
   simp only [spec_l2Sounds.l0] at H
   by_cases c2 : x3_1 < (a0.size : Int)
   ·rw [if_pos c2] at H
    have c2b0 : decide (x3_1 < (a0.size : Int)) = true := decide_eq_true c2
    clear c2
    by_cases c3 : 0 ≤ x3_1
    ·rw [if_pos c3] at H
     have c3b0 : decide (0 ≤ x3_1) = true := decide_eq_true c3
     clear c3; obtain ⟨t205, A5, H⟩ := be H
     by_cases c6 : t205 = true
     ·subst c6
      rw [if_pos rfl] at H; have H' := Aside0.mk H; clear H
      have p4 : 0 ≤ (x3_1 : Int) := of_decide_eq_true asmT
      have q4 : x3_1 < (a0.size : Int) := of_decide_eq_true asmT
      have hx4 := bt_at a0 x3_1; replace p4 := eq_true p4; replace q4 := eq_true q4
      go_wp2_with (first | ((with_reducible refine gate_callee (f := 97) rfl ?_); refine goesL_ (some 13) rfl rfl Tryz.func97 (by kernel_rfl) rfl #[.int .u8 (bt a0 x3_1)] rfl eqT ?_; (with_reducible refine (spec_IsSound.calls k1 (bt a0 x3_1) true _ A5.out).mono ?_); rintro e w' ⟨rfl, ⟨nd, rfl⟩⟩; refine ⟨_, rfl, ?_⟩))
      go_roundg k1
      case measure => have := HK1.out; omega
      case rel => exact ⟨(wrap64 (x3_1 + 1)), rdT, H', ⟨by have := HK1.out; omega⟩, drT⟩
     ·replace c6 := Bool.eq_false_iff.mpr c6
      subst c6; rw [if_neg nF] at H; have H1 := H; clear H; have H := H1; clear H1
      obtain rfl := Option.some.inj H
      have p4 : 0 ≤ (x3_1 : Int) := of_decide_eq_true asmT
      have q4 : x3_1 < (a0.size : Int) := of_decide_eq_true asmT
      have hx4 := bt_at a0 x3_1; replace p4 := eq_true p4; replace q4 := eq_true q4
      go_wp2_with (first | ((with_reducible refine gate_callee (f := 97) rfl ?_); refine goesL_ (some 13) rfl rfl Tryz.func97 (by kernel_rfl) rfl #[.int .u8 (bt a0 x3_1)] rfl eqT ?_; (with_reducible refine (spec_IsSound.calls k1 (bt a0 x3_1) false _ A5.out).mono ?_); rintro e w' ⟨rfl, ⟨nd, rfl⟩⟩; refine ⟨_, rfl, ?_⟩))
      go_ret
      exact ⟨rdT, drT⟩
    ·rw [if_neg c3] at H
     exact absurd H (by simp)
   ·rw [if_neg c2] at H
    have c2b0 : decide (x3_1 < (a0.size : Int)) = false := decide_eq_false c2
    clear c2
    obtain rfl := Option.some.inj H
    go_wp2
    go_ret
    exact ⟨rdT, drT⟩
def spec_IsForm.f (k : Nat) (a0 : ByteArray) : Option (Bool) := (spec_l2Sounds.f k a0).bind fun t206 => (if t206 = true then (some (decide ((a0.size : Int) ≤ 8))) else (some false))
theorem spec_IsForm.mono : ∀ a0 k, LeO (spec_IsForm.f k a0) (spec_IsForm.f (k + 1) a0) := by
 intro a0 k
 unfold spec_IsForm.f
 with_reducible repeat' first | exact spec_l2Sounds.mono _ _ | exact LeO.refl _ | exact LeO.none _ | refine LeO.ite ?_ ?_ | refine LeO.bind ?_ (fun _ => ?_)
set_option maxHeartbeats 8000000 in
set_option maxRecDepth 100000 in
theorem spec_IsForm.calls (k : Nat) (a0 : ByteArray) (r : Bool) (w : World) (h : spec_IsForm.f k a0 = some r) :
  Calls Tryz.prog 66 #[.string a0] w fun e w' => e = .returned (.bool r) ∧ Drawn0 w w' := by
 have H := h; unfold spec_IsForm.f at H; clear h; obtain ⟨t206, A2, H⟩ := be H
 by_cases c3 : t206 = true
 ·subst c3
  rw [if_pos rfl] at H; have H1 := H; clear H; have H := H1; clear H1
  obtain rfl := Option.some.inj H
  go_enter Tryz.func66, Tryz.ntmps66
  go_wp2_with (first | ((with_reducible refine gate_callee (f := 94) rfl ?_); refine goesL_ (some 4) rfl rfl Tryz.func94 (by kernel_rfl) rfl #[.string a0] rfl eqT ?_; (with_reducible refine (spec_l2Sounds.calls k a0 true _ A2.out).mono ?_); rintro e w' ⟨rfl, ⟨nd, rfl⟩⟩; refine ⟨_, rfl, ?_⟩))
  go_ret
  exact ⟨rdT, drT⟩
 ·replace c3 := Bool.eq_false_iff.mpr c3
  subst c3; rw [if_neg nF] at H; have H1 := H; clear H; have H := H1; clear H1
  obtain rfl := Option.some.inj H
  go_enter Tryz.func66, Tryz.ntmps66
  go_wp2_with (first | ((with_reducible refine gate_callee (f := 94) rfl ?_); refine goesL_ (some 4) rfl rfl Tryz.func94 (by kernel_rfl) rfl #[.string a0] rfl eqT ?_; (with_reducible refine (spec_l2Sounds.calls k a0 false _ A2.out).mono ?_); rintro e w' ⟨rfl, ⟨nd, rfl⟩⟩; refine ⟨_, rfl, ?_⟩))
  go_ret
  exact ⟨rdT, drT⟩
def spec_l6Out.l0 : Nat → List Int → Int → List (S103) → Option (ByteArray)
 | 0, _, _, _ => none
 | k + 1, x3, x4, x208000 => if x4 < (x208000.length : Int) then (if 0 ≤ x4 then (if ((rd_T103 x208000 x4).f1) = 0 then (spec_l6Out.l0 k x3 (wrap64 (x4 + 1)) x208000) else (if x3.length < 140737488355328 then (spec_l6Out.l0 k (x3 ++ [(rd_T103 x208000 x4).f1]) (wrap64 (x4 + 1)) x208000) else (none))) else (none)) else (some (strOfNums x3))
def spec_l6Out.f (k : Nat) (l0_0 : List (S103)) : Option (ByteArray) := spec_l6Out.l0 k (([] : List Int)) 0 l0_0
theorem spec_l6Out.mono_l : ∀ k, (∀ y0 y1 y2, LeO (spec_l6Out.l0 k y0 y1 y2) (spec_l6Out.l0 (k + 1) y0 y1 y2))
 | 0 => fun _ _ _ r h => by simp [spec_l6Out.l0] at h
 | k + 1 => by
  have ih0 := spec_l6Out.mono_l k
  ·intro y0 y1 y2
   unfold spec_l6Out.l0
   with_reducible repeat' first | exact ih0 _ _ _ | exact LeO.refl _ | exact LeO.none _ | refine LeO.ite ?_ ?_ | refine LeO.bind ?_ (fun _ => ?_)
theorem spec_l6Out.mono : ∀ a0 k, LeO (spec_l6Out.f k a0) (spec_l6Out.f (k + 1) a0) := by
 intro a0 k
 have ih0 := spec_l6Out.mono_l k
 unfold spec_l6Out.f
 with_reducible repeat' first | exact ih0 _ _ _ | exact LeO.refl _ | exact LeO.none _ | refine LeO.ite ?_ ?_ | refine LeO.bind ?_ (fun _ => ?_)
set_option maxHeartbeats 8000000 in
set_option maxRecDepth 100000 in
theorem spec_l6Out.calls (k : Nat) (A0_0 : Option Addr) (c0_0 : Nat) (l0_0 : List (S103)) (r : ByteArray) (w : World) (hr0_0 : Kd.C k103 w A0_0 l0_0.length l0_0) (hc0_0 : l0_0.length ≤ c0_0) (h : spec_l6Out.f k l0_0 = some r) :
  Calls Tryz.prog 89 #[.agg #[.slice A0_0 l0_0.length c0_0]] w fun e w' => e = .returned (.string r) ∧ Below w.heap.size w w' := by
 have hu77 := Tryz.underlying77; have HR0_0 := Aside0.mk hr0_0; have HC0_0 := Aside0.mk hc0_0; clear hr0_0 hc0_0; have HB := asT (Below.refl w.heap.size w); have H := h; unfold spec_l6Out.f at H; clear h; obtain ⟨y208, hy208⟩ : ∃ y_ : List Int, y_ = (([] : List Int)) := ⟨_, rfl⟩
 replace H : (spec_l6Out.l0 k y208 0 l0_0) = some r := by first | (rw [hy208]; with_reducible exact H) | (have H2_ := (Option.bind_some _ _).symm.trans H; rw [hy208]; with_reducible exact H2_) | (have H2_ := (Option.bind_some _ _).symm.trans H; with_reducible exact H2_) | with_reducible exact H | (rw [hy208]; exact H) | exact H
 have Ny208 := Aside0.mk hy208; clear hy208; have H' := Aside0.mk H; clear H
 go_enter Tryz.func89, Tryz.ntmps89
 go_wp2_with (first | ((with_reducible refine gate_dst (N := 1) rfl ?_); refine boxT (N := 1) (cs := #[.slice A0_0 l0_0.length c0_0]) (t := 77) ?_; intro gb207 hg w2 hbox hb; have BK207 := asT hbox; have GW207 := asT (geT hg HB.out); have GE207 := GW207; replace HB := hS HB hb; clear hb hbox hg) | ((with_reducible refine gate_dst (N := 5) rfl ?_); refine Kd.R_lit (Kd.int .u8) _ 5 ?hg (N := 5) ?hd (xs := ([] : List Int)) (inner := []) (ok := fun _ => True) (okp := fun _ => True) ?hr ?hp (fun _ hk => hk) trivial (Below.refl _ _) (Nat.le_refl _) (by simp) ?_; (case hd => rfl); (case hg => rfl); (case hr => first | (go_simp; done) | (go_simp; rfl)); (case hp => exact (Reps.none _ _)); intro v209 w3 ho4 hb hg_ hnew_; clear hg_ hnew_; (first | rw [← Ny208.out] at ho4 | (simp only [Int.reduceToNat] at ho4; rw [← Ny208.out] at ho4)); have HO210 := asT (Kd.R_lower ho4 (below_size (hbT HB.out))); replace BK207 := bS BK207 hb; replace HB := hS HB hb; clear hb ho4))
 go_loopg [3, 4] k (fun kq v3 v4 w' => ∃ (x3_1 : List Int) (x4_1 : Int), v4 = .int .i64 x4_1 ∧ Aside0 (spec_l6Out.l0 kq x3_1 x4_1 l0_0 = some r) ∧ Aside0 (kq ≤ k) ∧ Aside0 (Kd.R (Kd.int .u8) 5 w' w.heap.size (fun _ => True) v3 x3_1) ∧ Aside0 (w'.heap[gb207]? = some (.cells #[(.slice A0_0 l0_0.length c0_0)] 77 (0, 0))) ∧ Aside0 (Below w.heap.size w w'))
 case atStart => exact ⟨(y208), (0), rdT, H', ⟨Nat.le_refl _⟩, ⟨by (with_reducible repeat (first | apply Kd.R_alloc | apply Kd.R_drewN | apply Kd.R_drew)); exact HO210.out⟩, ⟨by (with_reducible repeat (first | refine blk_drewN ?_ _ | refine blk_drew ?_ | refine blk_alloc ?_ _)); exact BK207.out⟩, ⟨hbT HB.out⟩⟩
 case round =>
  clear H'; (try clear p2); obtain ⟨x3_1, x4_1, rfl, HA, HK1, HO_3, BK207, HB⟩ := hrel
  cases gk with
  | zero => exact absurd HA.out (by simp [spec_l6Out.l0])
  | succ k1 =>
   have H := HA.out; clear HA
   simp only [spec_l6Out.l0] at H
   by_cases c5 : x4_1 < (l0_0.length : Int)
   ·rw [if_pos c5] at H
    have c5b0 : decide (x4_1 < (l0_0.length : Int)) = true := decide_eq_true c5
    clear c5
    by_cases c6 : 0 ≤ x4_1
    ·rw [if_pos c6] at H
     have c6b0 : decide (0 ≤ x4_1) = true := decide_eq_true c6
     clear c6
     by_cases c7 : ((rd_T103 l0_0 x4_1).f1) = 0
     ·rw [if_pos c7] at H
      have c7b0 : (((rd_T103 l0_0 x4_1).f1) == 0) = true := beq_iff_eq.mpr c7
      have c7b1 : (((rd_T103 l0_0 x4_1).f1) != 0) = false := bne_eq_false_iff_eq.mpr c7
      clear c7; have H' := Aside0.mk H; clear H
      have hcz8_0 := bc0 BK207.out
      have hfz8_0 := blk_frozen BK207.out 0
      have p211 : 0 ≤ (x4_1 : Int) := of_decide_eq_true asmT
      have q211 : x4_1 < (l0_0.length : Int) := of_decide_eq_true asmT
      obtain ⟨ad211, e211, hx211_0, hx211_1⟩ := at_T103 HR0_0.out x4_1 p211 q211
      cases e211
      replace hx211_0 := hbc HB.out hx211_0; replace hx211_1 := hbc HB.out hx211_1; replace p211 := eq_true p211; replace q211 := eq_true q211
      go_wp2
      go_roundg k1
      case measure => have := HK1.out; omega
      case rel => exact ⟨(x3_1), (wrap64 (x4_1 + 1)), rdT, H', ⟨by have := HK1.out; omega⟩, ⟨by (with_reducible repeat (first | apply Kd.R_alloc | apply Kd.R_drewN | apply Kd.R_drew)); exact HO_3.out⟩, ⟨by (with_reducible repeat (first | refine blk_drewN ?_ _ | refine blk_drew ?_ | refine blk_alloc ?_ _)); exact BK207.out⟩, ⟨hbT HB.out⟩⟩
     ·rw [if_neg c7] at H
      have c7b0 : (((rd_T103 l0_0 x4_1).f1) == 0) = false := beq_eq_false_iff_ne.mpr c7
      have c7b1 : (((rd_T103 l0_0 x4_1).f1) != 0) = true := bne_iff_ne.mpr c7
      by_cases c9 : x3_1.length < 140737488355328
      ·rw [if_pos c9] at H
       have LMc9 := Aside0.mk c9; clear c9; obtain ⟨y213, hy213⟩ : ∃ y_ : List Int, y_ = (x3_1 ++ [(rd_T103 l0_0 x4_1).f1]) := ⟨_, rfl⟩
       replace H : (spec_l6Out.l0 k1 y213 (wrap64 (x4_1 + 1)) l0_0) = some r := by first | (rw [hy213]; with_reducible exact H) | (have H2_ := (Option.bind_some _ _).symm.trans H; rw [hy213]; with_reducible exact H2_) | (have H2_ := (Option.bind_some _ _).symm.trans H; with_reducible exact H2_) | with_reducible exact H | (rw [hy213]; exact H) | exact H
       have Ny213 := Aside0.mk hy213; clear hy213; have H' := Aside0.mk H; clear H
       have hcz10_0 := bc0 BK207.out
       have hfz10_0 := blk_frozen BK207.out 0
       have p211 : 0 ≤ (x4_1 : Int) := of_decide_eq_true asmT
       have q211 : x4_1 < (l0_0.length : Int) := of_decide_eq_true asmT
       obtain ⟨ad211, e211, hx211_0, hx211_1⟩ := at_T103 HR0_0.out x4_1 p211 q211
       cases e211
       replace hx211_0 := hbc HB.out hx211_0; replace hx211_1 := hbc HB.out hx211_1; replace p211 := eq_true p211; replace q211 := eq_true q211
       have p212 : 0 ≤ (x4_1 : Int) := of_decide_eq_true asmT
       have q212 : x4_1 < (l0_0.length : Int) := of_decide_eq_true asmT
       obtain ⟨ad212, e212, hx212_0, hx212_1⟩ := at_T103 HR0_0.out x4_1 p212 q212
       obtain rfl : ad211 = ad212 := (by injection e212)
       replace hx212_0 := hbc HB.out hx212_0; replace hx212_1 := hbc HB.out hx212_1; replace p212 := eq_true p212; replace q212 := eq_true q212
       go_wp2_with (first | ((with_reducible refine gate_builtin (b := .append) (xs := #[.tmp 20, .tmp 27]) rfl ?_); at_builtin; refine Kd.R_append (Kd.int .u8) (w0 := w) w.heap.size rfl (.tmp 20) (.tmp 27) 99 5 (.int .u8 0) 1 rfl Tryz.underlying99 info5 rfl (by decide) (by omega) u3 x3_1 ((rd_T103 l0_0 x4_1).f1) [.int .u8 ((rd_T103 l0_0 x4_1).f1)] (fun _ => True) (fun _ => False) rfl rfl ?aP (fun _ hk => hk.elim) ?aF ?aO ?aB ?aS ?aL ?_; (case aP => exact rfl); (case aB => exact (hbT HB.out)); (case aF => exact (fun _ _ => trivial)); (case aO => exact (roT HO_3.out)); (case aS => exact (below_size (hbT HB.out))); (case aL => have := LMc9.out; omega); intro v214 w11 ho hb hg hat; rw [← Ny213.out] at ho; replace BK207 := asT (blk_grown (g := gb207) (o := .cells #[.slice (some ad211) l0_0.length c0_0] 77 (0, 0)) (bkT BK207.out) hg (Kd.R_ne HO_3.out BK207.out (by decide))); replace HB := asT (hb); have HO215 := asT (ho); clear HO_3 ho hb hg hat))
       go_roundg k1
       case measure => have := HK1.out; omega
       case rel => exact ⟨(y213), (wrap64 (x4_1 + 1)), rdT, H', ⟨by have := HK1.out; omega⟩, ⟨by (with_reducible repeat (first | apply Kd.R_alloc | apply Kd.R_drewN | apply Kd.R_drew)); exact HO215.out⟩, ⟨by (with_reducible repeat (first | refine blk_drewN ?_ _ | refine blk_drew ?_ | refine blk_alloc ?_ _)); exact BK207.out⟩, ⟨hbT HB.out⟩⟩
      ·rw [if_neg c9] at H
       exact absurd H (by simp)
    ·rw [if_neg c6] at H
     exact absurd H (by simp)
   ·rw [if_neg c5] at H
    have c5b0 : decide (x4_1 < (l0_0.length : Int)) = false := decide_eq_false c5
    clear c5
    obtain rfl := Option.some.inj H
    have hcz12_0 := bc0 BK207.out
    have hfz12_0 := blk_frozen BK207.out 0; have hcv13 := own_string (P := Tryz.prog) Tryz.underlying99 Tryz.underlying5 Tryz.underlying9 (Kd.own_of_R HO_3.out)
    go_wp2
    go_ret
    exact ⟨rlT, hbT HB.out⟩
def spec_l6In.l0 : Nat → List Int → Int → List (S103) → Option (ByteArray)
 | 0, _, _, _ => none
 | k + 1, x3, x4, x217000 => if x4 < (x217000.length : Int) then (if 0 ≤ x4 then (if ((rd_T103 x217000 x4).f0) = 0 then (spec_l6In.l0 k x3 (wrap64 (x4 + 1)) x217000) else (if x3.length < 140737488355328 then (spec_l6In.l0 k (x3 ++ [(rd_T103 x217000 x4).f0]) (wrap64 (x4 + 1)) x217000) else (none))) else (none)) else (some (strOfNums x3))
def spec_l6In.f (k : Nat) (l0_0 : List (S103)) : Option (ByteArray) := spec_l6In.l0 k (([] : List Int)) 0 l0_0
theorem spec_l6In.mono_l : ∀ k, (∀ y0 y1 y2, LeO (spec_l6In.l0 k y0 y1 y2) (spec_l6In.l0 (k + 1) y0 y1 y2))
 | 0 => fun _ _ _ r h => by simp [spec_l6In.l0] at h
 | k + 1 => by
  have ih0 := spec_l6In.mono_l k
  ·intro y0 y1 y2
   unfold spec_l6In.l0
   with_reducible repeat' first | exact ih0 _ _ _ | exact LeO.refl _ | exact LeO.none _ | refine LeO.ite ?_ ?_ | refine LeO.bind ?_ (fun _ => ?_)
theorem spec_l6In.mono : ∀ a0 k, LeO (spec_l6In.f k a0) (spec_l6In.f (k + 1) a0) := by
 intro a0 k
 have ih0 := spec_l6In.mono_l k
 unfold spec_l6In.f
 with_reducible repeat' first | exact ih0 _ _ _ | exact LeO.refl _ | exact LeO.none _ | refine LeO.ite ?_ ?_ | refine LeO.bind ?_ (fun _ => ?_)
set_option maxHeartbeats 8000000 in
set_option maxRecDepth 100000 in
theorem spec_l6In.calls (k : Nat) (A0_0 : Option Addr) (c0_0 : Nat) (l0_0 : List (S103)) (r : ByteArray) (w : World) (hr0_0 : Kd.C k103 w A0_0 l0_0.length l0_0) (hc0_0 : l0_0.length ≤ c0_0) (h : spec_l6In.f k l0_0 = some r) :
  Calls Tryz.prog 95 #[.agg #[.slice A0_0 l0_0.length c0_0]] w fun e w' => e = .returned (.string r) ∧ Below w.heap.size w w' := by
 have hu77 := Tryz.underlying77; have HR0_0 := Aside0.mk hr0_0; have HC0_0 := Aside0.mk hc0_0; clear hr0_0 hc0_0; have HB := asT (Below.refl w.heap.size w); have H := h; unfold spec_l6In.f at H; clear h; obtain ⟨y217, hy217⟩ : ∃ y_ : List Int, y_ = (([] : List Int)) := ⟨_, rfl⟩
 replace H : (spec_l6In.l0 k y217 0 l0_0) = some r := by first | (rw [hy217]; with_reducible exact H) | (have H2_ := (Option.bind_some _ _).symm.trans H; rw [hy217]; with_reducible exact H2_) | (have H2_ := (Option.bind_some _ _).symm.trans H; with_reducible exact H2_) | with_reducible exact H | (rw [hy217]; exact H) | exact H
 have Ny217 := Aside0.mk hy217; clear hy217; have H' := Aside0.mk H; clear H
 go_enter Tryz.func95, Tryz.ntmps95
 go_wp2_with (first | ((with_reducible refine gate_dst (N := 1) rfl ?_); refine boxT (N := 1) (cs := #[.slice A0_0 l0_0.length c0_0]) (t := 77) ?_; intro gb216 hg w2 hbox hb; have BK216 := asT hbox; have GW216 := asT (geT hg HB.out); have GE216 := GW216; replace HB := hS HB hb; clear hb hbox hg) | ((with_reducible refine gate_dst (N := 5) rfl ?_); refine Kd.R_lit (Kd.int .u8) _ 5 ?hg (N := 5) ?hd (xs := ([] : List Int)) (inner := []) (ok := fun _ => True) (okp := fun _ => True) ?hr ?hp (fun _ hk => hk) trivial (Below.refl _ _) (Nat.le_refl _) (by simp) ?_; (case hd => rfl); (case hg => rfl); (case hr => first | (go_simp; done) | (go_simp; rfl)); (case hp => exact (Reps.none _ _)); intro v218 w3 ho4 hb hg_ hnew_; clear hg_ hnew_; (first | rw [← Ny217.out] at ho4 | (simp only [Int.reduceToNat] at ho4; rw [← Ny217.out] at ho4)); have HO219 := asT (Kd.R_lower ho4 (below_size (hbT HB.out))); replace BK216 := bS BK216 hb; replace HB := hS HB hb; clear hb ho4))
 go_loopg [3, 4] k (fun kq v3 v4 w' => ∃ (x3_1 : List Int) (x4_1 : Int), v4 = .int .i64 x4_1 ∧ Aside0 (spec_l6In.l0 kq x3_1 x4_1 l0_0 = some r) ∧ Aside0 (kq ≤ k) ∧ Aside0 (Kd.R (Kd.int .u8) 5 w' w.heap.size (fun _ => True) v3 x3_1) ∧ Aside0 (w'.heap[gb216]? = some (.cells #[(.slice A0_0 l0_0.length c0_0)] 77 (0, 0))) ∧ Aside0 (Below w.heap.size w w'))
 case atStart => exact ⟨(y217), (0), rdT, H', ⟨Nat.le_refl _⟩, ⟨by (with_reducible repeat (first | apply Kd.R_alloc | apply Kd.R_drewN | apply Kd.R_drew)); exact HO219.out⟩, ⟨by (with_reducible repeat (first | refine blk_drewN ?_ _ | refine blk_drew ?_ | refine blk_alloc ?_ _)); exact BK216.out⟩, ⟨hbT HB.out⟩⟩
 case round =>
  clear H'; (try clear p2); obtain ⟨x3_1, x4_1, rfl, HA, HK1, HO_3, BK216, HB⟩ := hrel
  cases gk with
  | zero => exact absurd HA.out (by simp [spec_l6In.l0])
  | succ k1 =>
   have H := HA.out; clear HA
   simp only [spec_l6In.l0] at H
   by_cases c5 : x4_1 < (l0_0.length : Int)
   ·rw [if_pos c5] at H
    have c5b0 : decide (x4_1 < (l0_0.length : Int)) = true := decide_eq_true c5
    clear c5
    by_cases c6 : 0 ≤ x4_1
    ·rw [if_pos c6] at H
     have c6b0 : decide (0 ≤ x4_1) = true := decide_eq_true c6
     clear c6
     by_cases c7 : ((rd_T103 l0_0 x4_1).f0) = 0
     ·rw [if_pos c7] at H
      have c7b0 : (((rd_T103 l0_0 x4_1).f0) == 0) = true := beq_iff_eq.mpr c7
      have c7b1 : (((rd_T103 l0_0 x4_1).f0) != 0) = false := bne_eq_false_iff_eq.mpr c7
      clear c7; have H' := Aside0.mk H; clear H
      have hcz8_0 := bc0 BK216.out
      have hfz8_0 := blk_frozen BK216.out 0
      have p220 : 0 ≤ (x4_1 : Int) := of_decide_eq_true asmT
      have q220 : x4_1 < (l0_0.length : Int) := of_decide_eq_true asmT
      obtain ⟨ad220, e220, hx220_0, hx220_1⟩ := at_T103 HR0_0.out x4_1 p220 q220
      cases e220
      replace hx220_0 := hbc HB.out hx220_0; replace hx220_1 := hbc HB.out hx220_1; replace p220 := eq_true p220; replace q220 := eq_true q220
      go_wp2
      go_roundg k1
      case measure => have := HK1.out; omega
      case rel => exact ⟨(x3_1), (wrap64 (x4_1 + 1)), rdT, H', ⟨by have := HK1.out; omega⟩, ⟨by (with_reducible repeat (first | apply Kd.R_alloc | apply Kd.R_drewN | apply Kd.R_drew)); exact HO_3.out⟩, ⟨by (with_reducible repeat (first | refine blk_drewN ?_ _ | refine blk_drew ?_ | refine blk_alloc ?_ _)); exact BK216.out⟩, ⟨hbT HB.out⟩⟩
     ·rw [if_neg c7] at H
      have c7b0 : (((rd_T103 l0_0 x4_1).f0) == 0) = false := beq_eq_false_iff_ne.mpr c7
      have c7b1 : (((rd_T103 l0_0 x4_1).f0) != 0) = true := bne_iff_ne.mpr c7
      by_cases c9 : x3_1.length < 140737488355328
      ·rw [if_pos c9] at H
       have LMc9 := Aside0.mk c9; clear c9; obtain ⟨y222, hy222⟩ : ∃ y_ : List Int, y_ = (x3_1 ++ [(rd_T103 l0_0 x4_1).f0]) := ⟨_, rfl⟩
       replace H : (spec_l6In.l0 k1 y222 (wrap64 (x4_1 + 1)) l0_0) = some r := by first | (rw [hy222]; with_reducible exact H) | (have H2_ := (Option.bind_some _ _).symm.trans H; rw [hy222]; with_reducible exact H2_) | (have H2_ := (Option.bind_some _ _).symm.trans H; with_reducible exact H2_) | with_reducible exact H | (rw [hy222]; exact H) | exact H
       have Ny222 := Aside0.mk hy222; clear hy222; have H' := Aside0.mk H; clear H
       have hcz10_0 := bc0 BK216.out
       have hfz10_0 := blk_frozen BK216.out 0
       have p220 : 0 ≤ (x4_1 : Int) := of_decide_eq_true asmT
       have q220 : x4_1 < (l0_0.length : Int) := of_decide_eq_true asmT
       obtain ⟨ad220, e220, hx220_0, hx220_1⟩ := at_T103 HR0_0.out x4_1 p220 q220
       cases e220
       replace hx220_0 := hbc HB.out hx220_0; replace hx220_1 := hbc HB.out hx220_1; replace p220 := eq_true p220; replace q220 := eq_true q220
       have p221 : 0 ≤ (x4_1 : Int) := of_decide_eq_true asmT
       have q221 : x4_1 < (l0_0.length : Int) := of_decide_eq_true asmT
       obtain ⟨ad221, e221, hx221_0, hx221_1⟩ := at_T103 HR0_0.out x4_1 p221 q221
       obtain rfl : ad220 = ad221 := (by injection e221)
       replace hx221_0 := hbc HB.out hx221_0; replace hx221_1 := hbc HB.out hx221_1; replace p221 := eq_true p221; replace q221 := eq_true q221
       go_wp2_with (first | ((with_reducible refine gate_builtin (b := .append) (xs := #[.tmp 20, .tmp 27]) rfl ?_); at_builtin; refine Kd.R_append (Kd.int .u8) (w0 := w) w.heap.size rfl (.tmp 20) (.tmp 27) 99 5 (.int .u8 0) 1 rfl Tryz.underlying99 info5 rfl (by decide) (by omega) u3 x3_1 ((rd_T103 l0_0 x4_1).f0) [.int .u8 ((rd_T103 l0_0 x4_1).f0)] (fun _ => True) (fun _ => False) rfl rfl ?aP (fun _ hk => hk.elim) ?aF ?aO ?aB ?aS ?aL ?_; (case aP => exact rfl); (case aB => exact (hbT HB.out)); (case aF => exact (fun _ _ => trivial)); (case aO => exact (roT HO_3.out)); (case aS => exact (below_size (hbT HB.out))); (case aL => have := LMc9.out; omega); intro v223 w11 ho hb hg hat; rw [← Ny222.out] at ho; replace BK216 := asT (blk_grown (g := gb216) (o := .cells #[.slice (some ad220) l0_0.length c0_0] 77 (0, 0)) (bkT BK216.out) hg (Kd.R_ne HO_3.out BK216.out (by decide))); replace HB := asT (hb); have HO224 := asT (ho); clear HO_3 ho hb hg hat))
       go_roundg k1
       case measure => have := HK1.out; omega
       case rel => exact ⟨(y222), (wrap64 (x4_1 + 1)), rdT, H', ⟨by have := HK1.out; omega⟩, ⟨by (with_reducible repeat (first | apply Kd.R_alloc | apply Kd.R_drewN | apply Kd.R_drew)); exact HO224.out⟩, ⟨by (with_reducible repeat (first | refine blk_drewN ?_ _ | refine blk_drew ?_ | refine blk_alloc ?_ _)); exact BK216.out⟩, ⟨hbT HB.out⟩⟩
      ·rw [if_neg c9] at H
       exact absurd H (by simp)
    ·rw [if_neg c6] at H
     exact absurd H (by simp)
   ·rw [if_neg c5] at H
    have c5b0 : decide (x4_1 < (l0_0.length : Int)) = false := decide_eq_false c5
    clear c5
    obtain rfl := Option.some.inj H
    have hcz12_0 := bc0 BK216.out
    have hfz12_0 := blk_frozen BK216.out 0; have hcv13 := own_string (P := Tryz.prog) Tryz.underlying99 Tryz.underlying5 Tryz.underlying9 (Kd.own_of_R HO_3.out)
    go_wp2
    go_ret
    exact ⟨rlT, hbT HB.out⟩
def spec_SwapVoice.f (a0 : Int) : Option (Int × Bool) := if a0 = 112 then (some (98, true)) else (if a0 = 98 then (some (112, true)) else (if a0 = 116 then (some (100, true)) else (if a0 = 100 then (some (116, true)) else (some (a0, false)))))
set_option maxHeartbeats 8000000 in
set_option maxRecDepth 100000 in
theorem spec_SwapVoice.calls (a0 : Int) (r1 : Int) (r2 : Bool) (w : World) (h : spec_SwapVoice.f a0 = some (r1, r2)) :
  Calls Tryz.prog 96 #[.int .u8 a0] w fun e w' => e = .returned (.tuple #[.int .u8 r1, .bool r2]) ∧ Drawn0 w w' := by
 have H := h; unfold spec_SwapVoice.f at H; clear h
 by_cases c2 : a0 = 112
 ·rw [if_pos c2] at H
  have c2b0 : (a0 == 112) = true := beq_iff_eq.mpr c2
  have c2b1 : (a0 != 112) = false := bne_eq_false_iff_eq.mpr c2
  clear c2
  simp only [Option.some.injEq, Prod.mk.injEq] at H
  obtain ⟨rfl, rfl⟩ := H
  go_enter Tryz.func96, Tryz.ntmps96
  go_wp2
  go_ret2
  exact ⟨rdT, drT⟩
 ·rw [if_neg c2] at H
  have c2b0 : (a0 == 112) = false := beq_eq_false_iff_ne.mpr c2
  have c2b1 : (a0 != 112) = true := bne_iff_ne.mpr c2
  by_cases c3 : a0 = 98
  ·rw [if_pos c3] at H
   have c3b0 : (a0 == 98) = true := beq_iff_eq.mpr c3
   have c3b1 : (a0 != 98) = false := bne_eq_false_iff_eq.mpr c3
   clear c3
   simp only [Option.some.injEq, Prod.mk.injEq] at H
   obtain ⟨rfl, rfl⟩ := H
   go_enter Tryz.func96, Tryz.ntmps96
   go_wp2
   go_ret2
   exact ⟨rdT, drT⟩
  ·rw [if_neg c3] at H
   have c3b0 : (a0 == 98) = false := beq_eq_false_iff_ne.mpr c3
   have c3b1 : (a0 != 98) = true := bne_iff_ne.mpr c3
   by_cases c4 : a0 = 116
   ·rw [if_pos c4] at H
    have c4b0 : (a0 == 116) = true := beq_iff_eq.mpr c4
    have c4b1 : (a0 != 116) = false := bne_eq_false_iff_eq.mpr c4
    clear c4
    simp only [Option.some.injEq, Prod.mk.injEq] at H
    obtain ⟨rfl, rfl⟩ := H
    go_enter Tryz.func96, Tryz.ntmps96
    go_wp2
    go_ret2
    exact ⟨rdT, drT⟩
   ·rw [if_neg c4] at H
    have c4b0 : (a0 == 116) = false := beq_eq_false_iff_ne.mpr c4
    have c4b1 : (a0 != 116) = true := bne_iff_ne.mpr c4
    by_cases c5 : a0 = 100
    ·rw [if_pos c5] at H
     have c5b0 : (a0 == 100) = true := beq_iff_eq.mpr c5
     have c5b1 : (a0 != 100) = false := bne_eq_false_iff_eq.mpr c5
     clear c5
     simp only [Option.some.injEq, Prod.mk.injEq] at H
     obtain ⟨rfl, rfl⟩ := H
     go_enter Tryz.func96, Tryz.ntmps96
     go_wp2
     go_ret2
     exact ⟨rdT, drT⟩
    ·rw [if_neg c5] at H
     have c5b0 : (a0 == 100) = false := beq_eq_false_iff_ne.mpr c5
     have c5b1 : (a0 != 100) = true := bne_iff_ne.mpr c5
     simp only [Option.some.injEq, Prod.mk.injEq] at H
     obtain ⟨rfl, rfl⟩ := H
     go_enter Tryz.func96, Tryz.ntmps96
     go_wp2
     go_ret2
     exact ⟨rdT, drT⟩
end Go.Proofs.YtmfhaplhgaehhabGreat.PFnExactFatalMark
