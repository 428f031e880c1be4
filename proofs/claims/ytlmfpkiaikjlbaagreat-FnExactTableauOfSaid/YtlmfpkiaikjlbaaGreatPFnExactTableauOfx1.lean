-- Made by gen.py (a program of this session) out of the translation; Lean checks it.
import Derived.Test.YtlmfpkiaikjlbaaGreatPFnExactTableauOfx0
namespace Go.Proofs.YtlmfpkiaikjlbaaGreat.PFnExactTableauOf
open Go.RowKit Go.Proofs.YtlmfpkiaikjlbaaGreatB Go.Proofs.YtlmfpkiaikjlbaaGreatW.PrintWords Go.Proofs.YtlmfpkiaikjlbaaGreatW.PrintLast Go.Proofs.YtlmfpkiaikjlbaaGreatW.PrintMore
attribute [local go_sem] max2_int min2_int max_two min_two max_three min_three max_four min_four   -- for this text's walks alone
set_option linter.unusedVariables false
set_option maxHeartbeats 8000000
set_option maxRecDepth 100000
set_option linter.unusedSimpArgs false
def laws_szStringS.l0 : Nat → List ByteArray → Int → Int → Option (Int)
 | 0, _, _, _ => none
 | k + 1, x0, x1, x5 => if x5 < (x0.length : Int) then (if 0 ≤ x5 then (if (wrap64 (x1 - ((rdOf ByteArray.empty x0 x5).size : Int))) < 0 then (some (-1)) else (laws_szStringS.l0 k x0 (wrap64 (x1 - ((rdOf ByteArray.empty x0 x5).size : Int))) (wrap64 (x5 + 1)))) else (none)) else (some x1)
def laws_szStringS.f (k : Nat) (l0 : List ByteArray) (a1 : Int) : Option (Int) := if (wrap64 (a1 - (l0.length : Int))) < 0 then (some (-1)) else (laws_szStringS.l0 k l0 (wrap64 (a1 - (l0.length : Int))) 0)
theorem laws_szStringS.mono_l : ∀ k, (∀ y0 y1 y2, LeO (laws_szStringS.l0 k y0 y1 y2) (laws_szStringS.l0 (k + 1) y0 y1 y2))
 | 0 => fun _ _ _ r h => by simp [laws_szStringS.l0] at h
 | k + 1 => by
  have ih0 := laws_szStringS.mono_l k
  ·intro y0 y1 y2; unfold laws_szStringS.l0
   with_reducible repeat' first | exact ih0 _ _ _ | exact LeO.refl _ | exact LeO.none _ | refine LeO.ite ?_ ?_ | refine LeO.bind ?_ (fun _ => ?_)
theorem laws_szStringS.mono : ∀ a0 a1 k, LeO (laws_szStringS.f k a0 a1) (laws_szStringS.f (k + 1) a0 a1) := by
 intro a0 a1 k; have ih0 := laws_szStringS.mono_l k; unfold laws_szStringS.f
 with_reducible repeat' first | exact ih0 _ _ _ | exact LeO.refl _ | exact LeO.none _ | refine LeO.ite ?_ ?_ | refine LeO.bind ?_ (fun _ => ?_)
theorem laws_szStringS.calls (k : Nat) (A0 : Option Addr) (c0 : Nat) (l0 : List ByteArray) (a1 : Int) (r : Int) (w : World) (hr0 : Kd.C Kd.string w A0 l0.length l0) (hc0 : l0.length ≤ c0) (h : laws_szStringS.f k l0 a1 = some r) :
  Calls Tryz.prog 8 #[.slice A0 l0.length c0, .int .i64 a1] w fun e w' => e = .returned (.int .i64 r) ∧ Drawn0 w w' := by
 have HR0 := asT hr0; have HC0 := asT hc0; clear hr0 hc0; have H := h; unfold laws_szStringS.f at H; clear h; by_cases c3 : (wrap64 (a1 - (l0.length : Int))) < 0
 ·rw [if_pos c3] at H; have c3b0 := dt c3; clear c3; obtain rfl := oI H; go_enter Tryz.func8, Tryz.ntmps8
  go_wp2
  go_ret; exact ⟨rdT, drT⟩
 ·rw [if_neg c3] at H; have c3b0 := df c3; clear c3; have H' := asT H; clear H; go_enter Tryz.func8, Tryz.ntmps8
  go_wp2
  go_loopg [1, 5] k (fun kq v1 v5 w' => ∃ (x1_1 : Int) (x5_1 : Int), v1 = .int .i64 x1_1 ∧ v5 = .int .i64 x5_1 ∧ Aside0 (laws_szStringS.l0 kq l0 x1_1 x5_1 = some r) ∧ Aside0 (kq ≤ k) ∧ Drawn0 w w')
  case atStart => exact ⟨(wrap64 (a1 - (l0.length : Int))), (0), rdT, rdT, H', ⟨Nat.le_refl _⟩, drT⟩
  case round =>
   clear H'; (try clear p2 c3 c3b0); obtain ⟨x1_1, x5_1, rfl, rfl, HA, HK1, ⟨m1, rfl⟩⟩ := hrel
   cases gk with
   | zero => exact absurd HA.out (by simp [laws_szStringS.l0])
   | succ k1 =>
    have H := HA.out; clear HA
    simp only [laws_szStringS.l0] at H
    by_cases c4 : x5_1 < (l0.length : Int)
    ·rw [if_pos c4] at H; have c4b0 := dt c4; clear c4; by_cases c5 : 0 ≤ x5_1
     ·rw [if_pos c5] at H; have c5b0 := dt c5; clear c5; by_cases c6 : (wrap64 (x1_1 - ((rdOf ByteArray.empty l0 x5_1).size : Int))) < 0
      ·rw [if_pos c6] at H; have c6b0 := dt c6; clear c6; obtain rfl := oI H; have p101 : 0 ≤ (x5_1 : Int) := dT asmT; have q101 : x5_1 < (l0.length : Int) := dT asmT; obtain ⟨ad101, e101, hx101_0⟩ := Kd.at_string HR0.out x5_1 p101 q101
       cases e101
       replace p101 := eq_true p101; replace q101 := eq_true q101
       go_wp2
       go_ret; exact ⟨rdT, drT⟩
      ·rw [if_neg c6] at H; have c6b0 := df c6; clear c6; have H' := asT H; clear H; have p101 : 0 ≤ (x5_1 : Int) := dT asmT; have q101 : x5_1 < (l0.length : Int) := dT asmT; obtain ⟨ad101, e101, hx101_0⟩ := Kd.at_string HR0.out x5_1 p101 q101
       cases e101
       replace p101 := eq_true p101; replace q101 := eq_true q101
       go_wp2
       go_roundg k1
       case measure => have := HK1.out; omega
       case rel => exact ⟨(wrap64 (x1_1 - ((rdOf ByteArray.empty l0 x5_1).size : Int))), (wrap64 (x5_1 + 1)), rdT, rdT, H', ⟨by have := HK1.out; omega⟩, drT⟩
     ·rw [if_neg c5] at H; exact absurd H (by simp)
    ·rw [if_neg c4] at H; have c4b0 := df c4; clear c4; obtain rfl := oI H
     go_wp2
     go_ret; exact ⟨rdT, drT⟩
def spec_l3Has.l0 : Nat → List ByteArray → ByteArray → Int → Option (Bool)
 | 0, _, _, _ => none
 | k + 1, x0, x1, x5 => if x5 < (x0.length : Int) then (if 0 ≤ x5 then (if (rdOf ByteArray.empty x0 x5).toList = x1.toList then (some true) else (spec_l3Has.l0 k x0 x1 (wrap64 (x5 + 1)))) else (none)) else (some false)
def spec_l3Has.f (k : Nat) (l0 : List ByteArray) (a1 : ByteArray) : Option (Bool) := spec_l3Has.l0 k l0 a1 0
theorem spec_l3Has.mono_l : ∀ k, (∀ y0 y1 y2, LeO (spec_l3Has.l0 k y0 y1 y2) (spec_l3Has.l0 (k + 1) y0 y1 y2))
 | 0 => fun _ _ _ r h => by simp [spec_l3Has.l0] at h
 | k + 1 => by
  have ih0 := spec_l3Has.mono_l k
  ·intro y0 y1 y2; unfold spec_l3Has.l0
   with_reducible repeat' first | exact ih0 _ _ _ | exact LeO.refl _ | exact LeO.none _ | refine LeO.ite ?_ ?_ | refine LeO.bind ?_ (fun _ => ?_)
theorem spec_l3Has.mono : ∀ a0 a1 k, LeO (spec_l3Has.f k a0 a1) (spec_l3Has.f (k + 1) a0 a1) := by
 intro a0 a1 k; have ih0 := spec_l3Has.mono_l k; unfold spec_l3Has.f
 with_reducible repeat' first | exact ih0 _ _ _ | exact LeO.refl _ | exact LeO.none _ | refine LeO.ite ?_ ?_ | refine LeO.bind ?_ (fun _ => ?_)
theorem spec_l3Has.calls (k : Nat) (A0 : Option Addr) (c0 : Nat) (l0 : List ByteArray) (a1 : ByteArray) (r : Bool) (w : World) (hr0 : Kd.C Kd.string w A0 l0.length l0) (hc0 : l0.length ≤ c0) (h : spec_l3Has.f k l0 a1 = some r) :
  Calls Tryz.prog 72 #[.slice A0 l0.length c0, .string a1] w fun e w' => e = .returned (.bool r) ∧ Drawn0 w w' := by
 have HR0 := asT hr0; have HC0 := asT hc0; clear hr0 hc0; have H := h; unfold spec_l3Has.f at H; clear h; have H' := asT H; clear H; go_enter Tryz.func72, Tryz.ntmps72
 go_wp2
 go_loopg [5] k (fun kq v5 w' => ∃ (x5_1 : Int), v5 = .int .i64 x5_1 ∧ Aside0 (spec_l3Has.l0 kq l0 a1 x5_1 = some r) ∧ Aside0 (kq ≤ k) ∧ Drawn0 w w')
 case atStart => exact ⟨(0), rdT, H', ⟨Nat.le_refl _⟩, drT⟩
 case round =>
  clear H'; (try clear p2); obtain ⟨x5_1, rfl, HA, HK1, ⟨m1, rfl⟩⟩ := hrel
  cases gk with
  | zero => exact absurd HA.out (by simp [spec_l3Has.l0])
  | succ k1 =>
   have H := HA.out; clear HA
   simp only [spec_l3Has.l0] at H
   by_cases c3 : x5_1 < (l0.length : Int)
   ·rw [if_pos c3] at H; have c3b0 := dt c3; clear c3; by_cases c4 : 0 ≤ x5_1
    ·rw [if_pos c4] at H; have c4b0 := dt c4; clear c4; by_cases c5 : (rdOf ByteArray.empty l0 x5_1).toList = a1.toList
     ·rw [if_pos c5] at H; have c5b0 : ((rdOf ByteArray.empty l0 x5_1).toList == a1.toList) = true := eC c5; have c5b1 : ((rdOf ByteArray.empty l0 x5_1).toList != a1.toList) = false := eA c5; clear c5; obtain rfl := oI H; have p102 : 0 ≤ (x5_1 : Int) := dT asmT; have q102 : x5_1 < (l0.length : Int) := dT asmT; obtain ⟨ad102, e102, hx102_0⟩ := Kd.at_string HR0.out x5_1 p102 q102
      cases e102
      replace p102 := eq_true p102; replace q102 := eq_true q102
      go_wp2
      go_ret; exact ⟨rdT, drT⟩
     ·rw [if_neg c5] at H; have c5b0 : ((rdOf ByteArray.empty l0 x5_1).toList == a1.toList) = false := eB c5; have c5b1 : ((rdOf ByteArray.empty l0 x5_1).toList != a1.toList) = true := eD c5; have H' := asT H; clear H; have p102 : 0 ≤ (x5_1 : Int) := dT asmT; have q102 : x5_1 < (l0.length : Int) := dT asmT; obtain ⟨ad102, e102, hx102_0⟩ := Kd.at_string HR0.out x5_1 p102 q102
      cases e102
      replace p102 := eq_true p102; replace q102 := eq_true q102
      go_wp2
      go_roundg k1
      case measure => have := HK1.out; omega
      case rel => exact ⟨(wrap64 (x5_1 + 1)), rdT, H', ⟨by have := HK1.out; omega⟩, drT⟩
    ·rw [if_neg c4] at H; exact absurd H (by simp)
   ·rw [if_neg c3] at H; have c3b0 := df c3; clear c3; obtain rfl := oI H
    go_wp2
    go_ret; exact ⟨rdT, drT⟩
def spec_ConstraintNames.f  : Option (List ByteArray) := some (([(⟨#[111, 110, 115, 101, 116]⟩ : ByteArray), (⟨#[110, 111, 99, 111, 100, 97]⟩ : ByteArray), (⟨#[99, 108, 117, 115, 116, 101, 114]⟩ : ByteArray), (⟨#[118, 111, 105, 99, 101]⟩ : ByteArray), (⟨#[102, 105, 110, 97, 108]⟩ : ByteArray), (⟨#[110, 97, 115, 97, 108]⟩ : ByteArray), (⟨#[109, 97, 120]⟩ : ByteArray), (⟨#[100, 101, 112]⟩ : ByteArray), (⟨#[105, 100, 101, 110, 116]⟩ : ByteArray), (⟨#[99, 111, 110, 116, 105, 103]⟩ : ByteArray)] : List ByteArray))
theorem spec_ConstraintNames.calls  (r : List ByteArray) (w : World) (h : spec_ConstraintNames.f  = some r) :
  Calls Tryz.prog 74 #[] w fun e w' => ∃ v0_ : Value, e = .returned (v0_) ∧ Kd.R Kd.string 9 w' w.heap.size (fun _ => True) v0_ r ∧ Below w.heap.size w w' := by
 have HB := asT (Below.refl w.heap.size w); have H := h; unfold spec_ConstraintNames.f at H; clear h; obtain ⟨y103, hy103⟩ : ∃ y_ : List ByteArray, y_ = (([(⟨#[111, 110, 115, 101, 116]⟩ : ByteArray), (⟨#[110, 111, 99, 111, 100, 97]⟩ : ByteArray), (⟨#[99, 108, 117, 115, 116, 101, 114]⟩ : ByteArray), (⟨#[118, 111, 105, 99, 101]⟩ : ByteArray), (⟨#[102, 105, 110, 97, 108]⟩ : ByteArray), (⟨#[110, 97, 115, 97, 108]⟩ : ByteArray), (⟨#[109, 97, 120]⟩ : ByteArray), (⟨#[100, 101, 112]⟩ : ByteArray), (⟨#[105, 100, 101, 110, 116]⟩ : ByteArray), (⟨#[99, 111, 110, 116, 105, 103]⟩ : ByteArray)] : List ByteArray)) := ⟨_, rfl⟩
 replace H : (some y103) = some r := by first | (rw [hy103]; with_reducible exact H) | (have H2_ := (Option.bind_some _ _).symm.trans H; rw [hy103]; with_reducible exact H2_) | (have H2_ := (Option.bind_some _ _).symm.trans H; with_reducible exact H2_) | with_reducible exact H | (rw [hy103]; exact H) | exact H
 have Ny103 := asT hy103; clear hy103; obtain rfl := oI H; go_enter Tryz.func74, Tryz.ntmps74
 go_wp2_with (first | ((with_reducible refine gate_dst (N := 1) rfl ?_); refine Kd.R_lit Kd.string _ 9 ?hg (N := 1) ?hd (xs := ([(⟨#[111, 110, 115, 101, 116]⟩ : ByteArray), (⟨#[110, 111, 99, 111, 100, 97]⟩ : ByteArray), (⟨#[99, 108, 117, 115, 116, 101, 114]⟩ : ByteArray), (⟨#[118, 111, 105, 99, 101]⟩ : ByteArray), (⟨#[102, 105, 110, 97, 108]⟩ : ByteArray), (⟨#[110, 97, 115, 97, 108]⟩ : ByteArray), (⟨#[109, 97, 120]⟩ : ByteArray), (⟨#[100, 101, 112]⟩ : ByteArray), (⟨#[105, 100, 101, 110, 116]⟩ : ByteArray), (⟨#[99, 111, 110, 116, 105, 103]⟩ : ByteArray)] : List ByteArray)) (inner := [.string (⟨#[111, 110, 115, 101, 116]⟩ : ByteArray), .string (⟨#[110, 111, 99, 111, 100, 97]⟩ : ByteArray), .string (⟨#[99, 108, 117, 115, 116, 101, 114]⟩ : ByteArray), .string (⟨#[118, 111, 105, 99, 101]⟩ : ByteArray), .string (⟨#[102, 105, 110, 97, 108]⟩ : ByteArray), .string (⟨#[110, 97, 115, 97, 108]⟩ : ByteArray), .string (⟨#[109, 97, 120]⟩ : ByteArray), .string (⟨#[100, 101, 112]⟩ : ByteArray), .string (⟨#[105, 100, 101, 110, 116]⟩ : ByteArray), .string (⟨#[99, 111, 110, 116, 105, 103]⟩ : ByteArray)]) (ok := fun _ => True) (okp := fun _ => True) ?hr ?hp (fun _ hk => hk) trivial (Below.refl _ _) (Nat.le_refl _) (by simp) ?_; (case hd => rfl); (case hg => rfl); (case hr => first | (go_simp; done) | (go_simp; rfl)); (case hp => exact (Reps.one (show Kd.M Kd.string _ _ _ (⟨#[111, 110, 115, 101, 116]⟩ : ByteArray) [.string (⟨#[111, 110, 115, 101, 116]⟩ : ByteArray)] from rfl) (Reps.one (show Kd.M Kd.string _ _ _ (⟨#[110, 111, 99, 111, 100, 97]⟩ : ByteArray) [.string (⟨#[110, 111, 99, 111, 100, 97]⟩ : ByteArray)] from rfl) (Reps.one (show Kd.M Kd.string _ _ _ (⟨#[99, 108, 117, 115, 116, 101, 114]⟩ : ByteArray) [.string (⟨#[99, 108, 117, 115, 116, 101, 114]⟩ : ByteArray)] from rfl) (Reps.one (show Kd.M Kd.string _ _ _ (⟨#[118, 111, 105, 99, 101]⟩ : ByteArray) [.string (⟨#[118, 111, 105, 99, 101]⟩ : ByteArray)] from rfl) (Reps.one (show Kd.M Kd.string _ _ _ (⟨#[102, 105, 110, 97, 108]⟩ : ByteArray) [.string (⟨#[102, 105, 110, 97, 108]⟩ : ByteArray)] from rfl) (Reps.one (show Kd.M Kd.string _ _ _ (⟨#[110, 97, 115, 97, 108]⟩ : ByteArray) [.string (⟨#[110, 97, 115, 97, 108]⟩ : ByteArray)] from rfl) (Reps.one (show Kd.M Kd.string _ _ _ (⟨#[109, 97, 120]⟩ : ByteArray) [.string (⟨#[109, 97, 120]⟩ : ByteArray)] from rfl) (Reps.one (show Kd.M Kd.string _ _ _ (⟨#[100, 101, 112]⟩ : ByteArray) [.string (⟨#[100, 101, 112]⟩ : ByteArray)] from rfl) (Reps.one (show Kd.M Kd.string _ _ _ (⟨#[105, 100, 101, 110, 116]⟩ : ByteArray) [.string (⟨#[105, 100, 101, 110, 116]⟩ : ByteArray)] from rfl) (Reps.one (show Kd.M Kd.string _ _ _ (⟨#[99, 111, 110, 116, 105, 103]⟩ : ByteArray) [.string (⟨#[99, 111, 110, 116, 105, 103]⟩ : ByteArray)] from rfl) (Reps.none _ _)))))))))))); intro v104 w1 ho2 hb hg_ hnew_; clear hg_ hnew_; (first | rw [← Ny103.out] at ho2 | (simp only [Int.reduceToNat] at ho2; rw [← Ny103.out] at ho2)); have HO105 := asT (Kd.R_lower ho2 (below_size (hbT HB.out))); replace HB := hS HB hb; clear hb ho2))
 go_ret; exact ⟨_, rlT, roT HO105.out, hbT HB.out⟩
def spec_l1In.f (a0 : Int) (a1 : Int) (a2 : Int) : Option (Bool) := if a0 ≥ a1 then (some (decide (a0 ≤ a2))) else (some false)
theorem spec_l1In.calls (a0 : Int) (a1 : Int) (a2 : Int) (r : Bool) (w : World) (h : spec_l1In.f a0 a1 a2 = some r) :
  Calls Tryz.prog 75 #[.int .i64 a0, .int .i64 a1, .int .i64 a2] w fun e w' => e = .returned (.bool r) ∧ Drawn0 w w' := by
 have H := h; unfold spec_l1In.f at H; clear h; by_cases c4 : a0 ≥ a1
 ·rw [if_pos c4] at H; have c4b0 : decide (a1 ≤ a0) = true := dt c4; clear c4; obtain rfl := oI H; go_enter Tryz.func75, Tryz.ntmps75
  go_wp2
  go_ret; exact ⟨rdT, drT⟩
 ·rw [if_neg c4] at H; have c4b0 : decide (a1 ≤ a0) = false := df c4; clear c4; obtain rfl := oI H; go_enter Tryz.func75, Tryz.ntmps75
  go_wp2
  go_ret; exact ⟨rdT, drT⟩
def spec_AreConstraints.l0 : Nat → List ByteArray → Int → Option (Bool)
 | 0, _, _ => none
 | k + 1, x0, x3 => if x3 < (x0.length : Int) then ((spec_ConstraintNames.f).bind fun t107 => (if 0 ≤ x3 then ((spec_l3Has.f k t107 (rdOf ByteArray.empty x0 x3)).bind fun t111 => (if t111 = true then (if x3 ≤ (x0.length : Int) then ((spec_l3Has.f k (x0.take (x3 : Int).toNat) (rdOf ByteArray.empty x0 x3)).bind fun t114 => (if t114 = true then (some false) else (spec_AreConstraints.l0 k x0 (wrap64 (x3 + 1))))) else (none)) else (some false))) else (none))) else ((spec_l1In.f (x0.length : Int) 1 5).bind fun t106 => (some t106))
def spec_AreConstraints.f (k : Nat) (l0 : List ByteArray) : Option (Bool) := spec_AreConstraints.l0 k l0 0
theorem spec_AreConstraints.mono_l : ∀ k, (∀ y0 y1, LeO (spec_AreConstraints.l0 k y0 y1) (spec_AreConstraints.l0 (k + 1) y0 y1))
 | 0 => fun _ _ r h => by simp [spec_AreConstraints.l0] at h
 | k + 1 => by
  have ih0 := spec_AreConstraints.mono_l k
  ·intro y0 y1; unfold spec_AreConstraints.l0
   with_reducible repeat' first | exact ih0 _ _ | exact spec_l3Has.mono _ _ _ | exact LeO.refl _ | exact LeO.none _ | refine LeO.ite ?_ ?_ | refine LeO.bind ?_ (fun _ => ?_)
theorem spec_AreConstraints.mono : ∀ a0 k, LeO (spec_AreConstraints.f k a0) (spec_AreConstraints.f (k + 1) a0) := by
 intro a0 k; have ih0 := spec_AreConstraints.mono_l k; unfold spec_AreConstraints.f
 with_reducible repeat' first | exact ih0 _ _ | exact spec_l3Has.mono _ _ _ | exact LeO.refl _ | exact LeO.none _ | refine LeO.ite ?_ ?_ | refine LeO.bind ?_ (fun _ => ?_)
def spec_AreConstraints.T4 : Bool × List (List Nat × List Nat) := (true, [([], []), ([], []), ([], []), ([1, 2], [1, 2]), ([3], [3]), ([0, 4, 0], [0, 4]), ([5], [5]), ([6, 5], [6]), ([7], [7]), ([7], [7]), ([8, 9, 7], [7, 8, 9]), ([7], [7]), ([7], [7]), ([11, 12, 7], [7, 11, 12]), ([13, 7], [7, 13]), ([10, 14, 7, 7], [7, 10, 14]), ([7, 15], [7, 15])])
def spec_AreConstraints.B4 : List Nat := [0, 0, 0, 6, 14, 31, 63, 127, 255, 255, 1023, 255, 255, 6399, 14591, 32767, 65535]
theorem spec_AreConstraints.tab4 : rtab .any (opsOf Tryz.f35 4) = spec_AreConstraints.T4 := by kernel_rfl
theorem spec_AreConstraints.bits4 : waitsOk spec_AreConstraints.T4.2 spec_AreConstraints.B4 = true := by kernel_rfl
theorem spec_AreConstraints.calls (k : Nat) (A0 : Option Addr) (c0 : Nat) (l0 : List ByteArray) (r : Bool) (w : World) (hr0 : Kd.C Kd.string w A0 l0.length l0) (hc0 : l0.length ≤ c0) (h : spec_AreConstraints.f k l0 = some r) :
  Calls Tryz.prog 35 #[.slice A0 l0.length c0] w fun e w' => e = .returned (.bool r) ∧ Below w.heap.size w w' := by
 have HR0 := asT hr0; have HC0 := asT hc0; clear hr0 hc0; have HB := asT (Below.refl w.heap.size w); have H := h; unfold spec_AreConstraints.f at H; clear h; have H' := asT H; clear H; go_enter Tryz.func35, Tryz.ntmps35
 go_wp2
 go_loopg [3] k (fun kq v3 w' => ∃ (x3_1 : Int), v3 = .int .i64 x3_1 ∧ Aside0 (spec_AreConstraints.l0 kq l0 x3_1 = some r) ∧ Aside0 (kq ≤ k) ∧ Aside0 (Below w.heap.size w w'))
 case atStart => exact ⟨(0), rdT, H', ⟨Nat.le_refl _⟩, ⟨hbT HB.out⟩⟩
 case round =>
  clear H'; obtain ⟨x3_1, rfl, HA, HK1, HB⟩ := hrel
  cases gk with
  | zero => exact absurd HA.out (by simp [spec_AreConstraints.l0])
  | succ k1 =>
   have H := HA.out; clear HA
   simp only [spec_AreConstraints.l0] at H
   by_cases c2 : x3_1 < (l0.length : Int)
   ·rw [if_pos c2] at H; have c2b0 := dt c2; clear c2; obtain ⟨t107, A3, H⟩ := be H; by_cases c4 : 0 ≤ x3_1
    ·rw [if_pos c4] at H; have c4b0 := dt c4; clear c4; obtain ⟨t111, A5, H⟩ := be H; by_cases c6 : t111 = true
     ·subst c6; rw [if_pos rfl] at H; have c7b0 := eq_true (dT asmT : 0 ≤ x3_1); by_cases c8 : x3_1 ≤ (l0.length : Int)
      ·rw [if_pos c8] at H; have c8b0 := eq_true c8; have c8b1 : decide (x3_1 ≤ (l0.length : Int)) = true := dt c8; clear c8; obtain ⟨t114, A9, H⟩ := be H; by_cases c10 : t114 = true
       ·subst c10; rw [if_pos rfl] at H; have H1 := H; clear H; have H := H1; clear H1; obtain rfl := oI H
        try go_wp2
        replace HB := asT (below_drew1 HB.out); have p110 : 0 ≤ (x3_1 : Int) := dT asmT; have q110 : x3_1 < (l0.length : Int) := dT asmT; obtain ⟨ad110, e110, hx110_0⟩ := Kd.at_string HR0.out x3_1 p110 q110; have hw110_0 := hx110_0
        cases e110
        replace hx110_0 := hbc HB.out hx110_0; replace p110 := eq_true p110; replace q110 := eq_true q110; have p113 : 0 ≤ (x3_1 : Int) := dT asmT; have q113 : x3_1 < (l0.length : Int) := dT asmT; obtain ⟨ad113, e113, hx113_0⟩ := Kd.at_string HR0.out x3_1 p113 q113; have hw113_0 := hx113_0; obtain rfl : ad110 = ad113 := (by injection e113); replace hx113_0 := hbc HB.out hx113_0; replace p113 := eq_true p113; replace q113 := eq_true q113; refine start_ (n := 17) (S := fun w' => w'.cell? (ad110.add (x3_1).toNat) = some (.string (rdOf ByteArray.empty l0 x3_1)) ∧ w'.cell? (ad110.add (x3_1).toNat) = some (.string (rdOf ByteArray.empty l0 x3_1))) (ds := []) (bA 17 0) (by kernel_rfl) rfl rfl ⟨(hbc HB.out hw110_0 :), (hbc HB.out hw113_0 :)⟩ (fun hHeld => ?_); refine with_tabW spec_AreConstraints.tab4 spec_AreConstraints.bits4 (fun HT_ HW_ => ?_); generalize wr.drew = w11 at HB hx110_0 hx113_0 hHeld ⊢; refine pA 1 11 17 2 HT_.out ?_ rfl rfl; refine pA 2 12 17 6 HT_.out ?_ rfl rfl; refine pA 3 13 17 14 HT_.out ?_ rfl rfl; refine tA 4 14 17 30 HT_.out HW_.out hHeld ?_ rfl rfl; refine oA 0 10 17 31 HT_.out (fun K hK => ?_) rfl rfl; refine goes_ Tryz.func74 (by kernel_rfl) rfl #[] (by rfl) rfl rfl eqT ?_
        (with_reducible refine (spec_ConstraintNames.calls  t107 _ A3.out).mono ?_); rintro e w12 ⟨v108, rfl, ho0, hb⟩; refine ⟨_, rfl, ?_⟩; have HO109 := asT (Kd.R_lower ho0 (below_size (hbT HB.out))); replace HB := hS HB hb; (try clear hb hb2 hk hi ho0); obtain ⟨Ao13, co13, eo13⟩ := Kd.R_slice HO109.out; (first | subst eo13 | (injection eo13 with f1_ f2_ f3_; have f4_ := f1_.symm; have f5_ := f3_.symm; clear f1_ f2_ f3_; subst f4_; subst f5_))
        refine hK.out _ _ ⟨(hbc HB.out hw110_0 :), (hbc HB.out hw113_0 :)⟩ (fun hHeld => ?_); clear hK K; refine nB 10 ?_ rfl; refine oA 5 15 17 63 HT_.out (fun K hK => ?_) rfl rfl; refine goes_ Tryz.func72 (by kernel_rfl) rfl #[.slice Ao13 t107.length co13, .string (rdOf ByteArray.empty l0 x3_1)] (by rfl) rfl rfl eqT ?_
        (with_reducible refine (spec_l3Has.calls k1 _ _ t107 (rdOf ByteArray.empty l0 x3_1) true _ ?side1 ?side2 A5.out).mono ?_); (case side1 => exact caT (Kd.R_reads' HO109.out).2.2); (case side2 => exact (Kd.R_reads' HO109.out).2.1); rintro e w' ⟨rfl, ⟨nd, rfl⟩⟩; refine ⟨_, rfl, ?_⟩; obtain ⟨i014, hi014, _, hsz14, _⟩ := info_parts info9; obtain ⟨hcut14, hA14, hC14⟩ := print_take_of (P := Tryz.prog) Value.string (⟨#[]⟩ : ByteArray) 22 9 .i64 Tryz.underlying22 hi014 hsz14 (some ad110) c0 l0 x3_1 (dT asmT) (dT asmT) HC0.out; have HR112 := asT (Kd.C_of_reads (h1 := fun _ => rfl) (hA14 _ (Kd.reads_of_C HR0.out))); have HC112 := asT hC14; clear hA14 hC14 hi014 hsz14
        refine hK.out _ _ ⟨(hbc HB.out hw110_0 :), (hbc HB.out hw113_0 :)⟩ (fun hHeld => ?_); clear hK K; refine nB 15 ?_ rfl; refine pA 6 16 17 127 HT_.out ?_ rfl rfl; refine pA 7 17 17 255 HT_.out ?_ rfl rfl; refine pA 8 18 17 511 HT_.out ?_ rfl rfl; refine pA 9 19 17 1023 HT_.out ?_ rfl rfl; refine pA 10 20 17 2047 HT_.out ?_ rfl rfl; refine pA 11 21 17 4095 HT_.out ?_ rfl rfl; refine pA 12 22 17 8191 HT_.out ?_ rfl rfl; refine pA 13 23 17 16383 HT_.out ?_ rfl rfl; refine tA 14 24 17 32767 HT_.out HW_.out hHeld ?_ rfl rfl; refine oA 15 25 17 65535 HT_.out (fun K hK => ?_) rfl rfl; refine goes_ Tryz.func72 (by kernel_rfl) rfl #[.slice (some ad110) (l0.take (x3_1 : Int).toNat).length c0, .string (rdOf ByteArray.empty l0 x3_1)] (by rfl) rfl rfl (by (try simp only [List.map_toArray, List.map_cons, List.map_nil]); first | done | (rw [show (l0.take (x3_1 : Int).toNat).length = x3_1.toNat from (by rw [List.length_take]; have h_ : (x3_1 : Int) ≤ (l0.length : Int) := dT asmT; omega)] <;> rfl) | rfl | (simp only [List.length_drop, List.length_take]; rfl)) ?_
        (with_reducible refine (spec_l3Has.calls k1 _ _ (l0.take (x3_1 : Int).toNat) (rdOf ByteArray.empty l0 x3_1) true _ ?side1 ?side2 A9.out).mono ?_); (case side1 => exact crT HR112.out (hbT HB.out)); (case side2 => exact HC112.out); rintro e w' ⟨rfl, ⟨nd, rfl⟩⟩; refine ⟨_, rfl, ?_⟩
        refine hK.out _ _ ⟨(hbc HB.out hw110_0 :), (hbc HB.out hw113_0 :)⟩ (fun hHeld => ?_); clear hK K; refine nB 25 ?_ rfl; refine pA 16 26 17 131071 HT_.out ?_ rfl rfl; refine done_ (done_of HT_.out (by kernel_rfl)) ?_
        try go_wp2
        go_ret; exact ⟨rlT, hbT HB.out⟩
       ·replace c10 := eE c10; subst c10; rw [if_neg nF] at H; have H' := asT H; clear H
        try go_wp2
        replace HB := asT (below_drew1 HB.out); have p110 : 0 ≤ (x3_1 : Int) := dT asmT; have q110 : x3_1 < (l0.length : Int) := dT asmT; obtain ⟨ad110, e110, hx110_0⟩ := Kd.at_string HR0.out x3_1 p110 q110; have hw110_0 := hx110_0
        cases e110
        replace hx110_0 := hbc HB.out hx110_0; replace p110 := eq_true p110; replace q110 := eq_true q110; have p113 : 0 ≤ (x3_1 : Int) := dT asmT; have q113 : x3_1 < (l0.length : Int) := dT asmT; obtain ⟨ad113, e113, hx113_0⟩ := Kd.at_string HR0.out x3_1 p113 q113; have hw113_0 := hx113_0; obtain rfl : ad110 = ad113 := (by injection e113); replace hx113_0 := hbc HB.out hx113_0; replace p113 := eq_true p113; replace q113 := eq_true q113; refine start_ (n := 17) (S := fun w' => w'.cell? (ad110.add (x3_1).toNat) = some (.string (rdOf ByteArray.empty l0 x3_1)) ∧ w'.cell? (ad110.add (x3_1).toNat) = some (.string (rdOf ByteArray.empty l0 x3_1))) (ds := []) (bA 17 0) (by kernel_rfl) rfl rfl ⟨(hbc HB.out hw110_0 :), (hbc HB.out hw113_0 :)⟩ (fun hHeld => ?_); refine with_tabW spec_AreConstraints.tab4 spec_AreConstraints.bits4 (fun HT_ HW_ => ?_); generalize wr.drew = w15 at HB hx110_0 hx113_0 hHeld ⊢; refine pA 1 11 17 2 HT_.out ?_ rfl rfl; refine pA 2 12 17 6 HT_.out ?_ rfl rfl; refine pA 3 13 17 14 HT_.out ?_ rfl rfl; refine tA 4 14 17 30 HT_.out HW_.out hHeld ?_ rfl rfl; refine oA 0 10 17 31 HT_.out (fun K hK => ?_) rfl rfl; refine goes_ Tryz.func74 (by kernel_rfl) rfl #[] (by rfl) rfl rfl eqT ?_
        (with_reducible refine (spec_ConstraintNames.calls  t107 _ A3.out).mono ?_); rintro e w16 ⟨v108, rfl, ho0, hb⟩; refine ⟨_, rfl, ?_⟩; have HO109 := asT (Kd.R_lower ho0 (below_size (hbT HB.out))); replace HB := hS HB hb; (try clear hb hb2 hk hi ho0); obtain ⟨Ao17, co17, eo17⟩ := Kd.R_slice HO109.out; (first | subst eo17 | (injection eo17 with f1_ f2_ f3_; have f4_ := f1_.symm; have f5_ := f3_.symm; clear f1_ f2_ f3_; subst f4_; subst f5_))
        refine hK.out _ _ ⟨(hbc HB.out hw110_0 :), (hbc HB.out hw113_0 :)⟩ (fun hHeld => ?_); clear hK K; refine nB 10 ?_ rfl; refine oA 5 15 17 63 HT_.out (fun K hK => ?_) rfl rfl; refine goes_ Tryz.func72 (by kernel_rfl) rfl #[.slice Ao17 t107.length co17, .string (rdOf ByteArray.empty l0 x3_1)] (by rfl) rfl rfl eqT ?_
        (with_reducible refine (spec_l3Has.calls k1 _ _ t107 (rdOf ByteArray.empty l0 x3_1) true _ ?side1 ?side2 A5.out).mono ?_); (case side1 => exact caT (Kd.R_reads' HO109.out).2.2); (case side2 => exact (Kd.R_reads' HO109.out).2.1); rintro e w' ⟨rfl, ⟨nd, rfl⟩⟩; refine ⟨_, rfl, ?_⟩; obtain ⟨i018, hi018, _, hsz18, _⟩ := info_parts info9; obtain ⟨hcut18, hA18, hC18⟩ := print_take_of (P := Tryz.prog) Value.string (⟨#[]⟩ : ByteArray) 22 9 .i64 Tryz.underlying22 hi018 hsz18 (some ad110) c0 l0 x3_1 (dT asmT) (dT asmT) HC0.out; have HR112 := asT (Kd.C_of_reads (h1 := fun _ => rfl) (hA18 _ (Kd.reads_of_C HR0.out))); have HC112 := asT hC18; clear hA18 hC18 hi018 hsz18
        refine hK.out _ _ ⟨(hbc HB.out hw110_0 :), (hbc HB.out hw113_0 :)⟩ (fun hHeld => ?_); clear hK K; refine nB 15 ?_ rfl; refine pA 6 16 17 127 HT_.out ?_ rfl rfl; refine pA 7 17 17 255 HT_.out ?_ rfl rfl; refine pA 8 18 17 511 HT_.out ?_ rfl rfl; refine pA 9 19 17 1023 HT_.out ?_ rfl rfl; refine pA 10 20 17 2047 HT_.out ?_ rfl rfl; refine pA 11 21 17 4095 HT_.out ?_ rfl rfl; refine pA 12 22 17 8191 HT_.out ?_ rfl rfl; refine pA 13 23 17 16383 HT_.out ?_ rfl rfl; refine tA 14 24 17 32767 HT_.out HW_.out hHeld ?_ rfl rfl; refine oA 15 25 17 65535 HT_.out (fun K hK => ?_) rfl rfl; refine goes_ Tryz.func72 (by kernel_rfl) rfl #[.slice (some ad110) (l0.take (x3_1 : Int).toNat).length c0, .string (rdOf ByteArray.empty l0 x3_1)] (by rfl) rfl rfl (by (try simp only [List.map_toArray, List.map_cons, List.map_nil]); first | done | (rw [show (l0.take (x3_1 : Int).toNat).length = x3_1.toNat from (by rw [List.length_take]; have h_ : (x3_1 : Int) ≤ (l0.length : Int) := dT asmT; omega)] <;> rfl) | rfl | (simp only [List.length_drop, List.length_take]; rfl)) ?_
        (with_reducible refine (spec_l3Has.calls k1 _ _ (l0.take (x3_1 : Int).toNat) (rdOf ByteArray.empty l0 x3_1) false _ ?side1 ?side2 A9.out).mono ?_); (case side1 => exact crT HR112.out (hbT HB.out)); (case side2 => exact HC112.out); rintro e w' ⟨rfl, ⟨nd, rfl⟩⟩; refine ⟨_, rfl, ?_⟩
        refine hK.out _ _ ⟨(hbc HB.out hw110_0 :), (hbc HB.out hw113_0 :)⟩ (fun hHeld => ?_); clear hK K; refine nB 25 ?_ rfl; refine pA 16 26 17 131071 HT_.out ?_ rfl rfl; refine done_ (done_of HT_.out (by kernel_rfl)) ?_
        try go_wp2
        go_roundg k1
        case measure => have := HK1.out; omega
        case rel => exact ⟨(wrap64 (x3_1 + 1)), rdT, H', ⟨by have := HK1.out; omega⟩, ⟨hbT HB.out⟩⟩
      ·rw [if_neg c8] at H; exact absurd H (by simp)
     ·replace c6 := eE c6; subst c6; rw [if_neg nF] at H; have H1 := H; clear H; have H := H1; clear H1; obtain rfl := oI H
      try go_wp2
      replace HB := asT (below_drew1 HB.out); have p110 : 0 ≤ (x3_1 : Int) := dT asmT; have q110 : x3_1 < (l0.length : Int) := dT asmT; obtain ⟨ad110, e110, hx110_0⟩ := Kd.at_string HR0.out x3_1 p110 q110; have hw110_0 := hx110_0
      cases e110
      replace hx110_0 := hbc HB.out hx110_0; replace p110 := eq_true p110; replace q110 := eq_true q110; refine start_ (n := 17) (S := fun w' => w'.cell? (ad110.add (x3_1).toNat) = some (.string (rdOf ByteArray.empty l0 x3_1))) (ds := []) (bA 17 0) (by kernel_rfl) rfl rfl (((HB.out.cell (World.block_lt_of_cell? w _ hw110_0)).trans hw110_0)) (fun hHeld => ?_); refine with_tabW spec_AreConstraints.tab4 spec_AreConstraints.bits4 (fun HT_ HW_ => ?_); generalize wr.drew = w19 at HB hx110_0 hHeld ⊢; refine pA 1 11 17 2 HT_.out ?_ rfl rfl; refine pA 2 12 17 6 HT_.out ?_ rfl rfl; refine pA 3 13 17 14 HT_.out ?_ rfl rfl; refine tA 4 14 17 30 HT_.out HW_.out hHeld ?_ rfl rfl; refine oA 0 10 17 31 HT_.out (fun K hK => ?_) rfl rfl; refine goes_ Tryz.func74 (by kernel_rfl) rfl #[] (by rfl) rfl rfl eqT ?_
      (with_reducible refine (spec_ConstraintNames.calls  t107 _ A3.out).mono ?_); rintro e w20 ⟨v108, rfl, ho0, hb⟩; refine ⟨_, rfl, ?_⟩; have HO109 := asT (Kd.R_lower ho0 (below_size (hbT HB.out))); replace HB := hS HB hb; (try clear hb hb2 hk hi ho0); obtain ⟨Ao21, co21, eo21⟩ := Kd.R_slice HO109.out; (first | subst eo21 | (injection eo21 with f1_ f2_ f3_; have f4_ := f1_.symm; have f5_ := f3_.symm; clear f1_ f2_ f3_; subst f4_; subst f5_))
      refine hK.out _ _ (((HB.out.cell (World.block_lt_of_cell? w _ hw110_0)).trans hw110_0)) (fun hHeld => ?_); clear hK K; refine nB 10 ?_ rfl; refine oA 5 15 17 63 HT_.out (fun K hK => ?_) rfl rfl; refine goes_ Tryz.func72 (by kernel_rfl) rfl #[.slice Ao21 t107.length co21, .string (rdOf ByteArray.empty l0 x3_1)] (by rfl) rfl rfl eqT ?_
      (with_reducible refine (spec_l3Has.calls k1 _ _ t107 (rdOf ByteArray.empty l0 x3_1) false _ ?side1 ?side2 A5.out).mono ?_); (case side1 => exact caT (Kd.R_reads' HO109.out).2.2); (case side2 => exact (Kd.R_reads' HO109.out).2.1); rintro e w' ⟨rfl, ⟨nd, rfl⟩⟩; refine ⟨_, rfl, ?_⟩
      refine hK.out _ _ (((HB.out.cell (World.block_lt_of_cell? w _ hw110_0)).trans hw110_0)) (fun hHeld => ?_); clear hK K; refine nB 15 ?_ rfl; refine pA 6 16 17 127 HT_.out ?_ rfl rfl; refine pA 7 17 17 255 HT_.out ?_ rfl rfl; refine uA 8 18 17 511 HT_.out ?_ rfl rfl; refine uA 9 19 17 1023 HT_.out ?_ rfl rfl; refine uA 10 20 17 2047 HT_.out ?_ rfl rfl; refine uA 11 21 17 4095 HT_.out ?_ rfl rfl; refine uA 12 22 17 8191 HT_.out ?_ rfl rfl; refine uA 13 23 17 16383 HT_.out ?_ rfl rfl; refine uA 14 24 17 32767 HT_.out ?_ rfl rfl; refine uA 15 25 17 65535 HT_.out ?_ rfl rfl; refine pA 16 26 17 131071 HT_.out ?_ rfl rfl; refine done_ (done_of HT_.out (by kernel_rfl)) ?_
      try go_wp2
      go_ret; exact ⟨rlT, hbT HB.out⟩
    ·rw [if_neg c4] at H; exact absurd H (by simp)
   ·rw [if_neg c2] at H; have c2b0 := df c2; clear c2; obtain ⟨t106, A22, H⟩ := be H; obtain rfl := oI H
    go_wp2_with (first | ((with_reducible refine gate_callee (f := 75) rfl ?_); refine goesL_ (some 29) rfl rfl Tryz.func75 (by kernel_rfl) rfl #[.int .i64 (l0.length : Int), .int .i64 1, .int .i64 5] rfl eqT ?_; (with_reducible refine (spec_l1In.calls (l0.length : Int) 1 5 t106 _ A22.out).mono ?_); rintro e w' ⟨rfl, ⟨nd, rfl⟩⟩; refine ⟨_, rfl, ?_⟩))
    go_ret; exact ⟨rlT, hbT HB.out⟩
def spec_IsSound.l0 : Nat → Int → Int → Option (Bool)
 | 0, _, _ => none
 | k + 1, x0, x3 => if x3 < 7 then (if 0 ≤ x3 then (if (bt (⟨#[112, 116, 98, 100, 110, 97, 105]⟩ : ByteArray) x3) = x0 then (some true) else (spec_IsSound.l0 k x0 (wrap64 (x3 + 1)))) else (none)) else (some false)
def spec_IsSound.f (k : Nat) (a0 : Int) : Option (Bool) := spec_IsSound.l0 k a0 0
theorem spec_IsSound.mono_l : ∀ k, (∀ y0 y1, LeO (spec_IsSound.l0 k y0 y1) (spec_IsSound.l0 (k + 1) y0 y1))
 | 0 => fun _ _ r h => by simp [spec_IsSound.l0] at h
 | k + 1 => by
  have ih0 := spec_IsSound.mono_l k
  ·intro y0 y1; unfold spec_IsSound.l0
   with_reducible repeat' first | exact ih0 _ _ | exact LeO.refl _ | exact LeO.none _ | refine LeO.ite ?_ ?_ | refine LeO.bind ?_ (fun _ => ?_)
theorem spec_IsSound.mono : ∀ a0 k, LeO (spec_IsSound.f k a0) (spec_IsSound.f (k + 1) a0) := by
 intro a0 k; have ih0 := spec_IsSound.mono_l k; unfold spec_IsSound.f
 with_reducible repeat' first | exact ih0 _ _ | exact LeO.refl _ | exact LeO.none _ | refine LeO.ite ?_ ?_ | refine LeO.bind ?_ (fun _ => ?_)
theorem spec_IsSound.calls (k : Nat) (a0 : Int) (r : Bool) (w : World) (h : spec_IsSound.f k a0 = some r) :
  Calls Tryz.prog 108 #[.int .u8 a0] w fun e w' => e = .returned (.bool r) ∧ Drawn0 w w' := by
 have H := h; unfold spec_IsSound.f at H; clear h; have H' := asT H; clear H; go_enter Tryz.func108, Tryz.ntmps108
 go_wp2
 go_loopg [3] k (fun kq v3 w' => ∃ (x3_1 : Int), v3 = .int .i64 x3_1 ∧ Aside0 (spec_IsSound.l0 kq a0 x3_1 = some r) ∧ Aside0 (kq ≤ k) ∧ Drawn0 w w')
 case atStart => exact ⟨(0), rdT, H', ⟨Nat.le_refl _⟩, drT⟩
 case round =>
  clear H'; (try clear c1); obtain ⟨x3_1, rfl, HA, HK1, ⟨m1, rfl⟩⟩ := hrel
  cases gk with
  | zero => exact absurd HA.out (by simp [spec_IsSound.l0])
  | succ k1 =>
   have H := HA.out; clear HA
   simp only [spec_IsSound.l0] at H
   by_cases c2 : x3_1 < 7
   ·rw [if_pos c2] at H; have c2b0 := dt c2; clear c2; by_cases c3 : 0 ≤ x3_1
    ·rw [if_pos c3] at H; have c3b0 := dt c3; clear c3; by_cases c5 : (bt (⟨#[112, 116, 98, 100, 110, 97, 105]⟩ : ByteArray) x3_1) = a0
     ·rw [if_pos c5] at H; have c5b0 : ((bt (⟨#[112, 116, 98, 100, 110, 97, 105]⟩ : ByteArray) x3_1) == a0) = true := eC c5; have c5b1 : ((bt (⟨#[112, 116, 98, 100, 110, 97, 105]⟩ : ByteArray) x3_1) != a0) = false := eA c5; clear c5; obtain rfl := oI H; have p4 : 0 ≤ (x3_1 : Int) := dT asmT; have q4 : x3_1 < (7 : Int) := dT asmT; have hx4 := bt_at (⟨#[112, 116, 98, 100, 110, 97, 105]⟩ : ByteArray) x3_1; replace p4 := eq_true p4; replace q4 := eq_true q4
      go_wp2
      go_ret; exact ⟨rdT, drT⟩
     ·rw [if_neg c5] at H; have c5b0 : ((bt (⟨#[112, 116, 98, 100, 110, 97, 105]⟩ : ByteArray) x3_1) == a0) = false := eB c5; have c5b1 : ((bt (⟨#[112, 116, 98, 100, 110, 97, 105]⟩ : ByteArray) x3_1) != a0) = true := eD c5; have H' := asT H; clear H; have p4 : 0 ≤ (x3_1 : Int) := dT asmT; have q4 : x3_1 < (7 : Int) := dT asmT; have hx4 := bt_at (⟨#[112, 116, 98, 100, 110, 97, 105]⟩ : ByteArray) x3_1; replace p4 := eq_true p4; replace q4 := eq_true q4
      go_wp2
      go_roundg k1
      case measure => have := HK1.out; omega
      case rel => exact ⟨(wrap64 (x3_1 + 1)), rdT, H', ⟨by have := HK1.out; omega⟩, drT⟩
    ·rw [if_neg c3] at H; exact absurd H (by simp)
   ·rw [if_neg c2] at H; have c2b0 := df c2; clear c2; obtain rfl := oI H
    go_wp2
    go_ret; exact ⟨rdT, drT⟩
def spec_l2Sounds.l0 : Nat → ByteArray → Int → Option (Bool)
 | 0, _, _ => none
 | k + 1, x0, x3 => if x3 < (x0.size : Int) then (if 0 ≤ x3 then ((spec_IsSound.f k (bt x0 x3)).bind fun t115 => (if t115 = true then (spec_l2Sounds.l0 k x0 (wrap64 (x3 + 1))) else (some false))) else (none)) else (some (decide ((x0.size : Int) ≤ 20)))
def spec_l2Sounds.f (k : Nat) (a0 : ByteArray) : Option (Bool) := spec_l2Sounds.l0 k a0 0
theorem spec_l2Sounds.mono_l : ∀ k, (∀ y0 y1, LeO (spec_l2Sounds.l0 k y0 y1) (spec_l2Sounds.l0 (k + 1) y0 y1))
 | 0 => fun _ _ r h => by simp [spec_l2Sounds.l0] at h
 | k + 1 => by
  have ih0 := spec_l2Sounds.mono_l k
  ·intro y0 y1; unfold spec_l2Sounds.l0
   with_reducible repeat' first | exact ih0 _ _ | exact spec_IsSound.mono _ _ | exact LeO.refl _ | exact LeO.none _ | refine LeO.ite ?_ ?_ | refine LeO.bind ?_ (fun _ => ?_)
theorem spec_l2Sounds.mono : ∀ a0 k, LeO (spec_l2Sounds.f k a0) (spec_l2Sounds.f (k + 1) a0) := by
 intro a0 k; have ih0 := spec_l2Sounds.mono_l k; unfold spec_l2Sounds.f
 with_reducible repeat' first | exact ih0 _ _ | exact spec_IsSound.mono _ _ | exact LeO.refl _ | exact LeO.none _ | refine LeO.ite ?_ ?_ | refine LeO.bind ?_ (fun _ => ?_)
theorem spec_l2Sounds.calls (k : Nat) (a0 : ByteArray) (r : Bool) (w : World) (h : spec_l2Sounds.f k a0 = some r) :
  Calls Tryz.prog 76 #[.string a0] w fun e w' => e = .returned (.bool r) ∧ Drawn0 w w' := by
 have H := h; unfold spec_l2Sounds.f at H; clear h; have H' := asT H; clear H; go_enter Tryz.func76, Tryz.ntmps76
 go_wp2
 go_loopg [3] k (fun kq v3 w' => ∃ (x3_1 : Int), v3 = .int .i64 x3_1 ∧ Aside0 (spec_l2Sounds.l0 kq a0 x3_1 = some r) ∧ Aside0 (kq ≤ k) ∧ Drawn0 w w')
 case atStart => exact ⟨(0), rdT, H', ⟨Nat.le_refl _⟩, drT⟩
 case round =>
  clear H'; obtain ⟨x3_1, rfl, HA, HK1, ⟨m1, rfl⟩⟩ := hrel
  cases gk with
  | zero => exact absurd HA.out (by simp [spec_l2Sounds.l0])
  | succ k1 =>
   have H := HA.out; clear HA
   simp only [spec_l2Sounds.l0] at H
   by_cases c2 : x3_1 < (a0.size : Int)
   ·rw [if_pos c2] at H; have c2b0 := dt c2; clear c2; by_cases c3 : 0 ≤ x3_1
    ·rw [if_pos c3] at H; have c3b0 := dt c3; clear c3; obtain ⟨t115, A5, H⟩ := be H; by_cases c6 : t115 = true
     ·subst c6; rw [if_pos rfl] at H; have H' := asT H; clear H; have p4 : 0 ≤ (x3_1 : Int) := dT asmT; have q4 : x3_1 < (a0.size : Int) := dT asmT; have hx4 := bt_at a0 x3_1; replace p4 := eq_true p4; replace q4 := eq_true q4
      go_wp2_with (first | ((with_reducible refine gate_callee (f := 108) rfl ?_); refine goesL_ (some 13) rfl rfl Tryz.func108 (by kernel_rfl) rfl #[.int .u8 (bt a0 x3_1)] rfl eqT ?_; (with_reducible refine (spec_IsSound.calls k1 (bt a0 x3_1) true _ A5.out).mono ?_); rintro e w' ⟨rfl, ⟨nd, rfl⟩⟩; refine ⟨_, rfl, ?_⟩))
      go_roundg k1
      case measure => have := HK1.out; omega
      case rel => exact ⟨(wrap64 (x3_1 + 1)), rdT, H', ⟨by have := HK1.out; omega⟩, drT⟩
     ·replace c6 := eE c6; subst c6; rw [if_neg nF] at H; have H1 := H; clear H; have H := H1; clear H1; obtain rfl := oI H; have p4 : 0 ≤ (x3_1 : Int) := dT asmT; have q4 : x3_1 < (a0.size : Int) := dT asmT; have hx4 := bt_at a0 x3_1; replace p4 := eq_true p4; replace q4 := eq_true q4
      go_wp2_with (first | ((with_reducible refine gate_callee (f := 108) rfl ?_); refine goesL_ (some 13) rfl rfl Tryz.func108 (by kernel_rfl) rfl #[.int .u8 (bt a0 x3_1)] rfl eqT ?_; (with_reducible refine (spec_IsSound.calls k1 (bt a0 x3_1) false _ A5.out).mono ?_); rintro e w' ⟨rfl, ⟨nd, rfl⟩⟩; refine ⟨_, rfl, ?_⟩))
      go_ret; exact ⟨rdT, drT⟩
    ·rw [if_neg c3] at H; exact absurd H (by simp)
   ·rw [if_neg c2] at H; have c2b0 := df c2; clear c2; obtain rfl := oI H
    go_wp2
    go_ret; exact ⟨rdT, drT⟩
def spec_IsForm.f (k : Nat) (a0 : ByteArray) : Option (Bool) := (spec_l2Sounds.f k a0).bind fun t116 => (if t116 = true then (some (decide ((a0.size : Int) ≤ 8))) else (some false))
theorem spec_IsForm.mono : ∀ a0 k, LeO (spec_IsForm.f k a0) (spec_IsForm.f (k + 1) a0) := by
 intro a0 k; unfold spec_IsForm.f
 with_reducible repeat' first | exact spec_l2Sounds.mono _ _ | exact LeO.refl _ | exact LeO.none _ | refine LeO.ite ?_ ?_ | refine LeO.bind ?_ (fun _ => ?_)
theorem spec_IsForm.calls (k : Nat) (a0 : ByteArray) (r : Bool) (w : World) (h : spec_IsForm.f k a0 = some r) :
  Calls Tryz.prog 36 #[.string a0] w fun e w' => e = .returned (.bool r) ∧ Drawn0 w w' := by
 have H := h; unfold spec_IsForm.f at H; clear h; obtain ⟨t116, A2, H⟩ := be H; by_cases c3 : t116 = true
 ·subst c3; rw [if_pos rfl] at H; have H1 := H; clear H; have H := H1; clear H1; obtain rfl := oI H; go_enter Tryz.func36, Tryz.ntmps36
  go_wp2_with (first | ((with_reducible refine gate_callee (f := 76) rfl ?_); refine goesL_ (some 4) rfl rfl Tryz.func76 (by kernel_rfl) rfl #[.string a0] rfl eqT ?_; (with_reducible refine (spec_l2Sounds.calls k a0 true _ A2.out).mono ?_); rintro e w' ⟨rfl, ⟨nd, rfl⟩⟩; refine ⟨_, rfl, ?_⟩))
  go_ret; exact ⟨rdT, drT⟩
 ·replace c3 := eE c3; subst c3; rw [if_neg nF] at H; have H1 := H; clear H; have H := H1; clear H1; obtain rfl := oI H; go_enter Tryz.func36, Tryz.ntmps36
  go_wp2_with (first | ((with_reducible refine gate_callee (f := 76) rfl ?_); refine goesL_ (some 4) rfl rfl Tryz.func76 (by kernel_rfl) rfl #[.string a0] rfl eqT ?_; (with_reducible refine (spec_l2Sounds.calls k a0 false _ A2.out).mono ?_); rintro e w' ⟨rfl, ⟨nd, rfl⟩⟩; refine ⟨_, rfl, ?_⟩))
  go_ret; exact ⟨rdT, drT⟩
def spec_l7Before.l0 : Nat → List (S60) → List (S60) → Int → Int → Int → Option ((List (S60)))
 | 0, _, _, _, _, _ => none
 | k + 1, x1, x5, x6, x118000, x118001 => if x6 < (x1.length : Int) then ((some (([(⟨x118000, x118001⟩ : S109)] : List (S109)) : List (S109))).bind fun y121 => (if 0 ≤ x6 then (if y121.length + ((rd_T60 x1 x6).f0).length < 70368744177664 then (if x5.length < 5864062014805 then (spec_l7Before.l0 k x1 (x5 ++ [(⟨(y121 ++ ((rd_T60 x1 x6).f0))⟩ : S60)]) (wrap64 (x6 + 1)) x118000 x118001) else (none)) else (none)) else (none))) else (some x5)
def spec_l7Before.f (k : Nat) (a0_0 : Int) (a0_1 : Int) (l1 : List (S60)) : Option ((List (S60))) := spec_l7Before.l0 k l1 (([] : List (S60))) 0 a0_0 a0_1
theorem spec_l7Before.mono_l : ∀ k, (∀ y0 y1 y2 y3 y4, LeO (spec_l7Before.l0 k y0 y1 y2 y3 y4) (spec_l7Before.l0 (k + 1) y0 y1 y2 y3 y4))
 | 0 => fun _ _ _ _ _ r h => by simp [spec_l7Before.l0] at h
 | k + 1 => by
  have ih0 := spec_l7Before.mono_l k
  ·intro y0 y1 y2 y3 y4; unfold spec_l7Before.l0
   with_reducible repeat' first | exact ih0 _ _ _ _ _ | exact LeO.refl _ | exact LeO.none _ | refine LeO.ite ?_ ?_ | refine LeO.bind ?_ (fun _ => ?_)
theorem spec_l7Before.mono : ∀ a0 a1 a2 k, LeO (spec_l7Before.f k a0 a1 a2) (spec_l7Before.f (k + 1) a0 a1 a2) := by
 intro a0 a1 a2 k; have ih0 := spec_l7Before.mono_l k; unfold spec_l7Before.f
 with_reducible repeat' first | exact ih0 _ _ _ _ _ | exact LeO.refl _ | exact LeO.none _ | refine LeO.ite ?_ ?_ | refine LeO.bind ?_ (fun _ => ?_)
def spec_l7Before.T5 : Bool × List (List Nat × List Nat) := (true, [([], []), ([], []), ([1], [1]), ([], []), ([], []), ([3, 4], [3, 4]), ([5], [5]), ([6], [6]), ([2, 7], [2, 7]), ([8], [8]), ([9], [9]), ([0, 10, 8], [0, 10]), ([11, 11, 0, 1, 2, 3, 4, 5, 6, 7, 8, 9, 10, 11], [0, 11])])
def spec_l7Before.B5 : List Nat := [0, 0, 2, 0, 0, 24, 56, 120, 254, 510, 1022, 2047, 4095]
theorem spec_l7Before.tab5 : rtab .any (opsOf Tryz.f109 5) = spec_l7Before.T5 := by kernel_rfl
theorem spec_l7Before.bits5 : waitsOk spec_l7Before.T5.2 spec_l7Before.B5 = true := by kernel_rfl
theorem spec_l7Before.calls (k : Nat) (a0_0 : Int) (a0_1 : Int) (A1 : Option Addr) (c1 : Nat) (l1 : List (S60)) (r : List (S60)) (w : World) (hr1 : Kd.C k60 w A1 l1.length l1) (hc1 : l1.length ≤ c1) (h : spec_l7Before.f k a0_0 a0_1 l1 = some r) :
  Calls Tryz.prog 109 #[.agg #[.int .u8 a0_0, .int .u8 a0_1], .slice A1 l1.length c1] w fun e w' => ∃ v0_ : Value, e = .returned (v0_) ∧ Kd.S k60 60 w' w.heap.size (fun _ => True) v0_ r ∧ Below w.heap.size w w' := by
 have hu109 := Tryz.underlying109; have hu60 := Tryz.underlying60; have HR1 := asT hr1; have HC1 := asT hc1; clear hr1 hc1; have HB := asT (Below.refl w.heap.size w); have H := h; unfold spec_l7Before.f at H; clear h; obtain ⟨y118, hy118⟩ : ∃ y_ : List (S60), y_ = (([] : List (S60))) := ⟨_, rfl⟩
 replace H : (spec_l7Before.l0 k l1 y118 0 a0_0 a0_1) = some r := by first | (rw [hy118]; with_reducible exact H) | (have H2_ := (Option.bind_some _ _).symm.trans H; rw [hy118]; with_reducible exact H2_) | (have H2_ := (Option.bind_some _ _).symm.trans H; with_reducible exact H2_) | with_reducible exact H | (rw [hy118]; exact H) | exact H
 have Ny118 := asT hy118; clear hy118; have H' := asT H; clear H; go_enter Tryz.func109, Tryz.ntmps109
 go_wp2_with (first | ((with_reducible refine gate_dst (N := 2) rfl ?_); refine boxT (N := 2) (cs := #[.int .u8 a0_0, .int .u8 a0_1]) (t := 109) ?_; intro gb117 hg w3 hbox hb; have BK117 := asT hbox; have GW117 := asT (geT hg HB.out); have GE117 := GW117; replace HB := hS HB hb; clear hb hbox hg) | ((with_reducible refine gate_dst (N := 7) rfl ?_); refine Kd.S_lit k60 _ 60 ?hg (N := 7) ?hd (xs := ([] : List (S60))) (inner := []) (ok := fun _ => True) (okp := fun _ => True) ?hr ?hp (fun _ hk => hk) trivial (Below.refl _ _) (Nat.le_refl _) (by simp) ?_; (case hd => rfl); (case hg => rfl); (case hr => first | (go_simp; done) | (go_simp; rfl)); (case hp => exact (Reps.none _ _)); intro v119 w4 ho5 hb hg_ hnew_; clear hg_ hnew_; (first | rw [← Ny118.out] at ho5 | (simp only [Int.reduceToNat] at ho5; rw [← Ny118.out] at ho5)); have HO120 := asT (Kd.S_lower (Kd.S_newB ho5 (g := gb117) (o := .cells #[.int .u8 a0_0, .int .u8 a0_1] 109 (0, 0)) (bkT BK117.out)) (below_size (hbT HB.out))); replace BK117 := bS BK117 hb; replace HB := hS HB hb; clear hb ho5))
 go_loopg [5, 6] k (fun kq v5 v6 w' => ∃ (x5_1 : List (S60)) (x6_1 : Int), v6 = .int .i64 x6_1 ∧ Aside0 (spec_l7Before.l0 kq l1 x5_1 x6_1 a0_0 a0_1 = some r) ∧ Aside0 (kq ≤ k) ∧ Aside0 (Kd.S k60 60 w' w.heap.size (fun k_ => k_ ≠ gb117) v5 x5_1) ∧ Aside0 (w'.heap[gb117]? = some (.cells #[.int .u8 a0_0, .int .u8 a0_1] 109 (0, 0))) ∧ Aside0 (Below w.heap.size w w'))
 case atStart => exact ⟨(y118), (0), rdT, H', ⟨Nat.le_refl _⟩, ⟨by (with_reducible repeat (first | apply Kd.S_alloc | apply Kd.S_drewN | apply Kd.S_drew)); exact Kd.S_mono HO120.out (fun _ hk => hk.2)⟩, kpT BK117.out, ⟨hbT HB.out⟩⟩
 case round =>
  clear H'; (try clear c1 p2); obtain ⟨x5_1, x6_1, rfl, HA, HK1, HO_5, BK117, HB⟩ := hrel
  cases gk with
  | zero => exact absurd HA.out (by simp [spec_l7Before.l0])
  | succ k1 =>
   have H := HA.out; clear HA
   simp only [spec_l7Before.l0] at H
   by_cases c6 : x6_1 < (l1.length : Int)
   ·rw [if_pos c6] at H; have c6b0 := dt c6; clear c6; obtain ⟨y121, hy121⟩ : ∃ y_ : List (S109), y_ = (([(⟨a0_0, a0_1⟩ : S109)] : List (S109))) := ⟨_, rfl⟩
    replace H : (if 0 ≤ x6_1 then (if y121.length + ((rd_T60 l1 x6_1).f0).length < 70368744177664 then (if x5_1.length < 5864062014805 then (spec_l7Before.l0 k1 l1 (x5_1 ++ [(⟨(y121 ++ ((rd_T60 l1 x6_1).f0))⟩ : S60)]) (wrap64 (x6_1 + 1)) a0_0 a0_1) else (none)) else (none)) else (none)) = some r := by first | (rw [hy121]; with_reducible exact H) | (have H2_ := (Option.bind_some _ _).symm.trans H; rw [hy121]; with_reducible exact H2_) | (have H2_ := (Option.bind_some _ _).symm.trans H; with_reducible exact H2_) | with_reducible exact H | (rw [hy121]; exact H) | exact H
    have Ny121 := asT hy121; clear hy121; by_cases c7 : 0 ≤ x6_1
    ·rw [if_pos c7] at H; have c7b0 := dt c7; clear c7; by_cases c8 : y121.length + ((rd_T60 l1 x6_1).f0).length < 70368744177664
     ·rw [if_pos c8] at H; have LMc8 := asT c8; clear c8; obtain ⟨y125, hy125⟩ : ∃ y_ : List (S109), y_ = (y121 ++ ((rd_T60 l1 x6_1).f0)) := ⟨_, rfl⟩
      replace H : (if x5_1.length < 5864062014805 then (spec_l7Before.l0 k1 l1 (x5_1 ++ [(⟨y125⟩ : S60)]) (wrap64 (x6_1 + 1)) a0_0 a0_1) else (none)) = some r := by first | (rw [hy125]; with_reducible exact H) | (have H2_ := (Option.bind_some _ _).symm.trans H; rw [hy125]; with_reducible exact H2_) | (have H2_ := (Option.bind_some _ _).symm.trans H; with_reducible exact H2_) | with_reducible exact H | (rw [hy125]; exact H) | exact H
      have Ny125 := asT hy125; clear hy125; by_cases c9 : x5_1.length < 5864062014805
      ·rw [if_pos c9] at H; have LMc9 := asT c9; clear c9; obtain ⟨y128, hy128⟩ : ∃ y_ : List (S60), y_ = (x5_1 ++ [(⟨y125⟩ : S60)]) := ⟨_, rfl⟩
       replace H : (spec_l7Before.l0 k1 l1 y128 (wrap64 (x6_1 + 1)) a0_0 a0_1) = some r := by first | (rw [hy128]; with_reducible exact H) | (have H2_ := (Option.bind_some _ _).symm.trans H; rw [hy128]; with_reducible exact H2_) | (have H2_ := (Option.bind_some _ _).symm.trans H; with_reducible exact H2_) | with_reducible exact H | (rw [hy128]; exact H) | exact H
       have Ny128 := asT hy128; clear hy128; have H' := asT H; clear H
       try go_wp2
       replace HO_5 := asT (Kd.S_drew HO_5.out); replace BK117 := asT (blk_drew BK117.out); replace HB := asT (below_drew1 HB.out); have p124 : 0 ≤ (x6_1 : Int) := dT asmT; have q124 : x6_1 < (l1.length : Int) := dT asmT; obtain ⟨ad124, A124_0, c124_0, e124, hx124_0, hl124_0, hi124_0⟩ := at_T60 HR1.out x6_1 p124 q124; have hw124_0 := hx124_0
       cases e124
       replace hx124_0 := hbc HB.out hx124_0; have HR124_0 := asT hi124_0; have HC124_0 := asT hl124_0; clear hi124_0 hl124_0; replace p124 := eq_true p124; replace q124 := eq_true q124; refine start_ (n := 13) (S := fun w' => w'.cell? ⟨gb117, 0, none⟩ = some (.int .u8 a0_0) ∧ w'.cell? ⟨gb117, 1, none⟩ = some (.int .u8 a0_1) ∧ w'.cell? (ad124.add (x6_1).toNat) = some (.slice A124_0 ((rd_T60 l1 x6_1).f0).length c124_0)) (ds := []) (bA 13 0) (by kernel_rfl) rfl rfl ⟨bc0 BK117.out, bc1 BK117.out, (hbc HB.out hw124_0 :)⟩ (fun hHeld => ?_); refine with_tabW spec_l7Before.tab5 spec_l7Before.bits5 (fun HT_ HW_ => ?_); generalize wr.drew = w10 at HO_5 BK117 HB HR124_0 hx124_0 hHeld ⊢; refine pA 0 14 13 1 HT_.out ?_ rfl rfl; refine pA 3 17 13 9 HT_.out ?_ rfl rfl; refine pA 4 18 13 25 HT_.out ?_ rfl rfl; refine pA 5 19 13 57 HT_.out ?_ rfl rfl; refine pA 6 20 13 121 HT_.out ?_ rfl rfl; refine tA 1 15 13 123 HT_.out HW_.out hHeld ?_ rfl rfl; refine tA 7 21 13 251 HT_.out HW_.out hHeld ?_ rfl rfl; refine oA 2 16 13 255 HT_.out (fun K hK => ?_) rfl rfl; refine Kd.R_lit_step k109 _ 109 ?hg (N := 16) ?hd (xs := ([(⟨a0_0, a0_1⟩ : S109)] : List (S109))) (inner := [.int .u8 a0_0, .int .u8 a0_1]) (ok := fun _ => True) (okp := fun _ => True) ?hr ?hp (fun _ hk => hk) trivial (Below.refl _ _) (Nat.le_refl _) (by simp) ?_; (case hd => rfl); (case hg => rfl); (case hr => first | (go_simp; done) | (go_simp; rfl)); (case hp => exact (Reps.c2 (show Kd.M k109 _ _ _ (⟨a0_0, a0_1⟩ : S109) [.int .u8 a0_0, .int .u8 a0_1] from (k109_mkM _ _ _ (⟨a0_0, a0_1⟩ : S109) )) (Reps.none _ _))); intro v122 w11 ho12 hb hg_ hnew_; clear hg_ hnew_
       (first | rw [← Ny121.out] at ho12 | (simp only [Int.reduceToNat] at ho12; rw [← Ny121.out] at ho12))
       replace HO_5 := asT (Kd.S_elder' (soT HO_5.out) (Kd.R_base ho12) hb); have HO123 := asT (Kd.R_lower (Kd.R_newB ho12 (g := gb117) (o := .cells #[.int .u8 a0_0, .int .u8 a0_1] 109 (0, 0)) (bkT BK117.out)) (below_size (hbT HB.out))); replace BK117 := bS BK117 hb; replace HB := hS HB hb; clear hb ho12; refine hK.out _ _ ⟨bc0 BK117.out, bc1 BK117.out, (hbc HB.out hw124_0 :)⟩ (fun hHeld => ?_); clear hK K; refine nB 16 ?_ rfl; refine oA 8 22 13 511 HT_.out (fun K hK => ?_) rfl rfl; refine Kd.R_append_rows_step k109 (w0 := w) w.heap.size (by rfl) (.tmp 16) (.tmp 21) 58 109 (.agg #[(.int .u8 0), (.int .u8 0)]) 2 rfl Tryz.underlying58 info109 rfl (by decide) (by omega) v122 y121 ((rd_T60 l1 x6_1).f0) _ _ _ (fun k_ => k_ ≠ gb117) (fun _ => False) rfl rfl ?aO ?aR (fun _ _ h => h) (fun _ h => h.elim) ?aF ?aB ?aS ?aL ?_
       (case aR => exact caT (Kd.C_below HR124_0.out HB.out))
       (case aB => exact (hbT HB.out))
       (case aF => exact (fun k_ hk => Kd.freshB (g := gb117) (o := .cells #[.int .u8 a0_0, .int .u8 a0_1] 109 (0, 0)) (bkT BK117.out) k_ hk))
       (case aO => exact (by (with_reducible repeat (first | apply Kd.R_alloc | apply Kd.R_drewN | apply Kd.R_drew)); exact Kd.R_mono HO123.out (fun _ hk => hk.2)))
       (case aS => exact (below_size (hbT HB.out)))
       (case aL => have := LMc8.out; omega)
       intro v126 w13 ho hb hg hat; rw [← Ny125.out] at ho; replace HO_5 := asT (Kd.S_after (ok := (fun k_ => k_ ≠ gb117)) (soT HO_5.out) hg hat); replace BK117 := asT (blk_grown (g := gb117) (o := .cells #[.int .u8 a0_0, .int .u8 a0_1] 109 (0, 0)) (bkT BK117.out) hg (Kd.R_away HO123.out (fun _ hk => hk.2))); replace HB := asT (hb); have HO127 := asT (ho); clear HO123 ho hb hg hat; obtain ⟨Ao14, co14, eo14⟩ := Kd.R_slice HO127.out; (first | subst eo14 | (injection eo14 with f1_ f2_ f3_; have f4_ := f1_.symm; have f5_ := f3_.symm; clear f1_ f2_ f3_; subst f4_; subst f5_)); refine hK.out _ _ ⟨bc0 BK117.out, bc1 BK117.out, (hbc HB.out hw124_0 :)⟩ (fun hHeld => ?_); clear hK K; refine nB 22 ?_ rfl; refine pA 9 23 13 1023 HT_.out ?_ rfl rfl; refine oA 10 24 13 2047 HT_.out (fun K hK => ?_) rfl rfl; refine value_ (w1 := ?_) (v := ?_) (by rfl) rfl ?_ ?_
       rotate_left 2
       ·go_simp
        constructor
        ·rfl
        ·rfl
       refine hK.out _ _ ⟨(blk_cell (blk_alloc BK117.out _) 0).trans rfl, (blk_cell (blk_alloc BK117.out _) 1).trans rfl, (World.cell?_alloc_lt _ _ _ (World.block_lt_of_cell? _ _ (((HB.out.cell (World.block_lt_of_cell? w _ hw124_0)).trans hw124_0)))).trans (((HB.out.cell (World.block_lt_of_cell? w _ hw124_0)).trans hw124_0))⟩ (fun hHeld => ?_); clear hK K; refine nB 24 ?_ rfl; refine oA 11 25 13 4095 HT_.out (fun K hK => ?_) rfl rfl; refine Kd.S_append_step k60 (w0 := w) w.heap.size (by rfl) (.tmp 14) (.tmp 24) 24 60 (.agg #[(.slice none 0 0)]) 24 rfl Tryz.underlying24 info60 rfl (by decide) (by omega) u5 x5_1 (⟨y125⟩ : S60) [.slice Ao14 y125.length co14] (fun k_ => k_ ≠ gb117) (fun k_ => some k_ = (.slice Ao14 y125.length co14 : Value).ownBlock) rfl rfl ?aP (fun k_ hk_ => ((Kd.R_mono (ok' := fun k_ => ((fun k_ => k_ ≠ gb117)) k_ ∧ some k_ ≠ (u5 : Value).ownBlock) (Kd.R_apart' (HO127.out) (Kd.S_typed HO_5.out) (by decide)) (fun k_ hk => ⟨hk.1, hk.2⟩))).1 k_ hk_.symm) ?aF ?aO ?aB ?aS ?aL ?_
       (case aP => exact k60_mkM _ _ _ (⟨y125⟩ : S60) (Kd.R_mono (Kd.R_tight rfl (Kd.R_mono (ok' := fun k_ => ((fun k_ => k_ ≠ gb117)) k_ ∧ some k_ ≠ (u5 : Value).ownBlock) (Kd.R_apart' (HO127.out) (Kd.S_typed HO_5.out) (by decide)) (fun k_ hk => ⟨hk.1, hk.2⟩))) (fun _ h_ => h_)))
       (case aB => exact (hbT HB.out))
       (case aF => exact (fun k_ hk => Kd.freshB (g := gb117) (o := .cells #[.int .u8 a0_0, .int .u8 a0_1] 109 (0, 0)) (bkT BK117.out) k_ hk))
       (case aO => exact (by (with_reducible repeat (first | apply Kd.S_alloc | apply Kd.S_drewN | apply Kd.S_drew)); exact Kd.S_mono HO_5.out (fun k_ hk => ⟨hk.1, fun e_ => hk.2 e_⟩)))
       (case aS => exact (below_size (hbT HB.out)))
       (case aL => have := LMc9.out; omega)
       intro v129 w15 ho hb hg hat; rw [← Ny128.out] at ho; replace BK117 := asT (blk_grown (g := gb117) (o := .cells #[.int .u8 a0_0, .int .u8 a0_1] 109 (0, 0)) (bkT BK117.out) hg (Kd.S_ne HO_5.out BK117.out (by decide))); replace HB := asT (hb); have HO130 := asT (ho); clear HO_5 HO127 ho hb hg hat; refine hK.out _ _ ⟨bc0 BK117.out, bc1 BK117.out, (hbc HB.out hw124_0 :)⟩ (fun hHeld => ?_); clear hK K; refine nB 25 ?_ rfl; refine pA 12 5 13 8191 HT_.out ?_ rfl rfl; refine done_ (done_of HT_.out (by kernel_rfl)) ?_
       try go_wp2
       go_roundg k1
       case measure => have := HK1.out; omega
       case rel => exact ⟨(y128), (wrap64 (x6_1 + 1)), rdT, H', ⟨by have := HK1.out; omega⟩, ⟨soT HO130.out⟩, kpT BK117.out, ⟨hbT HB.out⟩⟩
      ·rw [if_neg c9] at H; exact absurd H (by simp)
     ·rw [if_neg c8] at H; exact absurd H (by simp)
    ·rw [if_neg c7] at H; exact absurd H (by simp)
   ·rw [if_neg c6] at H; have c6b0 := df c6; clear c6; obtain rfl := oI H
    go_wp2
    go_ret; exact ⟨_, rlT, by (with_reducible repeat (first | apply Kd.S_alloc | apply Kd.S_drewN | apply Kd.S_drew)); exact Kd.S_mono HO_5.out (fun _ hk => trivial), hbT HB.out⟩
def spec_SwapVoice.f (a0 : Int) : Option (Int × Bool) := if a0 = 112 then (some (98, true)) else (if a0 = 98 then (some (112, true)) else (if a0 = 116 then (some (100, true)) else (if a0 = 100 then (some (116, true)) else (some (a0, false)))))
theorem spec_SwapVoice.calls (a0 : Int) (r1 : Int) (r2 : Bool) (w : World) (h : spec_SwapVoice.f a0 = some (r1, r2)) :
  Calls Tryz.prog 110 #[.int .u8 a0] w fun e w' => e = .returned (.tuple #[.int .u8 r1, .bool r2]) ∧ Drawn0 w w' := by
 have H := h; unfold spec_SwapVoice.f at H; clear h; by_cases c2 : a0 = 112
 ·rw [if_pos c2] at H; have c2b0 : (a0 == 112) = true := eC c2; have c2b1 : (a0 != 112) = false := eA c2; clear c2
  simp only [Option.some.injEq, Prod.mk.injEq] at H
  obtain ⟨rfl, rfl⟩ := H; go_enter Tryz.func110, Tryz.ntmps110
  go_wp2
  go_ret2
  exact ⟨rdT, drT⟩
 ·rw [if_neg c2] at H; have c2b0 : (a0 == 112) = false := eB c2; have c2b1 : (a0 != 112) = true := eD c2; by_cases c3 : a0 = 98
  ·rw [if_pos c3] at H; have c3b0 : (a0 == 98) = true := eC c3; have c3b1 : (a0 != 98) = false := eA c3; clear c3
   simp only [Option.some.injEq, Prod.mk.injEq] at H
   obtain ⟨rfl, rfl⟩ := H; go_enter Tryz.func110, Tryz.ntmps110
   go_wp2
   go_ret2
   exact ⟨rdT, drT⟩
  ·rw [if_neg c3] at H; have c3b0 : (a0 == 98) = false := eB c3; have c3b1 : (a0 != 98) = true := eD c3; by_cases c4 : a0 = 116
   ·rw [if_pos c4] at H; have c4b0 : (a0 == 116) = true := eC c4; have c4b1 : (a0 != 116) = false := eA c4; clear c4
    simp only [Option.some.injEq, Prod.mk.injEq] at H
    obtain ⟨rfl, rfl⟩ := H; go_enter Tryz.func110, Tryz.ntmps110
    go_wp2
    go_ret2
    exact ⟨rdT, drT⟩
   ·rw [if_neg c4] at H; have c4b0 : (a0 == 116) = false := eB c4; have c4b1 : (a0 != 116) = true := eD c4; by_cases c5 : a0 = 100
    ·rw [if_pos c5] at H; have c5b0 : (a0 == 100) = true := eC c5; have c5b1 : (a0 != 100) = false := eA c5; clear c5
     simp only [Option.some.injEq, Prod.mk.injEq] at H
     obtain ⟨rfl, rfl⟩ := H; go_enter Tryz.func110, Tryz.ntmps110
     go_wp2
     go_ret2
     exact ⟨rdT, drT⟩
    ·rw [if_neg c5] at H; have c5b0 : (a0 == 100) = false := eB c5; have c5b1 : (a0 != 100) = true := eD c5
     simp only [Option.some.injEq, Prod.mk.injEq] at H
     obtain ⟨rfl, rfl⟩ := H; go_enter Tryz.func110, Tryz.ntmps110
     go_wp2
     go_ret2
     exact ⟨rdT, drT⟩
end Go.Proofs.YtlmfpkiaikjlbaaGreat.PFnExactTableauOf
