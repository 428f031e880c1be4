-- Made by gen.py (a program of this session) out of the translation; Lean checks it.
import Derived.Test.YtlmfpkiaikjlbaaDoorPFnExactParseNamesx0
import Derived.Test.YtlmfpkiaikjlbaaDoorPFnExactParseNamesx1
namespace Go.Proofs.YtlmfpkiaikjlbaaDoor.PFnExactParseNames
open Go.RowKit Go.Proofs.YtlmfpkiaikjlbaaDoorB Go.Proofs.YtlmfpkiaikjlbaaDoorW.PrintWords Go.Proofs.YtlmfpkiaikjlbaaDoorW.PrintLast Go.Proofs.YtlmfpkiaikjlbaaDoorW.PrintMore
attribute [local go_sem] max2_int min2_int max_two min_two max_three min_three max_four min_four   -- for this text's walks alone
set_option linter.unusedVariables false
set_option linter.unusedSimpArgs false

/-! ### laws_markText: function 21 -/
def laws_markText.l0 : Nat → Int → ByteArray → Option (ByteArray)
 | 0, _, _ => none
 | k + 1, x0, x3 => if x0 > 0 then ((some (([(wrap64 (48 + (Int.tmod x0 10))) % 256] : List Int) : List Int)).bind fun y148 => (if (strOfNums y148).size + x3.size ≤ 9223372036854775807 then (laws_markText.l0 k (wrap64 (Int.tdiv x0 10)) ((strOfNums y148) ++ x3)) else (none))) else (if 1 + x3.size ≤ 9223372036854775807 then (some ((⟨#[109]⟩ : ByteArray) ++ x3)) else (none))
def laws_markText.f (k : Nat) (a0 : Int) : Option (ByteArray) := if a0 ≤ 0 then (some (⟨#[109, 48]⟩ : ByteArray)) else (laws_markText.l0 k a0 (⟨#[]⟩ : ByteArray))
theorem laws_markText.mono_l : ∀ k, (∀ y0 y1, LeO (laws_markText.l0 k y0 y1) (laws_markText.l0 (k + 1) y0 y1))
 | 0 => fun _ _ r h => by simp [laws_markText.l0] at h
 | k + 1 => by
  have ih0 := laws_markText.mono_l k
  ·intro y0 y1
   unfold laws_markText.l0
   with_reducible repeat' first | exact ih0 _ _ | exact LeO.refl _ | exact LeO.none _ | refine LeO.ite ?_ ?_ | refine LeO.bind ?_ (fun _ => ?_)
theorem laws_markText.mono : ∀ a0 k, LeO (laws_markText.f k a0) (laws_markText.f (k + 1) a0) := by
 intro a0 k
 have ih0 := laws_markText.mono_l k
 unfold laws_markText.f
 with_reducible repeat' first | exact ih0 _ _ | exact LeO.refl _ | exact LeO.none _ | refine LeO.ite ?_ ?_ | refine LeO.bind ?_ (fun _ => ?_)
set_option maxHeartbeats 8000000 in
set_option maxRecDepth 100000 in
theorem laws_markText.calls (k : Nat) (a0 : Int) (r : ByteArray) (w : World) (h : laws_markText.f k a0 = some r) :
  Calls Tryd.prog 21 #[.int .i64 a0] w fun e w' => e = .returned (.string r) ∧ Below w.heap.size w w' := by
 have HB := asT (Below.refl w.heap.size w); have H := h; unfold laws_markText.f at H; clear h
 by_cases c2 : a0 ≤ 0
 ·rw [if_pos c2] at H
  have c2b0 : decide (a0 ≤ 0) = true := decide_eq_true c2
  clear c2
  obtain rfl := Option.some.inj H
  go_enter Tryd.func21, Tryd.ntmps21
  go_wp2
  go_ret
  exact ⟨rlT, hbT HB.out⟩
 ·rw [if_neg c2] at H
  have c2b0 : decide (a0 ≤ 0) = false := decide_eq_false c2
  clear c2; have H' := Aside0.mk H; clear H
  go_enter Tryd.func21, Tryd.ntmps21
  go_wp2
  go_loopg [0, 3] k (fun kq v0 v3 w' => ∃ (x0_1 : Int) (x3_1 : ByteArray), v0 = .int .i64 x0_1 ∧ v3 = .string x3_1 ∧ Aside0 (laws_markText.l0 kq x0_1 x3_1 = some r) ∧ Aside0 (kq ≤ k) ∧ Aside0 (Below w.heap.size w w'))
  case atStart => exact ⟨(a0), ((⟨#[]⟩ : ByteArray)), rdT, rdT, H', ⟨Nat.le_refl _⟩, ⟨hbT HB.out⟩⟩
  case round =>
   clear H'; (try clear c2 c2b0 p2); obtain ⟨x0_1, x3_1, rfl, rfl, HA, HK1, HB⟩ := hrel
   cases gk with
   | zero => exact absurd HA.out (by simp [laws_markText.l0])
   | succ k1 =>
    have H := HA.out; clear HA
    simp only [laws_markText.l0] at H
    by_cases c3 : x0_1 > 0
    ·rw [if_pos c3] at H
     have c3b0 : decide (0 < x0_1) = true := decide_eq_true c3
     clear c3; obtain ⟨y148, hy148⟩ : ∃ y_ : List Int, y_ = (([(wrap64 (48 + (Int.tmod x0_1 10))) % 256] : List Int)) := ⟨_, rfl⟩
     replace H : (if (strOfNums y148).size + x3_1.size ≤ 9223372036854775807 then (laws_markText.l0 k1 (wrap64 (Int.tdiv x0_1 10)) ((strOfNums y148) ++ x3_1)) else (none)) = some r := by first | (rw [hy148]; with_reducible exact H) | (have H2_ := (Option.bind_some _ _).symm.trans H; rw [hy148]; with_reducible exact H2_) | (have H2_ := (Option.bind_some _ _).symm.trans H; with_reducible exact H2_) | with_reducible exact H | (rw [hy148]; exact H) | exact H
     have Ny148 := Aside0.mk hy148; clear hy148
     by_cases c4 : (strOfNums y148).size + x3_1.size ≤ 9223372036854775807
     ·rw [if_pos c4] at H
      have c4b0 := eq_true c4
      have c4b1 : decide ((strOfNums y148).size + x3_1.size ≤ 9223372036854775807) = true := decide_eq_true c4
      try have c4b2 : (9223372036854775807 < (strOfNums y148).size + x3_1.size) = False := eq_false (Nat.not_lt.2 c4)
      have H' := Aside0.mk H; clear H
      go_wp2_with (first | ((with_reducible refine gate_dst (N := 12) rfl ?_); refine Kd.R_lit (Kd.int .u8) _ 5 ?hg (N := 12) ?hd (xs := ([(wrap64 (48 + (Int.tmod x0_1 10))) % 256] : List Int)) (inner := [.int .u8 ((wrap64 (48 + (Int.tmod x0_1 10))) % 256)]) (ok := fun _ => True) (okp := fun _ => True) ?hr ?hp (fun _ hk => hk) trivial (Below.refl _ _) (Nat.le_refl _) (by simp) ?_; (case hd => rfl); (case hg => rfl); (case hr => first | (go_simp; done) | (go_simp; rfl)); (case hp => exact (Reps.one (show Kd.M (Kd.int .u8) _ _ _ ((wrap64 (48 + (Int.tmod x0_1 10))) % 256) [.int .u8 ((wrap64 (48 + (Int.tmod x0_1 10))) % 256)] from rfl) (Reps.none _ _))); intro v149 w5 ho6 hb hg_ hnew_; clear hg_ hnew_; (first | rw [← Ny148.out] at ho6 | (simp only [Int.reduceToNat] at ho6; rw [← Ny148.out] at ho6)); have HO150 := asT (Kd.R_lower ho6 (below_size (hbT HB.out))); replace HB := hS HB hb; clear hb ho6; have hcv7 := own_string (P := Tryd.prog) Tryd.underlying45 Tryd.underlying5 Tryd.underlying9 (Kd.own_of_R HO150.out)))
      go_roundg k1
      case measure => have := HK1.out; omega
      case rel => exact ⟨(wrap64 (Int.tdiv x0_1 10)), ((strOfNums y148) ++ x3_1), rdT, rdT, H', ⟨by have := HK1.out; omega⟩, ⟨hbT HB.out⟩⟩
     ·rw [if_neg c4] at H
      exact absurd H (by simp)
    ·rw [if_neg c3] at H
     have c3b0 : decide (0 < x0_1) = false := decide_eq_false c3
     clear c3
     by_cases c8 : 1 + x3_1.size ≤ 9223372036854775807
     ·rw [if_pos c8] at H
      have c8b0 := eq_true c8
      have c8b1 : decide (1 + x3_1.size ≤ 9223372036854775807) = true := decide_eq_true c8
      try have c8b2 : (9223372036854775807 < 1 + x3_1.size) = False := eq_false (Nat.not_lt.2 c8)
      obtain rfl := Option.some.inj H
      go_wp2
      go_ret
      exact ⟨rlT, hbT HB.out⟩
     ·rw [if_neg c8] at H
      exact absurd H (by simp)

/-! ### laws_markStringS: function 8 -/
def laws_markStringS.l0 : Nat → List ByteArray → Int → Int → Option (Int × List ByteArray)
 | 0, _, _, _ => none
 | k + 1, x0, x1, x5 => if x5 < (x0.length : Int) then ((laws_markText.f k x1).bind fun t151 => (if 0 ≤ x5 then (laws_markStringS.l0 k (x0.set (x5 : Int).toNat t151) (wrap64 (x1 + 1)) (wrap64 (x5 + 1))) else (none))) else (some (x1, x0))
def laws_markStringS.f (k : Nat) (l0 : List ByteArray) (a1 : Int) : Option (Int × List ByteArray) := laws_markStringS.l0 k l0 a1 0
theorem laws_markStringS.mono_l : ∀ k, (∀ y0 y1 y2, LeO (laws_markStringS.l0 k y0 y1 y2) (laws_markStringS.l0 (k + 1) y0 y1 y2))
 | 0 => fun _ _ _ r h => by simp [laws_markStringS.l0] at h
 | k + 1 => by
  have ih0 := laws_markStringS.mono_l k
  ·intro y0 y1 y2
   unfold laws_markStringS.l0
   with_reducible repeat' first | exact ih0 _ _ _ | exact laws_markText.mono _ _ | exact LeO.refl _ | exact LeO.none _ | refine LeO.ite ?_ ?_ | refine LeO.bind ?_ (fun _ => ?_)
theorem laws_markStringS.mono : ∀ a0 a1 k, LeO (laws_markStringS.f k a0 a1) (laws_markStringS.f (k + 1) a0 a1) := by
 intro a0 a1 k
 have ih0 := laws_markStringS.mono_l k
 unfold laws_markStringS.f
 with_reducible repeat' first | exact ih0 _ _ _ | exact laws_markText.mono _ _ | exact LeO.refl _ | exact LeO.none _ | refine LeO.ite ?_ ?_ | refine LeO.bind ?_ (fun _ => ?_)
set_option maxHeartbeats 8000000 in
set_option maxRecDepth 100000 in
theorem laws_markStringS.calls (k : Nat) (P0_ : Nat → Prop) (u9000_ : Value) (l0 : List ByteArray) (a1 : Int) (r1 : Int) (r2 : List ByteArray) (w0 w : World) (hB : Below w0.heap.size w0 w) (ho0 : Kd.R Kd.string 9 w w0.heap.size P0_ u9000_ l0) (h : laws_markStringS.f k l0 a1 = some (r1, r2)) :
  Calls Tryd.prog 8 #[u9000_, .int .i64 a1] w fun e w' => e = .returned (.int .i64 r1) ∧ Kd.R Kd.string 9 w' w0.heap.size (fun k_ => (P0_ k_ ∨ w.heap.size ≤ k_)) u9000_ r2 ∧ Below w0.heap.size w0 w' ∧ Kept w w' (fun k_ => P0_ k_) := by
 have HO0 := asT (show Kd.R Kd.string 9 w w0.heap.size (fun k_ => (P0_ k_ ∨ w.heap.size ≤ k_)) u9000_ l0 from Kd.R_mono ho0 (fun k_ hk => (.inl hk))); have HK := asT (Kept.refl w (fun k_ => P0_ k_)); have HW0 := Aside0.mk hB.size; have HB := Aside0.mk hB; clear hB; have H := h; unfold laws_markStringS.f at H; clear h; have H' := Aside0.mk H; clear H
 go_enter Tryd.func8, Tryd.ntmps8
 go_wp2
 go_loopg [1, 5] k (fun kq v1 v5 w' => ∃ (x0_1 : List ByteArray) (x1_1 : Int) (x5_1 : Int), v1 = .int .i64 x1_1 ∧ v5 = .int .i64 x5_1 ∧ Aside0 (laws_markStringS.l0 kq x0_1 x1_1 x5_1 = some (r1, r2)) ∧ Aside0 (kq ≤ k) ∧ Aside0 (Kd.R Kd.string 9 w' w0.heap.size (fun k_ => (P0_ k_ ∨ w.heap.size ≤ k_)) u9000_ x0_1) ∧ Aside0 (Kept w w' (fun k_ => P0_ k_)) ∧ Aside0 (Below w0.heap.size w0 w'))
 case atStart => exact ⟨(l0), (a1), (0), rdT, rdT, H', ⟨Nat.le_refl _⟩, ⟨by (with_reducible repeat (first | apply Kd.R_alloc | apply Kd.R_drewN | apply Kd.R_drew)); exact HO0.out⟩, ⟨by repeat (first | (with_reducible first | exact HK.out | apply Kept.alloc | apply Kept.drewN | apply Kept.drew) | exact HK.out)⟩, ⟨hbT HB.out⟩⟩
 case round =>
  clear H'; (try clear p2); obtain ⟨x0_1, x1_1, x5_1, rfl, rfl, HA, HK1, HO_0, HK, HB⟩ := hrel
  cases gk with
  | zero => exact absurd HA.out (by simp [laws_markStringS.l0])
  | succ k1 =>
   have H := HA.out; clear HA
   simp only [laws_markStringS.l0] at H
   by_cases c3 : x5_1 < (x0_1.length : Int)
   ·rw [if_pos c3] at H
    have c3b0 : decide (x5_1 < (x0_1.length : Int)) = true := decide_eq_true c3
    clear c3; obtain ⟨t151, A4, H⟩ := be H
    by_cases c5 : 0 ≤ x5_1
    ·rw [if_pos c5] at H
     have c5b0 : decide (0 ≤ x5_1) = true := decide_eq_true c5
     clear c5; obtain ⟨y152, hy152⟩ : ∃ y_ : List ByteArray, y_ = (x0_1.set (x5_1 : Int).toNat t151) := ⟨_, rfl⟩
     replace H : (laws_markStringS.l0 k1 y152 (wrap64 (x1_1 + 1)) (wrap64 (x5_1 + 1))) = some (r1, r2) := by first | (rw [hy152]; with_reducible exact H) | (have H2_ := (Option.bind_some _ _).symm.trans H; rw [hy152]; with_reducible exact H2_) | (have H2_ := (Option.bind_some _ _).symm.trans H; with_reducible exact H2_) | with_reducible exact H | (rw [hy152]; exact H) | exact H
     have Ny152 := Aside0.mk hy152; clear hy152; have H' := Aside0.mk H; clear H; obtain ⟨Ao7, co7, eo7⟩ := Kd.R_slice HO_0.out; subst eo7
     go_wp2_with (first | ((with_reducible refine gate_callee (f := 21) rfl ?_); refine goesL_ (some 15) rfl rfl Tryd.func21 (by kernel_rfl) rfl #[.int .i64 x1_1] rfl eqT ?_; (with_reducible refine (laws_markText.calls k1 x1_1 t151 _ A4.out).mono ?_); rintro e w8 ⟨rfl, hb⟩; refine ⟨_, rfl, ?_⟩; replace HO_0 := asT (Kd.R_below (roT HO_0.out) hb); replace HK := asT (Kept.below (S := (fun k_ => P0_ k_)) (by repeat (first | (with_reducible first | exact HK.out | apply Kept.alloc | apply Kept.drewN | apply Kept.drew) | exact HK.out)) hb); replace HB := hS HB hb; (try clear hb hb2 hk hi); have p6 : 0 ≤ (x5_1 : Int) := of_decide_eq_true asmT; have q6 : (x5_1 : Int) < ((x0_1.length : Int) : Int) := of_decide_eq_true asmT; obtain ⟨go6, co6, eo6, gb6, gl6, cl6, HG6⟩ := Kd.R_form HO_0.out (by omega); (first | cases eo6 | (injection eo6 with ea_ en_ ec_; (first | subst ea_ | (injection ea_ with ea_; subst ea_)); subst ec_; clear en_)); have GB6 := Aside0.mk gb6; have GG6 := Aside0.mk HG6; clear gb6 gl6 HG6; have HMgo6 := asT (show (P0_ go6 ∨ w.heap.size ≤ go6) from (HO_0.out.1 _ rfl)); obtain ⟨hx6_0, hf6_0⟩ := Kd.R_celln (⟨#[]⟩ : ByteArray) HO_0.out (x5_1 : Int) p6 q6; replace p6 := eq_true p6; replace q6 := eq_true q6; obtain ⟨hy9_, hz9_⟩ := Kd.R_celln (⟨#[]⟩ : ByteArray) HO_0.out (x5_1 : Int) (of_decide_eq_true asmT) (of_decide_eq_true asmT); have HP9 := Kd.R_putg HO_0.out (x5_1 : Int) t151) | ((with_reducible refine gate_store (t := 9) (p := 16) rfl ?_); refine store_event (t := 9) (p := 16) (v := ?vo_w10) (w1 := (w8.setCell ⟨go6, (x5_1 : Int).toNat, none⟩ (.string t151))) ?hg ?ho ?hn ?hr ?_; (case ho => rfl); (case hg => rfl); (case hn => rfl); (case hr => first | (go_simp; done) | (go_simp; rfl)); intro w10 hw; have hg : w8.grownBy w10 (some go6) := (by rw [hw]; exact HP9.2); have hp_ : Kd.R Kd.string 9 w10 w0.heap.size (fun k_ => (P0_ k_ ∨ w.heap.size ≤ k_)) (.slice (some ⟨go6, 0, none⟩) x0_1.length co7) y152 := (by rw [hw, Ny152.out]; exact HP9.1); clear HP9; replace HB := asT ((by rw [hw]; exact below_set (HB.out) GB6.out : Below w0.heap.size w0 w10)); replace HK := asT (Kept.of_grown (S := (fun k_ => P0_ k_)) hg (by repeat (first | (with_reducible first | exact HK.out | apply Kept.alloc | apply Kept.drewN | apply Kept.drew) | exact HK.out)) (fun k_ e_ => (HO_0.out.1 k_ e_))); replace HO_0 := asT (hp_); clear hg hw hp_))
     go_roundg k1
     case measure => have := HK1.out; omega
     case rel => exact ⟨(y152), (wrap64 (x1_1 + 1)), (wrap64 (x5_1 + 1)), rdT, rdT, H', ⟨by have := HK1.out; omega⟩, ⟨by (with_reducible repeat (first | apply Kd.R_alloc | apply Kd.R_drewN | apply Kd.R_drew)); exact HO_0.out⟩, ⟨by repeat (first | (with_reducible first | exact HK.out | apply Kept.alloc | apply Kept.drewN | apply Kept.drew) | exact HK.out)⟩, ⟨hbT HB.out⟩⟩
    ·rw [if_neg c5] at H
     exact absurd H (by simp)
   ·rw [if_neg c3] at H
    have c3b0 : decide (x5_1 < (x0_1.length : Int)) = false := decide_eq_false c3
    clear c3
    simp only [Option.some.injEq, Prod.mk.injEq] at H
    obtain ⟨rfl, rfl⟩ := H; obtain ⟨Ao11, co11, eo11⟩ := Kd.R_slice HO_0.out; subst eo11
    go_wp2
    go_ret
    exact ⟨rlT, by (with_reducible repeat (first | apply Kd.R_alloc | apply Kd.R_drewN | apply Kd.R_drew)); exact HO_0.out, hbT HB.out, by repeat (first | (with_reducible first | exact HK.out | apply Kept.alloc | apply Kept.drewN | apply Kept.drew) | exact HK.out)⟩

/-! ### laws_heldStringS: function 9 -/
def laws_heldStringS.l0 : Nat → List ByteArray → Int → Int → Option (Int)
 | 0, _, _, _ => none
 | k + 1, x0, x1, x5 => if x5 < (x0.length : Int) then (if 0 ≤ x5 then ((laws_markText.f k x1).bind fun t154 => (if (rdOf ByteArray.empty x0 x5).toList = t154.toList then (laws_heldStringS.l0 k x0 (wrap64 (x1 + 1)) (wrap64 (x5 + 1))) else (some (-1)))) else (none)) else (some x1)
def laws_heldStringS.f (k : Nat) (l0 : List ByteArray) (a1 : Int) : Option (Int) := laws_heldStringS.l0 k l0 a1 0
theorem laws_heldStringS.mono_l : ∀ k, (∀ y0 y1 y2, LeO (laws_heldStringS.l0 k y0 y1 y2) (laws_heldStringS.l0 (k + 1) y0 y1 y2))
 | 0 => fun _ _ _ r h => by simp [laws_heldStringS.l0] at h
 | k + 1 => by
  have ih0 := laws_heldStringS.mono_l k
  ·intro y0 y1 y2
   unfold laws_heldStringS.l0
   with_reducible repeat' first | exact ih0 _ _ _ | exact laws_markText.mono _ _ | exact LeO.refl _ | exact LeO.none _ | refine LeO.ite ?_ ?_ | refine LeO.bind ?_ (fun _ => ?_)
theorem laws_heldStringS.mono : ∀ a0 a1 k, LeO (laws_heldStringS.f k a0 a1) (laws_heldStringS.f (k + 1) a0 a1) := by
 intro a0 a1 k
 have ih0 := laws_heldStringS.mono_l k
 unfold laws_heldStringS.f
 with_reducible repeat' first | exact ih0 _ _ _ | exact laws_markText.mono _ _ | exact LeO.refl _ | exact LeO.none _ | refine LeO.ite ?_ ?_ | refine LeO.bind ?_ (fun _ => ?_)
set_option maxHeartbeats 8000000 in
set_option maxRecDepth 100000 in
theorem laws_heldStringS.calls (k : Nat) (A0 : Option Addr) (c0 : Nat) (l0 : List ByteArray) (a1 : Int) (r : Int) (w : World) (hr0 : Kd.C Kd.string w A0 l0.length l0) (hc0 : l0.length ≤ c0) (h : laws_heldStringS.f k l0 a1 = some r) :
  Calls Tryd.prog 9 #[.slice A0 l0.length c0, .int .i64 a1] w fun e w' => e = .returned (.int .i64 r) ∧ Below w.heap.size w w' := by
 have HR0 := Aside0.mk hr0; have HC0 := Aside0.mk hc0; clear hr0 hc0; have HB := asT (Below.refl w.heap.size w); have H := h; unfold laws_heldStringS.f at H; clear h; have H' := Aside0.mk H; clear H
 go_enter Tryd.func9, Tryd.ntmps9
 go_wp2
 go_loopg [1, 5] k (fun kq v1 v5 w' => ∃ (x1_1 : Int) (x5_1 : Int), v1 = .int .i64 x1_1 ∧ v5 = .int .i64 x5_1 ∧ Aside0 (laws_heldStringS.l0 kq l0 x1_1 x5_1 = some r) ∧ Aside0 (kq ≤ k) ∧ Aside0 (Below w.heap.size w w'))
 case atStart => exact ⟨(a1), (0), rdT, rdT, H', ⟨Nat.le_refl _⟩, ⟨hbT HB.out⟩⟩
 case round =>
  clear H'; (try clear p2); obtain ⟨x1_1, x5_1, rfl, rfl, HA, HK1, HB⟩ := hrel
  cases gk with
  | zero => exact absurd HA.out (by simp [laws_heldStringS.l0])
  | succ k1 =>
   have H := HA.out; clear HA
   simp only [laws_heldStringS.l0] at H
   by_cases c3 : x5_1 < (l0.length : Int)
   ·rw [if_pos c3] at H
    have c3b0 : decide (x5_1 < (l0.length : Int)) = true := decide_eq_true c3
    clear c3
    by_cases c4 : 0 ≤ x5_1
    ·rw [if_pos c4] at H
     have c4b0 : decide (0 ≤ x5_1) = true := decide_eq_true c4
     clear c4; obtain ⟨t154, A5, H⟩ := be H
     by_cases c6 : (rdOf ByteArray.empty l0 x5_1).toList = t154.toList
     ·rw [if_pos c6] at H
      have c6b0 : ((rdOf ByteArray.empty l0 x5_1).toList == t154.toList) = true := beq_iff_eq.mpr c6
      have c6b1 : ((rdOf ByteArray.empty l0 x5_1).toList != t154.toList) = false := bne_eq_false_iff_eq.mpr c6
      clear c6; have H' := Aside0.mk H; clear H
      try go_wp2
      replace HB := asT (below_drew1 HB.out)
      have p153 : 0 ≤ (x5_1 : Int) := of_decide_eq_true asmT
      have q153 : x5_1 < (l0.length : Int) := of_decide_eq_true asmT
      obtain ⟨ad153, e153, hx153_0⟩ := Kd.at_string HR0.out x5_1 p153 q153; have hw153_0 := hx153_0
      cases e153
      replace hx153_0 := hbc HB.out hx153_0; replace p153 := eq_true p153; replace q153 := eq_true q153
      refine start_ (n := 7) (S := fun w' => w'.cell? (ad153.add (x5_1).toNat) = some (.string (rdOf ByteArray.empty l0 x5_1))) (ds := []) (bA 7 0) (by kernel_rfl) rfl rfl (((HB.out.cell (World.block_lt_of_cell? w _ hw153_0)).trans hw153_0)) (fun hHeld => ?_)
      generalize wr.drew = w7 at HB hx153_0 hHeld ⊢
      refine pure_ (i := 0) (N := some 12) (v := ?_) (a' := ?_) (bA 7 1) rfl rfl (by kernel_rfl) (fun _ _ _ h => h) (Or.inl ⟨by rfl, ?_⟩) ?_ ?_
      rotate_left
      ·intro w'
       go_simp
       (with_reducible rfl)
      rotate_left
      ·simp only [Act.put, sA, sZ, sS, i64_w, i32_w]
       rfl
      refine pure_ (i := 1) (N := some 13) (v := ?_) (a' := ?_) (bA 7 3) rfl rfl (by kernel_rfl) (fun _ _ _ h => h) (Or.inl ⟨by rfl, ?_⟩) ?_ ?_
      rotate_left
      ·intro w'
       go_simp
       (with_reducible rfl)
      rotate_left
      ·simp only [Act.put, sA, sZ, sS, i64_w, i32_w]
       rfl
      refine pure_ (i := 2) (N := some 14) (v := ?_) (a' := ?_) (bA 7 7) rfl rfl (by kernel_rfl) (fun _ _ _ h => h) (Or.inl ⟨by rfl, ?_⟩) ?_ ?_
      rotate_left
      ·intro w'
       go_simp
       (with_reducible rfl)
      rotate_left
      ·simp only [Act.put, sA, sZ, sS, i64_w, i32_w]
       rfl
      refine pure_ (i := 4) (N := some 16) (v := ?_) (a' := ?_) (bA 7 23) rfl rfl (by kernel_rfl) (fun _ _ _ h => h) (Or.inl ⟨by rfl, ?_⟩) ?_ ?_
      rotate_left
      ·intro w'
       go_simp
       (with_reducible rfl)
      rotate_left
      ·simp only [Act.put, sA, sZ, sS, i64_w, i32_w]
       rfl
      refine take_ (i := 3) (N := some 15) (v := ?_) (a' := ?_) (bA 7 31) rfl rfl (by kernel_rfl) (fun _ _ _ h => h) (Or.inl ⟨by rfl, ?_⟩) hHeld ?_ ?_
      rotate_left
      ·intro w' s0
       go_simp
       (with_reducible rfl)
      rotate_left
      ·simp only [Act.put, sA, sZ, sS, i64_w, i32_w]
       rfl
      refine one_ (i := 5) (N := some 17) (bA 7 63) rfl rfl (by kernel_rfl) (by decide) (fun K hK => ?_)
      refine goes_ Tryd.func21 (by kernel_rfl) rfl #[.int .i64 x1_1] (by rfl) rfl rfl eqT ?_
      (with_reducible refine (laws_markText.calls k1 x1_1 t154 _ A5.out).mono ?_); rintro e w8 ⟨rfl, hb⟩; refine ⟨_, rfl, ?_⟩; replace HB := hS HB hb; (try clear hb hb2 hk hi)
      refine hK.out _ _ (((HB.out.cell (World.block_lt_of_cell? w _ hw153_0)).trans hw153_0)) (fun hHeld => ?_)
      clear hK K
      refine nB 17 ?_ rfl
      refine pure_ (i := 6) (N := some 18) (v := ?_) (a' := ?_) (bA 7 127) rfl rfl (by kernel_rfl) (fun _ _ _ h => h) (Or.inl ⟨by rfl, ?_⟩) ?_ ?_
      rotate_left
      ·intro w'
       go_simp
       (with_reducible rfl)
      rotate_left
      ·simp only [Act.put, sA, sZ, sS, i64_w, i32_w]
       rfl
      refine done_ (by kernel_rfl) ?_
      try go_wp2
      go_roundg k1
      case measure => have := HK1.out; omega
      case rel => exact ⟨(wrap64 (x1_1 + 1)), (wrap64 (x5_1 + 1)), rdT, rdT, H', ⟨by have := HK1.out; omega⟩, ⟨hbT HB.out⟩⟩
     ·rw [if_neg c6] at H
      have c6b0 : ((rdOf ByteArray.empty l0 x5_1).toList == t154.toList) = false := beq_eq_false_iff_ne.mpr c6
      have c6b1 : ((rdOf ByteArray.empty l0 x5_1).toList != t154.toList) = true := bne_iff_ne.mpr c6
      obtain rfl := Option.some.inj H
      try go_wp2
      replace HB := asT (below_drew1 HB.out)
      have p153 : 0 ≤ (x5_1 : Int) := of_decide_eq_true asmT
      have q153 : x5_1 < (l0.length : Int) := of_decide_eq_true asmT
      obtain ⟨ad153, e153, hx153_0⟩ := Kd.at_string HR0.out x5_1 p153 q153; have hw153_0 := hx153_0
      cases e153
      replace hx153_0 := hbc HB.out hx153_0; replace p153 := eq_true p153; replace q153 := eq_true q153
      refine start_ (n := 7) (S := fun w' => w'.cell? (ad153.add (x5_1).toNat) = some (.string (rdOf ByteArray.empty l0 x5_1))) (ds := []) (bA 7 0) (by kernel_rfl) rfl rfl (((HB.out.cell (World.block_lt_of_cell? w _ hw153_0)).trans hw153_0)) (fun hHeld => ?_)
      generalize wr.drew = w9 at HB hx153_0 hHeld ⊢
      refine pure_ (i := 0) (N := some 12) (v := ?_) (a' := ?_) (bA 7 1) rfl rfl (by kernel_rfl) (fun _ _ _ h => h) (Or.inl ⟨by rfl, ?_⟩) ?_ ?_
      rotate_left
      ·intro w'
       go_simp
       (with_reducible rfl)
      rotate_left
      ·simp only [Act.put, sA, sZ, sS, i64_w, i32_w]
       rfl
      refine pure_ (i := 1) (N := some 13) (v := ?_) (a' := ?_) (bA 7 3) rfl rfl (by kernel_rfl) (fun _ _ _ h => h) (Or.inl ⟨by rfl, ?_⟩) ?_ ?_
      rotate_left
      ·intro w'
       go_simp
       (with_reducible rfl)
      rotate_left
      ·simp only [Act.put, sA, sZ, sS, i64_w, i32_w]
       rfl
      refine pure_ (i := 2) (N := some 14) (v := ?_) (a' := ?_) (bA 7 7) rfl rfl (by kernel_rfl) (fun _ _ _ h => h) (Or.inl ⟨by rfl, ?_⟩) ?_ ?_
      rotate_left
      ·intro w'
       go_simp
       (with_reducible rfl)
      rotate_left
      ·simp only [Act.put, sA, sZ, sS, i64_w, i32_w]
       rfl
      refine pure_ (i := 4) (N := some 16) (v := ?_) (a' := ?_) (bA 7 23) rfl rfl (by kernel_rfl) (fun _ _ _ h => h) (Or.inl ⟨by rfl, ?_⟩) ?_ ?_
      rotate_left
      ·intro w'
       go_simp
       (with_reducible rfl)
      rotate_left
      ·simp only [Act.put, sA, sZ, sS, i64_w, i32_w]
       rfl
      refine take_ (i := 3) (N := some 15) (v := ?_) (a' := ?_) (bA 7 31) rfl rfl (by kernel_rfl) (fun _ _ _ h => h) (Or.inl ⟨by rfl, ?_⟩) hHeld ?_ ?_
      rotate_left
      ·intro w' s0
       go_simp
       (with_reducible rfl)
      rotate_left
      ·simp only [Act.put, sA, sZ, sS, i64_w, i32_w]
       rfl
      refine one_ (i := 5) (N := some 17) (bA 7 63) rfl rfl (by kernel_rfl) (by decide) (fun K hK => ?_)
      refine goes_ Tryd.func21 (by kernel_rfl) rfl #[.int .i64 x1_1] (by rfl) rfl rfl eqT ?_
      (with_reducible refine (laws_markText.calls k1 x1_1 t154 _ A5.out).mono ?_); rintro e w10 ⟨rfl, hb⟩; refine ⟨_, rfl, ?_⟩; replace HB := hS HB hb; (try clear hb hb2 hk hi)
      refine hK.out _ _ (((HB.out.cell (World.block_lt_of_cell? w _ hw153_0)).trans hw153_0)) (fun hHeld => ?_)
      clear hK K
      refine nB 17 ?_ rfl
      refine pure_ (i := 6) (N := some 18) (v := ?_) (a' := ?_) (bA 7 127) rfl rfl (by kernel_rfl) (fun _ _ _ h => h) (Or.inl ⟨by rfl, ?_⟩) ?_ ?_
      rotate_left
      ·intro w'
       go_simp
       (with_reducible rfl)
      rotate_left
      ·simp only [Act.put, sA, sZ, sS, i64_w, i32_w]
       rfl
      refine done_ (by kernel_rfl) ?_
      try go_wp2
      go_ret
      exact ⟨rlT, hbT HB.out⟩
    ·rw [if_neg c4] at H
     exact absurd H (by simp)
   ·rw [if_neg c3] at H
    have c3b0 : decide (x5_1 < (l0.length : Int)) = false := decide_eq_false c3
    clear c3
    obtain rfl := Option.some.inj H
    go_wp2
    go_ret
    exact ⟨rlT, hbT HB.out⟩

/-! ### laws_FnExactParseNames: function 3 -/
def laws_FnExactParseNames.f (k : Nat) (a0 : ByteArray) : Option (Bool) := if (a0.size : Int) > 1048576 then some true else ((spec_ParseNames.f k a0).bind fun b1 => ((impl_ParseNames.f k a0).bind fun b2 => ((laws_eqStringS.f k (b2.1) (b1.1)).bind fun b3 => (if (b3) = true then (if (b2.2) = (b1.2) then ((laws_markStringS.f k (b2.1) 1).bind fun b4 => ((laws_heldStringS.f k (b4.2) 1).bind fun b5 => (if (b5) < 0 then none else (if (b5) = (b4.1) then ((impl_ParseNames.f k a0).bind fun b6 => ((laws_eqStringS.f k (b6.1) (b1.1)).bind fun b7 => (if (b7) = true then (if (b6.2) = (b1.2) then ((laws_heldStringS.f k (b4.2) 1).bind fun b8 => (if (b8) < 0 then none else (if (b8) = (b4.1) then (some true) else none))) else none) else none))) else none)))) else none) else none))))
set_option maxHeartbeats 8000000 in
set_option maxRecDepth 100000 in
theorem laws_FnExactParseNames.calls (k : Nat) (a0 : ByteArray) (r : Bool) (w : World) (hM : MaxL w) (h : laws_FnExactParseNames.f k a0 = some r) :
    Calls Tryd.prog 3 #[.string a0] w fun e w' => e = .returned (.bool r) ∧ Below w.heap.size w w' := by
  unfold laws_FnExactParseNames.f at h
  have HB0 : Aside0 (Below w.heap.size w w) := ⟨Below.refl _ _⟩
  have HM := asT hM; clear hM
  by_cases cc : (a0.size : Int) > 1048576
  · rw [if_pos cc] at h
    obtain rfl := Option.some.inj h
    have cb0 : decide (1048576 < (a0.size : Int)) = true := decide_eq_true cc
    have cb1 : decide (1048576 < a0.size) = true := decide_eq_true (by omega)
    clear cc h
    go_enter Tryd.func3, Tryd.ntmps3
    go_wp2_with fail
    go_ret
    exact ⟨rfl, HB0.out⟩
  · rw [if_neg cc] at h
    have cba0sizeInt : decide (1048576 < (a0.size : Int)) = false := decide_eq_false cc
    have cba0sizeIntn : decide (1048576 < a0.size) = false := decide_eq_false (by omega)
    clear cc
    replace h := Option.bind_eq_some_iff.mp h; obtain ⟨⟨t1_0, t1_1⟩, hf1_, h⟩ := h; have hf1 := asT hf1_; clear hf1_; try dsimp only at h
    replace h := Option.bind_eq_some_iff.mp h; obtain ⟨⟨t2_0, t2_1⟩, hf2_, h⟩ := h; have hf2 := asT hf2_; clear hf2_; try dsimp only at h
    replace h := Option.bind_eq_some_iff.mp h; obtain ⟨t3_0, hf3_, h⟩ := h; have hf3 := asT hf3_; clear hf3_
    by_cases cc : t3_0 = true
    rotate_left
    · rw [if_neg cc] at h
      cases h
    rw [if_pos cc] at h
    subst cc
    by_cases cc : t2_1 = t1_1
    rotate_left
    · rw [if_neg cc] at h
      cases h
    rw [if_pos cc] at h
    subst cc
    replace h := Option.bind_eq_some_iff.mp h; obtain ⟨⟨t4_0, t4_1⟩, hf4_, h⟩ := h; have hf4 := asT hf4_; clear hf4_; try dsimp only at h
    replace h := Option.bind_eq_some_iff.mp h; obtain ⟨t5_0, hf5_, h⟩ := h; have hf5 := asT hf5_; clear hf5_
    by_cases cc : t5_0 < 0
    · rw [if_pos cc] at h
      cases h
    rw [if_neg cc] at h
    have cbt5_0 : decide (t5_0 < 0) = false := decide_eq_false cc
    clear cc
    by_cases cc : t5_0 = t4_0
    rotate_left
    · rw [if_neg cc] at h
      cases h
    rw [if_pos cc] at h
    subst cc
    replace h := Option.bind_eq_some_iff.mp h; obtain ⟨⟨t6_0, t6_1⟩, hf6_, h⟩ := h; have hf6 := asT hf6_; clear hf6_; try dsimp only at h
    replace h := Option.bind_eq_some_iff.mp h; obtain ⟨t7_0, hf7_, h⟩ := h; have hf7 := asT hf7_; clear hf7_
    by_cases cc : t7_0 = true
    rotate_left
    · rw [if_neg cc] at h
      cases h
    rw [if_pos cc] at h
    subst cc
    by_cases cc : t6_1 = t2_1
    rotate_left
    · rw [if_neg cc] at h
      cases h
    rw [if_pos cc] at h
    subst cc
    replace h := Option.bind_eq_some_iff.mp h; obtain ⟨t8_0, hf8_, h⟩ := h; have hf8 := asT hf8_; clear hf8_
    by_cases cc : t8_0 < 0
    · rw [if_pos cc] at h
      cases h
    rw [if_neg cc] at h
    have cbt8_0 : decide (t8_0 < 0) = false := decide_eq_false cc
    clear cc
    by_cases cc : t8_0 = t5_0
    rotate_left
    · rw [if_neg cc] at h
      cases h
    rw [if_pos cc] at h
    subst cc
    obtain rfl := Option.some.inj h
    clear h
    go_enter Tryd.func3, Tryd.ntmps3
    go_wp2_with (first
      | (go_at_call 9; refine (laws_heldStringS.calls k _ _ _ _ _ w7 (Kd.R_reads' L2_v0.out.now).2.2 (Kd.R_reads' L2_v0.out.now).2.1 hf8.out).mono ?_; rintro e w8 ⟨rfl, hb0⟩; have hb : Below w7.heap.size w7 w8 := hb0; clear hb0; have hz8 : Aside0 (w7.heap.size ≤ w8.heap.size) := ⟨hb.size⟩; replace L1_v0 := asT (L1_v0.out.below hb); replace L2_v0 := asT (L2_v0.out.below hb); replace L6_v0 := asT (L6_v0.out.below hb); have HB8 := asT (below_step HB7.out hb); clear hb)
      | (go_at_call 7; refine (laws_eqStringS.calls k _ _ _ _ _ _ _ w6 (Kd.R_reads' L6_v0.out.now).2.2 (Kd.R_reads' L6_v0.out.now).2.1 (Kd.R_reads' L1_v0.out.now).2.2 (Kd.R_reads' L1_v0.out.now).2.1 hf7.out).mono ?_; rintro e w7 ⟨rfl, hb0⟩; have hb : Below w6.heap.size w6 w7 := hb0.below; clear hb0; have hz7 : Aside0 (w6.heap.size ≤ w7.heap.size) := ⟨hb.size⟩; replace L1_v0 := asT (L1_v0.out.below hb); replace L2_v0 := asT (L2_v0.out.below hb); replace L6_v0 := asT (L6_v0.out.below hb); have HB7 := asT (below_step HB6.out hb); clear hb)
      | (go_at_call 6; refine (impl_ParseNames.calls k _ _ _ w5 (HM.out.below HB5.out) hf6.out).mono ?_; rintro e w6 ⟨q6_v0_, rfl, ho0, hb0⟩; have hb : Below w5.heap.size w5 w6 := hb0; clear hb0; have hz6 : Aside0 (w5.heap.size ≤ w6.heap.size) := ⟨hb.size⟩; replace L1_v0 := asT (L1_v0.out.below hb); replace L2_v0 := asT (L2_v0.out.below hb); obtain ⟨A6_v0_, c6_v0_, ev⟩ := Kd.R_slice ho0; subst ev; have L6_v0 := asT (made_R ho0 HB5.out.size); have HB6 := asT (below_step HB5.out hb); clear hb ho0)
      | (go_at_call 9; refine (laws_heldStringS.calls k _ _ _ _ _ w4 (Kd.R_reads' L2_v0.out.now).2.2 (Kd.R_reads' L2_v0.out.now).2.1 hf5.out).mono ?_; rintro e w5 ⟨rfl, hb0⟩; have hb : Below w4.heap.size w4 w5 := hb0; clear hb0; have hz5 : Aside0 (w4.heap.size ≤ w5.heap.size) := ⟨hb.size⟩; replace L1_v0 := asT (L1_v0.out.below hb); replace L2_v0 := asT (L2_v0.out.below hb); have HB5 := asT (below_step HB4.out hb); clear hb)
      | (go_at_call 8; refine (laws_markStringS.calls k _ _ _ _ _ _ w w3 HB3.out L2_v0.out.now hf4.out).mono ?_; rintro e w4 ⟨rfl, ho0, hb, hk⟩; have hz4 : Aside0 (w3.heap.size ≤ w4.heap.size) := ⟨hk.1⟩; have L2_v0n := asT (left_R rfl ho0 L2_v0.out.now rfl (Nat.le_trans L2_v0.out.1 hk.1)); replace L1_v0 := asT (L1_v0.out.far hk (by have := hz1.out; have := hz2.out; have := hz3.out; first | exact .inl (by omega) | exact .inr (by omega))); clear L2_v0; have L2_v0 := L2_v0n; clear L2_v0n; have en := (Kd.R_reads' L2_v0.out.now).1; rw [en] at L2_v0; (try rw [en]); clear en; have HB4 := asT hb; clear hb hk ho0)
      | (go_at_call 7; refine (laws_eqStringS.calls k _ _ _ _ _ _ _ w2 (Kd.R_reads' L2_v0.out.now).2.2 (Kd.R_reads' L2_v0.out.now).2.1 (Kd.R_reads' L1_v0.out.now).2.2 (Kd.R_reads' L1_v0.out.now).2.1 hf3.out).mono ?_; rintro e w3 ⟨rfl, hb0⟩; have hb : Below w2.heap.size w2 w3 := hb0.below; clear hb0; have hz3 : Aside0 (w2.heap.size ≤ w3.heap.size) := ⟨hb.size⟩; replace L1_v0 := asT (L1_v0.out.below hb); replace L2_v0 := asT (L2_v0.out.below hb); have HB3 := asT (below_step HB2.out hb); clear hb)
      | (go_at_call 6; refine (impl_ParseNames.calls k _ _ _ w1 (HM.out.below HB1.out) hf2.out).mono ?_; rintro e w2 ⟨q2_v0_, rfl, ho0, hb0⟩; have hb : Below w1.heap.size w1 w2 := hb0; clear hb0; have hz2 : Aside0 (w1.heap.size ≤ w2.heap.size) := ⟨hb.size⟩; replace L1_v0 := asT (L1_v0.out.below hb); obtain ⟨A2_v0_, c2_v0_, ev⟩ := Kd.R_slice ho0; subst ev; have L2_v0 := asT (made_R ho0 HB1.out.size); have HB2 := asT (below_step HB1.out hb); clear hb ho0)
      | (go_at_call 5; refine (spec_ParseNames.calls k _ _ _ w hf1.out).mono ?_; rintro e w1 ⟨q1_v0_, rfl, ho0, hb0⟩; have hb : Below w.heap.size w w1 := hb0; clear hb0; have hz1 : Aside0 (w.heap.size ≤ w1.heap.size) := ⟨hb.size⟩; obtain ⟨A1_v0_, c1_v0_, ev⟩ := Kd.R_slice ho0; subst ev; have L1_v0 := asT (made_R ho0 HB0.out.size); have HB1 := asT (below_step HB0.out hb); clear hb ho0))
    go_ret
    exact ⟨rfl, HB8.out⟩


/-- THE ONE PURE STATEMENT of laws_FnExactParseNames -/
def laws_FnExactParseNames.Pure : Prop := ∀ (a0 : ByteArray), BdStr a0 → ∃ k, laws_FnExactParseNames.f k a0 = some true
end Go.Proofs.YtlmfpkiaikjlbaaDoor.PFnExactParseNames
