-- Made by gen.py (a program of this session) out of the translation; Lean checks it.
import Derived.Test.YtdamagcfmhimfadPFnExactProfileOfx0
import Derived.Test.YtdamagcfmhimfadPFnExactProfileOfx1
import Derived.Test.YtdamagcfmhimfadPFnExactProfileOfx2
import Derived.Test.YtdamagcfmhimfadPFnExactProfileOfx7
import Derived.Test.YtdamagcfmhimfadPFnExactProfileOfx11
namespace Go.Proofs.Ytdamagcfmhimfad.PFnExactProfileOf
open Go.RowKit Go.Proofs.YtdamagcfmhimfadB Go.Proofs.YtdamagcfmhimfadW.PrintWords Go.Proofs.YtdamagcfmhimfadW.PrintLast Go.Proofs.YtdamagcfmhimfadW.PrintMore
attribute [local go_sem] max2_int min2_int max_two min_two max_three min_three max_four min_four   -- for this text's walks alone
set_option linter.unusedVariables false
set_option linter.unusedSimpArgs false

/-! ### laws_markText: function 74 -/
def laws_markText.l0 : Nat → Int → ByteArray → Option (ByteArray)
 | 0, _, _ => none
 | k + 1, x0, x3 => if x0 > 0 then ((some (([(wrap64 (48 + (Int.tmod x0 10))) % 256] : List Int) : List Int)).bind fun y386 => (if (strOfNums y386).size + x3.size ≤ 9223372036854775807 then (laws_markText.l0 k (wrap64 (Int.tdiv x0 10)) ((strOfNums y386) ++ x3)) else (none))) else (if 1 + x3.size ≤ 9223372036854775807 then (some ((⟨#[109]⟩ : ByteArray) ++ x3)) else (none))
def laws_markText.f (k : Nat) (a0 : Int) : Option (ByteArray) := if a0 ≤ 0 then (some (⟨#[109, 48]⟩ : ByteArray)) else (laws_markText.l0 k a0 (⟨#[]⟩ : ByteArray))
theorem laws_markText.mono_l : ∀ k, (∀ y0 y1, LeO (laws_markText.l0 k y0 y1) (laws_markText.l0 (k + 1) y0 y1))
 | 0 => fun _ _ r h => by simp [laws_markText.l0] at h
 | k + 1 => by
  have ih0 := laws_markText.mono_l k
  ·intro y0 y1
   unfold laws_markText.l0
   repeat' first
   | (with_reducible exact ih0 _ _)
   | (with_reducible exact LeO.refl _)
   | (with_reducible exact LeO.none _)
   | (with_reducible refine LeO.ite ?_ ?_)
   | (with_reducible refine LeO.bind ?_ (fun _ => ?_))
   | exact ih0 _ _
   | exact LeO.none _
   | refine LeO.ite ?_ ?_
   | refine LeO.bind ?_ (fun _ => ?_)
theorem laws_markText.mono : ∀ a0 k, LeO (laws_markText.f k a0) (laws_markText.f (k + 1) a0) := by
 intro a0 k
 have ih0 := laws_markText.mono_l k
 unfold laws_markText.f
 repeat' first
   | (with_reducible exact ih0 _ _)
   | (with_reducible exact LeO.refl _)
   | (with_reducible exact LeO.none _)
   | (with_reducible refine LeO.ite ?_ ?_)
   | (with_reducible refine LeO.bind ?_ (fun _ => ?_))
   | exact ih0 _ _
   | exact LeO.none _
   | refine LeO.ite ?_ ?_
   | refine LeO.bind ?_ (fun _ => ?_)
set_option maxHeartbeats 8000000 in
set_option maxRecDepth 100000 in
theorem laws_markText.calls (k : Nat) (a0 : Int) (r : ByteArray) (w : World) (h : laws_markText.f k a0 = some r) :
  Calls Try.prog 74 #[.int .i64 a0] w fun e w' => e = .returned (.string r) ∧ Below w.heap.size w w' := by
 have HB := asT (Below.refl w.heap.size w)
 have H : (if a0 ≤ 0 then (some (⟨#[109, 48]⟩ : ByteArray)) else (laws_markText.l0 k a0 (⟨#[]⟩ : ByteArray))) = some r := h
 clear h
 by_cases c2 : a0 ≤ 0
 ·rw [if_pos c2] at H
  have c2b0 : decide (a0 ≤ 0) = true := decide_eq_true c2
  clear c2
  obtain rfl := Option.some.inj H
  go_enter Try.func74, Try.ntmps74
  go_wp2
  go_ret
  exact ⟨rlT, hbT HB.out⟩
 ·rw [if_neg c2] at H
  have c2b0 : decide (a0 ≤ 0) = false := decide_eq_false c2
  clear c2; have H' := Aside0.mk H; clear H
  go_enter Try.func74, Try.ntmps74
  go_wp2
  go_loopg [0, 3] k (fun kq v0 v3 w' => ∃ (x0_1 : Int) (x3_1 : ByteArray), v0 = .int .i64 x0_1 ∧ v3 = .string x3_1 ∧ Aside0 (laws_markText.l0 kq x0_1 x3_1 = some r) ∧ Aside0 (kq ≤ k) ∧ Aside0 (Below w.heap.size w w'))
  case atStart => exact ⟨(a0), ((⟨#[]⟩ : ByteArray)), rdT, rdT, H', ⟨Nat.le_refl _⟩, ⟨hbT HB.out⟩⟩
  case round =>
   clear H'; (try clear c2); (try clear c2b0); (try clear p2); obtain ⟨x0_1, x3_1, rfl, rfl, HA, HK1, HB⟩ := hrel
   cases gk with
   | zero => exact absurd HA.out (by simp [laws_markText.l0])
   | succ k1 =>
    have H := HA.out; clear HA
    simp only [laws_markText.l0] at H
    by_cases c3 : x0_1 > 0
    ·rw [if_pos c3] at H
     have c3b0 : decide (0 < x0_1) = true := decide_eq_true c3
     clear c3; obtain ⟨y386, hy386⟩ : ∃ y_ : List Int, y_ = (([(wrap64 (48 + (Int.tmod x0_1 10))) % 256] : List Int)) := ⟨_, rfl⟩
     replace H : (if (strOfNums y386).size + x3_1.size ≤ 9223372036854775807 then (laws_markText.l0 k1 (wrap64 (Int.tdiv x0_1 10)) ((strOfNums y386) ++ x3_1)) else (none)) = some r := by first | (rw [hy386]; with_reducible exact H) | (have H2_ := (Option.bind_some _ _).symm.trans H; rw [hy386]; with_reducible exact H2_) | (have H2_ := (Option.bind_some _ _).symm.trans H; with_reducible exact H2_) | with_reducible exact H | (rw [hy386]; exact H) | exact H
     have Ny386 := Aside0.mk hy386; clear hy386
     by_cases c4 : (strOfNums y386).size + x3_1.size ≤ 9223372036854775807
     ·rw [if_pos c4] at H
      have c4b0 := eq_true c4
      have c4b1 : decide ((strOfNums y386).size + x3_1.size ≤ 9223372036854775807) = true := decide_eq_true c4
      try have c4b2 : (9223372036854775807 < (strOfNums y386).size + x3_1.size) = False := eq_false (Nat.not_lt.2 c4)
      have H' := Aside0.mk H; clear H
      go_wp2_with (first | ((with_reducible refine gate_dst (N := 12) rfl ?_); refine Kd.R_lit (Kd.int .u8) _ 5 ?hg (N := 12) ?hd (xs := ([(wrap64 (48 + (Int.tmod x0_1 10))) % 256] : List Int)) (inner := [.int .u8 ((wrap64 (48 + (Int.tmod x0_1 10))) % 256)]) (ok := fun _ => True) (okp := fun _ => True) ?hr ?hp (fun _ hk => hk) trivial (Below.refl _ _) (Nat.le_refl _) (by simp) ?_; (case hd => rfl); (case hg => rfl); (case hr => first | (go_simp; done) | (go_simp; rfl)); (case hp => exact (Reps.one (show Kd.M (Kd.int .u8) _ _ _ ((wrap64 (48 + (Int.tmod x0_1 10))) % 256) [.int .u8 ((wrap64 (48 + (Int.tmod x0_1 10))) % 256)] from rfl) (Reps.none _ _))); intro v387 w5 ho6 hb hg_ hnew_; clear hg_ hnew_; (first | rw [← Ny386.out] at ho6 | (simp only [Int.reduceToNat] at ho6; rw [← Ny386.out] at ho6)); have n0_ := asT (Kd.R_lower ho6 (below_size (hbT HB.out))); have n1_ := asT (below_step (hbT HB.out) hb); clear HB; have HO388 := n0_; have HB := n1_; clear n0_ n1_ hb ho6; have hcv7 := own_string (P := Try.prog) Try.underlying101 Try.underlying5 Try.underlying9 (Kd.own_of_R HO388.out)))
      go_roundg k1
      case measure => have := HK1.out; omega
      case rel => exact ⟨(wrap64 (Int.tdiv x0_1 10)), ((strOfNums y386) ++ x3_1), rdT, rdT, H', ⟨by have := HK1.out; omega⟩, ⟨hbT HB.out⟩⟩
     ·rw [if_neg c4] at H
      exact absurd H (by simp)
    ·rw [if_neg c3] at H
     have c3b0 : decide (0 < x0_1) = false := decide_eq_false c3
     clear c3
     by_cases c8 : 1 + x3_1.size ≤ 9223372036854775807
     ·rw [if_pos c8] at H
      have c8b0 := eq_true c8
      have c8b1 : decide (1 + x3_1.size ≤ 9223372036854775807) = true := decide_eq_true c8
      try have c8b2 : (9223372036854775807 < 1 + x3_1.size) = False := eq_false (Nat.not_lt.2 c8)
      obtain rfl := Option.some.inj H
      go_wp2
      go_ret
      exact ⟨rlT, hbT HB.out⟩
     ·rw [if_neg c8] at H
      exact absurd H (by simp)

/-! ### laws_markStringS: function 35 -/
def laws_markStringS.l0 : Nat → List ByteArray → Int → Int → Option (Int × List ByteArray)
 | 0, _, _, _ => none
 | k + 1, x0, x1, x5 => if x5 < (x0.length : Int) then ((laws_markText.f k x1).bind fun t389 => (if 0 ≤ x5 then (laws_markStringS.l0 k (x0.set (x5 : Int).toNat t389) (wrap64 (x1 + 1)) (wrap64 (x5 + 1))) else (none))) else (some (x1, x0))
def laws_markStringS.f (k : Nat) (l0 : List ByteArray) (a1 : Int) : Option (Int × List ByteArray) := laws_markStringS.l0 k l0 a1 0
theorem laws_markStringS.mono_l : ∀ k, (∀ y0 y1 y2, LeO (laws_markStringS.l0 k y0 y1 y2) (laws_markStringS.l0 (k + 1) y0 y1 y2))
 | 0 => fun _ _ _ r h => by simp [laws_markStringS.l0] at h
 | k + 1 => by
  have ih0 := laws_markStringS.mono_l k
  ·intro y0 y1 y2
   unfold laws_markStringS.l0
   repeat' first
   | (with_reducible exact ih0 _ _ _)
   | (with_reducible exact laws_markText.mono _ _)
   | (with_reducible exact LeO.refl _)
   | (with_reducible exact LeO.none _)
   | (with_reducible refine LeO.ite ?_ ?_)
   | (with_reducible refine LeO.bind ?_ (fun _ => ?_))
   | exact ih0 _ _ _
   | exact laws_markText.mono _ _
   | exact LeO.none _
   | refine LeO.ite ?_ ?_
   | refine LeO.bind ?_ (fun _ => ?_)
theorem laws_markStringS.mono : ∀ a0 a1 k, LeO (laws_markStringS.f k a0 a1) (laws_markStringS.f (k + 1) a0 a1) := by
 intro a0 a1 k
 have ih0 := laws_markStringS.mono_l k
 unfold laws_markStringS.f
 repeat' first
   | (with_reducible exact ih0 _ _ _)
   | (with_reducible exact laws_markText.mono _ _)
   | (with_reducible exact LeO.refl _)
   | (with_reducible exact LeO.none _)
   | (with_reducible refine LeO.ite ?_ ?_)
   | (with_reducible refine LeO.bind ?_ (fun _ => ?_))
   | exact ih0 _ _ _
   | exact laws_markText.mono _ _
   | exact LeO.none _
   | refine LeO.ite ?_ ?_
   | refine LeO.bind ?_ (fun _ => ?_)
set_option maxHeartbeats 8000000 in
set_option maxRecDepth 100000 in
theorem laws_markStringS.calls (k : Nat) (P0_ : Nat → Prop) (u9000_ : Value) (l0 : List ByteArray) (a1 : Int) (r1 : Int) (r2 : List ByteArray) (w0 w : World) (hB : Below w0.heap.size w0 w) (ho0 : Kd.R Kd.string 9 w w0.heap.size P0_ u9000_ l0) (h : laws_markStringS.f k l0 a1 = some (r1, r2)) :
  Calls Try.prog 35 #[u9000_, .int .i64 a1] w fun e w' => e = .returned (.int .i64 r1) ∧ Kd.R Kd.string 9 w' w0.heap.size (fun k_ => (P0_ k_ ∨ w.heap.size ≤ k_)) u9000_ r2 ∧ Below w0.heap.size w0 w' ∧ Kept w w' (fun k_ => P0_ k_) := by
 have HO0 := asT (show Kd.R Kd.string 9 w w0.heap.size (fun k_ => (P0_ k_ ∨ w.heap.size ≤ k_)) u9000_ l0 from Kd.R_mono ho0 (fun k_ hk => (.inl hk))); have HK := asT (Kept.refl w (fun k_ => P0_ k_)); have HW0 := Aside0.mk hB.size; have HB := Aside0.mk hB; clear hB
 have H : (laws_markStringS.l0 k l0 a1 0) = some (r1, r2) := h
 clear h; have H' := Aside0.mk H; clear H
 go_enter Try.func35, Try.ntmps35
 go_wp2
 go_loopg [1, 5] k (fun kq v1 v5 w' => ∃ (x0_1 : List ByteArray) (x1_1 : Int) (x5_1 : Int), v1 = .int .i64 x1_1 ∧ v5 = .int .i64 x5_1 ∧ Aside0 (laws_markStringS.l0 kq x0_1 x1_1 x5_1 = some (r1, r2)) ∧ Aside0 (kq ≤ k) ∧ Aside0 (Kd.R Kd.string 9 w' w0.heap.size (fun k_ => (P0_ k_ ∨ w.heap.size ≤ k_)) u9000_ x0_1) ∧ Aside0 (Kept w w' (fun k_ => P0_ k_)) ∧ Aside0 (Below w0.heap.size w0 w'))
 case atStart => exact ⟨(l0), (a1), (0), rdT, rdT, H', ⟨Nat.le_refl _⟩, ⟨by (with_reducible repeat (first | apply Kd.R_alloc | apply Kd.R_drewN | apply Kd.R_drew)); exact HO0.out⟩, ⟨by repeat (first | (with_reducible first | exact HK.out | apply Kept.alloc | apply Kept.drewN | apply Kept.drew) | exact HK.out)⟩, ⟨hbT HB.out⟩⟩
 case round =>
  clear H'; (try clear p2); obtain ⟨x0_1, x1_1, x5_1, rfl, rfl, HA, HK1, HO_0, HK, HB⟩ := hrel
  cases gk with
  | zero => exact absurd HA.out (by simp [laws_markStringS.l0])
  | succ k1 =>
   have H := HA.out; clear HA
   simp only [laws_markStringS.l0] at H
   by_cases c3 : x5_1 < (x0_1.length : Int)
   ·rw [if_pos c3] at H
    have c3b0 : decide (x5_1 < (x0_1.length : Int)) = true := decide_eq_true c3
    clear c3; replace H := Option.bind_eq_some_iff.mp H; obtain ⟨t389, A40, H⟩ := H; replace H : (if 0 ≤ x5_1 then (laws_markStringS.l0 k1 (x0_1.set (x5_1 : Int).toNat t389) (wrap64 (x1_1 + 1)) (wrap64 (x5_1 + 1))) else (none)) = some (r1, r2) := H; have A4 := Aside0.mk A40; clear A40
    by_cases c5 : 0 ≤ x5_1
    ·rw [if_pos c5] at H
     have c5b0 : decide (0 ≤ x5_1) = true := decide_eq_true c5
     clear c5; obtain ⟨y390, hy390⟩ : ∃ y_ : List ByteArray, y_ = (x0_1.set (x5_1 : Int).toNat t389) := ⟨_, rfl⟩
     replace H : (laws_markStringS.l0 k1 y390 (wrap64 (x1_1 + 1)) (wrap64 (x5_1 + 1))) = some (r1, r2) := by first | (rw [hy390]; with_reducible exact H) | (have H2_ := (Option.bind_some _ _).symm.trans H; rw [hy390]; with_reducible exact H2_) | (have H2_ := (Option.bind_some _ _).symm.trans H; with_reducible exact H2_) | with_reducible exact H | (rw [hy390]; exact H) | exact H
     have Ny390 := Aside0.mk hy390; clear hy390; have H' := Aside0.mk H; clear H; obtain ⟨Ao7, co7, eo7⟩ := Kd.R_slice HO_0.out; subst eo7
     go_wp2_with (first | ((with_reducible refine gate_callee (f := 74) rfl ?_); refine goesL_ (some 15) rfl rfl Try.func74 (by kernel_rfl) rfl #[.int .i64 x1_1] rfl eqT ?_; (with_reducible refine (laws_markText.calls k1 x1_1 t389 _ A4.out).mono ?_); rintro e w8 ⟨rfl, hb⟩; refine ⟨_, rfl, ?_⟩; have n0_ := asT (Kd.R_below (roT HO_0.out) hb); have n1_ := asT (Kept.below (S := (fun k_ => P0_ k_)) (by repeat (first | (with_reducible first | exact HK.out | apply Kept.alloc | apply Kept.drewN | apply Kept.drew) | exact HK.out)) hb); have n2_ := asT (below_step (hbT HB.out) hb); clear HO_0 HK HB; have HO_0 := n0_; have HK := n1_; have HB := n2_; clear n0_ n1_ n2_; (try clear hb); (try clear hb2); (try clear hk); (try clear hi); have p6 : 0 ≤ (x5_1 : Int) := of_decide_eq_true asmT; have q6 : (x5_1 : Int) < ((x0_1.length : Int) : Int) := of_decide_eq_true asmT; obtain ⟨go6, co6, eo6, gb6, gl6, cl6, HG6⟩ := Kd.R_form HO_0.out (by omega); (first | cases eo6 | (injection eo6 with ea_ en_ ec_; (first | subst ea_ | (injection ea_ with ea_; subst ea_)); subst ec_; clear en_)); have GB6 := Aside0.mk gb6; have GG6 := Aside0.mk HG6; clear gb6 gl6 HG6; have HMgo6 := asT (show (P0_ go6 ∨ w.heap.size ≤ go6) from (HO_0.out.1 _ rfl)); obtain ⟨hx6_0, hf6_0⟩ := Kd.R_celln (⟨#[]⟩ : ByteArray) HO_0.out (x5_1 : Int) p6 q6; replace p6 := eq_true p6; replace q6 := eq_true q6; obtain ⟨hy9_, hz9_⟩ := Kd.R_celln (⟨#[]⟩ : ByteArray) HO_0.out (x5_1 : Int) (of_decide_eq_true asmT) (of_decide_eq_true asmT); have HP9 := Kd.R_putg HO_0.out (x5_1 : Int) t389) | ((with_reducible refine gate_store (t := 9) (p := 16) rfl ?_); refine store_event (t := 9) (p := 16) (v := ?vo_w10) (w1 := (w8.setCell ⟨go6, (x5_1 : Int).toNat, none⟩ (.string t389))) ?hg ?ho ?hn ?hr ?_; (case ho => rfl); (case hg => rfl); (case hn => rfl); (case hr => first | (go_simp; done) | (go_simp; rfl)); intro w10 hw; have hg : w8.grownBy w10 (some go6) := (by rw [hw]; exact HP9.2); have hp_ : Kd.R Kd.string 9 w10 w0.heap.size (fun k_ => (P0_ k_ ∨ w.heap.size ≤ k_)) (.slice (some ⟨go6, 0, none⟩) x0_1.length co7) y390 := (by rw [hw, Ny390.out]; exact HP9.1); clear HP9; have n0_ := asT (hp_); have n1_ := asT ((by rw [hw]; exact below_set (HB.out) GB6.out : Below w0.heap.size w0 w10)); have n2_ := asT (Kept.of_grown (S := (fun k_ => P0_ k_)) hg (by repeat (first | (with_reducible first | exact HK.out | apply Kept.alloc | apply Kept.drewN | apply Kept.drew) | exact HK.out)) (fun k_ e_ => (HO_0.out.1 k_ e_))); clear HO_0 HB HK; have HO_0 := n0_; have HB := n1_; have HK := n2_; clear n0_ n1_ n2_ hg hw hp_))
     go_roundg k1
     case measure => have := HK1.out; omega
     case rel => exact ⟨(y390), (wrap64 (x1_1 + 1)), (wrap64 (x5_1 + 1)), rdT, rdT, H', ⟨by have := HK1.out; omega⟩, ⟨by (with_reducible repeat (first | apply Kd.R_alloc | apply Kd.R_drewN | apply Kd.R_drew)); exact HO_0.out⟩, ⟨by repeat (first | (with_reducible first | exact HK.out | apply Kept.alloc | apply Kept.drewN | apply Kept.drew) | exact HK.out)⟩, ⟨hbT HB.out⟩⟩
    ·rw [if_neg c5] at H
     exact absurd H (by simp)
   ·rw [if_neg c3] at H
    have c3b0 : decide (x5_1 < (x0_1.length : Int)) = false := decide_eq_false c3
    clear c3
    simp only [Option.some.injEq, Prod.mk.injEq] at H
    obtain ⟨rfl, rfl⟩ := H; obtain ⟨Ao11, co11, eo11⟩ := Kd.R_slice HO_0.out; subst eo11
    go_wp2
    go_ret
    exact ⟨rlT, by (with_reducible repeat (first | apply Kd.R_alloc | apply Kd.R_drewN | apply Kd.R_drew)); exact HO_0.out, hbT HB.out, by repeat (first | (with_reducible first | exact HK.out | apply Kept.alloc | apply Kept.drewN | apply Kept.drew) | exact HK.out)⟩

/-! ### laws_markLinkS: function 75 -/
def laws_markLinkS.l0 : Nat → List (S83) → Int → Int → Option (Int × (List (S83)))
 | 0, _, _, _ => none
 | k + 1, x0, x1, x5 => if x5 < (x0.length : Int) then (if 0 ≤ x5 then ((some (x0.set (x5 : Int).toNat (⟨(x1) % 256, (rd_T83 x0 x5).f1⟩ : S83) : List (S83))).bind fun y391 => (laws_markLinkS.l0 k (y391.set (x5 : Int).toNat (⟨(rd_T83 y391 x5).f0, (wrap64 (x1 + 1)) % 256⟩ : S83)) (wrap64 ((wrap64 (x1 + 1)) + 1)) (wrap64 (x5 + 1)))) else (none)) else (some (x1, x0))
def laws_markLinkS.f (k : Nat) (l0 : List (S83)) (a1 : Int) : Option (Int × (List (S83))) := laws_markLinkS.l0 k l0 a1 0
theorem laws_markLinkS.mono_l : ∀ k, (∀ y0 y1 y2, LeO (laws_markLinkS.l0 k y0 y1 y2) (laws_markLinkS.l0 (k + 1) y0 y1 y2))
 | 0 => fun _ _ _ r h => by simp [laws_markLinkS.l0] at h
 | k + 1 => by
  have ih0 := laws_markLinkS.mono_l k
  ·intro y0 y1 y2
   unfold laws_markLinkS.l0
   repeat' first
   | (with_reducible exact ih0 _ _ _)
   | (with_reducible exact LeO.refl _)
   | (with_reducible exact LeO.none _)
   | (with_reducible refine LeO.ite ?_ ?_)
   | (with_reducible refine LeO.bind ?_ (fun _ => ?_))
   | exact ih0 _ _ _
   | exact LeO.none _
   | refine LeO.ite ?_ ?_
   | refine LeO.bind ?_ (fun _ => ?_)
theorem laws_markLinkS.mono : ∀ a0 a1 k, LeO (laws_markLinkS.f k a0 a1) (laws_markLinkS.f (k + 1) a0 a1) := by
 intro a0 a1 k
 have ih0 := laws_markLinkS.mono_l k
 unfold laws_markLinkS.f
 repeat' first
   | (with_reducible exact ih0 _ _ _)
   | (with_reducible exact LeO.refl _)
   | (with_reducible exact LeO.none _)
   | (with_reducible refine LeO.ite ?_ ?_)
   | (with_reducible refine LeO.bind ?_ (fun _ => ?_))
   | exact ih0 _ _ _
   | exact LeO.none _
   | refine LeO.ite ?_ ?_
   | refine LeO.bind ?_ (fun _ => ?_)
set_option maxHeartbeats 8000000 in
set_option maxRecDepth 100000 in
theorem laws_markLinkS.calls (k : Nat) (P0_ : Nat → Prop) (u9000_ : Value) (l0 : List (S83)) (a1 : Int) (r1 : Int) (r2 : List (S83)) (w0 w : World) (hB : Below w0.heap.size w0 w) (ho0 : Kd.R k83 83 w w0.heap.size P0_ u9000_ l0) (h : laws_markLinkS.f k l0 a1 = some (r1, r2)) :
  Calls Try.prog 75 #[u9000_, .int .i64 a1] w fun e w' => e = .returned (.int .i64 r1) ∧ Kd.R k83 83 w' w0.heap.size (fun k_ => (P0_ k_ ∨ w.heap.size ≤ k_)) u9000_ r2 ∧ Below w0.heap.size w0 w' ∧ Kept w w' (fun k_ => P0_ k_) := by
 have HO0 := asT (show Kd.R k83 83 w w0.heap.size (fun k_ => (P0_ k_ ∨ w.heap.size ≤ k_)) u9000_ l0 from Kd.R_mono ho0 (fun k_ hk => (.inl hk))); have HK := asT (Kept.refl w (fun k_ => P0_ k_)); have HW0 := Aside0.mk hB.size; have HB := Aside0.mk hB; clear hB
 have H : (laws_markLinkS.l0 k l0 a1 0) = some (r1, r2) := h
 clear h; have H' := Aside0.mk H; clear H
 go_enter Try.func75, Try.ntmps75
 go_wp2
 go_loopg [1, 5] k (fun kq v1 v5 w' => ∃ (x0_1 : List (S83)) (x1_1 : Int) (x5_1 : Int), v1 = .int .i64 x1_1 ∧ v5 = .int .i64 x5_1 ∧ Aside0 (laws_markLinkS.l0 kq x0_1 x1_1 x5_1 = some (r1, r2)) ∧ Aside0 (kq ≤ k) ∧ Aside0 (Kd.R k83 83 w' w0.heap.size (fun k_ => (P0_ k_ ∨ w.heap.size ≤ k_)) u9000_ x0_1) ∧ Aside0 (Kept w w' (fun k_ => P0_ k_)) ∧ Aside0 (Below w0.heap.size w0 w'))
 case atStart => exact ⟨(l0), (a1), (0), rdT, rdT, H', ⟨Nat.le_refl _⟩, ⟨by (with_reducible repeat (first | apply Kd.R_alloc | apply Kd.R_drewN | apply Kd.R_drew)); exact HO0.out⟩, ⟨by repeat (first | (with_reducible first | exact HK.out | apply Kept.alloc | apply Kept.drewN | apply Kept.drew) | exact HK.out)⟩, ⟨hbT HB.out⟩⟩
 case round =>
  clear H'; (try clear p2); obtain ⟨x0_1, x1_1, x5_1, rfl, rfl, HA, HK1, HO_0, HK, HB⟩ := hrel
  cases gk with
  | zero => exact absurd HA.out (by simp [laws_markLinkS.l0])
  | succ k1 =>
   have H := HA.out; clear HA
   simp only [laws_markLinkS.l0] at H
   by_cases c3 : x5_1 < (x0_1.length : Int)
   ·rw [if_pos c3] at H
    have c3b0 : decide (x5_1 < (x0_1.length : Int)) = true := decide_eq_true c3
    clear c3
    by_cases c4 : 0 ≤ x5_1
    ·rw [if_pos c4] at H
     have c4b0 : decide (0 ≤ x5_1) = true := decide_eq_true c4
     clear c4; obtain ⟨y391, hy391⟩ : ∃ y_ : List (S83), y_ = (x0_1.set (x5_1 : Int).toNat (⟨(x1_1) % 256, (rd_T83 x0_1 x5_1).f1⟩ : S83)) := ⟨_, rfl⟩
     replace H : (laws_markLinkS.l0 k1 (y391.set (x5_1 : Int).toNat (⟨(rd_T83 y391 x5_1).f0, (wrap64 (x1_1 + 1)) % 256⟩ : S83)) (wrap64 ((wrap64 (x1_1 + 1)) + 1)) (wrap64 (x5_1 + 1))) = some (r1, r2) := by first | (rw [hy391]; with_reducible exact H) | (have H2_ := (Option.bind_some _ _).symm.trans H; rw [hy391]; with_reducible exact H2_) | (have H2_ := (Option.bind_some _ _).symm.trans H; with_reducible exact H2_) | with_reducible exact H | (rw [hy391]; exact H) | exact H
     have Ny391 := Aside0.mk hy391; clear hy391; obtain ⟨y392, hy392⟩ : ∃ y_ : List (S83), y_ = (y391.set (x5_1 : Int).toNat (⟨(rd_T83 y391 x5_1).f0, (wrap64 (x1_1 + 1)) % 256⟩ : S83)) := ⟨_, rfl⟩
     replace H : (laws_markLinkS.l0 k1 y392 (wrap64 ((wrap64 (x1_1 + 1)) + 1)) (wrap64 (x5_1 + 1))) = some (r1, r2) := by first | (rw [hy392]; with_reducible exact H) | (have H2_ := (Option.bind_some _ _).symm.trans H; rw [hy392]; with_reducible exact H2_) | (have H2_ := (Option.bind_some _ _).symm.trans H; with_reducible exact H2_) | with_reducible exact H | (rw [hy392]; exact H) | exact H
     have Ny392 := Aside0.mk hy392; clear hy392; have H' := Aside0.mk H; clear H; obtain ⟨Ao7, co7, eo7⟩ := Kd.R_slice HO_0.out; subst eo7
     have p5 : 0 ≤ (x5_1 : Int) := of_decide_eq_true asmT
     have q5 : (x5_1 : Int) < ((x0_1.length : Int) : Int) := of_decide_eq_true asmT
     obtain ⟨go5, co5, eo5, gb5, gl5, cl5, HG5⟩ := Kd.R_form HO_0.out (by omega)
     (first | cases eo5 | (injection eo5 with ea_ en_ ec_; (first | subst ea_ | (injection ea_ with ea_; subst ea_)); subst ec_; clear en_))
     have GB5 := Aside0.mk gb5; have GG5 := Aside0.mk HG5; clear gb5 gl5 HG5; have HMgo5 := asT (show (P0_ go5 ∨ w.heap.size ≤ go5) from (HO_0.out.1 _ rfl)); obtain ⟨ce5, hcl5, hM5, hcc5, hfr5⟩ := Kd.R_elem HO_0.out z83 (x5_1 : Int) p5 q5
     obtain rfl := k83_openM hM5
     have hx5_0 : wr.cell? ⟨go5, (x5_1 : Int).toNat * 2, none⟩ = some (.int .u8 ((rd_T83 x0_1 x5_1).f0)) := hcc5 0 _ rfl
     have hx5_1 : wr.cell? ⟨go5, (x5_1 : Int).toNat * 2 + 1, none⟩ = some (.int .u8 ((rd_T83 x0_1 x5_1).f1)) := hcc5 1 _ rfl
     have hf5_0 : wr.frozen? ⟨go5, (x5_1 : Int).toNat * 2, none⟩ = false := hfr5 0
     have hf5_1 : wr.frozen? ⟨go5, (x5_1 : Int).toNat * 2 + 1, none⟩ = false := hfr5 1
     clear hcl5 hcc5 hfr5 hM5; replace p5 := eq_true p5; replace q5 := eq_true q5; have HX8 := asT (show Kd.R k83 83 wr w0.heap.size (fun k_ => (P0_ k_ ∨ w.heap.size ≤ k_)) (.slice (some ⟨go5, 0, none⟩) x0_1.length co7) x0_1 from (roT HO_0.out)); obtain ⟨ce8, hcl8, hM8, hcc8, hfr8⟩ := Kd.R_elem HX8.out z83 (x5_1 : Int) (of_decide_eq_true asmT) (by have h_ : (x5_1 : Int) < ((x0_1.length : Int) : Int) := of_decide_eq_true asmT; first | exact h_ | (have e_ := (Kd.R_reads' HO_0.out).1; omega) | simpa using h_)
     obtain rfl := k83_openM hM8
     have HP8 := Kd.R_seg HX8.out (x5_1 : Int) (of_decide_eq_true asmT) (by have h_ : (x5_1 : Int) < ((x0_1.length : Int) : Int) := of_decide_eq_true asmT; first | exact h_ | (have e_ := (Kd.R_reads' HO_0.out).1; omega) | simpa using h_) (seg := [.int .u8 ((x1_1) % 256)]) (j := 0) hcl8 hcc8 (show 1 ≤ 2 from by decide) (x' := (⟨(x1_1) % 256, (rd_T83 x0_1 x5_1).f1⟩ : S83)) (k83_mkM _ _ _ (⟨(x1_1) % 256, (rd_T83 x0_1 x5_1).f1⟩ : S83) ) (fun _ hk => hk); have hx8_0 := hcc8 0 _ rfl
     (try simp only [show (k83).sz = 2 from rfl, Nat.mul_one, Nat.add_zero] at hx8_0)
     have hf8_0 := hfr8 0
     (try simp only [show (k83).sz = 2 from rfl, Nat.mul_one, Nat.add_zero] at hf8_0)
     clear hcl8 hcc8 hfr8 hM8
     go_wp2_with (first | ((with_reducible refine gate_store (t := 5) (p := 17) rfl ?_); refine store_event (t := 5) (p := 17) (v := ?vo_w9) (w1 := (wr.setCell ⟨go5, (x5_1 : Int).toNat * 2, none⟩ (.int .u8 ((x1_1) % 256)))) ?hg ?ho ?hn ?hr ?_; (case ho => rfl); (case hg => rfl); (case hn => rfl); (case hr => first | (go_simp; done) | (go_simp; rfl)); intro w9 hw; have hg : wr.grownBy w9 (some go5) := (by rw [hw]; exact HP8.2); have hp_ : Kd.R k83 83 w9 w0.heap.size (fun k_ => (P0_ k_ ∨ w.heap.size ≤ k_)) (.slice (some ⟨go5, 0, none⟩) x0_1.length co7) y391 := (by rw [hw, Ny391.out]; exact HP8.1); clear HP8; have n0_ := asT (hp_); have n1_ := asT ((by rw [hw]; exact below_set (HB.out) GB5.out : Below w0.heap.size w0 w9)); have n2_ := asT (Kept.of_grown (S := (fun k_ => P0_ k_)) hg (by repeat (first | (with_reducible first | exact HK.out | apply Kept.alloc | apply Kept.drewN | apply Kept.drew) | exact HK.out)) (fun k_ e_ => (HO_0.out.1 k_ e_))); clear HO_0 HB HK; have HO_0 := n0_; have HB := n1_; have HK := n2_; clear n0_ n1_ n2_ hg hw hp_; have p6 : 0 ≤ (x5_1 : Int) := of_decide_eq_true asmT; have q6 : (x5_1 : Int) < ((x0_1.length : Int) : Int) := of_decide_eq_true asmT; obtain ⟨ce6, hcl6, hM6, hcc6, hfr6⟩ := Kd.R_elem HO_0.out z83 (x5_1 : Int) p6 q6; obtain rfl := k83_openM hM6; have hx6_0 : w9.cell? ⟨go5, (x5_1 : Int).toNat * 2, none⟩ = some (.int .u8 ((rd_T83 y391 x5_1).f0)) := hcc6 0 _ rfl; have hx6_1 : w9.cell? ⟨go5, (x5_1 : Int).toNat * 2 + 1, none⟩ = some (.int .u8 ((rd_T83 y391 x5_1).f1)) := hcc6 1 _ rfl; have hf6_0 : w9.frozen? ⟨go5, (x5_1 : Int).toNat * 2, none⟩ = false := hfr6 0; have hf6_1 : w9.frozen? ⟨go5, (x5_1 : Int).toNat * 2 + 1, none⟩ = false := hfr6 1; clear hcl6 hcc6 hfr6 hM6; replace p6 := eq_true p6; replace q6 := eq_true q6; have HX10 := asT (show Kd.R k83 83 w9 w0.heap.size (fun k_ => (P0_ k_ ∨ w.heap.size ≤ k_)) (.slice (some ⟨go5, 0, none⟩) x0_1.length co7) y391 from (roT HO_0.out)); obtain ⟨ce10, hcl10, hM10, hcc10, hfr10⟩ := Kd.R_elem HX10.out z83 (x5_1 : Int) (of_decide_eq_true asmT) (by have h_ : (x5_1 : Int) < ((x0_1.length : Int) : Int) := of_decide_eq_true asmT; first | exact h_ | (have e_ := (Kd.R_reads' HO_0.out).1; omega) | simpa using h_); obtain rfl := k83_openM hM10; have HP10 := Kd.R_seg HX10.out (x5_1 : Int) (of_decide_eq_true asmT) (by have h_ : (x5_1 : Int) < ((x0_1.length : Int) : Int) := of_decide_eq_true asmT; first | exact h_ | (have e_ := (Kd.R_reads' HO_0.out).1; omega) | simpa using h_) (seg := [.int .u8 ((wrap64 (x1_1 + 1)) % 256)]) (j := 1) hcl10 hcc10 (show 2 ≤ 2 from by decide) (x' := (⟨(rd_T83 y391 x5_1).f0, (wrap64 (x1_1 + 1)) % 256⟩ : S83)) (k83_mkM _ _ _ (⟨(rd_T83 y391 x5_1).f0, (wrap64 (x1_1 + 1)) % 256⟩ : S83) ) (fun _ hk => hk); have hx10_1 := hcc10 1 _ rfl; (try simp only [show (k83).sz = 2 from rfl, Nat.mul_one, Nat.add_zero] at hx10_1); have hf10_1 := hfr10 1; (try simp only [show (k83).sz = 2 from rfl, Nat.mul_one, Nat.add_zero] at hf10_1); clear hcl10 hcc10 hfr10 hM10) | ((with_reducible refine gate_store (t := 5) (p := 25) rfl ?_); refine store_event (t := 5) (p := 25) (v := ?vo_w11) (w1 := (w9.setCell ⟨go5, (x5_1 : Int).toNat * 2 + 1, none⟩ (.int .u8 ((wrap64 (x1_1 + 1)) % 256)))) ?hg ?ho ?hn ?hr ?_; (case ho => rfl); (case hg => rfl); (case hn => rfl); (case hr => first | (go_simp; done) | (go_simp; rfl)); intro w11 hw; have hg : w9.grownBy w11 (some go5) := (by rw [hw]; exact HP10.2); have hp_ : Kd.R k83 83 w11 w0.heap.size (fun k_ => (P0_ k_ ∨ w.heap.size ≤ k_)) (.slice (some ⟨go5, 0, none⟩) x0_1.length co7) y392 := (by rw [hw, Ny392.out]; exact HP10.1); clear HP10; have n0_ := asT (hp_); have n1_ := asT ((by rw [hw]; exact below_set (HB.out) GB5.out : Below w0.heap.size w0 w11)); have n2_ := asT (Kept.of_grown (S := (fun k_ => P0_ k_)) hg (by repeat (first | (with_reducible first | exact HK.out | apply Kept.alloc | apply Kept.drewN | apply Kept.drew) | exact HK.out)) (fun k_ e_ => (HO_0.out.1 k_ e_))); clear HO_0 HB HK; have HO_0 := n0_; have HB := n1_; have HK := n2_; clear n0_ n1_ n2_ hg hw hp_))
     go_roundg k1
     case measure => have := HK1.out; omega
     case rel => exact ⟨(y392), (wrap64 ((wrap64 (x1_1 + 1)) + 1)), (wrap64 (x5_1 + 1)), rdT, rdT, H', ⟨by have := HK1.out; omega⟩, ⟨by (with_reducible repeat (first | apply Kd.R_alloc | apply Kd.R_drewN | apply Kd.R_drew)); exact HO_0.out⟩, ⟨by repeat (first | (with_reducible first | exact HK.out | apply Kept.alloc | apply Kept.drewN | apply Kept.drew) | exact HK.out)⟩, ⟨hbT HB.out⟩⟩
    ·rw [if_neg c4] at H
     exact absurd H (by simp)
   ·rw [if_neg c3] at H
    have c3b0 : decide (x5_1 < (x0_1.length : Int)) = false := decide_eq_false c3
    clear c3
    simp only [Option.some.injEq, Prod.mk.injEq] at H
    obtain ⟨rfl, rfl⟩ := H; obtain ⟨Ao12, co12, eo12⟩ := Kd.R_slice HO_0.out; subst eo12
    go_wp2
    go_ret
    exact ⟨rlT, by (with_reducible repeat (first | apply Kd.R_alloc | apply Kd.R_drewN | apply Kd.R_drew)); exact HO_0.out, hbT HB.out, by repeat (first | (with_reducible first | exact HK.out | apply Kept.alloc | apply Kept.drewN | apply Kept.drew) | exact HK.out)⟩

/-! ### laws_markCandidate: function 36 -/
def laws_markCandidate.f (k : Nat) (l0_0 : List (S83)) (a1 : Int) : Option (Int × (List (S83))) := (laws_markLinkS.f k l0_0 a1).bind fun bt394 => (some (bt394.1, bt394.2))
theorem laws_markCandidate.mono : ∀ a0 a1 k, LeO (laws_markCandidate.f k a0 a1) (laws_markCandidate.f (k + 1) a0 a1) := by
 intro a0 a1 k
 unfold laws_markCandidate.f
 repeat' first
   | (with_reducible exact laws_markLinkS.mono _ _ _)
   | (with_reducible exact LeO.refl _)
   | (with_reducible exact LeO.none _)
   | (with_reducible refine LeO.ite ?_ ?_)
   | (with_reducible refine LeO.bind ?_ (fun _ => ?_))
   | exact laws_markLinkS.mono _ _ _
   | exact LeO.none _
   | refine LeO.ite ?_ ?_
   | refine LeO.bind ?_ (fun _ => ?_)
set_option maxHeartbeats 8000000 in
set_option maxRecDepth 100000 in
theorem laws_markCandidate.calls (k : Nat) (P0_0_ : Nat → Prop) (u9000_ : Value) (l0_0 : List (S83)) (a1 : Int) (r1 : Int) (r2 : List (S83)) (w0 w : World) (hB : Below w0.heap.size w0 w) (ho0_0 : Kd.R k83 83 w w0.heap.size P0_0_ u9000_ l0_0) (h : laws_markCandidate.f k l0_0 a1 = some (r1, r2)) :
  Calls Try.prog 36 #[.agg #[u9000_], .int .i64 a1] w fun e w' => e = .returned (.int .i64 r1) ∧ Kd.R k83 83 w' w0.heap.size (fun k_ => (P0_0_ k_ ∨ w.heap.size ≤ k_)) u9000_ r2 ∧ Below w0.heap.size w0 w' ∧ Kept w w' (fun k_ => P0_0_ k_) := by
 have hu34 := Try.underlying34; have HO0_0 := asT (show Kd.R k83 83 w w0.heap.size (fun k_ => (P0_0_ k_ ∨ w.heap.size ≤ k_)) u9000_ l0_0 from Kd.R_mono ho0_0 (fun k_ hk => (.inl hk))); have HK := asT (Kept.refl w (fun k_ => P0_0_ k_)); have HW0 := Aside0.mk hB.size; have HB := Aside0.mk hB; clear hB
 have H : ((laws_markLinkS.f k l0_0 a1).bind fun bt394 => (some (bt394.1, bt394.2))) = some (r1, r2) := h
 clear h; replace H := Option.bind_eq_some_iff.mp H; obtain ⟨⟨t394, t395⟩, A30, H⟩ := H; replace H : (some (t394, t395)) = some (r1, r2) := H; have A3 := Aside0.mk A30; clear A30
 simp only [Option.some.injEq, Prod.mk.injEq] at H
 obtain ⟨rfl, rfl⟩ := H; obtain ⟨Ao4, co4, eo4⟩ := Kd.R_slice HO0_0.out; subst eo4
 go_enter Try.func36, Try.ntmps36
 go_wp2_with (first | ((with_reducible refine gate_dst (N := 2) rfl ?_); refine boxT (N := 2) (cs := #[.slice Ao4 l0_0.length co4]) (t := 34) ?_; intro gb393 hg w5 hbox hb; have n0_ := asT (Kd.R_below (roT HO0_0.out) hb); have n1_ := asT (Kept.below (S := (fun k_ => P0_0_ k_)) (by repeat (first | (with_reducible first | exact HK.out | apply Kept.alloc | apply Kept.drewN | apply Kept.drew) | exact HK.out)) hb); have n2_ := asT (below_step (hbT HB.out) hb); have n3_ := asT (hbox); have n4_ := asT ((by rw [hg]; exact (by first | exact HK.out.1 | exact (show Kept w _ (fun k_ => P0_0_ k_) from by repeat (first | (with_reducible first | exact HK.out | apply Kept.alloc | apply Kept.drewN | apply Kept.drew) | exact HK.out)).1) : w.heap.size ≤ gb393)); have n5_ := asT ((by rw [hg]; exact (below_size (hbT HB.out)) : w0.heap.size ≤ gb393)); clear HO0_0 HK HB; have HO0_0 := n0_; have HK := n1_; have HB := n2_; have BK393 := n3_; have GW393 := n4_; have GE393 := n5_; clear n0_ n1_ n2_ n3_ n4_ n5_ hb hbox hg; have hcz6_0 : w5.cell? ⟨gb393, 0, none⟩ = some (.slice Ao4 l0_0.length co4) := (blk_cell BK393.out 0).trans rfl; have hfz6_0 := blk_frozen BK393.out 0) | ((with_reducible refine gate_callee (f := 75) rfl ?_); refine goesL_ (some 8) rfl rfl Try.func75 (by kernel_rfl) rfl #[.slice Ao4 l0_0.length co4, .int .i64 a1] rfl eqT ?_; (with_reducible refine (laws_markLinkS.calls k (fun k_ => some k_ = (.slice Ao4 l0_0.length co4 : Value).ownBlock) (.slice Ao4 l0_0.length co4) l0_0 a1 t394 t395 w0 _ ?side1 ?side2 A3.out).mono ?_); (case side1 => repeat (first | (with_reducible first | exact HB.out | apply below_alloc | apply pw_below_drewN | apply below_drew1 | refine below_set ?_ GE393.out) | exact HB.out)); (case side2 => exact Kd.R_tight rfl HO0_0.out); rintro e w7 ⟨rfl, hy0, hb, hkp⟩; refine ⟨_, rfl, ?_⟩; have n0_ := asT (Kd.R_reok rfl hy0 (fun k_ e_ => HO0_0.out.1 k_ e_)); have n1_ := asT (blk_kept (bkT BK393.out) hkp (fun hs_ => (fun e_ => (Kd.R_ne HO0_0.out BK393.out (by decide)) e_) hs_)); have n2_ := asT (Kept.then_ (S := (fun k_ => P0_0_ k_)) (by repeat (first | (with_reducible first | exact HK.out | apply Kept.alloc | apply Kept.drewN | apply Kept.drew | refine Kept.setCell ?_ (.inr GW393.out) _) | exact HK.out)) hkp (fun k_ hs_ => (fun e_ => (HO0_0.out.1 k_ e_.symm)) hs_)); have n3_ := asT (hb); clear HO0_0 BK393 HK HB; have HO0_0 := n0_; have BK393 := n1_; have HK := n2_; have HB := n3_; clear n0_ n1_ n2_ n3_; (try clear hb); (try clear hkp); (try clear hy0)))
 go_ret
 exact ⟨rlT, by (with_reducible repeat (first | apply Kd.R_alloc | apply Kd.R_drewN | apply Kd.R_drew)); exact HO0_0.out, hbT HB.out, by repeat (first | (with_reducible first | exact HK.out | apply Kept.alloc | apply Kept.drewN | apply Kept.drew | refine Kept.setCell ?_ (.inr GW393.out) _) | exact HK.out)⟩

/-! ### laws_markIntS: function 37 -/
def laws_markIntS.l0 : Nat → List Int → Int → Int → Option (Int × List Int)
 | 0, _, _, _ => none
 | k + 1, x0, x1, x5 => if x5 < (x0.length : Int) then (if 0 ≤ x5 then (laws_markIntS.l0 k (x0.set (x5 : Int).toNat x1) (wrap64 (x1 + 1)) (wrap64 (x5 + 1))) else (none)) else (some (x1, x0))
def laws_markIntS.f (k : Nat) (l0 : List Int) (a1 : Int) : Option (Int × List Int) := laws_markIntS.l0 k l0 a1 0
theorem laws_markIntS.mono_l : ∀ k, (∀ y0 y1 y2, LeO (laws_markIntS.l0 k y0 y1 y2) (laws_markIntS.l0 (k + 1) y0 y1 y2))
 | 0 => fun _ _ _ r h => by simp [laws_markIntS.l0] at h
 | k + 1 => by
  have ih0 := laws_markIntS.mono_l k
  ·intro y0 y1 y2
   unfold laws_markIntS.l0
   repeat' first
   | (with_reducible exact ih0 _ _ _)
   | (with_reducible exact LeO.refl _)
   | (with_reducible exact LeO.none _)
   | (with_reducible refine LeO.ite ?_ ?_)
   | (with_reducible refine LeO.bind ?_ (fun _ => ?_))
   | exact ih0 _ _ _
   | exact LeO.none _
   | refine LeO.ite ?_ ?_
   | refine LeO.bind ?_ (fun _ => ?_)
theorem laws_markIntS.mono : ∀ a0 a1 k, LeO (laws_markIntS.f k a0 a1) (laws_markIntS.f (k + 1) a0 a1) := by
 intro a0 a1 k
 have ih0 := laws_markIntS.mono_l k
 unfold laws_markIntS.f
 repeat' first
   | (with_reducible exact ih0 _ _ _)
   | (with_reducible exact LeO.refl _)
   | (with_reducible exact LeO.none _)
   | (with_reducible refine LeO.ite ?_ ?_)
   | (with_reducible refine LeO.bind ?_ (fun _ => ?_))
   | exact ih0 _ _ _
   | exact LeO.none _
   | refine LeO.ite ?_ ?_
   | refine LeO.bind ?_ (fun _ => ?_)
set_option maxHeartbeats 8000000 in
set_option maxRecDepth 100000 in
theorem laws_markIntS.calls (k : Nat) (P0_ : Nat → Prop) (u9000_ : Value) (l0 : List Int) (a1 : Int) (r1 : Int) (r2 : List Int) (w0 w : World) (hB : Below w0.heap.size w0 w) (ho0 : Kd.R (Kd.int .i64) 3 w w0.heap.size P0_ u9000_ l0) (h : laws_markIntS.f k l0 a1 = some (r1, r2)) :
  Calls Try.prog 37 #[u9000_, .int .i64 a1] w fun e w' => e = .returned (.int .i64 r1) ∧ Kd.R (Kd.int .i64) 3 w' w0.heap.size (fun k_ => (P0_ k_ ∨ w.heap.size ≤ k_)) u9000_ r2 ∧ Below w0.heap.size w0 w' ∧ Kept w w' (fun k_ => P0_ k_) := by
 have HO0 := asT (show Kd.R (Kd.int .i64) 3 w w0.heap.size (fun k_ => (P0_ k_ ∨ w.heap.size ≤ k_)) u9000_ l0 from Kd.R_mono ho0 (fun k_ hk => (.inl hk))); have HK := asT (Kept.refl w (fun k_ => P0_ k_)); have HW0 := Aside0.mk hB.size; have HB := Aside0.mk hB; clear hB
 have H : (laws_markIntS.l0 k l0 a1 0) = some (r1, r2) := h
 clear h; have H' := Aside0.mk H; clear H
 go_enter Try.func37, Try.ntmps37
 go_wp2
 go_loopg [1, 5] k (fun kq v1 v5 w' => ∃ (x0_1 : List Int) (x1_1 : Int) (x5_1 : Int), v1 = .int .i64 x1_1 ∧ v5 = .int .i64 x5_1 ∧ Aside0 (laws_markIntS.l0 kq x0_1 x1_1 x5_1 = some (r1, r2)) ∧ Aside0 (kq ≤ k) ∧ Aside0 (Kd.R (Kd.int .i64) 3 w' w0.heap.size (fun k_ => (P0_ k_ ∨ w.heap.size ≤ k_)) u9000_ x0_1) ∧ Aside0 (Kept w w' (fun k_ => P0_ k_)) ∧ Aside0 (Below w0.heap.size w0 w'))
 case atStart => exact ⟨(l0), (a1), (0), rdT, rdT, H', ⟨Nat.le_refl _⟩, ⟨by (with_reducible repeat (first | apply Kd.R_alloc | apply Kd.R_drewN | apply Kd.R_drew)); exact HO0.out⟩, ⟨by repeat (first | (with_reducible first | exact HK.out | apply Kept.alloc | apply Kept.drewN | apply Kept.drew) | exact HK.out)⟩, ⟨hbT HB.out⟩⟩
 case round =>
  clear H'; (try clear p2); obtain ⟨x0_1, x1_1, x5_1, rfl, rfl, HA, HK1, HO_0, HK, HB⟩ := hrel
  cases gk with
  | zero => exact absurd HA.out (by simp [laws_markIntS.l0])
  | succ k1 =>
   have H := HA.out; clear HA
   simp only [laws_markIntS.l0] at H
   by_cases c3 : x5_1 < (x0_1.length : Int)
   ·rw [if_pos c3] at H
    have c3b0 : decide (x5_1 < (x0_1.length : Int)) = true := decide_eq_true c3
    clear c3
    by_cases c4 : 0 ≤ x5_1
    ·rw [if_pos c4] at H
     have c4b0 : decide (0 ≤ x5_1) = true := decide_eq_true c4
     clear c4; obtain ⟨y396, hy396⟩ : ∃ y_ : List Int, y_ = (x0_1.set (x5_1 : Int).toNat x1_1) := ⟨_, rfl⟩
     replace H : (laws_markIntS.l0 k1 y396 (wrap64 (x1_1 + 1)) (wrap64 (x5_1 + 1))) = some (r1, r2) := by first | (rw [hy396]; with_reducible exact H) | (have H2_ := (Option.bind_some _ _).symm.trans H; rw [hy396]; with_reducible exact H2_) | (have H2_ := (Option.bind_some _ _).symm.trans H; with_reducible exact H2_) | with_reducible exact H | (rw [hy396]; exact H) | exact H
     have Ny396 := Aside0.mk hy396; clear hy396; have H' := Aside0.mk H; clear H; obtain ⟨Ao6, co6, eo6⟩ := Kd.R_slice HO_0.out; subst eo6
     have p5 : 0 ≤ (x5_1 : Int) := of_decide_eq_true asmT
     have q5 : (x5_1 : Int) < ((x0_1.length : Int) : Int) := of_decide_eq_true asmT
     obtain ⟨go5, co5, eo5, gb5, gl5, cl5, HG5⟩ := Kd.R_form HO_0.out (by omega)
     (first | cases eo5 | (injection eo5 with ea_ en_ ec_; (first | subst ea_ | (injection ea_ with ea_; subst ea_)); subst ec_; clear en_))
     have GB5 := Aside0.mk gb5; have GG5 := Aside0.mk HG5; clear gb5 gl5 HG5; have HMgo5 := asT (show (P0_ go5 ∨ w.heap.size ≤ go5) from (HO_0.out.1 _ rfl)); obtain ⟨hx5_0, hf5_0⟩ := Kd.R_celln 0 HO_0.out (x5_1 : Int) p5 q5; replace p5 := eq_true p5; replace q5 := eq_true q5; have HP7 := Kd.R_putg HO_0.out (x5_1 : Int) x1_1
     go_wp2_with (first | ((with_reducible refine gate_store (t := 3) (p := 15) rfl ?_); refine store_event (t := 3) (p := 15) (v := ?vo_w8) (w1 := (wr.setCell ⟨go5, (x5_1 : Int).toNat, none⟩ (.int .i64 x1_1))) ?hg ?ho ?hn ?hr ?_; (case ho => rfl); (case hg => rfl); (case hn => rfl); (case hr => first | (go_simp; done) | (go_simp; rfl)); intro w8 hw; have hg : wr.grownBy w8 (some go5) := (by rw [hw]; exact HP7.2); have hp_ : Kd.R (Kd.int .i64) 3 w8 w0.heap.size (fun k_ => (P0_ k_ ∨ w.heap.size ≤ k_)) (.slice (some ⟨go5, 0, none⟩) x0_1.length co6) y396 := (by rw [hw, Ny396.out]; exact HP7.1); clear HP7; have n0_ := asT (hp_); have n1_ := asT ((by rw [hw]; exact below_set (HB.out) GB5.out : Below w0.heap.size w0 w8)); have n2_ := asT (Kept.of_grown (S := (fun k_ => P0_ k_)) hg (by repeat (first | (with_reducible first | exact HK.out | apply Kept.alloc | apply Kept.drewN | apply Kept.drew) | exact HK.out)) (fun k_ e_ => (HO_0.out.1 k_ e_))); clear HO_0 HB HK; have HO_0 := n0_; have HB := n1_; have HK := n2_; clear n0_ n1_ n2_ hg hw hp_))
     go_roundg k1
     case measure => have := HK1.out; omega
     case rel => exact ⟨(y396), (wrap64 (x1_1 + 1)), (wrap64 (x5_1 + 1)), rdT, rdT, H', ⟨by have := HK1.out; omega⟩, ⟨by (with_reducible repeat (first | apply Kd.R_alloc | apply Kd.R_drewN | apply Kd.R_drew)); exact HO_0.out⟩, ⟨by repeat (first | (with_reducible first | exact HK.out | apply Kept.alloc | apply Kept.drewN | apply Kept.drew) | exact HK.out)⟩, ⟨hbT HB.out⟩⟩
    ·rw [if_neg c4] at H
     exact absurd H (by simp)
   ·rw [if_neg c3] at H
    have c3b0 : decide (x5_1 < (x0_1.length : Int)) = false := decide_eq_false c3
    clear c3
    simp only [Option.some.injEq, Prod.mk.injEq] at H
    obtain ⟨rfl, rfl⟩ := H; obtain ⟨Ao9, co9, eo9⟩ := Kd.R_slice HO_0.out; subst eo9
    go_wp2
    go_ret
    exact ⟨rlT, by (with_reducible repeat (first | apply Kd.R_alloc | apply Kd.R_drewN | apply Kd.R_drew)); exact HO_0.out, hbT HB.out, by repeat (first | (with_reducible first | exact HK.out | apply Kept.alloc | apply Kept.drewN | apply Kept.drew) | exact HK.out)⟩

/-! ### laws_heldIntS: function 38 -/
def laws_heldIntS.l0 : Nat → List Int → Int → Int → Option (Int)
 | 0, _, _, _ => none
 | k + 1, x0, x1, x5 => if x5 < (x0.length : Int) then (if 0 ≤ x5 then (if (rd x0 x5) = x1 then (laws_heldIntS.l0 k x0 (wrap64 (x1 + 1)) (wrap64 (x5 + 1))) else (some (-1))) else (none)) else (some x1)
def laws_heldIntS.f (k : Nat) (l0 : List Int) (a1 : Int) : Option (Int) := laws_heldIntS.l0 k l0 a1 0
theorem laws_heldIntS.mono_l : ∀ k, (∀ y0 y1 y2, LeO (laws_heldIntS.l0 k y0 y1 y2) (laws_heldIntS.l0 (k + 1) y0 y1 y2))
 | 0 => fun _ _ _ r h => by simp [laws_heldIntS.l0] at h
 | k + 1 => by
  have ih0 := laws_heldIntS.mono_l k
  ·intro y0 y1 y2
   unfold laws_heldIntS.l0
   repeat' first
   | (with_reducible exact ih0 _ _ _)
   | (with_reducible exact LeO.refl _)
   | (with_reducible exact LeO.none _)
   | (with_reducible refine LeO.ite ?_ ?_)
   | (with_reducible refine LeO.bind ?_ (fun _ => ?_))
   | exact ih0 _ _ _
   | exact LeO.none _
   | refine LeO.ite ?_ ?_
   | refine LeO.bind ?_ (fun _ => ?_)
theorem laws_heldIntS.mono : ∀ a0 a1 k, LeO (laws_heldIntS.f k a0 a1) (laws_heldIntS.f (k + 1) a0 a1) := by
 intro a0 a1 k
 have ih0 := laws_heldIntS.mono_l k
 unfold laws_heldIntS.f
 repeat' first
   | (with_reducible exact ih0 _ _ _)
   | (with_reducible exact LeO.refl _)
   | (with_reducible exact LeO.none _)
   | (with_reducible refine LeO.ite ?_ ?_)
   | (with_reducible refine LeO.bind ?_ (fun _ => ?_))
   | exact ih0 _ _ _
   | exact LeO.none _
   | refine LeO.ite ?_ ?_
   | refine LeO.bind ?_ (fun _ => ?_)
set_option maxHeartbeats 8000000 in
set_option maxRecDepth 100000 in
theorem laws_heldIntS.calls (k : Nat) (A0 : Option Addr) (c0 : Nat) (l0 : List Int) (a1 : Int) (r : Int) (w : World) (hr0 : Kd.C (Kd.int .i64) w A0 l0.length l0) (hc0 : l0.length ≤ c0) (h : laws_heldIntS.f k l0 a1 = some r) :
  Calls Try.prog 38 #[.slice A0 l0.length c0, .int .i64 a1] w fun e w' => e = .returned (.int .i64 r) ∧ Drawn0 w w' := by
 have HR0 := Aside0.mk hr0; have HC0 := Aside0.mk hc0; clear hr0 hc0
 have H : (laws_heldIntS.l0 k l0 a1 0) = some r := h
 clear h; have H' := Aside0.mk H; clear H
 go_enter Try.func38, Try.ntmps38
 go_wp2
 go_loopg [1, 5] k (fun kq v1 v5 w' => ∃ (x1_1 : Int) (x5_1 : Int), v1 = .int .i64 x1_1 ∧ v5 = .int .i64 x5_1 ∧ Aside0 (laws_heldIntS.l0 kq l0 x1_1 x5_1 = some r) ∧ Aside0 (kq ≤ k) ∧ Drawn0 w w')
 case atStart => exact ⟨(a1), (0), rdT, rdT, H', ⟨Nat.le_refl _⟩, drT⟩
 case round =>
  clear H'; (try clear p2); obtain ⟨x1_1, x5_1, rfl, rfl, HA, HK1, ⟨m1, rfl⟩⟩ := hrel
  cases gk with
  | zero => exact absurd HA.out (by simp [laws_heldIntS.l0])
  | succ k1 =>
   have H := HA.out; clear HA
   simp only [laws_heldIntS.l0] at H
   by_cases c3 : x5_1 < (l0.length : Int)
   ·rw [if_pos c3] at H
    have c3b0 : decide (x5_1 < (l0.length : Int)) = true := decide_eq_true c3
    clear c3
    by_cases c4 : 0 ≤ x5_1
    ·rw [if_pos c4] at H
     have c4b0 : decide (0 ≤ x5_1) = true := decide_eq_true c4
     clear c4
     by_cases c5 : (rd l0 x5_1) = x1_1
     ·rw [if_pos c5] at H
      have c5b0 : ((rd l0 x5_1) == x1_1) = true := beq_iff_eq.mpr c5
      have c5b1 : ((rd l0 x5_1) != x1_1) = false := bne_eq_false_iff_eq.mpr c5
      clear c5; have H' := Aside0.mk H; clear H
      have p397 : 0 ≤ (x5_1 : Int) := of_decide_eq_true asmT
      have q397 : x5_1 < (l0.length : Int) := of_decide_eq_true asmT
      obtain ⟨ad397, e397, hx397_0⟩ := Kd.at_int HR0.out x5_1 p397 q397
      cases e397
      replace p397 := eq_true p397; replace q397 := eq_true q397
      go_wp2
      go_roundg k1
      case measure => have := HK1.out; omega
      case rel => exact ⟨(wrap64 (x1_1 + 1)), (wrap64 (x5_1 + 1)), rdT, rdT, H', ⟨by have := HK1.out; omega⟩, drT⟩
     ·rw [if_neg c5] at H
      have c5b0 : ((rd l0 x5_1) == x1_1) = false := beq_eq_false_iff_ne.mpr c5
      have c5b1 : ((rd l0 x5_1) != x1_1) = true := bne_iff_ne.mpr c5
      obtain rfl := Option.some.inj H
      have p397 : 0 ≤ (x5_1 : Int) := of_decide_eq_true asmT
      have q397 : x5_1 < (l0.length : Int) := of_decide_eq_true asmT
      obtain ⟨ad397, e397, hx397_0⟩ := Kd.at_int HR0.out x5_1 p397 q397
      cases e397
      replace p397 := eq_true p397; replace q397 := eq_true q397
      go_wp2
      go_ret
      exact ⟨rdT, drT⟩
    ·rw [if_neg c4] at H
     exact absurd H (by simp)
   ·rw [if_neg c3] at H
    have c3b0 : decide (x5_1 < (l0.length : Int)) = false := decide_eq_false c3
    clear c3
    obtain rfl := Option.some.inj H
    go_wp2
    go_ret
    exact ⟨rdT, drT⟩

/-! ### laws_FnExactProfileOf: function 8 -/
def laws_FnExactProfileOf.j0 : Nat → List ByteArray → List Int → List Int → Bool → List (S92) → Option (Bool)
 | 0, _, _, _, _, _ => none
 | k + 1, x0, x6, x9, x63, x399000 => if x63 = true then (none) else ((laws_markIntS.f k x9 1).bind fun bt434 => ((laws_heldIntS.f k bt434.2 1).bind fun t436 => (if t436 < 0 then (none) else (if t436 = bt434.1 then ((laws_toStringS.f k x0).bind fun t437 => ((laws_toCandidate.f k x399000).bind fun t440 => ((impl_ProfileOf.f k t437 t440).bind fun t443 => ((laws_eqIntS.f k t443 x6).bind fun t446 => (if t446 = true then ((laws_heldIntS.f k bt434.2 1).bind fun t447 => (if t447 < 0 then (none) else (if t447 = bt434.1 then (some true) else (none)))) else (none)))))) else (none)))))
def laws_FnExactProfileOf.f (k : Nat) (l0 : List ByteArray) (l1_0 : List (S92)) : Option (Bool) := (laws_szStringS.f k l0 1048576).bind fun t399 => (if t399 < 0 then (some true) else ((laws_szCandidate.f l1_0 t399).bind fun t400 => (if t400 < 0 then (some true) else ((laws_toStringS.f k l0).bind fun t401 => ((laws_toCandidate.f k l1_0).bind fun t404 => ((spec_ProfileOf.f k t401 t404).bind fun t407 => ((laws_toStringS.f k l0).bind fun t410 => ((laws_toCandidate.f k l1_0).bind fun t413 => ((impl_ProfileOf.f k t410 t413).bind fun t417 => ((laws_eqIntS.f k t417 t407).bind fun t420 => (if t420 = true then ((laws_toStringS.f k l0).bind fun t421 => ((laws_eqStringS.f k t410 t421).bind fun t424 => (if t424 = true then ((laws_toCandidate.f k l1_0).bind fun t425 => ((laws_eqCandidate.f k t413 t425).bind fun t428 => (if t428 = true then ((laws_markStringS.f k t410 1).bind fun bt429 => ((laws_markCandidate.f k t413 bt429.1).bind fun bt431 => (if bt431.1 < 0 then (laws_FnExactProfileOf.j0 k l0 t407 t417 true l1_0) else ((laws_eqIntS.f k t417 t407).bind fun t433 => (laws_FnExactProfileOf.j0 k l0 t407 t417 (!t433) l1_0))))) else (none)))) else (none)))) else (none))))))))))))
theorem laws_FnExactProfileOf.mono_l : ∀ k, (∀ y0 y1 y2 y3 y4, LeO (laws_FnExactProfileOf.j0 k y0 y1 y2 y3 y4) (laws_FnExactProfileOf.j0 (k + 1) y0 y1 y2 y3 y4))
 | 0 => fun _ _ _ _ _ r h => by simp [laws_FnExactProfileOf.j0] at h
 | k + 1 => by
  have ih0 := laws_FnExactProfileOf.mono_l k
  ·intro y0 y1 y2 y3 y4
   unfold laws_FnExactProfileOf.j0
   repeat' first
   | (with_reducible exact ih0 _ _ _ _ _)
   | (with_reducible exact impl_ProfileOf.mono _ _ _)
   | (with_reducible exact laws_eqCandidate.mono _ _ _)
   | (with_reducible exact laws_eqIntS.mono _ _ _)
   | (with_reducible exact laws_eqStringS.mono _ _ _)
   | (with_reducible exact laws_heldIntS.mono _ _ _)
   | (with_reducible exact laws_markCandidate.mono _ _ _)
   | (with_reducible exact laws_markIntS.mono _ _ _)
   | (with_reducible exact laws_markStringS.mono _ _ _)
   | (with_reducible exact laws_szStringS.mono _ _ _)
   | (with_reducible exact laws_toCandidate.mono _ _)
   | (with_reducible exact laws_toStringS.mono _ _)
   | (with_reducible exact spec_ProfileOf.mono _ _ _)
   | (with_reducible exact LeO.refl _)
   | (with_reducible exact LeO.none _)
   | (with_reducible refine LeO.ite ?_ ?_)
   | (with_reducible refine LeO.bind ?_ (fun _ => ?_))
   | exact ih0 _ _ _ _ _
   | exact impl_ProfileOf.mono _ _ _
   | exact laws_eqCandidate.mono _ _ _
   | exact laws_eqIntS.mono _ _ _
   | exact laws_eqStringS.mono _ _ _
   | exact laws_heldIntS.mono _ _ _
   | exact laws_markCandidate.mono _ _ _
   | exact laws_markIntS.mono _ _ _
   | exact laws_markStringS.mono _ _ _
   | exact laws_szStringS.mono _ _ _
   | exact laws_toCandidate.mono _ _
   | exact laws_toStringS.mono _ _
   | exact spec_ProfileOf.mono _ _ _
   | exact LeO.none _
   | refine LeO.ite ?_ ?_
   | refine LeO.bind ?_ (fun _ => ?_)
theorem laws_FnExactProfileOf.mono : ∀ a0 a1 k, LeO (laws_FnExactProfileOf.f k a0 a1) (laws_FnExactProfileOf.f (k + 1) a0 a1) := by
 intro a0 a1 k
 have ih0 := laws_FnExactProfileOf.mono_l k
 unfold laws_FnExactProfileOf.f
 repeat' first
   | (with_reducible exact ih0 _ _ _ _ _)
   | (with_reducible exact impl_ProfileOf.mono _ _ _)
   | (with_reducible exact laws_eqCandidate.mono _ _ _)
   | (with_reducible exact laws_eqIntS.mono _ _ _)
   | (with_reducible exact laws_eqStringS.mono _ _ _)
   | (with_reducible exact laws_heldIntS.mono _ _ _)
   | (with_reducible exact laws_markCandidate.mono _ _ _)
   | (with_reducible exact laws_markIntS.mono _ _ _)
   | (with_reducible exact laws_markStringS.mono _ _ _)
   | (with_reducible exact laws_szStringS.mono _ _ _)
   | (with_reducible exact laws_toCandidate.mono _ _)
   | (with_reducible exact laws_toStringS.mono _ _)
   | (with_reducible exact spec_ProfileOf.mono _ _ _)
   | (with_reducible exact LeO.refl _)
   | (with_reducible exact LeO.none _)
   | (with_reducible refine LeO.ite ?_ ?_)
   | (with_reducible refine LeO.bind ?_ (fun _ => ?_))
   | exact ih0 _ _ _ _ _
   | exact impl_ProfileOf.mono _ _ _
   | exact laws_eqCandidate.mono _ _ _
   | exact laws_eqIntS.mono _ _ _
   | exact laws_eqStringS.mono _ _ _
   | exact laws_heldIntS.mono _ _ _
   | exact laws_markCandidate.mono _ _ _
   | exact laws_markIntS.mono _ _ _
   | exact laws_markStringS.mono _ _ _
   | exact laws_szStringS.mono _ _ _
   | exact laws_toCandidate.mono _ _
   | exact laws_toStringS.mono _ _
   | exact spec_ProfileOf.mono _ _ _
   | exact LeO.none _
   | refine LeO.ite ?_ ?_
   | refine LeO.bind ?_ (fun _ => ?_)
set_option maxHeartbeats 8000000 in
set_option maxRecDepth 100000 in
theorem laws_FnExactProfileOf.calls (k : Nat) (A0 : Option Addr) (c0 : Nat) (l0 : List ByteArray) (A1_0 : Option Addr) (c1_0 : Nat) (l1_0 : List (S92)) (r : Bool) (w : World) (hr0 : Kd.C Kd.string w A0 l0.length l0) (hc0 : l0.length ≤ c0) (hr1_0 : Kd.C k92 w A1_0 l1_0.length l1_0) (hc1_0 : l1_0.length ≤ c1_0) (h : laws_FnExactProfileOf.f k l0 l1_0 = some r) :
  Calls Try.prog 8 #[.slice A0 l0.length c0, .agg #[.slice A1_0 l1_0.length c1_0]] w fun e w' => e = .returned (.bool r) ∧ Below w.heap.size w w' := by
 have hu29 := Try.underlying29; have hu34 := Try.underlying34; have HR0 := Aside0.mk hr0; have HC0 := Aside0.mk hc0; clear hr0 hc0; have HR1_0 := Aside0.mk hr1_0; have HC1_0 := Aside0.mk hc1_0; clear hr1_0 hc1_0; have HB := asT (Below.refl w.heap.size w)
 have H : ((laws_szStringS.f k l0 1048576).bind fun t399 => (if t399 < 0 then (some true) else ((laws_szCandidate.f l1_0 t399).bind fun t400 => (if t400 < 0 then (some true) else ((laws_toStringS.f k l0).bind fun t401 => ((laws_toCandidate.f k l1_0).bind fun t404 => ((spec_ProfileOf.f k t401 t404).bind fun t407 => ((laws_toStringS.f k l0).bind fun t410 => ((laws_toCandidate.f k l1_0).bind fun t413 => ((impl_ProfileOf.f k t410 t413).bind fun t417 => ((laws_eqIntS.f k t417 t407).bind fun t420 => (if t420 = true then ((laws_toStringS.f k l0).bind fun t421 => ((laws_eqStringS.f k t410 t421).bind fun t424 => (if t424 = true then ((laws_toCandidate.f k l1_0).bind fun t425 => ((laws_eqCandidate.f k t413 t425).bind fun t428 => (if t428 = true then ((laws_markStringS.f k t410 1).bind fun bt429 => ((laws_markCandidate.f k t413 bt429.1).bind fun bt431 => (if bt431.1 < 0 then (laws_FnExactProfileOf.j0 k l0 t407 t417 true l1_0) else ((laws_eqIntS.f k t417 t407).bind fun t433 => (laws_FnExactProfileOf.j0 k l0 t407 t417 (!t433) l1_0))))) else (none)))) else (none)))) else (none))))))))))))) = some r := h
 clear h; replace H := Option.bind_eq_some_iff.mp H; obtain ⟨t399, A30, H⟩ := H; replace H : (if t399 < 0 then (some true) else ((laws_szCandidate.f l1_0 t399).bind fun t400 => (if t400 < 0 then (some true) else ((laws_toStringS.f k l0).bind fun t401 => ((laws_toCandidate.f k l1_0).bind fun t404 => ((spec_ProfileOf.f k t401 t404).bind fun t407 => ((laws_toStringS.f k l0).bind fun t410 => ((laws_toCandidate.f k l1_0).bind fun t413 => ((impl_ProfileOf.f k t410 t413).bind fun t417 => ((laws_eqIntS.f k t417 t407).bind fun t420 => (if t420 = true then ((laws_toStringS.f k l0).bind fun t421 => ((laws_eqStringS.f k t410 t421).bind fun t424 => (if t424 = true then ((laws_toCandidate.f k l1_0).bind fun t425 => ((laws_eqCandidate.f k t413 t425).bind fun t428 => (if t428 = true then ((laws_markStringS.f k t410 1).bind fun bt429 => ((laws_markCandidate.f k t413 bt429.1).bind fun bt431 => (if bt431.1 < 0 then (laws_FnExactProfileOf.j0 k l0 t407 t417 true l1_0) else ((laws_eqIntS.f k t417 t407).bind fun t433 => (laws_FnExactProfileOf.j0 k l0 t407 t417 (!t433) l1_0))))) else (none)))) else (none)))) else (none)))))))))))) = some r := H; have A3 := Aside0.mk A30; clear A30
 by_cases c4 : t399 < 0
 ·rw [if_pos c4] at H
  have c4b0 : decide (t399 < 0) = true := decide_eq_true c4
  clear c4
  obtain rfl := Option.some.inj H
  go_enter Try.func8, Try.ntmps8
  go_wp2_with (first | ((with_reducible refine gate_dst (N := 3) rfl ?_); refine boxT (N := 3) (cs := #[.slice A1_0 l1_0.length c1_0]) (t := 29) ?_; intro gb398 hg w5 hbox hb; have n0_ := asT (below_step (hbT HB.out) hb); have n1_ := asT (hbox); have n2_ := asT (geT hg HB.out); have n3_ := asT (geT hg HB.out); clear HB; have HB := n0_; have BK398 := n1_; have GW398 := n2_; have GE398 := n3_; clear n0_ n1_ n2_ n3_ hb hbox hg) | ((with_reducible refine gate_callee (f := 28) rfl ?_); refine goesL_ (some 16) rfl rfl Try.func28 (by kernel_rfl) rfl #[.slice A0 l0.length c0, .int .i64 1048576] rfl eqT ?_; (with_reducible refine (laws_szStringS.calls k _ _ l0 1048576 t399 _ ?side1 ?side2 A3.out).mono ?_); (case side1 => exact crT HR0.out HB.out); (case side2 => exact HC0.out); rintro e w' ⟨rfl, ⟨nd, rfl⟩⟩; refine ⟨_, rfl, ?_⟩))
  go_ret
  exact ⟨rlT, hbT HB.out⟩
 ·rw [if_neg c4] at H
  have c4b0 : decide (t399 < 0) = false := decide_eq_false c4
  clear c4; replace H := Option.bind_eq_some_iff.mp H; obtain ⟨t400, A60, H⟩ := H; replace H : (if t400 < 0 then (some true) else ((laws_toStringS.f k l0).bind fun t401 => ((laws_toCandidate.f k l1_0).bind fun t404 => ((spec_ProfileOf.f k t401 t404).bind fun t407 => ((laws_toStringS.f k l0).bind fun t410 => ((laws_toCandidate.f k l1_0).bind fun t413 => ((impl_ProfileOf.f k t410 t413).bind fun t417 => ((laws_eqIntS.f k t417 t407).bind fun t420 => (if t420 = true then ((laws_toStringS.f k l0).bind fun t421 => ((laws_eqStringS.f k t410 t421).bind fun t424 => (if t424 = true then ((laws_toCandidate.f k l1_0).bind fun t425 => ((laws_eqCandidate.f k t413 t425).bind fun t428 => (if t428 = true then ((laws_markStringS.f k t410 1).bind fun bt429 => ((laws_markCandidate.f k t413 bt429.1).bind fun bt431 => (if bt431.1 < 0 then (laws_FnExactProfileOf.j0 k l0 t407 t417 true l1_0) else ((laws_eqIntS.f k t417 t407).bind fun t433 => (laws_FnExactProfileOf.j0 k l0 t407 t417 (!t433) l1_0))))) else (none)))) else (none)))) else (none)))))))))) = some r := H; have A6 := Aside0.mk A60; clear A60
  by_cases c7 : t400 < 0
  ·rw [if_pos c7] at H
   have c7b0 : decide (t400 < 0) = true := decide_eq_true c7
   clear c7
   obtain rfl := Option.some.inj H
   go_enter Try.func8, Try.ntmps8
   go_wp2_with (first | ((with_reducible refine gate_dst (N := 3) rfl ?_); refine boxT (N := 3) (cs := #[.slice A1_0 l1_0.length c1_0]) (t := 29) ?_; intro gb398 hg w8 hbox hb; have n0_ := asT (below_step (hbT HB.out) hb); have n1_ := asT (hbox); have n2_ := asT (geT hg HB.out); have n3_ := asT (geT hg HB.out); clear HB; have HB := n0_; have BK398 := n1_; have GW398 := n2_; have GE398 := n3_; clear n0_ n1_ n2_ n3_ hb hbox hg) | ((with_reducible refine gate_callee (f := 28) rfl ?_); refine goesL_ (some 16) rfl rfl Try.func28 (by kernel_rfl) rfl #[.slice A0 l0.length c0, .int .i64 1048576] rfl eqT ?_; (with_reducible refine (laws_szStringS.calls k _ _ l0 1048576 t399 _ ?side1 ?side2 A3.out).mono ?_); (case side1 => exact crT HR0.out HB.out); (case side2 => exact HC0.out); rintro e w' ⟨rfl, ⟨nd, rfl⟩⟩; refine ⟨_, rfl, ?_⟩; have hcz9_0 : w8.cell? ⟨gb398, 0, none⟩ = some (.slice A1_0 l1_0.length c1_0) := (blk_cell BK398.out 0).trans rfl; have hfz9_0 := blk_frozen BK398.out 0) | ((with_reducible refine gate_callee (f := 13) rfl ?_); refine goesL_ (some 21) rfl rfl Try.func13 (by kernel_rfl) rfl #[.agg #[.slice A1_0 l1_0.length c1_0], .int .i64 t399] rfl eqT ?_; (with_reducible refine (laws_szCandidate.calls _ _ l1_0 t399 t400 _ ?side1 ?side2 A6.out).mono ?_); (case side1 => exact crT HR1_0.out (hbT HB.out)); (case side2 => exact HC1_0.out); rintro e w10 ⟨rfl, hb⟩; refine ⟨_, rfl, ?_⟩; have n0_ := asT (blk_below (bkT BK398.out) hb); have n1_ := asT (below_step (hbT HB.out) hb); clear BK398 HB; have BK398 := n0_; have HB := n1_; clear n0_ n1_; (try clear hb); (try clear hb2); (try clear hk); (try clear hi)))
   go_ret
   exact ⟨rlT, hbT HB.out⟩
  ·rw [if_neg c7] at H
   have c7b0 : decide (t400 < 0) = false := decide_eq_false c7
   clear c7; replace H := Option.bind_eq_some_iff.mp H; obtain ⟨t401, A110, H⟩ := H; replace H : ((laws_toCandidate.f k l1_0).bind fun t404 => ((spec_ProfileOf.f k t401 t404).bind fun t407 => ((laws_toStringS.f k l0).bind fun t410 => ((laws_toCandidate.f k l1_0).bind fun t413 => ((impl_ProfileOf.f k t410 t413).bind fun t417 => ((laws_eqIntS.f k t417 t407).bind fun t420 => (if t420 = true then ((laws_toStringS.f k l0).bind fun t421 => ((laws_eqStringS.f k t410 t421).bind fun t424 => (if t424 = true then ((laws_toCandidate.f k l1_0).bind fun t425 => ((laws_eqCandidate.f k t413 t425).bind fun t428 => (if t428 = true then ((laws_markStringS.f k t410 1).bind fun bt429 => ((laws_markCandidate.f k t413 bt429.1).bind fun bt431 => (if bt431.1 < 0 then (laws_FnExactProfileOf.j0 k l0 t407 t417 true l1_0) else ((laws_eqIntS.f k t417 t407).bind fun t433 => (laws_FnExactProfileOf.j0 k l0 t407 t417 (!t433) l1_0))))) else (none)))) else (none)))) else (none)))))))) = some r := H; have A11 := Aside0.mk A110; clear A110; replace H := Option.bind_eq_some_iff.mp H; obtain ⟨t404, A120, H⟩ := H; replace H : ((spec_ProfileOf.f k t401 t404).bind fun t407 => ((laws_toStringS.f k l0).bind fun t410 => ((laws_toCandidate.f k l1_0).bind fun t413 => ((impl_ProfileOf.f k t410 t413).bind fun t417 => ((laws_eqIntS.f k t417 t407).bind fun t420 => (if t420 = true then ((laws_toStringS.f k l0).bind fun t421 => ((laws_eqStringS.f k t410 t421).bind fun t424 => (if t424 = true then ((laws_toCandidate.f k l1_0).bind fun t425 => ((laws_eqCandidate.f k t413 t425).bind fun t428 => (if t428 = true then ((laws_markStringS.f k t410 1).bind fun bt429 => ((laws_markCandidate.f k t413 bt429.1).bind fun bt431 => (if bt431.1 < 0 then (laws_FnExactProfileOf.j0 k l0 t407 t417 true l1_0) else ((laws_eqIntS.f k t417 t407).bind fun t433 => (laws_FnExactProfileOf.j0 k l0 t407 t417 (!t433) l1_0))))) else (none)))) else (none)))) else (none))))))) = some r := H; have A12 := Aside0.mk A120; clear A120; replace H := Option.bind_eq_some_iff.mp H; obtain ⟨t407, A130, H⟩ := H; replace H : ((laws_toStringS.f k l0).bind fun t410 => ((laws_toCandidate.f k l1_0).bind fun t413 => ((impl_ProfileOf.f k t410 t413).bind fun t417 => ((laws_eqIntS.f k t417 t407).bind fun t420 => (if t420 = true then ((laws_toStringS.f k l0).bind fun t421 => ((laws_eqStringS.f k t410 t421).bind fun t424 => (if t424 = true then ((laws_toCandidate.f k l1_0).bind fun t425 => ((laws_eqCandidate.f k t413 t425).bind fun t428 => (if t428 = true then ((laws_markStringS.f k t410 1).bind fun bt429 => ((laws_markCandidate.f k t413 bt429.1).bind fun bt431 => (if bt431.1 < 0 then (laws_FnExactProfileOf.j0 k l0 t407 t417 true l1_0) else ((laws_eqIntS.f k t417 t407).bind fun t433 => (laws_FnExactProfileOf.j0 k l0 t407 t417 (!t433) l1_0))))) else (none)))) else (none)))) else (none)))))) = some r := H; have A13 := Aside0.mk A130; clear A130; replace H := Option.bind_eq_some_iff.mp H; obtain ⟨t410, A140, H⟩ := H; replace H : ((laws_toCandidate.f k l1_0).bind fun t413 => ((impl_ProfileOf.f k t410 t413).bind fun t417 => ((laws_eqIntS.f k t417 t407).bind fun t420 => (if t420 = true then ((laws_toStringS.f k l0).bind fun t421 => ((laws_eqStringS.f k t410 t421).bind fun t424 => (if t424 = true then ((laws_toCandidate.f k l1_0).bind fun t425 => ((laws_eqCandidate.f k t413 t425).bind fun t428 => (if t428 = true then ((laws_markStringS.f k t410 1).bind fun bt429 => ((laws_markCandidate.f k t413 bt429.1).bind fun bt431 => (if bt431.1 < 0 then (laws_FnExactProfileOf.j0 k l0 t407 t417 true l1_0) else ((laws_eqIntS.f k t417 t407).bind fun t433 => (laws_FnExactProfileOf.j0 k l0 t407 t417 (!t433) l1_0))))) else (none)))) else (none)))) else (none))))) = some r := H; have A14 := Aside0.mk A140; clear A140; replace H := Option.bind_eq_some_iff.mp H; obtain ⟨t413, A150, H⟩ := H; replace H : ((impl_ProfileOf.f k t410 t413).bind fun t417 => ((laws_eqIntS.f k t417 t407).bind fun t420 => (if t420 = true then ((laws_toStringS.f k l0).bind fun t421 => ((laws_eqStringS.f k t410 t421).bind fun t424 => (if t424 = true then ((laws_toCandidate.f k l1_0).bind fun t425 => ((laws_eqCandidate.f k t413 t425).bind fun t428 => (if t428 = true then ((laws_markStringS.f k t410 1).bind fun bt429 => ((laws_markCandidate.f k t413 bt429.1).bind fun bt431 => (if bt431.1 < 0 then (laws_FnExactProfileOf.j0 k l0 t407 t417 true l1_0) else ((laws_eqIntS.f k t417 t407).bind fun t433 => (laws_FnExactProfileOf.j0 k l0 t407 t417 (!t433) l1_0))))) else (none)))) else (none)))) else (none)))) = some r := H; have A15 := Aside0.mk A150; clear A150; replace H := Option.bind_eq_some_iff.mp H; obtain ⟨t417, A160, H⟩ := H; replace H : ((laws_eqIntS.f k t417 t407).bind fun t420 => (if t420 = true then ((laws_toStringS.f k l0).bind fun t421 => ((laws_eqStringS.f k t410 t421).bind fun t424 => (if t424 = true then ((laws_toCandidate.f k l1_0).bind fun t425 => ((laws_eqCandidate.f k t413 t425).bind fun t428 => (if t428 = true then ((laws_markStringS.f k t410 1).bind fun bt429 => ((laws_markCandidate.f k t413 bt429.1).bind fun bt431 => (if bt431.1 < 0 then (laws_FnExactProfileOf.j0 k l0 t407 t417 true l1_0) else ((laws_eqIntS.f k t417 t407).bind fun t433 => (laws_FnExactProfileOf.j0 k l0 t407 t417 (!t433) l1_0))))) else (none)))) else (none)))) else (none))) = some r := H; have A16 := Aside0.mk A160; clear A160; replace H := Option.bind_eq_some_iff.mp H; obtain ⟨t420, A170, H⟩ := H; replace H : (if t420 = true then ((laws_toStringS.f k l0).bind fun t421 => ((laws_eqStringS.f k t410 t421).bind fun t424 => (if t424 = true then ((laws_toCandidate.f k l1_0).bind fun t425 => ((laws_eqCandidate.f k t413 t425).bind fun t428 => (if t428 = true then ((laws_markStringS.f k t410 1).bind fun bt429 => ((laws_markCandidate.f k t413 bt429.1).bind fun bt431 => (if bt431.1 < 0 then (laws_FnExactProfileOf.j0 k l0 t407 t417 true l1_0) else ((laws_eqIntS.f k t417 t407).bind fun t433 => (laws_FnExactProfileOf.j0 k l0 t407 t417 (!t433) l1_0))))) else (none)))) else (none)))) else (none)) = some r := H; have A17 := Aside0.mk A170; clear A170
   by_cases c18 : t420 = true
   ·subst c18
    have H1 : ((laws_toStringS.f k l0).bind fun t421 => ((laws_eqStringS.f k t410 t421).bind fun t424 => (if t424 = true then ((laws_toCandidate.f k l1_0).bind fun t425 => ((laws_eqCandidate.f k t413 t425).bind fun t428 => (if t428 = true then ((laws_markStringS.f k t410 1).bind fun bt429 => ((laws_markCandidate.f k t413 bt429.1).bind fun bt431 => (if bt431.1 < 0 then (laws_FnExactProfileOf.j0 k l0 t407 t417 true l1_0) else ((laws_eqIntS.f k t417 t407).bind fun t433 => (laws_FnExactProfileOf.j0 k l0 t407 t417 (!t433) l1_0))))) else (none)))) else (none)))) = some r := by rw [if_pos rfl] at H; exact H
    clear H; have H := H1; clear H1; replace H := Option.bind_eq_some_iff.mp H; obtain ⟨t421, A190, H⟩ := H; replace H : ((laws_eqStringS.f k t410 t421).bind fun t424 => (if t424 = true then ((laws_toCandidate.f k l1_0).bind fun t425 => ((laws_eqCandidate.f k t413 t425).bind fun t428 => (if t428 = true then ((laws_markStringS.f k t410 1).bind fun bt429 => ((laws_markCandidate.f k t413 bt429.1).bind fun bt431 => (if bt431.1 < 0 then (laws_FnExactProfileOf.j0 k l0 t407 t417 true l1_0) else ((laws_eqIntS.f k t417 t407).bind fun t433 => (laws_FnExactProfileOf.j0 k l0 t407 t417 (!t433) l1_0))))) else (none)))) else (none))) = some r := H; have A19 := Aside0.mk A190; clear A190; replace H := Option.bind_eq_some_iff.mp H; obtain ⟨t424, A200, H⟩ := H; replace H : (if t424 = true then ((laws_toCandidate.f k l1_0).bind fun t425 => ((laws_eqCandidate.f k t413 t425).bind fun t428 => (if t428 = true then ((laws_markStringS.f k t410 1).bind fun bt429 => ((laws_markCandidate.f k t413 bt429.1).bind fun bt431 => (if bt431.1 < 0 then (laws_FnExactProfileOf.j0 k l0 t407 t417 true l1_0) else ((laws_eqIntS.f k t417 t407).bind fun t433 => (laws_FnExactProfileOf.j0 k l0 t407 t417 (!t433) l1_0))))) else (none)))) else (none)) = some r := H; have A20 := Aside0.mk A200; clear A200
    by_cases c21 : t424 = true
    ·subst c21
     have H1 : ((laws_toCandidate.f k l1_0).bind fun t425 => ((laws_eqCandidate.f k t413 t425).bind fun t428 => (if t428 = true then ((laws_markStringS.f k t410 1).bind fun bt429 => ((laws_markCandidate.f k t413 bt429.1).bind fun bt431 => (if bt431.1 < 0 then (laws_FnExactProfileOf.j0 k l0 t407 t417 true l1_0) else ((laws_eqIntS.f k t417 t407).bind fun t433 => (laws_FnExactProfileOf.j0 k l0 t407 t417 (!t433) l1_0))))) else (none)))) = some r := by rw [if_pos rfl] at H; exact H
     clear H; have H := H1; clear H1; replace H := Option.bind_eq_some_iff.mp H; obtain ⟨t425, A220, H⟩ := H; replace H : ((laws_eqCandidate.f k t413 t425).bind fun t428 => (if t428 = true then ((laws_markStringS.f k t410 1).bind fun bt429 => ((laws_markCandidate.f k t413 bt429.1).bind fun bt431 => (if bt431.1 < 0 then (laws_FnExactProfileOf.j0 k l0 t407 t417 true l1_0) else ((laws_eqIntS.f k t417 t407).bind fun t433 => (laws_FnExactProfileOf.j0 k l0 t407 t417 (!t433) l1_0))))) else (none))) = some r := H; have A22 := Aside0.mk A220; clear A220; replace H := Option.bind_eq_some_iff.mp H; obtain ⟨t428, A230, H⟩ := H; replace H : (if t428 = true then ((laws_markStringS.f k t410 1).bind fun bt429 => ((laws_markCandidate.f k t413 bt429.1).bind fun bt431 => (if bt431.1 < 0 then (laws_FnExactProfileOf.j0 k l0 t407 t417 true l1_0) else ((laws_eqIntS.f k t417 t407).bind fun t433 => (laws_FnExactProfileOf.j0 k l0 t407 t417 (!t433) l1_0))))) else (none)) = some r := H; have A23 := Aside0.mk A230; clear A230
     by_cases c24 : t428 = true
     ·subst c24
      have H1 : ((laws_markStringS.f k t410 1).bind fun bt429 => ((laws_markCandidate.f k t413 bt429.1).bind fun bt431 => (if bt431.1 < 0 then (laws_FnExactProfileOf.j0 k l0 t407 t417 true l1_0) else ((laws_eqIntS.f k t417 t407).bind fun t433 => (laws_FnExactProfileOf.j0 k l0 t407 t417 (!t433) l1_0))))) = some r := by rw [if_pos rfl] at H; exact H
      clear H; have H := H1; clear H1; replace H := Option.bind_eq_some_iff.mp H; obtain ⟨⟨t429, t430⟩, A250, H⟩ := H; replace H : ((laws_markCandidate.f k t413 t429).bind fun bt431 => (if bt431.1 < 0 then (laws_FnExactProfileOf.j0 k l0 t407 t417 true l1_0) else ((laws_eqIntS.f k t417 t407).bind fun t433 => (laws_FnExactProfileOf.j0 k l0 t407 t417 (!t433) l1_0)))) = some r := H; have A25 := Aside0.mk A250; clear A250; replace H := Option.bind_eq_some_iff.mp H; obtain ⟨⟨t431, t432⟩, A260, H⟩ := H; replace H : (if t431 < 0 then (laws_FnExactProfileOf.j0 k l0 t407 t417 true l1_0) else ((laws_eqIntS.f k t417 t407).bind fun t433 => (laws_FnExactProfileOf.j0 k l0 t407 t417 (!t433) l1_0))) = some r := H; have A26 := Aside0.mk A260; clear A260; have HC27 := Aside0.mk H; clear H
      go_enter Try.func8, Try.ntmps8
      try go_wp2_with (first | ((with_reducible refine gate_dst (N := 3) rfl ?_); refine boxT (N := 3) (cs := #[.slice A1_0 l1_0.length c1_0]) (t := 29) ?_; intro gb398 hg w28 hbox hb; have n0_ := asT (below_step (hbT HB.out) hb); have n1_ := asT (hbox); have n2_ := asT (geT hg HB.out); have n3_ := asT (geT hg HB.out); clear HB; have HB := n0_; have BK398 := n1_; have GW398 := n2_; have GE398 := n3_; clear n0_ n1_ n2_ n3_ hb hbox hg) | ((with_reducible refine gate_callee (f := 28) rfl ?_); refine goesL_ (some 16) rfl rfl Try.func28 (by kernel_rfl) rfl #[.slice A0 l0.length c0, .int .i64 1048576] rfl eqT ?_; (with_reducible refine (laws_szStringS.calls k _ _ l0 1048576 t399 _ ?side1 ?side2 A3.out).mono ?_); (case side1 => exact crT HR0.out HB.out); (case side2 => exact HC0.out); rintro e w' ⟨rfl, ⟨nd, rfl⟩⟩; refine ⟨_, rfl, ?_⟩; (try (rw [drewN_self w28]; generalize hq_ : World.drewN w28 _ = w28; have n0_ : Aside0 (w28.heap[gb398]? = some (.cells #[.slice A1_0 l1_0.length c1_0] 29 (0, 0))) := ⟨by rw [← hq_]; exact (bkT BK398.out)⟩; have n1_ : Aside0 (Below w.heap.size w w28) := ⟨by rw [← hq_]; exact (hbT HB.out)⟩; clear BK398 HB hq_; have BK398 := n0_; have HB := n1_; clear n0_ n1_)); have hcz29_0 : w28.cell? ⟨gb398, 0, none⟩ = some (.slice A1_0 l1_0.length c1_0) := (blk_cell BK398.out 0).trans rfl; have hfz29_0 := blk_frozen BK398.out 0) | ((with_reducible refine gate_callee (f := 13) rfl ?_); refine goesL_ (some 21) rfl rfl Try.func13 (by kernel_rfl) rfl #[.agg #[.slice A1_0 l1_0.length c1_0], .int .i64 t399] rfl eqT ?_; (with_reducible refine (laws_szCandidate.calls _ _ l1_0 t399 t400 _ ?side1 ?side2 A6.out).mono ?_); (case side1 => exact crT HR1_0.out HB.out); (case side2 => exact HC1_0.out); rintro e w30 ⟨rfl, hb⟩; refine ⟨_, rfl, ?_⟩; have n0_ := asT (blk_below (bkT BK398.out) hb); have n1_ := asT (below_step (hbT HB.out) hb); clear BK398 HB; have BK398 := n0_; have HB := n1_; clear n0_ n1_; (try clear hb); (try clear hb2); (try clear hk); (try clear hi)))
      have n0_ := asT (blk_drew BK398.out); have n1_ := asT (below_drew1 HB.out); clear BK398 HB; have BK398 := n0_; have HB := n1_; clear n0_ n1_
      refine start_ (n := 6) (S := fun w' => w'.cell? ⟨gb398, 0, none⟩ = some (.slice A1_0 l1_0.length c1_0)) (ds := []) #[false, false, false, false, false, false] (by kernel_rfl) rfl rfl ((blk_cell BK398.out 0).trans rfl) (fun hHeld => ?_)
      generalize w30.drew = w31 at BK398 HB hHeld ⊢
      refine pure_ (i := 0) (N := some 24) (v := ?_) (a' := ?_) #[true, false, false, false, false, false] rfl rfl (by kernel_rfl) (fun _ _ _ h => h) (Or.inl ⟨by rfl, ?_⟩) ?_ ?_
      rotate_left
      ·intro w'
       go_simp
       (with_reducible rfl)
      rotate_left
      ·simp only [Act.put, List.setIfInBounds_toArray, List.set_cons_zero, List.set_cons_succ, i64_w, i32_w]
       rfl
      refine take_ (i := 2) (N := some 26) (v := ?_) (a' := ?_) #[true, false, true, false, false, false] rfl rfl (by kernel_rfl) (fun _ _ _ h => h) (Or.inl ⟨by rfl, ?_⟩) hHeld ?_ ?_
      rotate_left
      ·intro w' s0
       go_simp
       (with_reducible rfl)
      rotate_left
      ·simp only [Act.put, List.setIfInBounds_toArray, List.set_cons_zero, List.set_cons_succ, i64_w, i32_w]
       rfl
      refine one_ (i := 1) (N := some 25) #[true, true, true, false, false, false] rfl rfl (by kernel_rfl) (by decide) (fun K hK => ?_)
      refine goes_ Try.func30 (by kernel_rfl) rfl #[.slice A0 l0.length c0] (by rfl) rfl rfl eqT ?_
      (with_reducible refine (laws_toStringS.calls k _ _ l0 t401 _ ?side1 ?side2 A11.out).mono ?_); (case side1 => exact crT HR0.out HB.out); (case side2 => exact HC0.out); rintro e w32 ⟨v402, rfl, ho0, hb⟩; refine ⟨_, rfl, ?_⟩; have n0_ := asT (Kd.R_lower ho0 (below_size (hbT HB.out))); have n1_ := asT (blk_below (bkT BK398.out) hb); have n2_ := asT (below_step (hbT HB.out) hb); clear BK398 HB; have HO403 := n0_; have BK398 := n1_; have HB := n2_; clear n0_ n1_ n2_; (try clear hb); (try clear hb2); (try clear hk); (try clear hi); (try clear ho0)
      refine hK.out _ _ ((blk_cell BK398.out 0).trans rfl) (fun hHeld => ?_)
      clear hK K
      refine norm_ (a' := ?_) ?_ ?_
      rotate_left
      ·show Act.put _ (some 25) _ = _
       simp only [Act.put, List.setIfInBounds_toArray, List.set_cons_zero, List.set_cons_succ, i64_w, i32_w]
       rfl
      refine one_ (i := 3) (N := some 27) #[true, true, true, true, false, false] rfl rfl (by kernel_rfl) (by decide) (fun K hK => ?_)
      refine goes_ Try.func15 (by kernel_rfl) rfl #[.agg #[.slice A1_0 l1_0.length c1_0]] (by rfl) rfl rfl eqT ?_
      (with_reducible refine (laws_toCandidate.calls k _ _ l1_0 t404 _ ?side1 ?side2 A12.out).mono ?_); (case side1 => exact crT HR1_0.out HB.out); (case side2 => exact HC1_0.out); rintro e w33 ⟨v405, rfl, ho0, hb⟩; refine ⟨_, rfl, ?_⟩; have n0_ := asT (Kd.R_below (roT HO403.out) hb); have n1_ := asT (Kd.R_lower ho0 (below_size (hbT HB.out))); have n2_ := asT (blk_below (bkT BK398.out) hb); have n3_ := asT (below_step (hbT HB.out) hb); clear HO403 BK398 HB; have HO403 := n0_; have HO406 := n1_; have BK398 := n2_; have HB := n3_; clear n0_ n1_ n2_ n3_; (try clear hb); (try clear hb2); (try clear hk); (try clear hi); (try clear ho0); obtain ⟨Ao34, co34, eo34⟩ := Kd.R_slice HO403.out; (first | subst eo34 | (injection eo34 with f1_ f2_ f3_; have f4_ := f1_.symm; have f5_ := f3_.symm; clear f1_ f2_ f3_; subst f4_; subst f5_)); obtain ⟨Ao35, co35, eo35⟩ := Kd.R_slice HO406.out; (first | subst eo35 | (injection eo35 with f1_ f2_ f3_; have f4_ := f1_.symm; have f5_ := f3_.symm; clear f1_ f2_ f3_; subst f4_; subst f5_))
      refine hK.out _ _ ((blk_cell BK398.out 0).trans rfl) (fun hHeld => ?_)
      clear hK K
      refine norm_ (a' := ?_) ?_ ?_
      rotate_left
      ·show Act.put _ (some 27) _ = _
       simp only [Act.put, List.setIfInBounds_toArray, List.set_cons_zero, List.set_cons_succ, i64_w, i32_w]
       rfl
      refine one_ (i := 4) (N := some 28) #[true, true, true, true, true, false] rfl rfl (by kernel_rfl) (by decide) (fun K hK => ?_)
      refine goes_ Try.func33 (by kernel_rfl) rfl #[.slice Ao34 t401.length co34, .agg #[.slice Ao35 t404.length co35]] (by rfl) rfl rfl eqT ?_
      (with_reducible refine (spec_ProfileOf.calls k _ _ t401 _ _ t404 t407 _ ?side1 ?side2 ?side3 ?side4 A13.out).mono ?_); (case side1 => repeat (first | exact (Kd.R_reads' HO403.out).2.2 | (with_reducible refine Kd.C_alloc ?_ _) | (with_reducible refine Kd.C_drewN ?_ _) | (with_reducible refine Kd.C_drew ?_))); (case side2 => exact (Kd.R_reads' HO403.out).2.1); (case side3 => repeat (first | exact (Kd.R_reads' HO406.out).2.2 | (with_reducible refine Kd.C_alloc ?_ _) | (with_reducible refine Kd.C_drewN ?_ _) | (with_reducible refine Kd.C_drew ?_))); (case side4 => exact (Kd.R_reads' HO406.out).2.1); rintro e w36 ⟨v408, rfl, ho0, hb⟩; refine ⟨_, rfl, ?_⟩; have n0_ := asT (Kd.R_below (roT HO403.out) hb); have n1_ := asT (Kd.R_below (roT HO406.out) hb); have n2_ := asT (Kd.R_lower ho0 (below_size (hbT HB.out))); have n3_ := asT (blk_below (bkT BK398.out) hb); have n4_ := asT (below_step (hbT HB.out) hb); clear HO403 HO406 BK398 HB; have HO403 := n0_; have HO406 := n1_; have HO409 := n2_; have BK398 := n3_; have HB := n4_; clear n0_ n1_ n2_ n3_ n4_; (try clear hb); (try clear hb2); (try clear hk); (try clear hi); (try clear ho0)
      refine hK.out _ _ ((blk_cell BK398.out 0).trans rfl) (fun hHeld => ?_)
      clear hK K
      refine norm_ (a' := ?_) ?_ ?_
      rotate_left
      ·show Act.put _ (some 28) _ = _
       simp only [Act.put, List.setIfInBounds_toArray, List.set_cons_zero, List.set_cons_succ, i64_w, i32_w]
       rfl
      refine pure_ (i := 5) (N := some 6) (v := ?_) (a' := ?_) #[true, true, true, true, true, true] rfl rfl (by kernel_rfl) (fun _ _ _ h => h) (Or.inl ⟨by rfl, ?_⟩) ?_ ?_
      rotate_left
      ·intro w'
       go_simp
       (with_reducible rfl)
      rotate_left
      ·simp only [Act.put, List.setIfInBounds_toArray, List.set_cons_zero, List.set_cons_succ, i64_w, i32_w]
       rfl
      refine done_ (by kernel_rfl) ?_
      try go_wp2_with (first | ((with_reducible refine gate_callee (f := 30) rfl ?_); refine goesL_ (some 30) rfl rfl Try.func30 (by kernel_rfl) rfl #[.slice A0 l0.length c0] rfl eqT ?_; (with_reducible refine (laws_toStringS.calls k _ _ l0 t410 _ ?side1 ?side2 A14.out).mono ?_); (case side1 => exact crT HR0.out HB.out); (case side2 => exact HC0.out); rintro e w37 ⟨v411, rfl, ho0, hb⟩; refine ⟨_, rfl, ?_⟩; have n0_ := asT (Kd.R_elder' (roT HO403.out) (Kd.R_base ho0) hb); have n1_ := asT (Kd.R_below (roT HO406.out) hb); have n2_ := asT (Kd.R_below (roT HO409.out) hb); have n3_ := asT (Kd.R_lower (Kd.R_new' ho0 (Kd.R_lt (roT HO403.out))) (below_size (hbT HB.out))); have n4_ := asT (blk_below (bkT BK398.out) hb); have n5_ := asT (below_step (hbT HB.out) hb); clear HO403 HO406 HO409 BK398 HB; have HO403 := n0_; have HO406 := n1_; have HO409 := n2_; have HO412 := n3_; have BK398 := n4_; have HB := n5_; clear n0_ n1_ n2_ n3_ n4_ n5_; (try clear hb); (try clear hb2); (try clear hk); (try clear hi); (try clear ho0); have hcz38_0 : w37.cell? ⟨gb398, 0, none⟩ = some (.slice A1_0 l1_0.length c1_0) := (blk_cell BK398.out 0).trans rfl; have hfz38_0 := blk_frozen BK398.out 0) | ((with_reducible refine gate_callee (f := 15) rfl ?_); refine goesL_ (some 32) rfl rfl Try.func15 (by kernel_rfl) rfl #[.agg #[.slice A1_0 l1_0.length c1_0]] rfl eqT ?_; (with_reducible refine (laws_toCandidate.calls k _ _ l1_0 t413 _ ?side1 ?side2 A15.out).mono ?_); (case side1 => exact crT HR1_0.out HB.out); (case side2 => exact HC1_0.out); rintro e w39 ⟨v414, rfl, ho0, hb⟩; refine ⟨_, rfl, ?_⟩; have n0_ := asT (Kd.R_below (roT HO403.out) hb); have n1_ := asT (Kd.R_elder' (roT HO406.out) (Kd.R_base ho0) hb); have n2_ := asT (Kd.R_below (roT HO409.out) hb); have n3_ := asT (Kd.R_below (roT HO412.out) hb); have n4_ := asT (Kd.R_lower (Kd.R_new' ho0 (Kd.R_lt (roT HO406.out))) (below_size (hbT HB.out))); have n5_ := asT (blk_below (bkT BK398.out) hb); have n6_ := asT (below_step (hbT HB.out) hb); clear HO403 HO406 HO409 HO412 BK398 HB; have HO403 := n0_; have HO406 := n1_; have HO409 := n2_; have HO412 := n3_; have HO415 := n4_; have BK398 := n5_; have HB := n6_; clear n0_ n1_ n2_ n3_ n4_ n5_ n6_; (try clear hb); (try clear hb2); (try clear hk); (try clear hi); (try clear ho0)) | ((with_reducible refine gate_dst (N := 8) rfl ?_); refine boxT (N := 8) (cs := #[.slice none 0 0]) (t := 34) ?_; intro gb416 hg w40 hbox hb; have n0_ := asT (Kd.R_below (roT HO403.out) hb); have n1_ := asT (Kd.R_below (roT HO406.out) hb); have n2_ := asT (Kd.R_below (roT HO409.out) hb); have n3_ := asT (Kd.R_below (roT HO412.out) hb); have n4_ := asT (Kd.R_below (roT HO415.out) hb); have n5_ := asT (blk_below (bkT BK398.out) hb); have n6_ := asT (below_step (hbT HB.out) hb); have n7_ := asT (hbox); have n8_ := asT (geT hg HB.out); have n9_ := asT (geT hg HB.out); have n10_ := asT ((by rw [hg]; exact Nat.ne_of_lt (blk_lt (bkT BK398.out)) : gb398 ≠ gb416)); have n11_ := asT ((by rw [hg]; exact Nat.ne_of_gt (blk_lt (bkT BK398.out)) : gb416 ≠ gb398)); clear HO403 HO406 HO409 HO412 HO415 BK398 HB; have HO403 := n0_; have HO406 := n1_; have HO409 := n2_; have HO412 := n3_; have HO415 := n4_; have BK398 := n5_; have HB := n6_; have BK416 := n7_; have GW416 := n8_; have GE416 := n9_; have NB398_416 := n10_; have NB416_398 := n11_; clear n0_ n1_ n2_ n3_ n4_ n5_ n6_ n7_ n8_ n9_ n10_ n11_ hb hbox hg; obtain ⟨Ao41, co41, eo41⟩ := Kd.R_slice HO415.out; subst eo41; have hnb42 := NB416_398.out; have hnc42 := NB398_416.out; have hcz43_0 : w40.cell? ⟨gb416, 0, none⟩ = some (.slice none 0 0) := (blk_cell BK416.out 0).trans rfl; have hfz43_0 := blk_frozen BK416.out 0; obtain ⟨Ao44, co44, eo44⟩ := Kd.R_slice HO412.out; subst eo44) | ((with_reducible refine gate_callee (f := 34) rfl ?_); refine goesL_ (some 35) rfl rfl Try.func34 (by kernel_rfl) rfl #[.slice Ao44 t410.length co44, .agg #[.slice Ao41 t413.length co41]] rfl eqT ?_; (with_reducible refine (impl_ProfileOf.calls k _ _ t410 _ _ t413 t417 _ ?side1 ?side2 ?side3 ?side4 A16.out).mono ?_); (case side1 => refine (Kd.R_reads' (e := 9) (base := w.heap.size) (ok := fun k_ => (True ∧ some k_ ≠ (.slice Ao34 t401.length co34 : Value).ownBlock)) (n := t410.length) (c := co44) ?_).2.2; exact (by (with_reducible repeat (first | apply Kd.R_alloc | apply Kd.R_drewN | apply Kd.R_drew)); exact (Kd.R_mono (Kd.R_far (p := ⟨gb416, 0, none⟩) (Kd.R_types HO412.out BK416.out (by decide)) (fun _ hk => hk.2) (.slice Ao41 t413.length co41)) (fun _ h_ => h_.1)))); (case side2 => exact (Kd.R_reads' HO412.out).2.1); (case side3 => refine (Kd.R_reads' (e := 83) (base := w.heap.size) (ok := fun k_ => (True ∧ some k_ ≠ (.slice Ao35 t404.length co35 : Value).ownBlock)) (n := t413.length) (c := co41) ?_).2.2; exact (by (with_reducible repeat (first | apply Kd.R_alloc | apply Kd.R_drewN | apply Kd.R_drew)); exact (Kd.R_mono (Kd.R_far (p := ⟨gb416, 0, none⟩) (Kd.R_types HO415.out BK416.out (by decide)) (fun _ hk => hk.2) (.slice Ao41 t413.length co41)) (fun _ h_ => h_.1)))); (case side4 => exact (Kd.R_reads' HO415.out).2.1); rintro e w45 ⟨v418, rfl, ho0, hb⟩; refine ⟨_, rfl, ?_⟩; have n0_ := asT (Kd.R_below (by (with_reducible repeat (first | apply Kd.R_alloc | apply Kd.R_drewN | apply Kd.R_drew)); exact (Kd.R_mono (Kd.R_far (p := ⟨gb416, 0, none⟩) (Kd.R_types HO403.out BK416.out (by decide)) (fun _ hk => hk.2) (.slice Ao41 t413.length co41)) (fun _ h_ => h_.1))) hb); have n1_ := asT (Kd.R_below (by (with_reducible repeat (first | apply Kd.R_alloc | apply Kd.R_drewN | apply Kd.R_drew)); exact (Kd.R_mono (Kd.R_far (p := ⟨gb416, 0, none⟩) (Kd.R_types HO406.out BK416.out (by decide)) (fun _ hk => hk.2) (.slice Ao41 t413.length co41)) (fun _ h_ => h_.1))) hb); have n2_ := asT (Kd.R_elder' (by (with_reducible repeat (first | apply Kd.R_alloc | apply Kd.R_drewN | apply Kd.R_drew)); exact (Kd.R_mono (Kd.R_far (p := ⟨gb416, 0, none⟩) (Kd.R_types HO409.out BK416.out (by decide)) (fun _ hk => hk.2) (.slice Ao41 t413.length co41)) (fun _ h_ => h_.1))) (Kd.R_base ho0) hb); have n3_ := asT (Kd.R_below (by (with_reducible repeat (first | apply Kd.R_alloc | apply Kd.R_drewN | apply Kd.R_drew)); exact (Kd.R_mono (Kd.R_far (p := ⟨gb416, 0, none⟩) (Kd.R_types HO412.out BK416.out (by decide)) (fun _ hk => hk.2) (.slice Ao41 t413.length co41)) (fun _ h_ => h_.1))) hb); have n4_ := asT (Kd.R_below (by (with_reducible repeat (first | apply Kd.R_alloc | apply Kd.R_drewN | apply Kd.R_drew)); exact (Kd.R_mono (Kd.R_far (p := ⟨gb416, 0, none⟩) (Kd.R_types HO415.out BK416.out (by decide)) (fun _ hk => hk.2) (.slice Ao41 t413.length co41)) (fun _ h_ => h_.1))) hb); have n5_ := asT (Kd.R_lower (Kd.R_new' ho0 (Kd.R_lt (by (with_reducible repeat (first | apply Kd.R_alloc | apply Kd.R_drewN | apply Kd.R_drew)); exact (Kd.R_mono (Kd.R_far (p := ⟨gb416, 0, none⟩) (Kd.R_types HO409.out BK416.out (by decide)) (fun _ hk => hk.2) (.slice Ao41 t413.length co41)) (fun _ h_ => h_.1))))) (below_size (hbT HB.out))); have n6_ := asT (blk_below (g := gb398) (o := .cells #[.slice A1_0 l1_0.length c1_0] 29 (0, 0)) (by (with_reducible repeat (first | refine blk_drewN ?_ _ | refine blk_drew ?_ | refine blk_alloc ?_ _)); refine blk_far ?_ NB398_416.out _; (with_reducible repeat (first | refine blk_drewN ?_ _ | refine blk_drew ?_ | refine blk_alloc ?_ _)); exact BK398.out) hb); have n7_ := asT (blk_below (g := gb416) (o := .cells #[.slice Ao41 t413.length co41] 34 (0, 0)) (by (with_reducible repeat (first | refine blk_drewN ?_ _ | refine blk_drew ?_ | refine blk_alloc ?_ _)); refine blk_put (cs := #[.slice none 0 0]) ?_ 0 _ rfl; (with_reducible repeat (first | refine blk_drewN ?_ _ | refine blk_drew ?_ | refine blk_alloc ?_ _)); exact BK416.out) hb); have n8_ := asT (below_step (hbT HB.out) hb); clear HO403 HO406 HO409 HO412 HO415 BK398 BK416 HB; have HO403 := n0_; have HO406 := n1_; have HO409 := n2_; have HO412 := n3_; have HO415 := n4_; have HO419 := n5_; have BK398 := n6_; have BK416 := n7_; have HB := n8_; clear n0_ n1_ n2_ n3_ n4_ n5_ n6_ n7_ n8_; (try clear hb); (try clear hb2); (try clear hk); (try clear hi); (try clear ho0); obtain ⟨Ao46, co46, eo46⟩ := Kd.R_slice HO419.out; subst eo46; obtain ⟨Ao47, co47, eo47⟩ := Kd.R_slice HO409.out; subst eo47) | ((with_reducible refine gate_callee (f := 12) rfl ?_); refine goesL_ (some 38) rfl rfl Try.func12 (by kernel_rfl) rfl #[.slice Ao46 t417.length co46, .slice Ao47 t407.length co47] rfl eqT ?_; (with_reducible refine (laws_eqIntS.calls k _ _ t417 _ _ t407 true _ ?side1 ?side2 ?side3 ?side4 A17.out).mono ?_); (case side1 => repeat (first | exact (Kd.R_reads' HO419.out).2.2 | (with_reducible refine Kd.C_alloc ?_ _) | (with_reducible refine Kd.C_drewN ?_ _) | (with_reducible refine Kd.C_drew ?_))); (case side2 => exact (Kd.R_reads' HO419.out).2.1); (case side3 => repeat (first | exact (Kd.R_reads' HO409.out).2.2 | (with_reducible refine Kd.C_alloc ?_ _) | (with_reducible refine Kd.C_drewN ?_ _) | (with_reducible refine Kd.C_drew ?_))); (case side4 => exact (Kd.R_reads' HO409.out).2.1); rintro e w' ⟨rfl, ⟨nd, rfl⟩⟩; refine ⟨_, rfl, ?_⟩) | ((with_reducible refine gate_callee (f := 30) rfl ?_); refine goesL_ (some 42) rfl rfl Try.func30 (by kernel_rfl) rfl #[.slice A0 l0.length c0] rfl eqT ?_; (with_reducible refine (laws_toStringS.calls k _ _ l0 t421 _ ?side1 ?side2 A19.out).mono ?_); (case side1 => exact crT HR0.out (hbT HB.out)); (case side2 => exact HC0.out); rintro e w48 ⟨v422, rfl, ho0, hb⟩; refine ⟨_, rfl, ?_⟩; have n0_ := asT (Kd.R_elder' (roT HO403.out) (Kd.R_base ho0) hb); have n1_ := asT (Kd.R_below (roT HO406.out) hb); have n2_ := asT (Kd.R_below (roT HO409.out) hb); have n3_ := asT (Kd.R_elder' (roT HO412.out) (Kd.R_base ho0) hb); have n4_ := asT (Kd.R_below (roT HO415.out) hb); have n5_ := asT (Kd.R_below (roT HO419.out) hb); have n6_ := asT (Kd.R_lower (Kd.R_new' (Kd.R_new' ho0 (Kd.R_lt (roT HO403.out))) (Kd.R_lt (roT HO412.out))) (below_size (hbT HB.out))); have n7_ := asT (blk_below (bkT BK398.out) hb); have n8_ := asT (blk_below (bkT BK416.out) hb); have n9_ := asT (below_step (hbT HB.out) hb); clear HO403 HO406 HO409 HO412 HO415 HO419 BK398 BK416 HB; have HO403 := n0_; have HO406 := n1_; have HO409 := n2_; have HO412 := n3_; have HO415 := n4_; have HO419 := n5_; have HO423 := n6_; have BK398 := n7_; have BK416 := n8_; have HB := n9_; clear n0_ n1_ n2_ n3_ n4_ n5_ n6_ n7_ n8_ n9_; (try clear hb); (try clear hb2); (try clear hk); (try clear hi); (try clear ho0); obtain ⟨Ao49, co49, eo49⟩ := Kd.R_slice HO423.out; subst eo49) | ((with_reducible refine gate_callee (f := 32) rfl ?_); refine goesL_ (some 43) rfl rfl Try.func32 (by kernel_rfl) rfl #[.slice Ao44 t410.length co44, .slice Ao49 t421.length co49] rfl eqT ?_; (with_reducible refine (laws_eqStringS.calls k _ _ t410 _ _ t421 true _ ?side1 ?side2 ?side3 ?side4 A20.out).mono ?_); (case side1 => repeat (first | exact (Kd.R_reads' HO412.out).2.2 | (with_reducible refine Kd.C_alloc ?_ _) | (with_reducible refine Kd.C_drewN ?_ _) | (with_reducible refine Kd.C_drew ?_))); (case side2 => exact (Kd.R_reads' HO412.out).2.1); (case side3 => repeat (first | exact (Kd.R_reads' HO423.out).2.2 | (with_reducible refine Kd.C_alloc ?_ _) | (with_reducible refine Kd.C_drewN ?_ _) | (with_reducible refine Kd.C_drew ?_))); (case side4 => exact (Kd.R_reads' HO423.out).2.1); rintro e w' ⟨rfl, ⟨nd, rfl⟩⟩; refine ⟨_, rfl, ?_⟩))
      (try (rw [drewN_self w48]; generalize hq_ : World.drewN w48 _ = w48; have n0_ : Aside0 (Kd.R Kd.string 9 w48 w.heap.size (fun k_ => some k_ ≠ (.slice Ao44 t410.length co44 : Value).ownBlock ∧ some k_ ≠ (.slice Ao49 t421.length co49 : Value).ownBlock) (.slice Ao34 t401.length co34) t401) := ⟨by rw [← hq_]; exact (by (with_reducible repeat (first | apply Kd.R_alloc | apply Kd.R_drewN | apply Kd.R_drew)); exact Kd.R_mono HO403.out (fun _ hk => ⟨hk.1.2, hk.2⟩))⟩; have n1_ : Aside0 (Kd.R k83 83 w48 w.heap.size (fun k_ => some k_ ≠ (.slice Ao41 t413.length co41 : Value).ownBlock) (.slice Ao35 t404.length co35) t404) := ⟨by rw [← hq_]; exact (by (with_reducible repeat (first | apply Kd.R_alloc | apply Kd.R_drewN | apply Kd.R_drew)); exact Kd.R_mono HO406.out (fun _ hk => hk.2))⟩; have n2_ : Aside0 (Kd.R (Kd.int .i64) 3 w48 w.heap.size (fun k_ => some k_ ≠ (.slice Ao46 t417.length co46 : Value).ownBlock) (.slice Ao47 t407.length co47) t407) := ⟨by rw [← hq_]; exact (by (with_reducible repeat (first | apply Kd.R_alloc | apply Kd.R_drewN | apply Kd.R_drew)); exact Kd.R_mono HO409.out (fun _ hk => hk.2))⟩; have n3_ : Aside0 (Kd.R Kd.string 9 w48 w.heap.size (fun k_ => some k_ ≠ (.slice Ao34 t401.length co34 : Value).ownBlock ∧ some k_ ≠ (.slice Ao49 t421.length co49 : Value).ownBlock) (.slice Ao44 t410.length co44) t410) := ⟨by rw [← hq_]; exact (by (with_reducible repeat (first | apply Kd.R_alloc | apply Kd.R_drewN | apply Kd.R_drew)); exact Kd.R_mono HO412.out (fun _ hk => ⟨hk.1.2, hk.2⟩))⟩; have n4_ : Aside0 (Kd.R k83 83 w48 w.heap.size (fun k_ => some k_ ≠ (.slice Ao35 t404.length co35 : Value).ownBlock) (.slice Ao41 t413.length co41) t413) := ⟨by rw [← hq_]; exact (by (with_reducible repeat (first | apply Kd.R_alloc | apply Kd.R_drewN | apply Kd.R_drew)); exact Kd.R_mono HO415.out (fun _ hk => hk.2))⟩; have n5_ : Aside0 (Kd.R (Kd.int .i64) 3 w48 w.heap.size (fun k_ => some k_ ≠ (.slice Ao47 t407.length co47 : Value).ownBlock) (.slice Ao46 t417.length co46) t417) := ⟨by rw [← hq_]; exact (by (with_reducible repeat (first | apply Kd.R_alloc | apply Kd.R_drewN | apply Kd.R_drew)); exact Kd.R_mono HO419.out (fun _ hk => hk.2))⟩; have n6_ : Aside0 (Kd.R Kd.string 9 w48 w.heap.size (fun k_ => some k_ ≠ (.slice Ao34 t401.length co34 : Value).ownBlock ∧ some k_ ≠ (.slice Ao44 t410.length co44 : Value).ownBlock) (.slice Ao49 t421.length co49) t421) := ⟨by rw [← hq_]; exact (by (with_reducible repeat (first | apply Kd.R_alloc | apply Kd.R_drewN | apply Kd.R_drew)); exact Kd.R_mono HO423.out (fun _ hk => ⟨hk.1.2, hk.2⟩))⟩; have n7_ : Aside0 (w48.heap[gb398]? = some (.cells #[.slice A1_0 l1_0.length c1_0] 29 (0, 0))) := ⟨by rw [← hq_]; exact (bkT BK398.out)⟩; have n8_ : Aside0 (w48.heap[gb416]? = some (.cells #[.slice Ao41 t413.length co41] 34 (0, 0))) := ⟨by rw [← hq_]; exact (bkT BK416.out)⟩; have n9_ : Aside0 (Below w.heap.size w w48) := ⟨by rw [← hq_]; exact (hbT HB.out)⟩; clear HO403 HO406 HO409 HO412 HO415 HO419 HO423 BK398 BK416 HB hq_; have HO403 := n0_; have HO406 := n1_; have HO409 := n2_; have HO412 := n3_; have HO415 := n4_; have HO419 := n5_; have HO423 := n6_; have BK398 := n7_; have BK416 := n8_; have HB := n9_; clear n0_ n1_ n2_ n3_ n4_ n5_ n6_ n7_ n8_ n9_))
      have n0_ := asT (Kd.R_drew HO403.out); have n1_ := asT (Kd.R_drew HO406.out); have n2_ := asT (Kd.R_drew HO409.out); have n3_ := asT (Kd.R_drew HO412.out); have n4_ := asT (Kd.R_drew HO415.out); have n5_ := asT (Kd.R_drew HO419.out); have n6_ := asT (Kd.R_drew HO423.out); have n7_ := asT (blk_drew BK398.out); have n8_ := asT (blk_drew BK416.out); have n9_ := asT (below_drew1 HB.out); clear HO403 HO406 HO409 HO412 HO415 HO419 HO423 BK398 BK416 HB; have HO403 := n0_; have HO406 := n1_; have HO409 := n2_; have HO412 := n3_; have HO415 := n4_; have HO419 := n5_; have HO423 := n6_; have BK398 := n7_; have BK416 := n8_; have HB := n9_; clear n0_ n1_ n2_ n3_ n4_ n5_ n6_ n7_ n8_ n9_
      refine start_ (n := 5) (S := fun w' => w'.cell? ⟨gb416, 0, none⟩ = some (.slice Ao41 t413.length co41) ∧ w'.cell? ⟨gb398, 0, none⟩ = some (.slice A1_0 l1_0.length c1_0)) (ds := []) #[false, false, false, false, false] (by kernel_rfl) rfl rfl ⟨(blk_cell BK416.out 0).trans rfl, (blk_cell BK398.out 0).trans rfl⟩ (fun hHeld => ?_)
      generalize w48.drew = w50 at HO403 HO406 HO409 HO412 HO415 HO419 HO423 BK398 BK416 HB hHeld ⊢
      refine take_ (i := 0) (N := some 45) (v := ?_) (a' := ?_) #[true, false, false, false, false] rfl rfl (by kernel_rfl) (fun _ _ _ h => h) (Or.inl ⟨by rfl, ?_⟩) hHeld ?_ ?_
      rotate_left
      ·rintro w' ⟨s0, s1⟩
       go_simp
       (with_reducible rfl)
      rotate_left
      ·simp only [Act.put, List.setIfInBounds_toArray, List.set_cons_zero, List.set_cons_succ, i64_w, i32_w]
       rfl
      refine take_ (i := 1) (N := some 46) (v := ?_) (a' := ?_) #[true, true, false, false, false] rfl rfl (by kernel_rfl) (fun _ _ _ h => h) (Or.inl ⟨by rfl, ?_⟩) hHeld ?_ ?_
      rotate_left
      ·rintro w' ⟨s0, s1⟩
       go_simp
       (with_reducible rfl)
      rotate_left
      ·simp only [Act.put, List.setIfInBounds_toArray, List.set_cons_zero, List.set_cons_succ, i64_w, i32_w]
       rfl
      refine one_ (i := 2) (N := some 47) #[true, true, true, false, false] rfl rfl (by kernel_rfl) (by decide) (fun K hK => ?_)
      refine goes_ Try.func15 (by kernel_rfl) rfl #[.agg #[.slice A1_0 l1_0.length c1_0]] (by rfl) rfl rfl eqT ?_
      (with_reducible refine (laws_toCandidate.calls k _ _ l1_0 t425 _ ?side1 ?side2 A22.out).mono ?_); (case side1 => exact crT HR1_0.out HB.out); (case side2 => exact HC1_0.out); rintro e w51 ⟨v426, rfl, ho0, hb⟩; refine ⟨_, rfl, ?_⟩; have n0_ := asT (Kd.R_below (roT HO403.out) hb); have n1_ := asT (Kd.R_elder' (roT HO406.out) (Kd.R_base ho0) hb); have n2_ := asT (Kd.R_below (roT HO409.out) hb); have n3_ := asT (Kd.R_below (roT HO412.out) hb); have n4_ := asT (Kd.R_elder' (roT HO415.out) (Kd.R_base ho0) hb); have n5_ := asT (Kd.R_below (roT HO419.out) hb); have n6_ := asT (Kd.R_below (roT HO423.out) hb); have n7_ := asT (Kd.R_lower (Kd.R_new' (Kd.R_new' ho0 (Kd.R_lt (roT HO406.out))) (Kd.R_lt (roT HO415.out))) (below_size (hbT HB.out))); have n8_ := asT (blk_below (bkT BK398.out) hb); have n9_ := asT (blk_below (bkT BK416.out) hb); have n10_ := asT (below_step (hbT HB.out) hb); clear HO403 HO406 HO409 HO412 HO415 HO419 HO423 BK398 BK416 HB; have HO403 := n0_; have HO406 := n1_; have HO409 := n2_; have HO412 := n3_; have HO415 := n4_; have HO419 := n5_; have HO423 := n6_; have HO427 := n7_; have BK398 := n8_; have BK416 := n9_; have HB := n10_; clear n0_ n1_ n2_ n3_ n4_ n5_ n6_ n7_ n8_ n9_ n10_; (try clear hb); (try clear hb2); (try clear hk); (try clear hi); (try clear ho0); obtain ⟨Ao52, co52, eo52⟩ := Kd.R_slice HO427.out; (first | subst eo52 | (injection eo52 with f1_ f2_ f3_; have f4_ := f1_.symm; have f5_ := f3_.symm; clear f1_ f2_ f3_; subst f4_; subst f5_))
      refine hK.out _ _ ⟨(blk_cell BK416.out 0).trans rfl, (blk_cell BK398.out 0).trans rfl⟩ (fun hHeld => ?_)
      clear hK K
      refine norm_ (a' := ?_) ?_ ?_
      rotate_left
      ·show Act.put _ (some 47) _ = _
       simp only [Act.put, List.setIfInBounds_toArray, List.set_cons_zero, List.set_cons_succ, i64_w, i32_w]
       rfl
      refine one_ (i := 3) (N := some 48) #[true, true, true, true, false] rfl rfl (by kernel_rfl) (by decide) (fun K hK => ?_)
      refine goes_ Try.func17 (by kernel_rfl) rfl #[.agg #[.slice Ao41 t413.length co41], .agg #[.slice Ao52 t425.length co52]] (by rfl) rfl rfl eqT ?_
      (with_reducible refine (laws_eqCandidate.calls k _ _ t413 _ _ t425 true _ ?side1 ?side2 ?side3 ?side4 A23.out).mono ?_); (case side1 => repeat (first | exact (Kd.R_reads' HO415.out).2.2 | (with_reducible refine Kd.C_alloc ?_ _) | (with_reducible refine Kd.C_drewN ?_ _) | (with_reducible refine Kd.C_drew ?_))); (case side2 => exact (Kd.R_reads' HO415.out).2.1); (case side3 => repeat (first | exact (Kd.R_reads' HO427.out).2.2 | (with_reducible refine Kd.C_alloc ?_ _) | (with_reducible refine Kd.C_drewN ?_ _) | (with_reducible refine Kd.C_drew ?_))); (case side4 => exact (Kd.R_reads' HO427.out).2.1); rintro e w53 ⟨rfl, hb⟩; refine ⟨_, rfl, ?_⟩; have n0_ := asT (Kd.R_below (roT HO403.out) hb); have n1_ := asT (Kd.R_below (roT HO406.out) hb); have n2_ := asT (Kd.R_below (roT HO409.out) hb); have n3_ := asT (Kd.R_below (roT HO412.out) hb); have n4_ := asT (Kd.R_below (roT HO415.out) hb); have n5_ := asT (Kd.R_below (roT HO419.out) hb); have n6_ := asT (Kd.R_below (roT HO423.out) hb); have n7_ := asT (Kd.R_below (roT HO427.out) hb); have n8_ := asT (blk_below (bkT BK398.out) hb); have n9_ := asT (blk_below (bkT BK416.out) hb); have n10_ := asT (below_step (hbT HB.out) hb); clear HO403 HO406 HO409 HO412 HO415 HO419 HO423 HO427 BK398 BK416 HB; have HO403 := n0_; have HO406 := n1_; have HO409 := n2_; have HO412 := n3_; have HO415 := n4_; have HO419 := n5_; have HO423 := n6_; have HO427 := n7_; have BK398 := n8_; have BK416 := n9_; have HB := n10_; clear n0_ n1_ n2_ n3_ n4_ n5_ n6_ n7_ n8_ n9_ n10_; (try clear hb); (try clear hb2); (try clear hk); (try clear hi)
      refine hK.out _ _ ⟨(blk_cell BK416.out 0).trans rfl, (blk_cell BK398.out 0).trans rfl⟩ (fun hHeld => ?_)
      clear hK K
      refine norm_ (a' := ?_) ?_ ?_
      rotate_left
      ·show Act.put _ (some 48) _ = _
       simp only [Act.put, List.setIfInBounds_toArray, List.set_cons_zero, List.set_cons_succ, i64_w, i32_w]
       rfl
      refine pure_ (i := 4) (N := some 49) (v := ?_) (a' := ?_) #[true, true, true, true, true] rfl rfl (by kernel_rfl) (fun _ _ _ h => h) (Or.inl ⟨by rfl, ?_⟩) ?_ ?_
      rotate_left
      ·intro w'
       go_simp
       (with_reducible rfl)
      rotate_left
      ·simp only [Act.put, List.setIfInBounds_toArray, List.set_cons_zero, List.set_cons_succ, i64_w, i32_w]
       rfl
      refine done_ (by kernel_rfl) ?_
      go_upto_region 21 with (first | ((with_reducible refine gate_callee (f := 35) rfl ?_); refine goesL_ (some 52) rfl rfl Try.func35 (by kernel_rfl) rfl #[.slice Ao44 t410.length co44, .int .i64 1] rfl eqT ?_; (with_reducible refine (laws_markStringS.calls k (fun k_ => some k_ = (.slice Ao44 t410.length co44 : Value).ownBlock) (.slice Ao44 t410.length co44) t410 1 t429 t430 w _ ?side1 ?side2 A25.out).mono ?_); (case side1 => repeat (first | (with_reducible first | exact HB.out | apply below_alloc | apply pw_below_drewN | apply below_drew1 | refine below_set ?_ GE398.out | refine below_set ?_ GE416.out) | exact HB.out)); (case side2 => exact Kd.R_tight rfl HO412.out); rintro e w54 ⟨rfl, hy0, hb, hkp⟩; refine ⟨_, rfl, ?_⟩; have n0_ := asT (blk_kept (bkT BK398.out) hkp (fun hs_ => (fun e_ => (Kd.R_ne HO412.out BK398.out (by decide)) e_) hs_)); have n1_ := asT (Kd.R_mono (ok' := fun k_ => some k_ ≠ (.slice Ao44 t410.length co44 : Value).ownBlock ∧ some k_ ≠ (.slice Ao49 t421.length co49 : Value).ownBlock) (Kd.R_keptB (HO403.out) hkp (fun k_ hk_ hs_ => okF hk_ hs_)) (fun k_ hk_ => okT hk_)); have n2_ := asT (Kd.R_mono (ok' := fun k_ => some k_ ≠ (.slice Ao41 t413.length co41 : Value).ownBlock ∧ some k_ ≠ (.slice Ao52 t425.length co52 : Value).ownBlock) (Kd.R_keptB ((Kd.R_apart' HO406.out (Kd.R_typed HO412.out) (by decide))) hkp (fun k_ hk_ hs_ => okF hk_ hs_)) (fun k_ hk_ => okT hk_)); have n3_ := asT (Kd.R_mono (ok' := fun k_ => some k_ ≠ (.slice Ao46 t417.length co46 : Value).ownBlock) (Kd.R_keptB ((Kd.R_apart' HO409.out (Kd.R_typed HO412.out) (by decide))) hkp (fun k_ hk_ hs_ => okF hk_ hs_)) (fun k_ hk_ => okT hk_)); have n4_ := asT (Kd.R_reok rfl hy0 (fun k_ e_ => HO412.out.1 k_ e_)); have n5_ := asT (Kd.R_mono (ok' := fun k_ => some k_ ≠ (.slice Ao35 t404.length co35 : Value).ownBlock ∧ some k_ ≠ (.slice Ao52 t425.length co52 : Value).ownBlock) (Kd.R_keptB ((Kd.R_apart' HO415.out (Kd.R_typed HO412.out) (by decide))) hkp (fun k_ hk_ hs_ => okF hk_ hs_)) (fun k_ hk_ => okT hk_)); have n6_ := asT (blk_kept (bkT BK416.out) hkp (fun hs_ => (fun e_ => (Kd.R_ne HO412.out BK416.out (by decide)) e_) hs_)); have n7_ := asT (Kd.R_mono (ok' := fun k_ => some k_ ≠ (.slice Ao47 t407.length co47 : Value).ownBlock) (Kd.R_keptB ((Kd.R_apart' HO419.out (Kd.R_typed HO412.out) (by decide))) hkp (fun k_ hk_ hs_ => okF hk_ hs_)) (fun k_ hk_ => okT hk_)); have n8_ := asT (Kd.R_mono (ok' := fun k_ => some k_ ≠ (.slice Ao34 t401.length co34 : Value).ownBlock ∧ some k_ ≠ (.slice Ao44 t410.length co44 : Value).ownBlock) (Kd.R_keptB (HO423.out) hkp (fun k_ hk_ hs_ => okF hk_ hs_)) (fun k_ hk_ => okT hk_)); have n9_ := asT (Kd.R_mono (ok' := fun k_ => some k_ ≠ (.slice Ao35 t404.length co35 : Value).ownBlock ∧ some k_ ≠ (.slice Ao41 t413.length co41 : Value).ownBlock) (Kd.R_keptB ((Kd.R_apart' HO427.out (Kd.R_typed HO412.out) (by decide))) hkp (fun k_ hk_ hs_ => okF hk_ hs_)) (fun k_ hk_ => okT hk_)); have n10_ := asT (hb); clear BK398 HO403 HO406 HO409 HO412 HO415 BK416 HO419 HO423 HO427 HB; have BK398 := n0_; have HO403 := n1_; have HO406 := n2_; have HO409 := n3_; have HO412 := n4_; have HO415 := n5_; have BK416 := n6_; have HO419 := n7_; have HO423 := n8_; have HO427 := n9_; have HB := n10_; clear n0_ n1_ n2_ n3_ n4_ n5_ n6_ n7_ n8_ n9_ n10_; (try clear hb); (try clear hkp); (try clear hy0); have hcz55_0 : w54.cell? ⟨gb416, 0, none⟩ = some (.slice Ao41 t413.length co41) := (blk_cell BK416.out 0).trans rfl; have hfz55_0 := blk_frozen BK416.out 0) | ((with_reducible refine gate_callee (f := 36) rfl ?_); refine goesL_ (some 55) rfl rfl Try.func36 (by kernel_rfl) rfl #[.agg #[.slice Ao41 t413.length co41], .int .i64 t429] rfl eqT ?_; (with_reducible refine (laws_markCandidate.calls k (fun k_ => some k_ = (.slice Ao41 t413.length co41 : Value).ownBlock) (.slice Ao41 t413.length co41) t413 t429 t431 t432 w _ ?side1 ?side2 A26.out).mono ?_); (case side1 => repeat (first | (with_reducible first | exact HB.out | apply below_alloc | apply pw_below_drewN | apply below_drew1 | refine below_set ?_ GE398.out | refine below_set ?_ GE416.out) | exact HB.out)); (case side2 => exact Kd.R_tight rfl HO415.out); rintro e w56 ⟨rfl, hy0, hb, hkp⟩; refine ⟨_, rfl, ?_⟩; have n0_ := asT (blk_kept (bkT BK398.out) hkp (fun hs_ => (fun e_ => (Kd.R_ne HO415.out BK398.out (by decide)) e_) hs_)); have n1_ := asT (Kd.R_mono (ok' := fun k_ => some k_ ≠ (.slice Ao44 t410.length co44 : Value).ownBlock ∧ some k_ ≠ (.slice Ao49 t421.length co49 : Value).ownBlock) (Kd.R_keptB ((Kd.R_apart' HO403.out (Kd.R_typed HO415.out) (by decide))) hkp (fun k_ hk_ hs_ => okF hk_ hs_)) (fun k_ hk_ => okT hk_)); have n2_ := asT (Kd.R_mono (ok' := fun k_ => some k_ ≠ (.slice Ao41 t413.length co41 : Value).ownBlock ∧ some k_ ≠ (.slice Ao52 t425.length co52 : Value).ownBlock) (Kd.R_keptB (HO406.out) hkp (fun k_ hk_ hs_ => okF hk_ hs_)) (fun k_ hk_ => okT hk_)); have n3_ := asT (Kd.R_mono (ok' := fun k_ => some k_ ≠ (.slice Ao46 t417.length co46 : Value).ownBlock) (Kd.R_keptB ((Kd.R_apart' HO409.out (Kd.R_typed HO415.out) (by decide))) hkp (fun k_ hk_ hs_ => okF hk_ hs_)) (fun k_ hk_ => okT hk_)); have n4_ := asT (Kd.R_mono (ok' := fun k_ => some k_ ≠ (.slice Ao34 t401.length co34 : Value).ownBlock ∧ some k_ ≠ (.slice Ao49 t421.length co49 : Value).ownBlock) (Kd.R_keptB ((Kd.R_apart' HO412.out (Kd.R_typed HO415.out) (by decide))) hkp (fun k_ hk_ hs_ => okF hk_ hs_)) (fun k_ hk_ => okT hk_)); have n5_ := asT (Kd.R_reok rfl hy0 (fun k_ e_ => HO415.out.1 k_ e_)); have n6_ := asT (blk_kept (bkT BK416.out) hkp (fun hs_ => (fun e_ => (Kd.R_ne HO415.out BK416.out (by decide)) e_) hs_)); have n7_ := asT (Kd.R_mono (ok' := fun k_ => some k_ ≠ (.slice Ao47 t407.length co47 : Value).ownBlock) (Kd.R_keptB ((Kd.R_apart' HO419.out (Kd.R_typed HO415.out) (by decide))) hkp (fun k_ hk_ hs_ => okF hk_ hs_)) (fun k_ hk_ => okT hk_)); have n8_ := asT (Kd.R_mono (ok' := fun k_ => some k_ ≠ (.slice Ao34 t401.length co34 : Value).ownBlock ∧ some k_ ≠ (.slice Ao44 t410.length co44 : Value).ownBlock) (Kd.R_keptB ((Kd.R_apart' HO423.out (Kd.R_typed HO415.out) (by decide))) hkp (fun k_ hk_ hs_ => okF hk_ hs_)) (fun k_ hk_ => okT hk_)); have n9_ := asT (Kd.R_mono (ok' := fun k_ => some k_ ≠ (.slice Ao35 t404.length co35 : Value).ownBlock ∧ some k_ ≠ (.slice Ao41 t413.length co41 : Value).ownBlock) (Kd.R_keptB (HO427.out) hkp (fun k_ hk_ hs_ => okF hk_ hs_)) (fun k_ hk_ => okT hk_)); have n10_ := asT (hb); clear BK398 HO403 HO406 HO409 HO412 HO415 BK416 HO419 HO423 HO427 HB; have BK398 := n0_; have HO403 := n1_; have HO406 := n2_; have HO409 := n3_; have HO412 := n4_; have HO415 := n5_; have BK416 := n6_; have HO419 := n7_; have HO423 := n8_; have HO427 := n9_; have HB := n10_; clear n0_ n1_ n2_ n3_ n4_ n5_ n6_ n7_ n8_ n9_ n10_; (try clear hb); (try clear hkp); (try clear hy0)))
      (try simp only [Act.put, List.setIfInBounds_toArray, List.set_cons_zero, List.set_cons_succ])
      go_cut [63] (fun v63 wc => ∃ (kq : Nat) (x63_26 : Bool), v63 = .bool x63_26 ∧ Aside0 (laws_FnExactProfileOf.j0 kq l0 t407 t417 x63_26 l1_0 = some r) ∧ Aside0 (kq ≤ k) ∧ Aside0 (Kd.R (Kd.int .i64) 3 wc w.heap.size (fun k_ => some k_ ≠ ((.slice Ao46 t417.length co46) : Value).ownBlock) (.slice Ao47 t407.length co47) t407) ∧ Aside0 (Kd.R (Kd.int .i64) 3 wc w.heap.size (fun k_ => some k_ ≠ ((.slice Ao47 t407.length co47) : Value).ownBlock) (.slice Ao46 t417.length co46) t417) ∧ Aside0 (Kd.R k83 83 wc w.heap.size (fun _ => True) (.slice Ao41 t413.length co41) t432) ∧ Aside0 (wc.heap[gb398]? = some (.cells #[(.slice A1_0 l1_0.length c1_0)] 29 (0, 0))) ∧ Aside0 (wc.heap[gb416]? = some (.cells #[(.slice Ao41 t413.length co41)] 34 (0, 0))) ∧ Aside0 (Below w.heap.size w wc))
      case first =>
       have H := HC27.out; clear HC27
       by_cases c57 : t431 < 0
       ·rw [if_pos c57] at H
        have c57b0 : decide (t431 < 0) = true := decide_eq_true c57
        clear c57
        (first | rw [c57b0] | (simp only [i64_w, i32_w]; rw [c57b0]) | skip)
        have H' := Aside0.mk H; clear H
        go_wp2
        go_meet
        case rel => exact ⟨_, (true), rdT, H', ⟨by first | omega | exact Nat.le_refl _⟩, ⟨by (with_reducible repeat (first | apply Kd.R_alloc | apply Kd.R_drewN | apply Kd.R_drew)); exact HO409.out⟩, ⟨by (with_reducible repeat (first | apply Kd.R_alloc | apply Kd.R_drewN | apply Kd.R_drew)); exact HO419.out⟩, ⟨by (with_reducible repeat (first | apply Kd.R_alloc | apply Kd.R_drewN | apply Kd.R_drew)); exact Kd.R_mono HO415.out (fun _ hk => trivial)⟩, ⟨by (with_reducible repeat (first | refine blk_drewN ?_ _ | refine blk_drew ?_ | refine blk_alloc ?_ _)); exact BK398.out⟩, ⟨by (with_reducible repeat (first | refine blk_drewN ?_ _ | refine blk_drew ?_ | refine blk_alloc ?_ _)); exact BK416.out⟩, ⟨hbT HB.out⟩⟩
       ·rw [if_neg c57] at H
        have c57b0 : decide (t431 < 0) = false := decide_eq_false c57
        clear c57
        (first | rw [c57b0] | (simp only [i64_w, i32_w]; rw [c57b0]) | skip)
        replace H := Option.bind_eq_some_iff.mp H; obtain ⟨t433, A580, H⟩ := H; replace H : (laws_FnExactProfileOf.j0 k l0 t407 t417 (!t433) l1_0) = some r := H; have A58 := Aside0.mk A580; clear A580; have H' := Aside0.mk H; clear H
        go_wp2_with (first | (go_at_call 12; (with_reducible refine (laws_eqIntS.calls k _ _ t417 _ _ t407 t433 _ ?side1 ?side2 ?side3 ?side4 A58.out).mono ?_); (case side1 => repeat (first | exact (Kd.R_reads' HO419.out).2.2 | (with_reducible refine Kd.C_alloc ?_ _) | (with_reducible refine Kd.C_drewN ?_ _) | (with_reducible refine Kd.C_drew ?_))); (case side2 => exact (Kd.R_reads' HO419.out).2.1); (case side3 => repeat (first | exact (Kd.R_reads' HO409.out).2.2 | (with_reducible refine Kd.C_alloc ?_ _) | (with_reducible refine Kd.C_drewN ?_ _) | (with_reducible refine Kd.C_drew ?_))); (case side4 => exact (Kd.R_reads' HO409.out).2.1); rintro e w' ⟨rfl, ⟨nd, rfl⟩⟩))
        go_meet
        case rel => exact ⟨_, (!t433), rdT, H', ⟨by first | omega | exact Nat.le_refl _⟩, ⟨by (with_reducible repeat (first | apply Kd.R_alloc | apply Kd.R_drewN | apply Kd.R_drew)); exact HO409.out⟩, ⟨by (with_reducible repeat (first | apply Kd.R_alloc | apply Kd.R_drewN | apply Kd.R_drew)); exact HO419.out⟩, ⟨by (with_reducible repeat (first | apply Kd.R_alloc | apply Kd.R_drewN | apply Kd.R_drew)); exact Kd.R_mono HO415.out (fun _ hk => trivial)⟩, ⟨by (with_reducible repeat (first | refine blk_drewN ?_ _ | refine blk_drew ?_ | refine blk_alloc ?_ _)); exact BK398.out⟩, ⟨by (with_reducible repeat (first | refine blk_drewN ?_ _ | refine blk_drew ?_ | refine blk_alloc ?_ _)); exact BK416.out⟩, ⟨hbT HB.out⟩⟩
      case rest =>
       clear HC27; (try clear c1); (try clear c2); (try clear p2); (try clear c3); (try clear c4); (try clear c4b0); (try clear c5); (try clear c7); (try clear c7b0); (try clear c8); (try clear c12); (try clear c13); (try clear c15); (try clear c17); (try clear c18); (try clear c21); (try clear c24); (try clear c28); (try clear c30); (try clear c32); (try clear c33); (try clear c34); (try clear c35); (try clear c36); (try clear c42); (try clear c57); (try clear c57b0); (try clear hcz29_0); (try clear hcz38_0); (try clear hcz43_0); (try clear hcz55_0); (try clear hcz9_0); (try clear hfz29_0); (try clear hfz38_0); (try clear hfz43_0); (try clear hfz55_0); (try clear hfz9_0); obtain ⟨kq, x63_26, rfl, HA, HJ26, HO_6, HO_9, HO_417000, BK398, BK416, HB⟩ := hcut; have hl417000_26 := (Kd.R_reads' HO_417000.out).1; rw [hl417000_26] at HO_417000
       (try simp only [hl417000_26])
       (try simp only [hl417000_26] at BK398)
       (try simp only [hl417000_26] at BK416)
       (try simp only [hl417000_26] at HO_6)
       (try simp only [hl417000_26] at HO_9)
       cases kq with
       | zero => exact absurd HA.out (by simp [laws_FnExactProfileOf.j0])
       | succ kj26 =>
        have H := HA.out; clear HA
        simp only [laws_FnExactProfileOf.j0] at H
        by_cases c59 : x63_26 = true
        ·subst c59
         have H1 : (none) = some r := by rw [if_pos rfl] at H; exact H
         clear H; have H := H1; clear H1
         exact absurd H (by simp)
        ·replace c59 := Bool.eq_false_iff.mpr c59
         subst c59
         have H1 : ((laws_markIntS.f kj26 t417 1).bind fun bt434 => ((laws_heldIntS.f kj26 bt434.2 1).bind fun t436 => (if t436 < 0 then (none) else (if t436 = bt434.1 then ((laws_toStringS.f kj26 l0).bind fun t437 => ((laws_toCandidate.f kj26 l1_0).bind fun t440 => ((impl_ProfileOf.f kj26 t437 t440).bind fun t443 => ((laws_eqIntS.f kj26 t443 t407).bind fun t446 => (if t446 = true then ((laws_heldIntS.f kj26 bt434.2 1).bind fun t447 => (if t447 < 0 then (none) else (if t447 = bt434.1 then (some true) else (none)))) else (none)))))) else (none))))) = some r := by rw [if_neg (show ¬ (false = true) by decide)] at H; exact H
         clear H; have H := H1; clear H1; replace H := Option.bind_eq_some_iff.mp H; obtain ⟨⟨t434, t435⟩, A600, H⟩ := H; replace H : ((laws_heldIntS.f kj26 t435 1).bind fun t436 => (if t436 < 0 then (none) else (if t436 = t434 then ((laws_toStringS.f kj26 l0).bind fun t437 => ((laws_toCandidate.f kj26 l1_0).bind fun t440 => ((impl_ProfileOf.f kj26 t437 t440).bind fun t443 => ((laws_eqIntS.f kj26 t443 t407).bind fun t446 => (if t446 = true then ((laws_heldIntS.f kj26 t435 1).bind fun t447 => (if t447 < 0 then (none) else (if t447 = t434 then (some true) else (none)))) else (none)))))) else (none)))) = some r := H; have A60 := Aside0.mk A600; clear A600; replace H := Option.bind_eq_some_iff.mp H; obtain ⟨t436, A610, H⟩ := H; replace H : (if t436 < 0 then (none) else (if t436 = t434 then ((laws_toStringS.f kj26 l0).bind fun t437 => ((laws_toCandidate.f kj26 l1_0).bind fun t440 => ((impl_ProfileOf.f kj26 t437 t440).bind fun t443 => ((laws_eqIntS.f kj26 t443 t407).bind fun t446 => (if t446 = true then ((laws_heldIntS.f kj26 t435 1).bind fun t447 => (if t447 < 0 then (none) else (if t447 = t434 then (some true) else (none)))) else (none)))))) else (none))) = some r := H; have A61 := Aside0.mk A610; clear A610
         by_cases c62 : t436 < 0
         ·rw [if_pos c62] at H
          exact absurd H (by simp)
         ·rw [if_neg c62] at H
          have c62b0 : decide (t436 < 0) = false := decide_eq_false c62
          clear c62
          by_cases c63 : t436 = t434
          ·rw [if_pos c63] at H
           have c63b0 : (t436 == t434) = true := beq_iff_eq.mpr c63
           have c63b1 : (t436 != t434) = false := bne_eq_false_iff_eq.mpr c63
           clear c63; replace H := Option.bind_eq_some_iff.mp H; obtain ⟨t437, A640, H⟩ := H; replace H : ((laws_toCandidate.f kj26 l1_0).bind fun t440 => ((impl_ProfileOf.f kj26 t437 t440).bind fun t443 => ((laws_eqIntS.f kj26 t443 t407).bind fun t446 => (if t446 = true then ((laws_heldIntS.f kj26 t435 1).bind fun t447 => (if t447 < 0 then (none) else (if t447 = t434 then (some true) else (none)))) else (none))))) = some r := H; have A64 := Aside0.mk A640; clear A640; replace H := Option.bind_eq_some_iff.mp H; obtain ⟨t440, A650, H⟩ := H; replace H : ((impl_ProfileOf.f kj26 t437 t440).bind fun t443 => ((laws_eqIntS.f kj26 t443 t407).bind fun t446 => (if t446 = true then ((laws_heldIntS.f kj26 t435 1).bind fun t447 => (if t447 < 0 then (none) else (if t447 = t434 then (some true) else (none)))) else (none)))) = some r := H; have A65 := Aside0.mk A650; clear A650; replace H := Option.bind_eq_some_iff.mp H; obtain ⟨t443, A660, H⟩ := H; replace H : ((laws_eqIntS.f kj26 t443 t407).bind fun t446 => (if t446 = true then ((laws_heldIntS.f kj26 t435 1).bind fun t447 => (if t447 < 0 then (none) else (if t447 = t434 then (some true) else (none)))) else (none))) = some r := H; have A66 := Aside0.mk A660; clear A660; replace H := Option.bind_eq_some_iff.mp H; obtain ⟨t446, A670, H⟩ := H; replace H : (if t446 = true then ((laws_heldIntS.f kj26 t435 1).bind fun t447 => (if t447 < 0 then (none) else (if t447 = t434 then (some true) else (none)))) else (none)) = some r := H; have A67 := Aside0.mk A670; clear A670
           by_cases c68 : t446 = true
           ·subst c68
            have H1 : ((laws_heldIntS.f kj26 t435 1).bind fun t447 => (if t447 < 0 then (none) else (if t447 = t434 then (some true) else (none)))) = some r := by rw [if_pos rfl] at H; exact H
            clear H; have H := H1; clear H1; replace H := Option.bind_eq_some_iff.mp H; obtain ⟨t447, A690, H⟩ := H; replace H : (if t447 < 0 then (none) else (if t447 = t434 then (some true) else (none))) = some r := H; have A69 := Aside0.mk A690; clear A690
            by_cases c70 : t447 < 0
            ·rw [if_pos c70] at H
             exact absurd H (by simp)
            ·rw [if_neg c70] at H
             have c70b0 : decide (t447 < 0) = false := decide_eq_false c70
             clear c70
             by_cases c71 : t447 = t434
             ·rw [if_pos c71] at H
              have c71b0 : (t447 == t434) = true := beq_iff_eq.mpr c71
              have c71b1 : (t447 != t434) = false := bne_eq_false_iff_eq.mpr c71
              clear c71
              obtain rfl := Option.some.inj H
              try go_wp2_with (first | ((with_reducible refine gate_callee (f := 37) rfl ?_); refine goesL_ (some 66) rfl rfl Try.func37 (by kernel_rfl) rfl #[.slice Ao46 t417.length co46, .int .i64 1] rfl eqT ?_; (with_reducible refine (laws_markIntS.calls kj26 (fun k_ => some k_ = (.slice Ao46 t417.length co46 : Value).ownBlock) (.slice Ao46 t417.length co46) t417 1 t434 t435 w _ ?side1 ?side2 A60.out).mono ?_); (case side1 => repeat (first | (with_reducible first | exact HB.out | apply below_alloc | apply pw_below_drewN | apply below_drew1 | refine below_set ?_ GE398.out | refine below_set ?_ GE416.out) | exact HB.out)); (case side2 => exact Kd.R_tight rfl HO_9.out); rintro e w72 ⟨rfl, hy0, hb, hkp⟩; refine ⟨_, rfl, ?_⟩; have n0_ := asT (Kd.R_mono (ok' := fun k_ => some k_ ≠ (.slice Ao46 t417.length co46 : Value).ownBlock) (Kd.R_keptB (HO_6.out) hkp (fun k_ hk_ hs_ => okF hk_ hs_)) (fun k_ hk_ => okT hk_)); have n1_ := asT (Kd.R_reok rfl hy0 (fun k_ e_ => HO_9.out.1 k_ e_)); have n2_ := asT (Kd.R_mono (ok' := fun k_ => True) (Kd.R_keptB ((Kd.R_apart' HO_417000.out (Kd.R_typed HO_9.out) (by decide))) hkp (fun k_ hk_ hs_ => okF hk_ hs_)) (fun k_ hk_ => trivial)); have n3_ := asT (blk_kept (bkT BK398.out) hkp (fun hs_ => (fun e_ => (Kd.R_ne HO_9.out BK398.out (by decide)) e_) hs_)); have n4_ := asT (blk_kept (bkT BK416.out) hkp (fun hs_ => (fun e_ => (Kd.R_ne HO_9.out BK416.out (by decide)) e_) hs_)); have n5_ := asT (hb); clear HO_6 HO_9 HO_417000 BK398 BK416 HB; have HO_6 := n0_; have HO_9 := n1_; have HO_417000 := n2_; have BK398 := n3_; have BK416 := n4_; have HB := n5_; clear n0_ n1_ n2_ n3_ n4_ n5_; (try clear hb); (try clear hkp); (try clear hy0)) | ((with_reducible refine gate_callee (f := 38) rfl ?_); refine goesL_ (some 69) rfl rfl Try.func38 (by kernel_rfl) rfl #[.slice Ao46 t435.length co46, .int .i64 1] rfl (by (try simp only [List.map_toArray, List.map_cons, List.map_nil]); first | done | (rw [show t435.length = t417.length from (Kd.R_reads' HO_9.out).1.symm] <;> rfl) | rfl | (simp only [List.length_drop, List.length_take]; rfl)) ?_; (with_reducible refine (laws_heldIntS.calls kj26 _ _ t435 1 t436 _ ?side1 ?side2 A61.out).mono ?_); (case side1 => repeat (first | exact (Kd.R_reads' HO_9.out).2.2 | (with_reducible refine Kd.C_alloc ?_ _) | (with_reducible refine Kd.C_drewN ?_ _) | (with_reducible refine Kd.C_drew ?_))); (case side2 => rw [show t435.length = t417.length from (Kd.R_reads' HO_9.out).1.symm]; exact (Kd.R_reads' HO_9.out).2.1); rintro e w' ⟨rfl, ⟨nd, rfl⟩⟩; refine ⟨_, rfl, ?_⟩))
              (try (rw [drewN_self w72]; generalize hq_ : World.drewN w72 _ = w72; have n0_ : Aside0 (Kd.R k83 83 w72 w.heap.size (fun _ => True) (.slice Ao41 t432.length co41) t432) := ⟨by rw [← hq_]; exact (roT HO_417000.out)⟩; have n1_ : Aside0 (Kd.R (Kd.int .i64) 3 w72 w.heap.size (fun k_ => some k_ ≠ (.slice Ao46 t417.length co46 : Value).ownBlock) (.slice Ao47 t407.length co47) t407) := ⟨by rw [← hq_]; exact (roT HO_6.out)⟩; have n2_ : Aside0 (Kd.R (Kd.int .i64) 3 w72 w.heap.size (fun k_ => some k_ ≠ (.slice Ao47 t407.length co47 : Value).ownBlock) (.slice Ao46 t417.length co46) t435) := ⟨by rw [← hq_]; exact (roT HO_9.out)⟩; have n3_ : Aside0 (w72.heap[gb398]? = some (.cells #[.slice A1_0 l1_0.length c1_0] 29 (0, 0))) := ⟨by rw [← hq_]; exact (bkT BK398.out)⟩; have n4_ : Aside0 (w72.heap[gb416]? = some (.cells #[.slice Ao41 t432.length co41] 34 (0, 0))) := ⟨by rw [← hq_]; exact (bkT BK416.out)⟩; have n5_ : Aside0 (Below w.heap.size w w72) := ⟨by rw [← hq_]; exact (hbT HB.out)⟩; clear HO_417000 HO_6 HO_9 BK398 BK416 HB hq_; have HO_417000 := n0_; have HO_6 := n1_; have HO_9 := n2_; have BK398 := n3_; have BK416 := n4_; have HB := n5_; clear n0_ n1_ n2_ n3_ n4_ n5_))
              have n0_ := asT (Kd.R_drew HO_6.out); have n1_ := asT (Kd.R_drew HO_9.out); have n2_ := asT (Kd.R_drew HO_417000.out); have n3_ := asT (blk_drew BK398.out); have n4_ := asT (blk_drew BK416.out); have n5_ := asT (below_drew1 HB.out); clear HO_6 HO_9 HO_417000 BK398 BK416 HB; have HO_6 := n0_; have HO_9 := n1_; have HO_417000 := n2_; have BK398 := n3_; have BK416 := n4_; have HB := n5_; clear n0_ n1_ n2_ n3_ n4_ n5_
              refine start_ (n := 6) (S := fun w' => w'.cell? ⟨gb398, 0, none⟩ = some (.slice A1_0 l1_0.length c1_0)) (ds := []) #[false, false, false, false, false, false] (by kernel_rfl) rfl rfl ((blk_cell BK398.out 0).trans rfl) (fun hHeld => ?_)
              generalize w72.drew = w73 at HO_6 HO_9 HO_417000 BK398 BK416 HB hHeld ⊢
              refine pure_ (i := 0) (N := some 75) (v := ?_) (a' := ?_) #[true, false, false, false, false, false] rfl rfl (by kernel_rfl) (fun _ _ _ h => h) (Or.inl ⟨by rfl, ?_⟩) ?_ ?_
              rotate_left
              ·intro w'
               go_simp
               (with_reducible rfl)
              rotate_left
              ·simp only [Act.put, List.setIfInBounds_toArray, List.set_cons_zero, List.set_cons_succ, i64_w, i32_w]
               rfl
              refine take_ (i := 2) (N := some 77) (v := ?_) (a' := ?_) #[true, false, true, false, false, false] rfl rfl (by kernel_rfl) (fun _ _ _ h => h) (Or.inl ⟨by rfl, ?_⟩) hHeld ?_ ?_
              rotate_left
              ·intro w' s0
               go_simp
               (with_reducible rfl)
              rotate_left
              ·simp only [Act.put, List.setIfInBounds_toArray, List.set_cons_zero, List.set_cons_succ, i64_w, i32_w]
               rfl
              refine one_ (i := 1) (N := some 76) #[true, true, true, false, false, false] rfl rfl (by kernel_rfl) (by decide) (fun K hK => ?_)
              refine goes_ Try.func30 (by kernel_rfl) rfl #[.slice A0 l0.length c0] (by rfl) rfl rfl eqT ?_
              (with_reducible refine (laws_toStringS.calls kj26 _ _ l0 t437 _ ?side1 ?side2 A64.out).mono ?_); (case side1 => exact crT HR0.out HB.out); (case side2 => exact HC0.out); rintro e w74 ⟨v438, rfl, ho0, hb⟩; refine ⟨_, rfl, ?_⟩; have n0_ := asT (Kd.R_below (roT HO_6.out) hb); have n1_ := asT (Kd.R_below (roT HO_9.out) hb); have n2_ := asT (Kd.R_below (roT HO_417000.out) hb); have n3_ := asT (Kd.R_lower ho0 (below_size (hbT HB.out))); have n4_ := asT (blk_below (bkT BK398.out) hb); have n5_ := asT (blk_below (bkT BK416.out) hb); have n6_ := asT (below_step (hbT HB.out) hb); clear HO_6 HO_9 HO_417000 BK398 BK416 HB; have HO_6 := n0_; have HO_9 := n1_; have HO_417000 := n2_; have HO439 := n3_; have BK398 := n4_; have BK416 := n5_; have HB := n6_; clear n0_ n1_ n2_ n3_ n4_ n5_ n6_; (try clear hb); (try clear hb2); (try clear hk); (try clear hi); (try clear ho0)
              refine hK.out _ _ ((blk_cell BK398.out 0).trans rfl) (fun hHeld => ?_)
              clear hK K
              refine norm_ (a' := ?_) ?_ ?_
              rotate_left
              ·show Act.put _ (some 76) _ = _
               simp only [Act.put, List.setIfInBounds_toArray, List.set_cons_zero, List.set_cons_succ, i64_w, i32_w]
               rfl
              refine one_ (i := 3) (N := some 78) #[true, true, true, true, false, false] rfl rfl (by kernel_rfl) (by decide) (fun K hK => ?_)
              refine goes_ Try.func15 (by kernel_rfl) rfl #[.agg #[.slice A1_0 l1_0.length c1_0]] (by rfl) rfl rfl eqT ?_
              (with_reducible refine (laws_toCandidate.calls kj26 _ _ l1_0 t440 _ ?side1 ?side2 A65.out).mono ?_); (case side1 => exact crT HR1_0.out HB.out); (case side2 => exact HC1_0.out); rintro e w75 ⟨v441, rfl, ho0, hb⟩; refine ⟨_, rfl, ?_⟩; have n0_ := asT (Kd.R_below (roT HO_6.out) hb); have n1_ := asT (Kd.R_below (roT HO_9.out) hb); have n2_ := asT (Kd.R_elder' (roT HO_417000.out) (Kd.R_base ho0) hb); have n3_ := asT (Kd.R_below (roT HO439.out) hb); have n4_ := asT (Kd.R_lower (Kd.R_new' ho0 (Kd.R_lt (roT HO_417000.out))) (below_size (hbT HB.out))); have n5_ := asT (blk_below (bkT BK398.out) hb); have n6_ := asT (blk_below (bkT BK416.out) hb); have n7_ := asT (below_step (hbT HB.out) hb); clear HO_6 HO_9 HO_417000 HO439 BK398 BK416 HB; have HO_6 := n0_; have HO_9 := n1_; have HO_417000 := n2_; have HO439 := n3_; have HO442 := n4_; have BK398 := n5_; have BK416 := n6_; have HB := n7_; clear n0_ n1_ n2_ n3_ n4_ n5_ n6_ n7_; (try clear hb); (try clear hb2); (try clear hk); (try clear hi); (try clear ho0); obtain ⟨Ao76, co76, eo76⟩ := Kd.R_slice HO439.out; (first | subst eo76 | (injection eo76 with f1_ f2_ f3_; have f4_ := f1_.symm; have f5_ := f3_.symm; clear f1_ f2_ f3_; subst f4_; subst f5_)); obtain ⟨Ao77, co77, eo77⟩ := Kd.R_slice HO442.out; (first | subst eo77 | (injection eo77 with f1_ f2_ f3_; have f4_ := f1_.symm; have f5_ := f3_.symm; clear f1_ f2_ f3_; subst f4_; subst f5_))
              refine hK.out _ _ ((blk_cell BK398.out 0).trans rfl) (fun hHeld => ?_)
              clear hK K
              refine norm_ (a' := ?_) ?_ ?_
              rotate_left
              ·show Act.put _ (some 78) _ = _
               simp only [Act.put, List.setIfInBounds_toArray, List.set_cons_zero, List.set_cons_succ, i64_w, i32_w]
               rfl
              refine one_ (i := 4) (N := some 79) #[true, true, true, true, true, false] rfl rfl (by kernel_rfl) (by decide) (fun K hK => ?_)
              refine goes_ Try.func34 (by kernel_rfl) rfl #[.slice Ao76 t437.length co76, .agg #[.slice Ao77 t440.length co77]] (by rfl) rfl rfl eqT ?_
              (with_reducible refine (impl_ProfileOf.calls kj26 _ _ t437 _ _ t440 t443 _ ?side1 ?side2 ?side3 ?side4 A66.out).mono ?_); (case side1 => repeat (first | exact (Kd.R_reads' HO439.out).2.2 | (with_reducible refine Kd.C_alloc ?_ _) | (with_reducible refine Kd.C_drewN ?_ _) | (with_reducible refine Kd.C_drew ?_))); (case side2 => exact (Kd.R_reads' HO439.out).2.1); (case side3 => repeat (first | exact (Kd.R_reads' HO442.out).2.2 | (with_reducible refine Kd.C_alloc ?_ _) | (with_reducible refine Kd.C_drewN ?_ _) | (with_reducible refine Kd.C_drew ?_))); (case side4 => exact (Kd.R_reads' HO442.out).2.1); rintro e w78 ⟨v444, rfl, ho0, hb⟩; refine ⟨_, rfl, ?_⟩; have n0_ := asT (Kd.R_elder' (roT HO_6.out) (Kd.R_base ho0) hb); have n1_ := asT (Kd.R_elder' (roT HO_9.out) (Kd.R_base ho0) hb); have n2_ := asT (Kd.R_below (roT HO_417000.out) hb); have n3_ := asT (Kd.R_below (roT HO439.out) hb); have n4_ := asT (Kd.R_below (roT HO442.out) hb); have n5_ := asT (Kd.R_lower (Kd.R_new' (Kd.R_new' ho0 (Kd.R_lt (roT HO_6.out))) (Kd.R_lt (roT HO_9.out))) (below_size (hbT HB.out))); have n6_ := asT (blk_below (bkT BK398.out) hb); have n7_ := asT (blk_below (bkT BK416.out) hb); have n8_ := asT (below_step (hbT HB.out) hb); clear HO_6 HO_9 HO_417000 HO439 HO442 BK398 BK416 HB; have HO_6 := n0_; have HO_9 := n1_; have HO_417000 := n2_; have HO439 := n3_; have HO442 := n4_; have HO445 := n5_; have BK398 := n6_; have BK416 := n7_; have HB := n8_; clear n0_ n1_ n2_ n3_ n4_ n5_ n6_ n7_ n8_; (try clear hb); (try clear hb2); (try clear hk); (try clear hi); (try clear ho0)
              refine hK.out _ _ ((blk_cell BK398.out 0).trans rfl) (fun hHeld => ?_)
              clear hK K
              refine norm_ (a' := ?_) ?_ ?_
              rotate_left
              ·show Act.put _ (some 79) _ = _
               simp only [Act.put, List.setIfInBounds_toArray, List.set_cons_zero, List.set_cons_succ, i64_w, i32_w]
               rfl
              refine pure_ (i := 5) (N := some 13) (v := ?_) (a' := ?_) #[true, true, true, true, true, true] rfl rfl (by kernel_rfl) (fun _ _ _ h => h) (Or.inl ⟨by rfl, ?_⟩) ?_ ?_
              rotate_left
              ·intro w'
               go_simp
               (with_reducible rfl)
              rotate_left
              ·simp only [Act.put, List.setIfInBounds_toArray, List.set_cons_zero, List.set_cons_succ, i64_w, i32_w]
               rfl
              refine done_ (by kernel_rfl) ?_
              obtain ⟨Ao79, co79, eo79⟩ := Kd.R_slice HO445.out; subst eo79
              try go_wp2_with (first | ((with_reducible refine gate_callee (f := 12) rfl ?_); refine goesL_ (some 82) rfl rfl Try.func12 (by kernel_rfl) rfl #[.slice Ao79 t443.length co79, .slice Ao47 t407.length co47] rfl eqT ?_; (with_reducible refine (laws_eqIntS.calls kj26 _ _ t443 _ _ t407 true _ ?side1 ?side2 ?side3 ?side4 A67.out).mono ?_); (case side1 => repeat (first | exact (Kd.R_reads' HO445.out).2.2 | (with_reducible refine Kd.C_alloc ?_ _) | (with_reducible refine Kd.C_drewN ?_ _) | (with_reducible refine Kd.C_drew ?_))); (case side2 => exact (Kd.R_reads' HO445.out).2.1); (case side3 => repeat (first | exact (Kd.R_reads' HO_6.out).2.2 | (with_reducible refine Kd.C_alloc ?_ _) | (with_reducible refine Kd.C_drewN ?_ _) | (with_reducible refine Kd.C_drew ?_))); (case side4 => exact (Kd.R_reads' HO_6.out).2.1); rintro e w' ⟨rfl, ⟨nd, rfl⟩⟩; refine ⟨_, rfl, ?_⟩) | ((with_reducible refine gate_callee (f := 38) rfl ?_); refine goesL_ (some 86) rfl rfl Try.func38 (by kernel_rfl) rfl #[.slice Ao46 t435.length co46, .int .i64 1] rfl (by (try simp only [List.map_toArray, List.map_cons, List.map_nil]); first | done | (rw [show t435.length = t417.length from (Kd.R_reads' HO_9.out).1.symm] <;> rfl) | rfl | (simp only [List.length_drop, List.length_take]; rfl)) ?_; (with_reducible refine (laws_heldIntS.calls kj26 _ _ t435 1 t447 _ ?side1 ?side2 A69.out).mono ?_); (case side1 => repeat (first | exact (Kd.R_reads' HO_9.out).2.2 | (with_reducible refine Kd.C_alloc ?_ _) | (with_reducible refine Kd.C_drewN ?_ _) | (with_reducible refine Kd.C_drew ?_))); (case side2 => rw [show t435.length = t417.length from (Kd.R_reads' HO_9.out).1.symm]; exact (Kd.R_reads' HO_9.out).2.1); rintro e w' ⟨rfl, ⟨nd, rfl⟩⟩; refine ⟨_, rfl, ?_⟩))
              go_ret
              exact ⟨rlT, hbT HB.out⟩
             ·rw [if_neg c71] at H
              exact absurd H (by simp)
           ·replace c68 := Bool.eq_false_iff.mpr c68
            subst c68
            have H1 : (none) = some r := by rw [if_neg (show ¬ (false = true) by decide)] at H; exact H
            clear H; have H := H1; clear H1
            exact absurd H (by simp)
          ·rw [if_neg c63] at H
           exact absurd H (by simp)
     ·replace c24 := Bool.eq_false_iff.mpr c24
      subst c24
      have H1 : (none) = some r := by rw [if_neg (show ¬ (false = true) by decide)] at H; exact H
      clear H; have H := H1; clear H1
      exact absurd H (by simp)
    ·replace c21 := Bool.eq_false_iff.mpr c21
     subst c21
     have H1 : (none) = some r := by rw [if_neg (show ¬ (false = true) by decide)] at H; exact H
     clear H; have H := H1; clear H1
     exact absurd H (by simp)
   ·replace c18 := Bool.eq_false_iff.mpr c18
    subst c18
    have H1 : (none) = some r := by rw [if_neg (show ¬ (false = true) by decide)] at H; exact H
    clear H; have H := H1; clear H1
    exact absurd H (by simp)


def Bd92 : S92 → Prop := fun x => (BdInt .u8) x.f0 ∧ (BdInt .u8) x.f1
def Bd29 : S29 → Prop := fun x => (BdSlice 2 Bd92) x.f0
/-- THE ONE PURE STATEMENT of laws_FnExactProfileOf -/
def laws_FnExactProfileOf.Pure : Prop := ∀ (l0 : List ByteArray) (l1_0 : List (S92)), (BdSlice 16 BdStr) l0 → (BdSlice 2 Bd92) l1_0 → ∃ k, laws_FnExactProfileOf.f k l0 l1_0 = some true

end Go.Proofs.Ytdamagcfmhimfad.PFnExactProfileOf
