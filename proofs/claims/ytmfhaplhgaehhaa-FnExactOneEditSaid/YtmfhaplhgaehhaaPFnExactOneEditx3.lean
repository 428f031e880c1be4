-- Made by gen.py (a program of this session) out of the translation; Lean checks it.
import Derived.Test.YtmfhaplhgaehhaaPFnExactOneEditx0
import Derived.Test.YtmfhaplhgaehhaaPFnExactOneEditx1
import Derived.Test.YtmfhaplhgaehhaaPFnExactOneEditx2
namespace Go.Proofs.Ytmfhaplhgaehhaa.PFnExactOneEdit
open Go.RowKit Go.Proofs.YtmfhaplhgaehhaaB Go.Proofs.YtmfhaplhgaehhaaW.PrintWords Go.Proofs.YtmfhaplhgaehhaaW.PrintLast Go.Proofs.YtmfhaplhgaehhaaW.PrintMore
attribute [local go_sem] max2_int min2_int max_two min_two max_three min_three max_four min_four   -- for this text's walks alone
set_option linter.unusedVariables false
set_option linter.unusedSimpArgs false

/-! ### laws_markLinkS: function 117 -/
def laws_markLinkS.l0 : Nat → List (S87) → Int → Int → Option (Int × (List (S87)))
 | 0, _, _, _ => none
 | k + 1, x0, x1, x5 => if x5 < (x0.length : Int) then (if 0 ≤ x5 then ((some (x0.set (x5 : Int).toNat (⟨(x1) % 256, (rd_T87 x0 x5).f1⟩ : S87) : List (S87))).bind fun y188 => (laws_markLinkS.l0 k (y188.set (x5 : Int).toNat (⟨(rd_T87 y188 x5).f0, (wrap64 (x1 + 1)) % 256⟩ : S87)) (wrap64 ((wrap64 (x1 + 1)) + 1)) (wrap64 (x5 + 1)))) else (none)) else (some (x1, x0))
def laws_markLinkS.f (k : Nat) (l0 : List (S87)) (a1 : Int) : Option (Int × (List (S87))) := laws_markLinkS.l0 k l0 a1 0
theorem laws_markLinkS.mono_l : ∀ k, (∀ y0 y1 y2, LeO (laws_markLinkS.l0 k y0 y1 y2) (laws_markLinkS.l0 (k + 1) y0 y1 y2))
 | 0 => fun _ _ _ r h => by simp [laws_markLinkS.l0] at h
 | k + 1 => by
  have ih0 := laws_markLinkS.mono_l k
  ·intro y0 y1 y2
   unfold laws_markLinkS.l0
   with_reducible repeat' first | exact ih0 _ _ _ | exact LeO.refl _ | exact LeO.none _ | refine LeO.ite ?_ ?_ | refine LeO.bind ?_ (fun _ => ?_)
theorem laws_markLinkS.mono : ∀ a0 a1 k, LeO (laws_markLinkS.f k a0 a1) (laws_markLinkS.f (k + 1) a0 a1) := by
 intro a0 a1 k
 have ih0 := laws_markLinkS.mono_l k
 unfold laws_markLinkS.f
 with_reducible repeat' first | exact ih0 _ _ _ | exact LeO.refl _ | exact LeO.none _ | refine LeO.ite ?_ ?_ | refine LeO.bind ?_ (fun _ => ?_)
set_option maxHeartbeats 8000000 in
set_option maxRecDepth 100000 in
theorem laws_markLinkS.calls (k : Nat) (P0_ : Nat → Prop) (u9000_ : Value) (l0 : List (S87)) (a1 : Int) (r1 : Int) (r2 : List (S87)) (w0 w : World) (hB : Below w0.heap.size w0 w) (ho0 : Kd.R k87 87 w w0.heap.size P0_ u9000_ l0) (h : laws_markLinkS.f k l0 a1 = some (r1, r2)) :
  Calls Try.prog 117 #[u9000_, .int .i64 a1] w fun e w' => e = .returned (.int .i64 r1) ∧ Kd.R k87 87 w' w0.heap.size (fun k_ => (P0_ k_ ∨ w.heap.size ≤ k_)) u9000_ r2 ∧ Below w0.heap.size w0 w' ∧ Kept w w' (fun k_ => P0_ k_) := by
 have HO0 := asT (show Kd.R k87 87 w w0.heap.size (fun k_ => (P0_ k_ ∨ w.heap.size ≤ k_)) u9000_ l0 from Kd.R_mono ho0 (fun k_ hk => (.inl hk))); have HK := asT (Kept.refl w (fun k_ => P0_ k_)); have HW0 := Aside0.mk hB.size; have HB := Aside0.mk hB; clear hB; have H := h; unfold laws_markLinkS.f at H; clear h; have H' := Aside0.mk H; clear H
 go_enter Try.func117, Try.ntmps117
 go_wp2
 go_loopg [1, 5] k (fun kq v1 v5 w' => ∃ (x0_1 : List (S87)) (x1_1 : Int) (x5_1 : Int), v1 = .int .i64 x1_1 ∧ v5 = .int .i64 x5_1 ∧ Aside0 (laws_markLinkS.l0 kq x0_1 x1_1 x5_1 = some (r1, r2)) ∧ Aside0 (kq ≤ k) ∧ Aside0 (Kd.R k87 87 w' w0.heap.size (fun k_ => (P0_ k_ ∨ w.heap.size ≤ k_)) u9000_ x0_1) ∧ Aside0 (Kept w w' (fun k_ => P0_ k_)) ∧ Aside0 (Below w0.heap.size w0 w'))
 case atStart => exact ⟨(l0), (a1), (0), rdT, rdT, H', ⟨Nat.le_refl _⟩, ⟨by (with_reducible repeat (first | apply Kd.R_alloc | apply Kd.R_drewN | apply Kd.R_drew)); exact HO0.out⟩, ⟨by repeat (first | (with_reducible first | exact HK.out | apply Kept.alloc | apply Kept.drewN | apply Kept.drew) | exact HK.out)⟩, ⟨hbT HB.out⟩⟩
 case round =>
  clear H'; (try clear c1 p2); obtain ⟨x0_1, x1_1, x5_1, rfl, rfl, HA, HK1, HO_0, HK, HB⟩ := hrel
  cases gk with
  | zero => exact absurd HA.out (by simp [laws_markLinkS.l0])
  | succ k1 =>
   have H := HA.out; clear HA
   simp only [laws_markLinkS.l0] at H
   by_cases c3 : x5_1 < (x0_1.length : Int)
   ·rw [if_pos c3] at H
    have c3b0 : decide (x5_1 < (x0_1.length : Int)) = true := decide_eq_true c3
    clear c3
    by_cases c4 : 0 ≤ x5_1
    ·rw [if_pos c4] at H
     have c4b0 : decide (0 ≤ x5_1) = true := decide_eq_true c4
     clear c4; obtain ⟨y188, hy188⟩ : ∃ y_ : List (S87), y_ = (x0_1.set (x5_1 : Int).toNat (⟨(x1_1) % 256, (rd_T87 x0_1 x5_1).f1⟩ : S87)) := ⟨_, rfl⟩
     replace H : (laws_markLinkS.l0 k1 (y188.set (x5_1 : Int).toNat (⟨(rd_T87 y188 x5_1).f0, (wrap64 (x1_1 + 1)) % 256⟩ : S87)) (wrap64 ((wrap64 (x1_1 + 1)) + 1)) (wrap64 (x5_1 + 1))) = some (r1, r2) := by first | (rw [hy188]; with_reducible exact H) | (have H2_ := (Option.bind_some _ _).symm.trans H; rw [hy188]; with_reducible exact H2_) | (have H2_ := (Option.bind_some _ _).symm.trans H; with_reducible exact H2_) | with_reducible exact H | (rw [hy188]; exact H) | exact H
     have Ny188 := Aside0.mk hy188; clear hy188; obtain ⟨y189, hy189⟩ : ∃ y_ : List (S87), y_ = (y188.set (x5_1 : Int).toNat (⟨(rd_T87 y188 x5_1).f0, (wrap64 (x1_1 + 1)) % 256⟩ : S87)) := ⟨_, rfl⟩
     replace H : (laws_markLinkS.l0 k1 y189 (wrap64 ((wrap64 (x1_1 + 1)) + 1)) (wrap64 (x5_1 + 1))) = some (r1, r2) := by first | (rw [hy189]; with_reducible exact H) | (have H2_ := (Option.bind_some _ _).symm.trans H; rw [hy189]; with_reducible exact H2_) | (have H2_ := (Option.bind_some _ _).symm.trans H; with_reducible exact H2_) | with_reducible exact H | (rw [hy189]; exact H) | exact H
     have Ny189 := Aside0.mk hy189; clear hy189; have H' := Aside0.mk H; clear H; obtain ⟨Ao7, co7, eo7⟩ := Kd.R_slice HO_0.out; subst eo7
     have p5 : 0 ≤ (x5_1 : Int) := of_decide_eq_true asmT
     have q5 : (x5_1 : Int) < ((x0_1.length : Int) : Int) := of_decide_eq_true asmT
     obtain ⟨go5, co5, eo5, gb5, gl5, cl5, HG5⟩ := Kd.R_form HO_0.out (by omega)
     (first | cases eo5 | (injection eo5 with ea_ en_ ec_; (first | subst ea_ | (injection ea_ with ea_; subst ea_)); subst ec_; clear en_))
     have GB5 := Aside0.mk gb5; have GG5 := Aside0.mk HG5; clear gb5 gl5 HG5; have HMgo5 := asT (show (P0_ go5 ∨ w.heap.size ≤ go5) from (HO_0.out.1 _ rfl)); obtain ⟨ce5, hcl5, hM5, hcc5, hfr5⟩ := Kd.R_elem HO_0.out z87 (x5_1 : Int) p5 q5
     obtain rfl := k87_openM hM5
     have hx5_0 : wr.cell? ⟨go5, (x5_1 : Int).toNat * 2, none⟩ = some (.int .u8 ((rd_T87 x0_1 x5_1).f0)) := hcc5 0 _ rfl
     have hx5_1 : wr.cell? ⟨go5, (x5_1 : Int).toNat * 2 + 1, none⟩ = some (.int .u8 ((rd_T87 x0_1 x5_1).f1)) := hcc5 1 _ rfl
     have hf5_0 : wr.frozen? ⟨go5, (x5_1 : Int).toNat * 2, none⟩ = false := hfr5 0
     have hf5_1 : wr.frozen? ⟨go5, (x5_1 : Int).toNat * 2 + 1, none⟩ = false := hfr5 1
     clear hcl5 hcc5 hfr5; (try clear hM5); replace p5 := eq_true p5; replace q5 := eq_true q5; have HX8 := asT (show Kd.R k87 87 wr w0.heap.size (fun k_ => (P0_ k_ ∨ w.heap.size ≤ k_)) (.slice (some ⟨go5, 0, none⟩) x0_1.length co7) x0_1 from (roT HO_0.out)); obtain ⟨ce8, hcl8, hM8, hcc8, hfr8⟩ := Kd.R_elem HX8.out z87 (x5_1 : Int) (of_decide_eq_true asmT) (by have h_ : (x5_1 : Int) < ((x0_1.length : Int) : Int) := of_decide_eq_true asmT; first | exact h_ | (have e_ := (Kd.R_reads' HO_0.out).1; omega) | simpa using h_)
     obtain rfl := k87_openM hM8
     have HP8 := Kd.R_seg HX8.out (x5_1 : Int) (of_decide_eq_true asmT) (by have h_ : (x5_1 : Int) < ((x0_1.length : Int) : Int) := of_decide_eq_true asmT; first | exact h_ | (have e_ := (Kd.R_reads' HO_0.out).1; omega) | simpa using h_) (seg := [.int .u8 ((x1_1) % 256)]) (j := 0) hcl8 hcc8 (show 1 ≤ 2 from by decide) (x' := (⟨(x1_1) % 256, (rd_T87 x0_1 x5_1).f1⟩ : S87)) (k87_mkM _ _ _ (⟨(x1_1) % 256, (rd_T87 x0_1 x5_1).f1⟩ : S87) ) (fun _ hk => hk); have hx8_0 := hcc8 0 _ rfl
     (try simp only [show (k87).sz = 2 from rfl, Nat.mul_one, Nat.add_zero] at hx8_0)
     have hf8_0 := hfr8 0
     (try simp only [show (k87).sz = 2 from rfl, Nat.mul_one, Nat.add_zero] at hf8_0)
     clear hcl8 hcc8 hfr8; (try clear hM8)
     go_wp2_with (first | ((with_reducible refine gate_store (t := 5) (p := 17) rfl ?_); refine store_event (t := 5) (p := 17) (v := ?vo_w9) (w1 := (wr.setCell ⟨go5, (x5_1 : Int).toNat * 2, none⟩ (.int .u8 ((x1_1) % 256)))) ?hg ?ho ?hn ?hr ?_; (case ho => rfl); (case hg => rfl); (case hn => rfl); (case hr => first | (go_simp; done) | (go_simp; rfl)); intro w9 hw; have hg : wr.grownBy w9 (some go5) := (by rw [hw]; exact HP8.2); have hp_ : Kd.R k87 87 w9 w0.heap.size (fun k_ => (P0_ k_ ∨ w.heap.size ≤ k_)) (.slice (some ⟨go5, 0, none⟩) x0_1.length co7) y188 := (by rw [hw, Ny188.out]; exact HP8.1); clear HP8; replace HB := asT ((by rw [hw]; exact below_set (HB.out) GB5.out : Below w0.heap.size w0 w9)); replace HK := asT (Kept.of_grown (S := (fun k_ => P0_ k_)) hg (by repeat (first | (with_reducible first | exact HK.out | apply Kept.alloc | apply Kept.drewN | apply Kept.drew) | exact HK.out)) (fun k_ e_ => (HO_0.out.1 k_ e_))); replace HO_0 := asT (hp_); clear hg hw hp_; have p6 : 0 ≤ (x5_1 : Int) := of_decide_eq_true asmT; have q6 : (x5_1 : Int) < ((x0_1.length : Int) : Int) := of_decide_eq_true asmT; obtain ⟨ce6, hcl6, hM6, hcc6, hfr6⟩ := Kd.R_elem HO_0.out z87 (x5_1 : Int) p6 q6; obtain rfl := k87_openM hM6; have hx6_0 : w9.cell? ⟨go5, (x5_1 : Int).toNat * 2, none⟩ = some (.int .u8 ((rd_T87 y188 x5_1).f0)) := hcc6 0 _ rfl; have hx6_1 : w9.cell? ⟨go5, (x5_1 : Int).toNat * 2 + 1, none⟩ = some (.int .u8 ((rd_T87 y188 x5_1).f1)) := hcc6 1 _ rfl; have hf6_0 : w9.frozen? ⟨go5, (x5_1 : Int).toNat * 2, none⟩ = false := hfr6 0; have hf6_1 : w9.frozen? ⟨go5, (x5_1 : Int).toNat * 2 + 1, none⟩ = false := hfr6 1; clear hcl6 hcc6 hfr6; (try clear hM6); replace p6 := eq_true p6; replace q6 := eq_true q6; have HX10 := asT (show Kd.R k87 87 w9 w0.heap.size (fun k_ => (P0_ k_ ∨ w.heap.size ≤ k_)) (.slice (some ⟨go5, 0, none⟩) x0_1.length co7) y188 from (roT HO_0.out)); obtain ⟨ce10, hcl10, hM10, hcc10, hfr10⟩ := Kd.R_elem HX10.out z87 (x5_1 : Int) (of_decide_eq_true asmT) (by have h_ : (x5_1 : Int) < ((x0_1.length : Int) : Int) := of_decide_eq_true asmT; first | exact h_ | (have e_ := (Kd.R_reads' HO_0.out).1; omega) | simpa using h_); obtain rfl := k87_openM hM10; have HP10 := Kd.R_seg HX10.out (x5_1 : Int) (of_decide_eq_true asmT) (by have h_ : (x5_1 : Int) < ((x0_1.length : Int) : Int) := of_decide_eq_true asmT; first | exact h_ | (have e_ := (Kd.R_reads' HO_0.out).1; omega) | simpa using h_) (seg := [.int .u8 ((wrap64 (x1_1 + 1)) % 256)]) (j := 1) hcl10 hcc10 (show 2 ≤ 2 from by decide) (x' := (⟨(rd_T87 y188 x5_1).f0, (wrap64 (x1_1 + 1)) % 256⟩ : S87)) (k87_mkM _ _ _ (⟨(rd_T87 y188 x5_1).f0, (wrap64 (x1_1 + 1)) % 256⟩ : S87) ) (fun _ hk => hk); have hx10_1 := hcc10 1 _ rfl; (try simp only [show (k87).sz = 2 from rfl, Nat.mul_one, Nat.add_zero] at hx10_1); have hf10_1 := hfr10 1; (try simp only [show (k87).sz = 2 from rfl, Nat.mul_one, Nat.add_zero] at hf10_1); clear hcl10 hcc10 hfr10; (try clear hM10)) | ((with_reducible refine gate_store (t := 5) (p := 25) rfl ?_); refine store_event (t := 5) (p := 25) (v := ?vo_w11) (w1 := (w9.setCell ⟨go5, (x5_1 : Int).toNat * 2 + 1, none⟩ (.int .u8 ((wrap64 (x1_1 + 1)) % 256)))) ?hg ?ho ?hn ?hr ?_; (case ho => rfl); (case hg => rfl); (case hn => rfl); (case hr => first | (go_simp; done) | (go_simp; rfl)); intro w11 hw; have hg : w9.grownBy w11 (some go5) := (by rw [hw]; exact HP10.2); have hp_ : Kd.R k87 87 w11 w0.heap.size (fun k_ => (P0_ k_ ∨ w.heap.size ≤ k_)) (.slice (some ⟨go5, 0, none⟩) x0_1.length co7) y189 := (by rw [hw, Ny189.out]; exact HP10.1); clear HP10; replace HB := asT ((by rw [hw]; exact below_set (HB.out) GB5.out : Below w0.heap.size w0 w11)); replace HK := asT (Kept.of_grown (S := (fun k_ => P0_ k_)) hg (by repeat (first | (with_reducible first | exact HK.out | apply Kept.alloc | apply Kept.drewN | apply Kept.drew) | exact HK.out)) (fun k_ e_ => (HO_0.out.1 k_ e_))); replace HO_0 := asT (hp_); clear hg hw hp_))
     go_roundg k1
     case measure => have := HK1.out; omega
     case rel => exact ⟨(y189), (wrap64 ((wrap64 (x1_1 + 1)) + 1)), (wrap64 (x5_1 + 1)), rdT, rdT, H', ⟨by have := HK1.out; omega⟩, ⟨by (with_reducible repeat (first | apply Kd.R_alloc | apply Kd.R_drewN | apply Kd.R_drew)); exact HO_0.out⟩, ⟨by repeat (first | (with_reducible first | exact HK.out | apply Kept.alloc | apply Kept.drewN | apply Kept.drew) | exact HK.out)⟩, ⟨hbT HB.out⟩⟩
    ·rw [if_neg c4] at H
     exact absurd H (by simp)
   ·rw [if_neg c3] at H
    have c3b0 : decide (x5_1 < (x0_1.length : Int)) = false := decide_eq_false c3
    clear c3
    simp only [Option.some.injEq, Prod.mk.injEq] at H
    obtain ⟨rfl, rfl⟩ := H; obtain ⟨Ao12, co12, eo12⟩ := Kd.R_slice HO_0.out; subst eo12
    go_wp2
    go_ret
    exact ⟨rlT, by (with_reducible repeat (first | apply Kd.R_alloc | apply Kd.R_drewN | apply Kd.R_drew)); exact HO_0.out, hbT HB.out, by repeat (first | (with_reducible first | exact HK.out | apply Kept.alloc | apply Kept.drewN | apply Kept.drew) | exact HK.out)⟩

/-! ### laws_markCandidateS: function 65 -/
def laws_markCandidateS.l0 : Nat → List S26 → Int → Int → Option (Int × List S26)
  | 0, _, _, _ => none
  | k + 1, xs, a, i => if i < (xs.length : Int) then (if 0 ≤ i then ((laws_markLinkS.f k ((xs.getD i.toNat z26).f0) a).bind fun bt => laws_markCandidateS.l0 k (xs.set i.toNat (⟨bt.2⟩ : S26)) bt.1 (wrap64 (i + 1))) else none) else some (a, xs)
def laws_markCandidateS.f (k : Nat) (l0 : List S26) (a1 : Int) : Option (Int × List S26) := laws_markCandidateS.l0 k l0 a1 0
theorem laws_markCandidateS.mono_l : ∀ k, (∀ y0 y1 y2, LeO (laws_markCandidateS.l0 k y0 y1 y2) (laws_markCandidateS.l0 (k + 1) y0 y1 y2))
  | 0 => fun _ _ _ r h => by simp [laws_markCandidateS.l0] at h
  | k + 1 => by
    have ih0 := laws_markCandidateS.mono_l k
    intro y0 y1 y2
    unfold laws_markCandidateS.l0
    with_reducible repeat' first | exact ih0 _ _ _ | exact laws_markLinkS.mono _ _ _ | exact LeO.refl _ | exact LeO.none _ | refine LeO.ite ?_ ?_ | refine LeO.bind ?_ (fun _ => ?_)
theorem laws_markCandidateS.mono : ∀ a0 a1 k, LeO (laws_markCandidateS.f k a0 a1) (laws_markCandidateS.f (k + 1) a0 a1) := fun a0 a1 k => laws_markCandidateS.mono_l k a0 a1 0
set_option maxHeartbeats 8000000 in
set_option maxRecDepth 100000 in
theorem laws_markCandidateS.calls (k : Nat) (P0_ : Nat → Prop) (u_ : Value) (l0 : List S26) (a1 : Int) (r1 : Int) (r2 : List S26) (w0 w : World) (hB : Below w0.heap.size w0 w) (ho0 : Kd.S k26 26 w w0.heap.size P0_ u_ l0) (h : laws_markCandidateS.f k l0 a1 = some (r1, r2)) :
    Calls Try.prog 65 #[u_, .int .i64 a1] w fun e w' => e = .returned (.int .i64 r1) ∧ Kd.S k26 26 w' w0.heap.size P0_ u_ r2 ∧ Below w0.heap.size w0 w' ∧ Kept w w' P0_ := by
  obtain ⟨A, c, hu⟩ := Kd.S_slice ho0
  subst hu
  have H' := Aside0.mk h
  clear h
  go_enter Try.func65, Try.ntmps65
  go_wp2
  go_loopg [1, 5] k (fun kq v1 v5 wr => ∃ (xs : List S26) (a i : Int), v1 = .int .i64 a ∧ v5 = .int .i64 i ∧ Aside0 (laws_markCandidateS.l0 kq xs a i = some (r1, r2)) ∧ Aside0 (kq ≤ k) ∧ Aside0 (xs.length = l0.length) ∧ Aside0 (Kd.S k26 26 wr w0.heap.size P0_ (.slice A l0.length c) xs) ∧ Aside0 (Below w0.heap.size w0 wr) ∧ Aside0 (Kept w wr P0_))
  case atStart => exact ⟨l0, a1, 0, rfl, rfl, H', ⟨Nat.le_refl _⟩, ⟨rfl⟩, ⟨ho0⟩, ⟨hB⟩, ⟨Nat.le_refl _, fun _ _ _ => rfl⟩⟩
  case round =>
    clear H' ho0 hB
    obtain ⟨xs, a, i, rfl, rfl, HA, HK1, HL, HS, HB, HKp⟩ := hrel
    cases gk with
    | zero => exact absurd HA.out (by simp [laws_markCandidateS.l0])
    | succ k1 =>
      have H := HA.out
      clear HA
      simp only [laws_markCandidateS.l0] at H
      by_cases c3 : i < (xs.length : Int)
      · rw [if_pos c3] at H
        by_cases c4 : 0 ≤ i
        · rw [if_pos c4] at H
          obtain ⟨⟨b1, b2⟩, hf, H2⟩ := Option.bind_eq_some_iff.mp H
          clear H
          obtain ⟨g, cap, e, hg0, hgl, _⟩ := Kd.S_form HS.out (by omega)
          injection e with e1 e2 e3
          subst e1
          have hlen := HL.out
          have c3b : decide (i < (l0.length : Int)) = true := decide_eq_true (by omega)
          have p : (0 ≤ i) = True := eq_true c4
          have q : (i < (l0.length : Int)) = True := eq_true (by omega)
          obtain ⟨oki, cs, hcl, hM, hcc, hoki, hH⟩ := Kd.S_lend HS.out z26 i c4 (show i < (l0.length : Int) by omega)
          obtain ⟨uv, rfl, hR⟩ := k26_openM hM
          obtain ⟨A2, c2, e4⟩ := Kd.R_slice hR
          subst e4
          have hx : wr.cell? ⟨g, i.toNat, none⟩ = some (.slice A2 (xs.getD i.toNat z26).f0.length c2) := by
            have := hcc 0 _ rfl
            rwa [show i.toNat * k26.sz + 0 = i.toNat from Nat.mul_one _] at this
          have hR' := Aside0.mk hR
          have hH' := Aside0.mk hH
          have hf' := Aside0.mk hf
          have H' := Aside0.mk H2
          have hM' := Aside0.mk hoki
          clear hR hH hf H2 hM hcc HS c3 hcl e2 e3 hlen
          go_wp2_with (first
            | (go_at_call 117; refine (laws_markLinkS.calls k1 oki _ _ a b1 b2 w0 wr HB.out hR'.out hf'.out).mono ?_; rintro e w2 ⟨rfl, hR2, hB2, hK2⟩; have HR2 := Aside0.mk hR2; have HB2 := Aside0.mk hB2; have HK2 := Aside0.mk hK2; clear hR2 hB2 hK2))
          have c4 := of_eq_true p
          go_roundg k1
          case rel =>
            refine ⟨xs.set i.toNat (⟨b2⟩ : S26), b1, wrap64 (i + 1), rfl, by first | rfl | (simp only [i64_w]; done) | skip, H', ⟨by have := HK1.out; omega⟩, ⟨by rw [List.length_set]; exact HL.out⟩, ⟨?_⟩, HB2, ⟨?_⟩⟩
            · exact Kd.H_back (Kd.H_step hH'.out (fun k _ hn hlt => HK2.out.2 k hlt hn)) (k26_mkM _ _ _ (⟨b2⟩ : S26) (Kd.R_mono (Kd.R_tight rfl HR2.out) (fun k hk => hR'.out.1 k hk.symm))) (fun _ hk => hk)
            · exact ⟨Nat.le_trans HKp.out.1 HK2.out.1, fun k hlt hn => (HK2.out.2 k (Nat.lt_of_lt_of_le hlt HKp.out.1) (fun ho => hn (hM'.out k ho).1)).trans (HKp.out.2 k hlt hn)⟩
          case measure => have := HK1.out; omega
        · rw [if_neg c4] at H
          cases H
      · rw [if_neg c3] at H
        obtain ⟨rfl, rfl⟩ := Prod.mk.inj (Option.some.inj H)
        have hlen := HL.out
        have c3b : decide (i < (l0.length : Int)) = false := decide_eq_false (by omega)
        clear hlen
        go_wp2
        go_ret
        exact ⟨rfl, HS.out, HB.out, HKp.out⟩

/-! ### laws_heldLinkS: function 118 -/
def laws_heldLinkS.l0 : Nat → List (S87) → Int → Int → Option (Int)
 | 0, _, _, _ => none
 | k + 1, x0, x1, x5 => if x5 < (x0.length : Int) then (if 0 ≤ x5 then (if ((rd_T87 x0 x5).f0) = ((x1) % 256) then (if ((rd_T87 x0 x5).f1) = ((wrap64 (x1 + 1)) % 256) then (laws_heldLinkS.l0 k x0 (wrap64 ((wrap64 (x1 + 1)) + 1)) (wrap64 (x5 + 1))) else (some (-1))) else (some (-1))) else (none)) else (some x1)
def laws_heldLinkS.f (k : Nat) (l0 : List (S87)) (a1 : Int) : Option (Int) := laws_heldLinkS.l0 k l0 a1 0
theorem laws_heldLinkS.mono_l : ∀ k, (∀ y0 y1 y2, LeO (laws_heldLinkS.l0 k y0 y1 y2) (laws_heldLinkS.l0 (k + 1) y0 y1 y2))
 | 0 => fun _ _ _ r h => by simp [laws_heldLinkS.l0] at h
 | k + 1 => by
  have ih0 := laws_heldLinkS.mono_l k
  ·intro y0 y1 y2
   unfold laws_heldLinkS.l0
   with_reducible repeat' first | exact ih0 _ _ _ | exact LeO.refl _ | exact LeO.none _ | refine LeO.ite ?_ ?_ | refine LeO.bind ?_ (fun _ => ?_)
theorem laws_heldLinkS.mono : ∀ a0 a1 k, LeO (laws_heldLinkS.f k a0 a1) (laws_heldLinkS.f (k + 1) a0 a1) := by
 intro a0 a1 k
 have ih0 := laws_heldLinkS.mono_l k
 unfold laws_heldLinkS.f
 with_reducible repeat' first | exact ih0 _ _ _ | exact LeO.refl _ | exact LeO.none _ | refine LeO.ite ?_ ?_ | refine LeO.bind ?_ (fun _ => ?_)
set_option maxHeartbeats 8000000 in
set_option maxRecDepth 100000 in
theorem laws_heldLinkS.calls (k : Nat) (A0 : Option Addr) (c0 : Nat) (l0 : List (S87)) (a1 : Int) (r : Int) (w : World) (hr0 : Kd.C k87 w A0 l0.length l0) (hc0 : l0.length ≤ c0) (h : laws_heldLinkS.f k l0 a1 = some r) :
  Calls Try.prog 118 #[.slice A0 l0.length c0, .int .i64 a1] w fun e w' => e = .returned (.int .i64 r) ∧ Drawn0 w w' := by
 have HR0 := Aside0.mk hr0; have HC0 := Aside0.mk hc0; clear hr0 hc0; have H := h; unfold laws_heldLinkS.f at H; clear h; have H' := Aside0.mk H; clear H
 go_enter Try.func118, Try.ntmps118
 go_wp2
 go_loopg [1, 5] k (fun kq v1 v5 w' => ∃ (x1_1 : Int) (x5_1 : Int), v1 = .int .i64 x1_1 ∧ v5 = .int .i64 x5_1 ∧ Aside0 (laws_heldLinkS.l0 kq l0 x1_1 x5_1 = some r) ∧ Aside0 (kq ≤ k) ∧ Drawn0 w w')
 case atStart => exact ⟨(a1), (0), rdT, rdT, H', ⟨Nat.le_refl _⟩, drT⟩
 case round =>
  clear H'; (try clear c1 p2); obtain ⟨x1_1, x5_1, rfl, rfl, HA, HK1, ⟨m1, rfl⟩⟩ := hrel
  cases gk with
  | zero => exact absurd HA.out (by simp [laws_heldLinkS.l0])
  | succ k1 =>
   have H := HA.out; clear HA
   simp only [laws_heldLinkS.l0] at H
   by_cases c3 : x5_1 < (l0.length : Int)
   ·rw [if_pos c3] at H
    have c3b0 : decide (x5_1 < (l0.length : Int)) = true := decide_eq_true c3
    clear c3
    by_cases c4 : 0 ≤ x5_1
    ·rw [if_pos c4] at H
     have c4b0 : decide (0 ≤ x5_1) = true := decide_eq_true c4
     clear c4
     by_cases c5 : ((rd_T87 l0 x5_1).f0) = ((x1_1) % 256)
     ·rw [if_pos c5] at H
      have c5b0 : (((rd_T87 l0 x5_1).f0) == ((x1_1) % 256)) = true := beq_iff_eq.mpr c5
      have c5b1 : (((rd_T87 l0 x5_1).f0) != ((x1_1) % 256)) = false := bne_eq_false_iff_eq.mpr c5
      clear c5
      by_cases c6 : ((rd_T87 l0 x5_1).f1) = ((wrap64 (x1_1 + 1)) % 256)
      ·rw [if_pos c6] at H
       have c6b0 : (((rd_T87 l0 x5_1).f1) == ((wrap64 (x1_1 + 1)) % 256)) = true := beq_iff_eq.mpr c6
       have c6b1 : (((rd_T87 l0 x5_1).f1) != ((wrap64 (x1_1 + 1)) % 256)) = false := bne_eq_false_iff_eq.mpr c6
       clear c6; have H' := Aside0.mk H; clear H
       have p190 : 0 ≤ (x5_1 : Int) := of_decide_eq_true asmT
       have q190 : x5_1 < (l0.length : Int) := of_decide_eq_true asmT
       obtain ⟨ad190, e190, hx190_0, hx190_1⟩ := at_T87 HR0.out x5_1 p190 q190
       cases e190
       replace p190 := eq_true p190; replace q190 := eq_true q190
       have p191 : 0 ≤ (x5_1 : Int) := of_decide_eq_true asmT
       have q191 : x5_1 < (l0.length : Int) := of_decide_eq_true asmT
       obtain ⟨ad191, e191, hx191_0, hx191_1⟩ := at_T87 HR0.out x5_1 p191 q191
       obtain rfl : ad190 = ad191 := (by injection e191)
       replace p191 := eq_true p191; replace q191 := eq_true q191
       go_wp2
       go_roundg k1
       case measure => have := HK1.out; omega
       case rel => exact ⟨(wrap64 ((wrap64 (x1_1 + 1)) + 1)), (wrap64 (x5_1 + 1)), rdT, rdT, H', ⟨by have := HK1.out; omega⟩, drT⟩
      ·rw [if_neg c6] at H
       have c6b0 : (((rd_T87 l0 x5_1).f1) == ((wrap64 (x1_1 + 1)) % 256)) = false := beq_eq_false_iff_ne.mpr c6
       have c6b1 : (((rd_T87 l0 x5_1).f1) != ((wrap64 (x1_1 + 1)) % 256)) = true := bne_iff_ne.mpr c6
       obtain rfl := Option.some.inj H
       have p190 : 0 ≤ (x5_1 : Int) := of_decide_eq_true asmT
       have q190 : x5_1 < (l0.length : Int) := of_decide_eq_true asmT
       obtain ⟨ad190, e190, hx190_0, hx190_1⟩ := at_T87 HR0.out x5_1 p190 q190
       cases e190
       replace p190 := eq_true p190; replace q190 := eq_true q190
       have p191 : 0 ≤ (x5_1 : Int) := of_decide_eq_true asmT
       have q191 : x5_1 < (l0.length : Int) := of_decide_eq_true asmT
       obtain ⟨ad191, e191, hx191_0, hx191_1⟩ := at_T87 HR0.out x5_1 p191 q191
       obtain rfl : ad190 = ad191 := (by injection e191)
       replace p191 := eq_true p191; replace q191 := eq_true q191
       go_wp2
       go_ret
       exact ⟨rdT, drT⟩
     ·rw [if_neg c5] at H
      have c5b0 : (((rd_T87 l0 x5_1).f0) == ((x1_1) % 256)) = false := beq_eq_false_iff_ne.mpr c5
      have c5b1 : (((rd_T87 l0 x5_1).f0) != ((x1_1) % 256)) = true := bne_iff_ne.mpr c5
      obtain rfl := Option.some.inj H
      have p190 : 0 ≤ (x5_1 : Int) := of_decide_eq_true asmT
      have q190 : x5_1 < (l0.length : Int) := of_decide_eq_true asmT
      obtain ⟨ad190, e190, hx190_0, hx190_1⟩ := at_T87 HR0.out x5_1 p190 q190
      cases e190
      replace p190 := eq_true p190; replace q190 := eq_true q190
      go_wp2
      go_ret
      exact ⟨rdT, drT⟩
    ·rw [if_neg c4] at H
     exact absurd H (by simp)
   ·rw [if_neg c3] at H
    have c3b0 : decide (x5_1 < (l0.length : Int)) = false := decide_eq_false c3
    clear c3
    obtain rfl := Option.some.inj H
    go_wp2
    go_ret
    exact ⟨rdT, drT⟩

/-! ### laws_heldCandidateS: function 66 -/
def laws_heldCandidateS.l0 : Nat → List (S26) → Int → Int → Option (Int)
 | 0, _, _, _ => none
 | k + 1, x0, x1, x5 => if x5 < (x0.length : Int) then (if 0 ≤ x5 then ((laws_heldLinkS.f k ((rd_T26 x0 x5).f0) x1).bind fun t193 => (if t193 < 0 then (some (-1)) else (laws_heldCandidateS.l0 k x0 t193 (wrap64 (x5 + 1))))) else (none)) else (some x1)
def laws_heldCandidateS.f (k : Nat) (l0 : List (S26)) (a1 : Int) : Option (Int) := laws_heldCandidateS.l0 k l0 a1 0
theorem laws_heldCandidateS.mono_l : ∀ k, (∀ y0 y1 y2, LeO (laws_heldCandidateS.l0 k y0 y1 y2) (laws_heldCandidateS.l0 (k + 1) y0 y1 y2))
 | 0 => fun _ _ _ r h => by simp [laws_heldCandidateS.l0] at h
 | k + 1 => by
  have ih0 := laws_heldCandidateS.mono_l k
  ·intro y0 y1 y2
   unfold laws_heldCandidateS.l0
   with_reducible repeat' first | exact ih0 _ _ _ | exact laws_heldLinkS.mono _ _ _ | exact LeO.refl _ | exact LeO.none _ | refine LeO.ite ?_ ?_ | refine LeO.bind ?_ (fun _ => ?_)
theorem laws_heldCandidateS.mono : ∀ a0 a1 k, LeO (laws_heldCandidateS.f k a0 a1) (laws_heldCandidateS.f (k + 1) a0 a1) := by
 intro a0 a1 k
 have ih0 := laws_heldCandidateS.mono_l k
 unfold laws_heldCandidateS.f
 with_reducible repeat' first | exact ih0 _ _ _ | exact laws_heldLinkS.mono _ _ _ | exact LeO.refl _ | exact LeO.none _ | refine LeO.ite ?_ ?_ | refine LeO.bind ?_ (fun _ => ?_)
set_option maxHeartbeats 8000000 in
set_option maxRecDepth 100000 in
theorem laws_heldCandidateS.calls (k : Nat) (A0 : Option Addr) (c0 : Nat) (l0 : List (S26)) (a1 : Int) (r : Int) (w : World) (hr0 : Kd.C k26 w A0 l0.length l0) (hc0 : l0.length ≤ c0) (h : laws_heldCandidateS.f k l0 a1 = some r) :
  Calls Try.prog 66 #[.slice A0 l0.length c0, .int .i64 a1] w fun e w' => e = .returned (.int .i64 r) ∧ Drawn0 w w' := by
 have HR0 := Aside0.mk hr0; have HC0 := Aside0.mk hc0; clear hr0 hc0; have H := h; unfold laws_heldCandidateS.f at H; clear h; have H' := Aside0.mk H; clear H
 go_enter Try.func66, Try.ntmps66
 go_wp2
 go_loopg [1, 5] k (fun kq v1 v5 w' => ∃ (x1_1 : Int) (x5_1 : Int), v1 = .int .i64 x1_1 ∧ v5 = .int .i64 x5_1 ∧ Aside0 (laws_heldCandidateS.l0 kq l0 x1_1 x5_1 = some r) ∧ Aside0 (kq ≤ k) ∧ Drawn0 w w')
 case atStart => exact ⟨(a1), (0), rdT, rdT, H', ⟨Nat.le_refl _⟩, drT⟩
 case round =>
  clear H'; (try clear p2); obtain ⟨x1_1, x5_1, rfl, rfl, HA, HK1, ⟨m1, rfl⟩⟩ := hrel
  cases gk with
  | zero => exact absurd HA.out (by simp [laws_heldCandidateS.l0])
  | succ k1 =>
   have H := HA.out; clear HA
   simp only [laws_heldCandidateS.l0] at H
   by_cases c3 : x5_1 < (l0.length : Int)
   ·rw [if_pos c3] at H
    have c3b0 : decide (x5_1 < (l0.length : Int)) = true := decide_eq_true c3
    clear c3
    by_cases c4 : 0 ≤ x5_1
    ·rw [if_pos c4] at H
     have c4b0 : decide (0 ≤ x5_1) = true := decide_eq_true c4
     clear c4; obtain ⟨t193, A5, H⟩ := be H
     by_cases c6 : t193 < 0
     ·rw [if_pos c6] at H
      have c6b0 : decide (t193 < 0) = true := decide_eq_true c6
      clear c6
      obtain rfl := Option.some.inj H
      have p192 : 0 ≤ (x5_1 : Int) := of_decide_eq_true asmT
      have q192 : x5_1 < (l0.length : Int) := of_decide_eq_true asmT
      obtain ⟨ad192, A192_0, c192_0, e192, hx192_0, hl192_0, hi192_0⟩ := at_T26 HR0.out x5_1 p192 q192
      cases e192
      have HR192_0 := Aside0.mk hi192_0; have HC192_0 := Aside0.mk hl192_0; clear hi192_0 hl192_0; replace p192 := eq_true p192; replace q192 := eq_true q192
      go_wp2_with (first | ((with_reducible refine gate_callee (f := 118) rfl ?_); refine goesL_ (some 18) rfl rfl Try.func118 (by kernel_rfl) rfl #[.slice A192_0 ((rd_T26 l0 x5_1).f0).length c192_0, .int .i64 x1_1] rfl eqT ?_; (with_reducible refine (laws_heldLinkS.calls k1 _ _ ((rd_T26 l0 x5_1).f0) x1_1 t193 _ ?side1 ?side2 A5.out).mono ?_); (case side1 => repeat (first | exact HR192_0.out | (with_reducible refine Kd.C_alloc ?_ _) | (with_reducible refine Kd.C_drewN ?_ _) | (with_reducible refine Kd.C_drew ?_))); (case side2 => exact HC192_0.out); rintro e w' ⟨rfl, ⟨nd, rfl⟩⟩; refine ⟨_, rfl, ?_⟩))
      go_ret
      exact ⟨rdT, drT⟩
     ·rw [if_neg c6] at H
      have c6b0 : decide (t193 < 0) = false := decide_eq_false c6
      clear c6; have H' := Aside0.mk H; clear H
      have p192 : 0 ≤ (x5_1 : Int) := of_decide_eq_true asmT
      have q192 : x5_1 < (l0.length : Int) := of_decide_eq_true asmT
      obtain ⟨ad192, A192_0, c192_0, e192, hx192_0, hl192_0, hi192_0⟩ := at_T26 HR0.out x5_1 p192 q192
      cases e192
      have HR192_0 := Aside0.mk hi192_0; have HC192_0 := Aside0.mk hl192_0; clear hi192_0 hl192_0; replace p192 := eq_true p192; replace q192 := eq_true q192
      go_wp2_with (first | ((with_reducible refine gate_callee (f := 118) rfl ?_); refine goesL_ (some 18) rfl rfl Try.func118 (by kernel_rfl) rfl #[.slice A192_0 ((rd_T26 l0 x5_1).f0).length c192_0, .int .i64 x1_1] rfl eqT ?_; (with_reducible refine (laws_heldLinkS.calls k1 _ _ ((rd_T26 l0 x5_1).f0) x1_1 t193 _ ?side1 ?side2 A5.out).mono ?_); (case side1 => repeat (first | exact HR192_0.out | (with_reducible refine Kd.C_alloc ?_ _) | (with_reducible refine Kd.C_drewN ?_ _) | (with_reducible refine Kd.C_drew ?_))); (case side2 => exact HC192_0.out); rintro e w' ⟨rfl, ⟨nd, rfl⟩⟩; refine ⟨_, rfl, ?_⟩))
      go_roundg k1
      case measure => have := HK1.out; omega
      case rel => exact ⟨(t193), (wrap64 (x5_1 + 1)), rdT, rdT, H', ⟨by have := HK1.out; omega⟩, drT⟩
    ·rw [if_neg c4] at H
     exact absurd H (by simp)
   ·rw [if_neg c3] at H
    have c3b0 : decide (x5_1 < (l0.length : Int)) = false := decide_eq_false c3
    clear c3
    obtain rfl := Option.some.inj H
    go_wp2
    go_ret
    exact ⟨rdT, drT⟩

/-! ### laws_FnExactOneEdit: function 6 -/
def laws_FnExactOneEdit.f (k : Nat) (a0 : ByteArray) : Option (Bool) := if (a0.size : Int) > 1048576 then some true else ((spec_OneEdit.f k a0).bind fun b1 => ((impl_OneEdit.f k a0).bind fun b2 => ((laws_eqCandidateS.f k (b2) (b1)).bind fun b3 => (if (b3) = true then ((laws_markCandidateS.f k (b2) 1).bind fun b4 => ((laws_heldCandidateS.f k (b4.2) 1).bind fun b5 => (if (b5) < 0 then none else (if (b5) = (b4.1) then ((impl_OneEdit.f k a0).bind fun b6 => ((laws_eqCandidateS.f k (b6) (b1)).bind fun b7 => (if (b7) = true then ((laws_heldCandidateS.f k (b4.2) 1).bind fun b8 => (if (b8) < 0 then none else (if (b8) = (b4.1) then (some true) else none))) else none))) else none)))) else none))))
set_option maxHeartbeats 8000000 in
set_option maxRecDepth 100000 in
theorem laws_FnExactOneEdit.calls (k : Nat) (a0 : ByteArray) (r : Bool) (w : World) (h : laws_FnExactOneEdit.f k a0 = some r) :
    Calls Try.prog 6 #[.string a0] w fun e w' => e = .returned (.bool r) ∧ Below w.heap.size w w' := by
  unfold laws_FnExactOneEdit.f at h
  have HB0 : Aside0 (Below w.heap.size w w) := ⟨Below.refl _ _⟩
  by_cases cc : (a0.size : Int) > 1048576
  · rw [if_pos cc] at h
    obtain rfl := Option.some.inj h
    have cb0 : decide (1048576 < (a0.size : Int)) = true := decide_eq_true cc
    have cb1 : decide (1048576 < a0.size) = true := decide_eq_true (by omega)
    clear cc h
    go_enter Try.func6, Try.ntmps6
    go_wp2_with fail
    go_ret
    exact ⟨rfl, HB0.out⟩
  · rw [if_neg cc] at h
    have cba0sizeInt : decide (1048576 < (a0.size : Int)) = false := decide_eq_false cc
    have cba0sizeIntn : decide (1048576 < a0.size) = false := decide_eq_false (by omega)
    clear cc
    replace h := Option.bind_eq_some_iff.mp h; obtain ⟨t1_0, hf1_, h⟩ := h; have hf1 := asT hf1_; clear hf1_
    replace h := Option.bind_eq_some_iff.mp h; obtain ⟨t2_0, hf2_, h⟩ := h; have hf2 := asT hf2_; clear hf2_
    replace h := Option.bind_eq_some_iff.mp h; obtain ⟨t3_0, hf3_, h⟩ := h; have hf3 := asT hf3_; clear hf3_
    by_cases cc : t3_0 = true
    rotate_left
    · rw [if_neg cc] at h
      cases h
    rw [if_pos cc] at h
    subst cc
    replace h := Option.bind_eq_some_iff.mp h; obtain ⟨⟨t4_0, t4_1⟩, hf4_, h⟩ := h; have hf4 := asT hf4_; clear hf4_; try dsimp only at h
    replace h := Option.bind_eq_some_iff.mp h; obtain ⟨t5_0, hf5_, h⟩ := h; have hf5 := asT hf5_; clear hf5_
    by_cases cc : t5_0 < 0
    · rw [if_pos cc] at h
      cases h
    rw [if_neg cc] at h
    have cbt5_0 : decide (t5_0 < 0) = false := decide_eq_false cc
    clear cc
    by_cases cc : t5_0 = t4_0
    rotate_left
    · rw [if_neg cc] at h
      cases h
    rw [if_pos cc] at h
    subst cc
    replace h := Option.bind_eq_some_iff.mp h; obtain ⟨t6_0, hf6_, h⟩ := h; have hf6 := asT hf6_; clear hf6_
    replace h := Option.bind_eq_some_iff.mp h; obtain ⟨t7_0, hf7_, h⟩ := h; have hf7 := asT hf7_; clear hf7_
    by_cases cc : t7_0 = true
    rotate_left
    · rw [if_neg cc] at h
      cases h
    rw [if_pos cc] at h
    subst cc
    replace h := Option.bind_eq_some_iff.mp h; obtain ⟨t8_0, hf8_, h⟩ := h; have hf8 := asT hf8_; clear hf8_
    by_cases cc : t8_0 < 0
    · rw [if_pos cc] at h
      cases h
    rw [if_neg cc] at h
    have cbt8_0 : decide (t8_0 < 0) = false := decide_eq_false cc
    clear cc
    by_cases cc : t8_0 = t5_0
    rotate_left
    · rw [if_neg cc] at h
      cases h
    rw [if_pos cc] at h
    subst cc
    obtain rfl := Option.some.inj h
    clear h
    go_enter Try.func6, Try.ntmps6
    go_wp2_with (first
      | (go_at_call 66; refine (laws_heldCandidateS.calls k _ _ _ _ _ w7 (Kd.S_reads' L2_v0.out.now).2.2 (Kd.S_reads' L2_v0.out.now).2.1 hf8.out).mono ?_; rintro e w8 ⟨rfl, hb0⟩; have hb : Below w7.heap.size w7 w8 := hb0.below; clear hb0; have hz8 : Aside0 (w7.heap.size ≤ w8.heap.size) := ⟨hb.size⟩; replace L1_v0 := asT (L1_v0.out.below hb); replace L2_v0 := asT (L2_v0.out.below hb); replace L6_v0 := asT (L6_v0.out.below hb); have HB8 := asT (below_step HB7.out hb); clear hb)
      | (go_at_call 64; refine (laws_eqCandidateS.calls k _ _ _ _ _ _ _ w6 (Kd.S_reads' L6_v0.out.now).2.2 (Kd.S_reads' L6_v0.out.now).2.1 (Kd.N_reads' L1_v0.out.now).2.2 (Kd.N_reads' L1_v0.out.now).2.1 hf7.out).mono ?_; rintro e w7 ⟨rfl, hb0⟩; have hb : Below w6.heap.size w6 w7 := hb0; clear hb0; have hz7 : Aside0 (w6.heap.size ≤ w7.heap.size) := ⟨hb.size⟩; replace L1_v0 := asT (L1_v0.out.below hb); replace L2_v0 := asT (L2_v0.out.below hb); replace L6_v0 := asT (L6_v0.out.below hb); have HB7 := asT (below_step HB6.out hb); clear hb)
      | (go_at_call 47; refine (impl_OneEdit.calls k _ _ w5 hf6.out).mono ?_; rintro e w6 ⟨q6_v0_, rfl, ho0, hb0⟩; have hb : Below w5.heap.size w5 w6 := hb0; clear hb0; have hz6 : Aside0 (w5.heap.size ≤ w6.heap.size) := ⟨hb.size⟩; replace L1_v0 := asT (L1_v0.out.below hb); replace L2_v0 := asT (L2_v0.out.below hb); obtain ⟨A6_v0_, c6_v0_, ev⟩ := Kd.S_slice ho0; subst ev; have L6_v0 := asT (made_S ho0 HB5.out.size); have HB6 := asT (below_step HB5.out hb); clear hb ho0)
      | (go_at_call 66; refine (laws_heldCandidateS.calls k _ _ _ _ _ w4 (Kd.S_reads' L2_v0.out.now).2.2 (Kd.S_reads' L2_v0.out.now).2.1 hf5.out).mono ?_; rintro e w5 ⟨rfl, hb0⟩; have hb : Below w4.heap.size w4 w5 := hb0.below; clear hb0; have hz5 : Aside0 (w4.heap.size ≤ w5.heap.size) := ⟨hb.size⟩; replace L1_v0 := asT (L1_v0.out.below hb); replace L2_v0 := asT (L2_v0.out.below hb); have HB5 := asT (below_step HB4.out hb); clear hb)
      | (go_at_call 65; refine (laws_markCandidateS.calls k _ _ _ _ _ _ w w3 HB3.out L2_v0.out.now hf4.out).mono ?_; rintro e w4 ⟨rfl, ho0, hb, hk⟩; have hz4 : Aside0 (w3.heap.size ≤ w4.heap.size) := ⟨hk.1⟩; have L2_v0n := asT (left_S ho0 (Nat.le_trans L2_v0.out.1 hk.1)); replace L1_v0 := asT (L1_v0.out.far hk (by have := hz1.out; have := hz2.out; have := hz3.out; first | exact .inl (by omega) | exact .inr (by omega))); clear L2_v0; have L2_v0 := L2_v0n; clear L2_v0n; have en := (Kd.S_reads' L2_v0.out.now).1; rw [en] at L2_v0; (try rw [en]); clear en; have HB4 := asT hb; clear hb hk ho0)
      | (go_at_call 64; refine (laws_eqCandidateS.calls k _ _ _ _ _ _ _ w2 (Kd.S_reads' L2_v0.out.now).2.2 (Kd.S_reads' L2_v0.out.now).2.1 (Kd.N_reads' L1_v0.out.now).2.2 (Kd.N_reads' L1_v0.out.now).2.1 hf3.out).mono ?_; rintro e w3 ⟨rfl, hb0⟩; have hb : Below w2.heap.size w2 w3 := hb0; clear hb0; have hz3 : Aside0 (w2.heap.size ≤ w3.heap.size) := ⟨hb.size⟩; replace L1_v0 := asT (L1_v0.out.below hb); replace L2_v0 := asT (L2_v0.out.below hb); have HB3 := asT (below_step HB2.out hb); clear hb)
      | (go_at_call 47; refine (impl_OneEdit.calls k _ _ w1 hf2.out).mono ?_; rintro e w2 ⟨q2_v0_, rfl, ho0, hb0⟩; have hb : Below w1.heap.size w1 w2 := hb0; clear hb0; have hz2 : Aside0 (w1.heap.size ≤ w2.heap.size) := ⟨hb.size⟩; replace L1_v0 := asT (L1_v0.out.below hb); obtain ⟨A2_v0_, c2_v0_, ev⟩ := Kd.S_slice ho0; subst ev; have L2_v0 := asT (made_S ho0 HB1.out.size); have HB2 := asT (below_step HB1.out hb); clear hb ho0)
      | (go_at_call 48; refine (spec_OneEdit.calls k _ _ w hf1.out).mono ?_; rintro e w1 ⟨q1_v0_, rfl, ho0, hb0⟩; have hb : Below w.heap.size w w1 := hb0; clear hb0; have hz1 : Aside0 (w.heap.size ≤ w1.heap.size) := ⟨hb.size⟩; obtain ⟨A1_v0_, c1_v0_, ev⟩ := Kd.N_slice ho0; subst ev; have L1_v0 := asT (made_N ho0 HB0.out.size); have HB1 := asT (below_step HB0.out hb); clear hb ho0))
    go_ret
    exact ⟨rfl, HB8.out⟩


/-- THE ONE PURE STATEMENT of laws_FnExactOneEdit -/
def laws_FnExactOneEdit.Pure : Prop := ∀ (a0 : ByteArray), BdStr a0 → ∃ k, laws_FnExactOneEdit.f k a0 = some true
end Go.Proofs.Ytmfhaplhgaehhaa.PFnExactOneEdit
