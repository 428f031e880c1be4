-- Made by gen.py (a program of this session) out of the translation; Lean checks it.
import Derived.Test.YtlmfpkiaikjlbaaGreatPFnExactTableauOfx0
import Derived.Test.YtlmfpkiaikjlbaaGreatPFnExactTableauOfx9
namespace Go.Proofs.YtlmfpkiaikjlbaaGreat.PFnExactTableauOf
open Go.RowKit Go.Proofs.YtlmfpkiaikjlbaaGreatB Go.Proofs.YtlmfpkiaikjlbaaGreatW.PrintWords Go.Proofs.YtlmfpkiaikjlbaaGreatW.PrintLast Go.Proofs.YtlmfpkiaikjlbaaGreatW.PrintMore
attribute [local go_sem] max2_int min2_int max_two min_two max_three min_three max_four min_four   -- for this text's walks alone
set_option linter.unusedVariables false
set_option maxHeartbeats 8000000
set_option maxRecDepth 100000
set_option linter.unusedSimpArgs false
def laws_markLinkS.l0 : Nat → List (S109) → Int → Int → Option (Int × (List (S109)))
 | 0, _, _, _ => none
 | k + 1, x0, x1, x5 => if x5 < (x0.length : Int) then (if 0 ≤ x5 then ((some (x0.set (x5 : Int).toNat (⟨(x1) % 256, (rd_T109 x0 x5).f1⟩ : S109) : List (S109))).bind fun y491 => (laws_markLinkS.l0 k (y491.set (x5 : Int).toNat (⟨(rd_T109 y491 x5).f0, (wrap64 (x1 + 1)) % 256⟩ : S109)) (wrap64 ((wrap64 (x1 + 1)) + 1)) (wrap64 (x5 + 1)))) else (none)) else (some (x1, x0))
def laws_markLinkS.f (k : Nat) (l0 : List (S109)) (a1 : Int) : Option (Int × (List (S109))) := laws_markLinkS.l0 k l0 a1 0
theorem laws_markLinkS.mono_l : ∀ k, (∀ y0 y1 y2, LeO (laws_markLinkS.l0 k y0 y1 y2) (laws_markLinkS.l0 (k + 1) y0 y1 y2))
 | 0 => fun _ _ _ r h => by simp [laws_markLinkS.l0] at h
 | k + 1 => by
  have ih0 := laws_markLinkS.mono_l k
  ·intro y0 y1 y2; unfold laws_markLinkS.l0
   with_reducible repeat' first | exact ih0 _ _ _ | exact LeO.refl _ | exact LeO.none _ | refine LeO.ite ?_ ?_ | refine LeO.bind ?_ (fun _ => ?_)
theorem laws_markLinkS.mono : ∀ a0 a1 k, LeO (laws_markLinkS.f k a0 a1) (laws_markLinkS.f (k + 1) a0 a1) := by
 intro a0 a1 k; have ih0 := laws_markLinkS.mono_l k; unfold laws_markLinkS.f
 with_reducible repeat' first | exact ih0 _ _ _ | exact LeO.refl _ | exact LeO.none _ | refine LeO.ite ?_ ?_ | refine LeO.bind ?_ (fun _ => ?_)
theorem laws_markLinkS.calls (k : Nat) (P0_ : Nat → Prop) (u9000_ : Value) (l0 : List (S109)) (a1 : Int) (r1 : Int) (r2 : List (S109)) (w0 w : World) (hB : Below w0.heap.size w0 w) (ho0 : Kd.R k109 109 w w0.heap.size P0_ u9000_ l0) (h : laws_markLinkS.f k l0 a1 = some (r1, r2)) :
  Calls Tryz.prog 88 #[u9000_, .int .i64 a1] w fun e w' => e = .returned (.int .i64 r1) ∧ Kd.R k109 109 w' w0.heap.size (fun k_ => (P0_ k_ ∨ w.heap.size ≤ k_)) u9000_ r2 ∧ Below w0.heap.size w0 w' ∧ Kept w w' (fun k_ => P0_ k_) := by
 have HO0 := asT (show Kd.R k109 109 w w0.heap.size (fun k_ => (P0_ k_ ∨ w.heap.size ≤ k_)) u9000_ l0 from Kd.R_mono ho0 (fun k_ hk => (.inl hk))); have HK := asT (Kept.refl w (fun k_ => P0_ k_)); have HW0 := asT hB.size; have HB := asT hB; clear hB; have H := h; unfold laws_markLinkS.f at H; clear h; have H' := asT H; clear H; go_enter Tryz.func88, Tryz.ntmps88
 go_wp2
 go_loopg [1, 5] k (fun kq v1 v5 w' => ∃ (x0_1 : List (S109)) (x1_1 : Int) (x5_1 : Int), v1 = .int .i64 x1_1 ∧ v5 = .int .i64 x5_1 ∧ Aside0 (laws_markLinkS.l0 kq x0_1 x1_1 x5_1 = some (r1, r2)) ∧ Aside0 (kq ≤ k) ∧ Aside0 (Kd.R k109 109 w' w0.heap.size (fun k_ => (P0_ k_ ∨ w.heap.size ≤ k_)) u9000_ x0_1) ∧ Aside0 (Kept w w' (fun k_ => P0_ k_)) ∧ Aside0 (Below w0.heap.size w0 w'))
 case atStart => exact ⟨(l0), (a1), (0), rdT, rdT, H', ⟨Nat.le_refl _⟩, ⟨roT HO0.out⟩, ⟨by repeat (first | (with_reducible first | exact HK.out | apply Kept.alloc | apply Kept.drewN | apply Kept.drew) | exact HK.out)⟩, ⟨hbT HB.out⟩⟩
 case round =>
  clear H'; (try clear p2); obtain ⟨x0_1, x1_1, x5_1, rfl, rfl, HA, HK1, HO_0, HK, HB⟩ := hrel
  cases gk with
  | zero => exact absurd HA.out (by simp [laws_markLinkS.l0])
  | succ k1 =>
   have H := HA.out; clear HA
   simp only [laws_markLinkS.l0] at H
   by_cases c3 : x5_1 < (x0_1.length : Int)
   ·rw [if_pos c3] at H; have c3b0 := dt c3; clear c3; by_cases c4 : 0 ≤ x5_1
    ·rw [if_pos c4] at H; have c4b0 := dt c4; clear c4; obtain ⟨y491, hy491⟩ : ∃ y_ : List (S109), y_ = (x0_1.set (x5_1 : Int).toNat (⟨(x1_1) % 256, (rd_T109 x0_1 x5_1).f1⟩ : S109)) := ⟨_, rfl⟩
     replace H : (laws_markLinkS.l0 k1 (y491.set (x5_1 : Int).toNat (⟨(rd_T109 y491 x5_1).f0, (wrap64 (x1_1 + 1)) % 256⟩ : S109)) (wrap64 ((wrap64 (x1_1 + 1)) + 1)) (wrap64 (x5_1 + 1))) = some (r1, r2) := by first | (rw [hy491]; with_reducible exact H) | (have H2_ := (Option.bind_some _ _).symm.trans H; rw [hy491]; with_reducible exact H2_) | (have H2_ := (Option.bind_some _ _).symm.trans H; with_reducible exact H2_) | with_reducible exact H | (rw [hy491]; exact H) | exact H
     have Ny491 := asT hy491; clear hy491; obtain ⟨y492, hy492⟩ : ∃ y_ : List (S109), y_ = (y491.set (x5_1 : Int).toNat (⟨(rd_T109 y491 x5_1).f0, (wrap64 (x1_1 + 1)) % 256⟩ : S109)) := ⟨_, rfl⟩
     replace H : (laws_markLinkS.l0 k1 y492 (wrap64 ((wrap64 (x1_1 + 1)) + 1)) (wrap64 (x5_1 + 1))) = some (r1, r2) := by first | (rw [hy492]; with_reducible exact H) | (have H2_ := (Option.bind_some _ _).symm.trans H; rw [hy492]; with_reducible exact H2_) | (have H2_ := (Option.bind_some _ _).symm.trans H; with_reducible exact H2_) | with_reducible exact H | (rw [hy492]; exact H) | exact H
     have Ny492 := asT hy492; clear hy492; have H' := asT H; clear H; obtain ⟨Ao7, co7, eo7⟩ := Kd.R_slice HO_0.out; subst eo7; have p5 : 0 ≤ (x5_1 : Int) := dT asmT; have q5 : (x5_1 : Int) < ((x0_1.length : Int) : Int) := dT asmT; obtain ⟨go5, co5, eo5, gb5, gl5, cl5, HG5⟩ := Kd.R_form HO_0.out (by omega)
     (first | cases eo5 | (injection eo5 with ea_ en_ ec_; (first | subst ea_ | (injection ea_ with ea_; subst ea_)); subst ec_; clear en_))
     have GB5 := asT gb5; have GG5 := asT HG5; clear gb5 gl5 HG5; have HMgo5 := asT (show (P0_ go5 ∨ w.heap.size ≤ go5) from (HO_0.out.1 _ rfl)); obtain ⟨ce5, hcl5, hM5, hcc5, hfr5⟩ := Kd.R_elem HO_0.out z109 (x5_1 : Int) p5 q5; obtain rfl := k109_openM hM5; have hx5_0 : wr.cell? ⟨go5, (x5_1 : Int).toNat * 2, none⟩ = some (.int .u8 ((rd_T109 x0_1 x5_1).f0)) := hcc5 0 _ rfl; have hx5_1 : wr.cell? ⟨go5, (x5_1 : Int).toNat * 2 + 1, none⟩ = some (.int .u8 ((rd_T109 x0_1 x5_1).f1)) := hcc5 1 _ rfl; have hf5_0 : wr.frozen? ⟨go5, (x5_1 : Int).toNat * 2, none⟩ = false := hfr5 0; have hf5_1 : wr.frozen? ⟨go5, (x5_1 : Int).toNat * 2 + 1, none⟩ = false := hfr5 1; clear hcl5 hcc5 hfr5; (try clear hM5); replace p5 := eq_true p5; replace q5 := eq_true q5; have HX8 := asT (show Kd.R k109 109 wr w0.heap.size (fun k_ => (P0_ k_ ∨ w.heap.size ≤ k_)) (.slice (some ⟨go5, 0, none⟩) x0_1.length co7) x0_1 from (roT HO_0.out)); obtain ⟨ce8, hcl8, hM8, hcc8, hfr8⟩ := Kd.R_elem HX8.out z109 (x5_1 : Int) (dT asmT) (by have h_ : (x5_1 : Int) < ((x0_1.length : Int) : Int) := dT asmT; first | exact h_ | (have e_ := (Kd.R_reads' HO_0.out).1; omega) | simpa using h_); obtain rfl := k109_openM hM8; have HP8 := Kd.R_seg HX8.out (x5_1 : Int) (dT asmT) (by have h_ : (x5_1 : Int) < ((x0_1.length : Int) : Int) := dT asmT; first | exact h_ | (have e_ := (Kd.R_reads' HO_0.out).1; omega) | simpa using h_) (seg := [.int .u8 ((x1_1) % 256)]) (j := 0) hcl8 hcc8 (show 1 ≤ 2 from by decide) (x' := (⟨(x1_1) % 256, (rd_T109 x0_1 x5_1).f1⟩ : S109)) (k109_mkM _ _ _ (⟨(x1_1) % 256, (rd_T109 x0_1 x5_1).f1⟩ : S109) ) (fun _ hk => hk); have hx8_0 := hcc8 0 _ rfl
     (try simp only [show (k109).sz = 2 from rfl, Nat.mul_one, Nat.add_zero] at hx8_0)
     have hf8_0 := hfr8 0
     (try simp only [show (k109).sz = 2 from rfl, Nat.mul_one, Nat.add_zero] at hf8_0)
     clear hcl8 hcc8 hfr8; (try clear hM8)
     go_wp2_with (first | ((with_reducible refine gate_store (t := 5) (p := 17) rfl ?_); refine store_event (t := 5) (p := 17) (v := ?vo_w9) (w1 := (wr.setCell ⟨go5, (x5_1 : Int).toNat * 2, none⟩ (.int .u8 ((x1_1) % 256)))) ?hg ?ho ?hn ?hr ?_; (case ho => rfl); (case hg => rfl); (case hn => rfl); (case hr => first | (go_simp; done) | (go_simp; rfl)); intro w9 hw; have hg : wr.grownBy w9 (some go5) := (by rw [hw]; exact HP8.2); have hp_ : Kd.R k109 109 w9 w0.heap.size (fun k_ => (P0_ k_ ∨ w.heap.size ≤ k_)) (.slice (some ⟨go5, 0, none⟩) x0_1.length co7) y491 := (by rw [hw, Ny491.out]; exact HP8.1); clear HP8; replace HB := asT ((by rw [hw]; exact below_set (HB.out) GB5.out : Below w0.heap.size w0 w9)); replace HK := asT (Kept.of_grown (S := (fun k_ => P0_ k_)) hg (by repeat (first | (with_reducible first | exact HK.out | apply Kept.alloc | apply Kept.drewN | apply Kept.drew) | exact HK.out)) (fun k_ e_ => (HO_0.out.1 k_ e_))); replace HO_0 := asT (hp_); clear hg hw hp_; have p6 : 0 ≤ (x5_1 : Int) := dT asmT; have q6 : (x5_1 : Int) < ((x0_1.length : Int) : Int) := dT asmT; obtain ⟨ce6, hcl6, hM6, hcc6, hfr6⟩ := Kd.R_elem HO_0.out z109 (x5_1 : Int) p6 q6; obtain rfl := k109_openM hM6; have hx6_0 : w9.cell? ⟨go5, (x5_1 : Int).toNat * 2, none⟩ = some (.int .u8 ((rd_T109 y491 x5_1).f0)) := hcc6 0 _ rfl; have hx6_1 : w9.cell? ⟨go5, (x5_1 : Int).toNat * 2 + 1, none⟩ = some (.int .u8 ((rd_T109 y491 x5_1).f1)) := hcc6 1 _ rfl; have hf6_0 : w9.frozen? ⟨go5, (x5_1 : Int).toNat * 2, none⟩ = false := hfr6 0; have hf6_1 : w9.frozen? ⟨go5, (x5_1 : Int).toNat * 2 + 1, none⟩ = false := hfr6 1; clear hcl6 hcc6 hfr6; (try clear hM6); replace p6 := eq_true p6; replace q6 := eq_true q6; have HX10 := asT (show Kd.R k109 109 w9 w0.heap.size (fun k_ => (P0_ k_ ∨ w.heap.size ≤ k_)) (.slice (some ⟨go5, 0, none⟩) x0_1.length co7) y491 from (roT HO_0.out)); obtain ⟨ce10, hcl10, hM10, hcc10, hfr10⟩ := Kd.R_elem HX10.out z109 (x5_1 : Int) (dT asmT) (by have h_ : (x5_1 : Int) < ((x0_1.length : Int) : Int) := dT asmT; first | exact h_ | (have e_ := (Kd.R_reads' HO_0.out).1; omega) | simpa using h_); obtain rfl := k109_openM hM10; have HP10 := Kd.R_seg HX10.out (x5_1 : Int) (dT asmT) (by have h_ : (x5_1 : Int) < ((x0_1.length : Int) : Int) := dT asmT; first | exact h_ | (have e_ := (Kd.R_reads' HO_0.out).1; omega) | simpa using h_) (seg := [.int .u8 ((wrap64 (x1_1 + 1)) % 256)]) (j := 1) hcl10 hcc10 (show 2 ≤ 2 from by decide) (x' := (⟨(rd_T109 y491 x5_1).f0, (wrap64 (x1_1 + 1)) % 256⟩ : S109)) (k109_mkM _ _ _ (⟨(rd_T109 y491 x5_1).f0, (wrap64 (x1_1 + 1)) % 256⟩ : S109) ) (fun _ hk => hk); have hx10_1 := hcc10 1 _ rfl; (try simp only [show (k109).sz = 2 from rfl, Nat.mul_one, Nat.add_zero] at hx10_1); have hf10_1 := hfr10 1; (try simp only [show (k109).sz = 2 from rfl, Nat.mul_one, Nat.add_zero] at hf10_1); clear hcl10 hcc10 hfr10; (try clear hM10)) | ((with_reducible refine gate_store (t := 5) (p := 25) rfl ?_); refine store_event (t := 5) (p := 25) (v := ?vo_w11) (w1 := (w9.setCell ⟨go5, (x5_1 : Int).toNat * 2 + 1, none⟩ (.int .u8 ((wrap64 (x1_1 + 1)) % 256)))) ?hg ?ho ?hn ?hr ?_; (case ho => rfl); (case hg => rfl); (case hn => rfl); (case hr => first | (go_simp; done) | (go_simp; rfl)); intro w11 hw; have hg : w9.grownBy w11 (some go5) := (by rw [hw]; exact HP10.2); have hp_ : Kd.R k109 109 w11 w0.heap.size (fun k_ => (P0_ k_ ∨ w.heap.size ≤ k_)) (.slice (some ⟨go5, 0, none⟩) x0_1.length co7) y492 := (by rw [hw, Ny492.out]; exact HP10.1); clear HP10; replace HB := asT ((by rw [hw]; exact below_set (HB.out) GB5.out : Below w0.heap.size w0 w11)); replace HK := asT (Kept.of_grown (S := (fun k_ => P0_ k_)) hg (by repeat (first | (with_reducible first | exact HK.out | apply Kept.alloc | apply Kept.drewN | apply Kept.drew) | exact HK.out)) (fun k_ e_ => (HO_0.out.1 k_ e_))); replace HO_0 := asT (hp_); clear hg hw hp_))
     go_roundg k1
     case measure => have := HK1.out; omega
     case rel => exact ⟨(y492), (wrap64 ((wrap64 (x1_1 + 1)) + 1)), (wrap64 (x5_1 + 1)), rdT, rdT, H', ⟨by have := HK1.out; omega⟩, ⟨roT HO_0.out⟩, ⟨by repeat (first | (with_reducible first | exact HK.out | apply Kept.alloc | apply Kept.drewN | apply Kept.drew) | exact HK.out)⟩, ⟨hbT HB.out⟩⟩
    ·rw [if_neg c4] at H; exact absurd H (by simp)
   ·rw [if_neg c3] at H; have c3b0 := df c3; clear c3
    simp only [Option.some.injEq, Prod.mk.injEq] at H
    obtain ⟨rfl, rfl⟩ := H; obtain ⟨Ao12, co12, eo12⟩ := Kd.R_slice HO_0.out; subst eo12
    go_wp2
    go_ret; exact ⟨rlT, roT HO_0.out, hbT HB.out, by repeat (first | (with_reducible first | exact HK.out | apply Kept.alloc | apply Kept.drewN | apply Kept.drew) | exact HK.out)⟩
def laws_markCandidateS.l0 : Nat → List S60 → Int → Int → Option (Int × List S60)
  | 0, _, _, _ => none
  | k + 1, xs, a, i => if i < (xs.length : Int) then (if 0 ≤ i then ((laws_markLinkS.f k ((xs.getD i.toNat z60).f0) a).bind fun bt => laws_markCandidateS.l0 k (xs.set i.toNat (⟨bt.2⟩ : S60)) bt.1 (wrap64 (i + 1))) else none) else some (a, xs)
def laws_markCandidateS.f (k : Nat) (l0 : List S60) (a1 : Int) : Option (Int × List S60) := laws_markCandidateS.l0 k l0 a1 0
theorem laws_markCandidateS.mono_l : ∀ k, (∀ y0 y1 y2, LeO (laws_markCandidateS.l0 k y0 y1 y2) (laws_markCandidateS.l0 (k + 1) y0 y1 y2))
  | 0 => fun _ _ _ r h => by simp [laws_markCandidateS.l0] at h
  | k + 1 => by
    have ih0 := laws_markCandidateS.mono_l k; intro y0 y1 y2; unfold laws_markCandidateS.l0
    with_reducible repeat' first | exact ih0 _ _ _ | exact laws_markLinkS.mono _ _ _ | exact LeO.refl _ | exact LeO.none _ | refine LeO.ite ?_ ?_ | refine LeO.bind ?_ (fun _ => ?_)
theorem laws_markCandidateS.mono : ∀ a0 a1 k, LeO (laws_markCandidateS.f k a0 a1) (laws_markCandidateS.f (k + 1) a0 a1) := fun a0 a1 k => laws_markCandidateS.mono_l k a0 a1 0
theorem laws_markCandidateS.calls (k : Nat) (P0_ : Nat → Prop) (u_ : Value) (l0 : List S60) (a1 : Int) (r1 : Int) (r2 : List S60) (w0 w : World) (hB : Below w0.heap.size w0 w) (ho0 : Kd.S k60 60 w w0.heap.size P0_ u_ l0) (h : laws_markCandidateS.f k l0 a1 = some (r1, r2)) :
    Calls Tryz.prog 47 #[u_, .int .i64 a1] w fun e w' => e = .returned (.int .i64 r1) ∧ Kd.S k60 60 w' w0.heap.size P0_ u_ r2 ∧ Below w0.heap.size w0 w' ∧ Kept w w' P0_ := by
  obtain ⟨A, c, hu⟩ := Kd.S_slice ho0; subst hu; have H' := asT h; clear h; go_enter Tryz.func47, Tryz.ntmps47
  go_wp2
  go_loopg [1, 5] k (fun kq v1 v5 wr => ∃ (xs : List S60) (a i : Int), v1 = .int .i64 a ∧ v5 = .int .i64 i ∧ Aside0 (laws_markCandidateS.l0 kq xs a i = some (r1, r2)) ∧ Aside0 (kq ≤ k) ∧ Aside0 (xs.length = l0.length) ∧ Aside0 (Kd.S k60 60 wr w0.heap.size P0_ (.slice A l0.length c) xs) ∧ Aside0 (Below w0.heap.size w0 wr) ∧ Aside0 (Kept w wr P0_))
  case atStart => exact ⟨l0, a1, 0, rfl, rfl, H', ⟨Nat.le_refl _⟩, ⟨rfl⟩, ⟨ho0⟩, ⟨hB⟩, ⟨Nat.le_refl _, fun _ _ _ => rfl⟩⟩
  case round =>
    clear H' ho0 hB; obtain ⟨xs, a, i, rfl, rfl, HA, HK1, HL, HS, HB, HKp⟩ := hrel
    cases gk with
    | zero => exact absurd HA.out (by simp [laws_markCandidateS.l0])
    | succ k1 =>
      have H := HA.out; clear HA
      simp only [laws_markCandidateS.l0] at H
      by_cases c3 : i < (xs.length : Int)
      · rw [if_pos c3] at H; by_cases c4 : 0 ≤ i
        · rw [if_pos c4] at H; obtain ⟨⟨b1, b2⟩, hf, H2⟩ := Option.bind_eq_some_iff.mp H; clear H; obtain ⟨g, cap, e, hg0, hgl, _⟩ := Kd.S_form HS.out (by omega)
          injection e with e1 e2 e3
          subst e1; have hlen := HL.out; have c3b : decide (i < (l0.length : Int)) = true := dt (by omega); have p : (0 ≤ i) = True := eq_true c4; have q : (i < (l0.length : Int)) = True := eq_true (by omega); obtain ⟨oki, cs, hcl, hM, hcc, hoki, hH⟩ := Kd.S_lend HS.out z60 i c4 (show i < (l0.length : Int) by omega); obtain ⟨uv, rfl, hR⟩ := k60_openM hM; obtain ⟨A2, c2, e4⟩ := Kd.R_slice hR; subst e4
          have hx : wr.cell? ⟨g, i.toNat, none⟩ = some (.slice A2 (xs.getD i.toNat z60).f0.length c2) := by
            have := hcc 0 _ rfl
            rwa [show i.toNat * k60.sz + 0 = i.toNat from Nat.mul_one _] at this
          have hR' := asT hR; have hH' := asT hH; have hf' := asT hf; have H' := asT H2; have hM' := asT hoki; clear hR hH hf H2 hM hcc HS c3 hcl e2 e3 hlen
          go_wp2_with (first
            | (go_at_call 88; refine (laws_markLinkS.calls k1 oki _ _ a b1 b2 w0 wr HB.out hR'.out hf'.out).mono ?_; rintro e w2 ⟨rfl, hR2, hB2, hK2⟩; have HR2 := asT hR2; have HB2 := asT hB2; have HK2 := asT hK2; clear hR2 hB2 hK2))
          have c4 := of_eq_true p
          go_roundg k1
          case rel =>
            refine ⟨xs.set i.toNat (⟨b2⟩ : S60), b1, wrap64 (i + 1), rfl, by first | rfl | (simp only [i64_w]; done) | skip, H', ⟨by have := HK1.out; omega⟩, ⟨by rw [List.length_set]; exact HL.out⟩, ⟨?_⟩, HB2, ⟨?_⟩⟩
            · exact Kd.H_back (Kd.H_step hH'.out (fun k _ hn hlt => HK2.out.2 k hlt hn)) (k60_mkM _ _ _ (⟨b2⟩ : S60) (Kd.R_mono (Kd.R_tight rfl HR2.out) (fun k hk => hR'.out.1 k hk.symm))) (fun _ hk => hk)
            · exact ⟨Nat.le_trans HKp.out.1 HK2.out.1, fun k hlt hn => (HK2.out.2 k (Nat.lt_of_lt_of_le hlt HKp.out.1) (fun ho => hn (hM'.out k ho).1)).trans (HKp.out.2 k hlt hn)⟩
          case measure => have := HK1.out; omega
        · rw [if_neg c4] at H
          cases H
      · rw [if_neg c3] at H; obtain ⟨rfl, rfl⟩ := Prod.mk.inj (oI H); have hlen := HL.out; have c3b : decide (i < (l0.length : Int)) = false := df (by omega); clear hlen
        go_wp2
        go_ret; exact ⟨rfl, HS.out, HB.out, HKp.out⟩
def laws_markIntS.l0 : Nat → List Int → Int → Int → Option (Int × List Int)
 | 0, _, _, _ => none
 | k + 1, x0, x1, x5 => if x5 < (x0.length : Int) then (if 0 ≤ x5 then (laws_markIntS.l0 k (x0.set (x5 : Int).toNat x1) (wrap64 (x1 + 1)) (wrap64 (x5 + 1))) else (none)) else (some (x1, x0))
def laws_markIntS.f (k : Nat) (l0 : List Int) (a1 : Int) : Option (Int × List Int) := laws_markIntS.l0 k l0 a1 0
theorem laws_markIntS.mono_l : ∀ k, (∀ y0 y1 y2, LeO (laws_markIntS.l0 k y0 y1 y2) (laws_markIntS.l0 (k + 1) y0 y1 y2))
 | 0 => fun _ _ _ r h => by simp [laws_markIntS.l0] at h
 | k + 1 => by
  have ih0 := laws_markIntS.mono_l k
  ·intro y0 y1 y2; unfold laws_markIntS.l0
   with_reducible repeat' first | exact ih0 _ _ _ | exact LeO.refl _ | exact LeO.none _ | refine LeO.ite ?_ ?_ | refine LeO.bind ?_ (fun _ => ?_)
theorem laws_markIntS.mono : ∀ a0 a1 k, LeO (laws_markIntS.f k a0 a1) (laws_markIntS.f (k + 1) a0 a1) := by
 intro a0 a1 k; have ih0 := laws_markIntS.mono_l k; unfold laws_markIntS.f
 with_reducible repeat' first | exact ih0 _ _ _ | exact LeO.refl _ | exact LeO.none _ | refine LeO.ite ?_ ?_ | refine LeO.bind ?_ (fun _ => ?_)
theorem laws_markIntS.calls (k : Nat) (P0_ : Nat → Prop) (u9000_ : Value) (l0 : List Int) (a1 : Int) (r1 : Int) (r2 : List Int) (w0 w : World) (hB : Below w0.heap.size w0 w) (ho0 : Kd.R (Kd.int .i64) 3 w w0.heap.size P0_ u9000_ l0) (h : laws_markIntS.f k l0 a1 = some (r1, r2)) :
  Calls Tryz.prog 22 #[u9000_, .int .i64 a1] w fun e w' => e = .returned (.int .i64 r1) ∧ Kd.R (Kd.int .i64) 3 w' w0.heap.size (fun k_ => (P0_ k_ ∨ w.heap.size ≤ k_)) u9000_ r2 ∧ Below w0.heap.size w0 w' ∧ Kept w w' (fun k_ => P0_ k_) := by
 have HO0 := asT (show Kd.R (Kd.int .i64) 3 w w0.heap.size (fun k_ => (P0_ k_ ∨ w.heap.size ≤ k_)) u9000_ l0 from Kd.R_mono ho0 (fun k_ hk => (.inl hk))); have HK := asT (Kept.refl w (fun k_ => P0_ k_)); have HW0 := asT hB.size; have HB := asT hB; clear hB; have H := h; unfold laws_markIntS.f at H; clear h; have H' := asT H; clear H; go_enter Tryz.func22, Tryz.ntmps22
 go_wp2
 go_loopg [1, 5] k (fun kq v1 v5 w' => ∃ (x0_1 : List Int) (x1_1 : Int) (x5_1 : Int), v1 = .int .i64 x1_1 ∧ v5 = .int .i64 x5_1 ∧ Aside0 (laws_markIntS.l0 kq x0_1 x1_1 x5_1 = some (r1, r2)) ∧ Aside0 (kq ≤ k) ∧ Aside0 (Kd.R (Kd.int .i64) 3 w' w0.heap.size (fun k_ => (P0_ k_ ∨ w.heap.size ≤ k_)) u9000_ x0_1) ∧ Aside0 (Kept w w' (fun k_ => P0_ k_)) ∧ Aside0 (Below w0.heap.size w0 w'))
 case atStart => exact ⟨(l0), (a1), (0), rdT, rdT, H', ⟨Nat.le_refl _⟩, ⟨roT HO0.out⟩, ⟨by repeat (first | (with_reducible first | exact HK.out | apply Kept.alloc | apply Kept.drewN | apply Kept.drew) | exact HK.out)⟩, ⟨hbT HB.out⟩⟩
 case round =>
  clear H'; (try clear c2 p2); obtain ⟨x0_1, x1_1, x5_1, rfl, rfl, HA, HK1, HO_0, HK, HB⟩ := hrel
  cases gk with
  | zero => exact absurd HA.out (by simp [laws_markIntS.l0])
  | succ k1 =>
   have H := HA.out; clear HA
   simp only [laws_markIntS.l0] at H
   by_cases c3 : x5_1 < (x0_1.length : Int)
   ·rw [if_pos c3] at H; have c3b0 := dt c3; clear c3; by_cases c4 : 0 ≤ x5_1
    ·rw [if_pos c4] at H; have c4b0 := dt c4; clear c4; obtain ⟨y493, hy493⟩ : ∃ y_ : List Int, y_ = (x0_1.set (x5_1 : Int).toNat x1_1) := ⟨_, rfl⟩
     replace H : (laws_markIntS.l0 k1 y493 (wrap64 (x1_1 + 1)) (wrap64 (x5_1 + 1))) = some (r1, r2) := by first | (rw [hy493]; with_reducible exact H) | (have H2_ := (Option.bind_some _ _).symm.trans H; rw [hy493]; with_reducible exact H2_) | (have H2_ := (Option.bind_some _ _).symm.trans H; with_reducible exact H2_) | with_reducible exact H | (rw [hy493]; exact H) | exact H
     have Ny493 := asT hy493; clear hy493; have H' := asT H; clear H; obtain ⟨Ao6, co6, eo6⟩ := Kd.R_slice HO_0.out; subst eo6; have p5 : 0 ≤ (x5_1 : Int) := dT asmT; have q5 : (x5_1 : Int) < ((x0_1.length : Int) : Int) := dT asmT; obtain ⟨go5, co5, eo5, gb5, gl5, cl5, HG5⟩ := Kd.R_form HO_0.out (by omega)
     (first | cases eo5 | (injection eo5 with ea_ en_ ec_; (first | subst ea_ | (injection ea_ with ea_; subst ea_)); subst ec_; clear en_))
     have GB5 := asT gb5; have GG5 := asT HG5; clear gb5 gl5 HG5; have HMgo5 := asT (show (P0_ go5 ∨ w.heap.size ≤ go5) from (HO_0.out.1 _ rfl)); obtain ⟨hx5_0, hf5_0⟩ := Kd.R_celln 0 HO_0.out (x5_1 : Int) p5 q5; replace p5 := eq_true p5; replace q5 := eq_true q5; have HP7 := Kd.R_putg HO_0.out (x5_1 : Int) x1_1
     go_wp2_with (first | ((with_reducible refine gate_store (t := 3) (p := 15) rfl ?_); refine store_event (t := 3) (p := 15) (v := ?vo_w8) (w1 := (wr.setCell ⟨go5, (x5_1 : Int).toNat, none⟩ (.int .i64 x1_1))) ?hg ?ho ?hn ?hr ?_; (case ho => rfl); (case hg => rfl); (case hn => rfl); (case hr => first | (go_simp; done) | (go_simp; rfl)); intro w8 hw; have hg : wr.grownBy w8 (some go5) := (by rw [hw]; exact HP7.2); have hp_ : Kd.R (Kd.int .i64) 3 w8 w0.heap.size (fun k_ => (P0_ k_ ∨ w.heap.size ≤ k_)) (.slice (some ⟨go5, 0, none⟩) x0_1.length co6) y493 := (by rw [hw, Ny493.out]; exact HP7.1); clear HP7; replace HB := asT ((by rw [hw]; exact below_set (HB.out) GB5.out : Below w0.heap.size w0 w8)); replace HK := asT (Kept.of_grown (S := (fun k_ => P0_ k_)) hg (by repeat (first | (with_reducible first | exact HK.out | apply Kept.alloc | apply Kept.drewN | apply Kept.drew) | exact HK.out)) (fun k_ e_ => (HO_0.out.1 k_ e_))); replace HO_0 := asT (hp_); clear hg hw hp_))
     go_roundg k1
     case measure => have := HK1.out; omega
     case rel => exact ⟨(y493), (wrap64 (x1_1 + 1)), (wrap64 (x5_1 + 1)), rdT, rdT, H', ⟨by have := HK1.out; omega⟩, ⟨roT HO_0.out⟩, ⟨by repeat (first | (with_reducible first | exact HK.out | apply Kept.alloc | apply Kept.drewN | apply Kept.drew) | exact HK.out)⟩, ⟨hbT HB.out⟩⟩
    ·rw [if_neg c4] at H; exact absurd H (by simp)
   ·rw [if_neg c3] at H; have c3b0 := df c3; clear c3
    simp only [Option.some.injEq, Prod.mk.injEq] at H
    obtain ⟨rfl, rfl⟩ := H; obtain ⟨Ao9, co9, eo9⟩ := Kd.R_slice HO_0.out; subst eo9
    go_wp2
    go_ret; exact ⟨rlT, roT HO_0.out, hbT HB.out, by repeat (first | (with_reducible first | exact HK.out | apply Kept.alloc | apply Kept.drewN | apply Kept.drew) | exact HK.out)⟩
def laws_markIntSS.l0 : Nat → List (List Int) → Int → Int → Option (Int × List (List Int))
  | 0, _, _, _ => none
  | k + 1, xs, a, i => if i < (xs.length : Int) then (if 0 ≤ i then ((laws_markIntS.f k ((xs.getD i.toNat [])) a).bind fun bt => laws_markIntSS.l0 k (xs.set i.toNat bt.2) bt.1 (wrap64 (i + 1))) else none) else some (a, xs)
def laws_markIntSS.f (k : Nat) (l0 : List (List Int)) (a1 : Int) : Option (Int × List (List Int)) := laws_markIntSS.l0 k l0 a1 0
theorem laws_markIntSS.mono_l : ∀ k, (∀ y0 y1 y2, LeO (laws_markIntSS.l0 k y0 y1 y2) (laws_markIntSS.l0 (k + 1) y0 y1 y2))
  | 0 => fun _ _ _ r h => by simp [laws_markIntSS.l0] at h
  | k + 1 => by
    have ih0 := laws_markIntSS.mono_l k; intro y0 y1 y2; unfold laws_markIntSS.l0
    with_reducible repeat' first | exact ih0 _ _ _ | exact laws_markIntS.mono _ _ _ | exact LeO.refl _ | exact LeO.none _ | refine LeO.ite ?_ ?_ | refine LeO.bind ?_ (fun _ => ?_)
theorem laws_markIntSS.mono : ∀ a0 a1 k, LeO (laws_markIntSS.f k a0 a1) (laws_markIntSS.f (k + 1) a0 a1) := fun a0 a1 k => laws_markIntSS.mono_l k a0 a1 0
theorem laws_markIntSS.calls (k : Nat) (P0_ : Nat → Prop) (u_ : Value) (l0 : List (List Int)) (a1 : Int) (r1 : Int) (r2 : List (List Int)) (w0 w : World) (hB : Below w0.heap.size w0 w) (ho0 : Kd.S (Kd.slice 3 (Kd.int .i64)) 39 w w0.heap.size P0_ u_ l0) (h : laws_markIntSS.f k l0 a1 = some (r1, r2)) :
    Calls Tryz.prog 48 #[u_, .int .i64 a1] w fun e w' => e = .returned (.int .i64 r1) ∧ Kd.S (Kd.slice 3 (Kd.int .i64)) 39 w' w0.heap.size P0_ u_ r2 ∧ Below w0.heap.size w0 w' ∧ Kept w w' P0_ := by
  obtain ⟨A, c, hu⟩ := Kd.S_slice ho0; subst hu; have H' := asT h; clear h; go_enter Tryz.func48, Tryz.ntmps48
  go_wp2
  go_loopg [1, 5] k (fun kq v1 v5 wr => ∃ (xs : List (List Int)) (a i : Int), v1 = .int .i64 a ∧ v5 = .int .i64 i ∧ Aside0 (laws_markIntSS.l0 kq xs a i = some (r1, r2)) ∧ Aside0 (kq ≤ k) ∧ Aside0 (xs.length = l0.length) ∧ Aside0 (Kd.S (Kd.slice 3 (Kd.int .i64)) 39 wr w0.heap.size P0_ (.slice A l0.length c) xs) ∧ Aside0 (Below w0.heap.size w0 wr) ∧ Aside0 (Kept w wr P0_))
  case atStart => exact ⟨l0, a1, 0, rfl, rfl, H', ⟨Nat.le_refl _⟩, ⟨rfl⟩, ⟨ho0⟩, ⟨hB⟩, ⟨Nat.le_refl _, fun _ _ _ => rfl⟩⟩
  case round =>
    clear H' ho0 hB; obtain ⟨xs, a, i, rfl, rfl, HA, HK1, HL, HS, HB, HKp⟩ := hrel
    cases gk with
    | zero => exact absurd HA.out (by simp [laws_markIntSS.l0])
    | succ k1 =>
      have H := HA.out; clear HA
      simp only [laws_markIntSS.l0] at H
      by_cases c3 : i < (xs.length : Int)
      · rw [if_pos c3] at H; by_cases c4 : 0 ≤ i
        · rw [if_pos c4] at H; obtain ⟨⟨b1, b2⟩, hf, H2⟩ := Option.bind_eq_some_iff.mp H; clear H; obtain ⟨g, cap, e, hg0, hgl, _⟩ := Kd.S_form HS.out (by omega)
          injection e with e1 e2 e3
          subst e1; have hlen := HL.out; have c3b : decide (i < (l0.length : Int)) = true := dt (by omega); have p : (0 ≤ i) = True := eq_true c4; have q : (i < (l0.length : Int)) = True := eq_true (by omega); obtain ⟨oki, cs, hcl, hM, hcc, hoki, hH⟩ := Kd.S_lend HS.out ([] : List Int) i c4 (show i < (l0.length : Int) by omega); obtain ⟨uv, rfl, hR⟩ := hM; obtain ⟨A2, c2, e4⟩ := Kd.R_slice hR; subst e4
          have hx : wr.cell? ⟨g, i.toNat, none⟩ = some (.slice A2 (xs.getD i.toNat []).length c2) := by
            have := hcc 0 _ rfl
            rwa [show i.toNat * (Kd.slice 3 (Kd.int .i64)).sz + 0 = i.toNat from Nat.mul_one _] at this
          have hR' := asT hR; have hH' := asT hH; have hf' := asT hf; have H' := asT H2; have hM' := asT hoki; clear hR hH hf H2 hcc HS c3 hcl e2 e3 hlen
          go_wp2_with (first
            | (go_at_call 22; refine (laws_markIntS.calls k1 oki _ _ a b1 b2 w0 wr HB.out hR'.out hf'.out).mono ?_; rintro e w2 ⟨rfl, hR2, hB2, hK2⟩; have HR2 := asT hR2; have HB2 := asT hB2; have HK2 := asT hK2; clear hR2 hB2 hK2))
          have c4 := of_eq_true p
          go_roundg k1
          case rel =>
            refine ⟨xs.set i.toNat b2, b1, wrap64 (i + 1), rfl, by first | rfl | (simp only [i64_w]; done) | skip, H', ⟨by have := HK1.out; omega⟩, ⟨by rw [List.length_set]; exact HL.out⟩, ⟨?_⟩, HB2, ⟨?_⟩⟩
            · exact Kd.H_back (Kd.H_step hH'.out (fun k _ hn hlt => HK2.out.2 k hlt hn)) (show Kd.M (Kd.slice 3 (Kd.int .i64)) _ _ _ b2 _ from ⟨_, rfl, Kd.R_mono (Kd.R_tight rfl HR2.out) (fun k hk => hR'.out.1 k hk.symm)⟩) (fun _ hk => hk)
            · exact ⟨Nat.le_trans HKp.out.1 HK2.out.1, fun k hlt hn => (HK2.out.2 k (Nat.lt_of_lt_of_le hlt HKp.out.1) (fun ho => hn (hM'.out k ho).1)).trans (HKp.out.2 k hlt hn)⟩
          case measure => have := HK1.out; omega
        · rw [if_neg c4] at H
          cases H
      · rw [if_neg c3] at H; obtain ⟨rfl, rfl⟩ := Prod.mk.inj (oI H); have hlen := HL.out; have c3b : decide (i < (l0.length : Int)) = false := df (by omega); clear hlen
        go_wp2
        go_ret; exact ⟨rfl, HS.out, HB.out, HKp.out⟩
def laws_markTableau.f (k : Nat) (a0_0 : ByteArray) (l0_1 : List ByteArray) (l0_2 : List S60) (l0_3 : List (List Int)) (a1 : Int) : Option (Int × List ByteArray × List S60 × List (List Int)) := (laws_markStringS.f k l0_1 a1).bind fun t1 => (laws_markCandidateS.f k l0_2 t1.1).bind fun t2 => (laws_markIntSS.f k l0_3 t2.1).bind fun t3 => some (t3.1, t1.2, t2.2, t3.2)
theorem laws_markTableau.mono : ∀ a0 a1 a2 a3 a4 k, LeO (laws_markTableau.f k a0 a1 a2 a3 a4) (laws_markTableau.f (k + 1) a0 a1 a2 a3 a4) := by
  intro a0 a1 a2 a3 a4 k; unfold laws_markTableau.f; exact LeO.bind (laws_markStringS.mono _ _ k) (fun _ => LeO.bind (laws_markCandidateS.mono _ _ k) (fun _ => LeO.bind (laws_markIntSS.mono _ _ k) (fun _ => LeO.refl _)))
/-- the blocks of P that hold cells of these types -/
def Typd (P : Nat → Prop) (W : World) (es : List Nat) (b : Nat) : Nat → Prop := fun k => P k ∧ b ≤ k ∧ k < W.heap.size ∧ ∃ q, q ∈ es ∧ ∃ cells, W.heap[k]? = some (.cells cells q (0, 0))
theorem typd_apart {P : Nat → Prop} {W : World} {es fs : List Nat} {b k : Nat} (hd : ∀ q, q ∈ es → ∀ q', q' ∈ fs → q ≠ q') (h : Typd P W es b k) : ¬ Typd P W fs b k := by
  rintro ⟨_, _, _, q', hq', c', hc'⟩; obtain ⟨_, _, _, q, hq, c, hc⟩ := h; rw [hc] at hc'
  injection oI hc' with _ e _
  exact hd q hq q' hq' e
theorem laws_markTableau.calls (k : Nat) (P0_ : Nat → Prop) (a0_0 : ByteArray) (u1_ u2_ u3_ : Value) (l0_1 : List ByteArray) (l0_2 : List S60) (l0_3 : List (List Int)) (a1 : Int) (r1 : Int) (r2 : List ByteArray) (r3 : List S60) (r4 : List (List Int)) (w0 w : World) (hB : Below w0.heap.size w0 w) (ho0_1 : Kd.R Kd.string 9 w w0.heap.size P0_ u1_ l0_1) (ho0_2 : Kd.S k60 60 w w0.heap.size P0_ u2_ l0_2) (ho0_3 : Kd.S (Kd.slice 3 (Kd.int .i64)) 39 w w0.heap.size P0_ u3_ l0_3) (h : laws_markTableau.f k a0_0 l0_1 l0_2 l0_3 a1 = some (r1, r2, r3, r4)) :
    Calls Tryz.prog 15 #[.agg #[.string a0_0, u1_, u2_, u3_], .int .i64 a1] w fun e w' => e = .returned (.int .i64 r1) ∧ Kd.R Kd.string 9 w' w0.heap.size (fun k_ => (P0_ k_ ∨ w.heap.size ≤ k_)) u1_ r2 ∧ Kd.S k60 60 w' w0.heap.size P0_ u2_ r3 ∧ Kd.S (Kd.slice 3 (Kd.int .i64)) 39 w' w0.heap.size P0_ u3_ r4 ∧ Below w0.heap.size w0 w' ∧ Kept w w' (fun k_ => P0_ k_) := by
  unfold laws_markTableau.f at h; replace h := Option.bind_eq_some_iff.mp h; obtain ⟨⟨m1, q1⟩, hf1, h⟩ := h; replace h := Option.bind_eq_some_iff.mp h; obtain ⟨⟨m2, q2⟩, hf2, h⟩ := h; replace h := Option.bind_eq_some_iff.mp h; obtain ⟨⟨m3, q3⟩, hf3, h⟩ := h
  simp only [Option.some.injEq, Prod.mk.injEq] at h
  obtain ⟨rfl, rfl, rfl, rfl⟩ := h
  dsimp only at hf1 hf2 hf3
  have HF1 := asT hf1; have HF2 := asT hf2; have HF3 := asT hf3; clear hf1 hf2 hf3; have HO1 : Aside0 (Kd.R Kd.string 9 w w0.heap.size (Typd P0_ w (9 :: Kd.string.E) w0.heap.size) u1_ l0_1) := ⟨Kd.R_mono (Kd.R_bound ho0_1) (fun k hk => hk)⟩; have HO2 : Aside0 (Kd.S k60 60 w w0.heap.size (Typd P0_ w (60 :: k60.E) w0.heap.size) u2_ l0_2) := ⟨Kd.S_mono (Kd.S_bound ho0_2) (fun k hk => hk)⟩; have HO3 : Aside0 (Kd.S (Kd.slice 3 (Kd.int .i64)) 39 w w0.heap.size (Typd P0_ w (39 :: (Kd.slice 3 (Kd.int .i64)).E) w0.heap.size) u3_ l0_3) := ⟨Kd.S_mono (Kd.S_bound ho0_3) (fun k hk => hk)⟩; have d12 : Aside0 (∀ q, q ∈ (9 :: Kd.string.E) → ∀ q', q' ∈ (60 :: k60.E) → q ≠ q') := ⟨by decide⟩; have d13 : Aside0 (∀ q, q ∈ (9 :: Kd.string.E) → ∀ q', q' ∈ (39 :: (Kd.slice 3 (Kd.int .i64)).E) → q ≠ q') := ⟨by decide⟩; have d23 : Aside0 (∀ q, q ∈ (60 :: k60.E) → ∀ q', q' ∈ (39 :: (Kd.slice 3 (Kd.int .i64)).E) → q ≠ q') := ⟨by decide⟩; have HB := asT hB; clear ho0_1 ho0_2 ho0_3 hB; go_enter Tryz.func15, Tryz.ntmps15
  go_wp2_with (first
    | ((with_reducible refine gate_dst (N := 2) rfl ?_); refine boxT (N := 2) (cs := #[.string a0_0, u1_, u2_, u3_]) (t := 27) ?_; intro gx hgx w1 hbox hb; have HG := asT hgx; have HX1 := asT hb; have BK1 := asT hbox; have HB1 := asT (below_step HB.out hb); have P1 := asT (Kd.R_below HO1.out hb); have P2 := asT (Kd.S_below HO2.out hb); have P3 := asT (Kd.S_below HO3.out hb); clear hgx hb hbox; have x1 := bc1 BK1.out; have x2 := bc2 BK1.out; have x3 := bc3 BK1.out)
    | (go_at_call 14; refine (laws_markStringS.calls k _ u1_ l0_1 a1 m1 q1 w0 w1 HB1.out P1.out HF1.out).mono ?_; rintro e w2 ⟨rfl, ho, hb, hk⟩; have HK2 := asT hk; have HB2 := asT hb; have O1 := asT ho; have BK2 := asT (blk_kept BK1.out hk (fun hin => by have := hin.2.2.1; have := HG.out; omega)); have P2' := asT (Kd.S_step P2.out (fun k hk' hlt => hk.2 k (Nat.lt_of_lt_of_le hk'.2.2.1 HX1.out.size) (fun h1 => typd_apart d12.out h1 hk'))); have P3' := asT (Kd.S_step P3.out (fun k hk' hlt => hk.2 k (Nat.lt_of_lt_of_le hk'.2.2.1 HX1.out.size) (fun h1 => typd_apart d13.out h1 hk'))); clear ho hb hk x1 x2 x3; have y1 := bc1 BK2.out; have y2 := bc2 BK2.out; have y3 := bc3 BK2.out)
    | (go_at_call 47; refine (laws_markCandidateS.calls k _ u2_ l0_2 m1 m2 q2 w0 w2 HB2.out P2'.out HF2.out).mono ?_; rintro e w3 ⟨rfl, ho, hb, hk⟩; have HK3 := asT hk; have HB3 := asT hb; have O2 := asT ho; have BK3 := asT (blk_kept BK2.out hk (fun hin => by have := hin.2.2.1; have := HG.out; omega)); have P3'' := asT (Kd.S_step P3'.out (fun k hk' hlt => hk.2 k (Nat.lt_of_lt_of_le (Nat.lt_of_lt_of_le hk'.2.2.1 HX1.out.size) HK2.out.1) (fun h1 => typd_apart d23.out h1 hk'))); clear ho hb hk y1 y2 y3; have z1 := bc1 BK3.out; have z2 := bc2 BK3.out; have z3 := bc3 BK3.out)
    | (go_at_call 48; refine (laws_markIntSS.calls k _ u3_ l0_3 m2 m3 q3 w0 w3 HB3.out P3''.out HF3.out).mono ?_; rintro e w4 ⟨rfl, ho, hb, hk⟩; have HK4 := asT hk; have HB4 := asT hb; have O3 := asT ho; clear ho hb hk z1 z2 z3))
  go_ret; have k2 := HK2.out; have k3 := HK3.out; have k4 := HK4.out; have s1 := HX1.out.size; refine ⟨rfl, ?_, ?_, ?_, HB4.out, ?_, ?_⟩
  · refine Kd.R_mono (Kd.R_step (Kd.R_step O1.out (fun k hk hlt => k3.2 k (by omega) (fun h1 => ?_))) (fun k hk hlt => k4.2 k (by have := k3.1; omega) (fun h1 => ?_))) (fun k hk => hk.elim (fun h => .inl h.1) (fun h => .inr (by omega)))
    · rcases hk with h | h
      · exact typd_apart d12.out h h1
      · have := h1.2.2.1
        omega
    · rcases hk with h | h
      · exact typd_apart d13.out h h1
      · have := h1.2.2.1
        omega
  · exact Kd.S_mono (Kd.S_step O2.out (fun k hk hlt => k4.2 k (by omega) (fun h1 => typd_apart d23.out hk h1))) (fun k hk => hk.1)
  · exact Kd.S_mono O3.out (fun k hk => hk.1)
  · have := k2.1; have := k3.1; have := k4.1
    omega
  · intro k hk hP; have h2 := k2.1; have h3 := k3.1; rw [k4.2 k (by omega) (fun h1 => hP h1.1), k3.2 k (by omega) (fun h1 => hP h1.1), k2.2 k (by omega) (fun h1 => hP h1.1), HX1.out.block k hk]
def laws_heldStringS.l0 : Nat → List ByteArray → Int → Int → Option (Int)
 | 0, _, _, _ => none
 | k + 1, x0, x1, x5 => if x5 < (x0.length : Int) then (if 0 ≤ x5 then ((laws_markText.f k x1).bind fun t495 => (if (rdOf ByteArray.empty x0 x5).toList = t495.toList then (laws_heldStringS.l0 k x0 (wrap64 (x1 + 1)) (wrap64 (x5 + 1))) else (some (-1)))) else (none)) else (some x1)
def laws_heldStringS.f (k : Nat) (l0 : List ByteArray) (a1 : Int) : Option (Int) := laws_heldStringS.l0 k l0 a1 0
theorem laws_heldStringS.mono_l : ∀ k, (∀ y0 y1 y2, LeO (laws_heldStringS.l0 k y0 y1 y2) (laws_heldStringS.l0 (k + 1) y0 y1 y2))
 | 0 => fun _ _ _ r h => by simp [laws_heldStringS.l0] at h
 | k + 1 => by
  have ih0 := laws_heldStringS.mono_l k
  ·intro y0 y1 y2; unfold laws_heldStringS.l0
   with_reducible repeat' first | exact ih0 _ _ _ | exact laws_markText.mono _ _ | exact LeO.refl _ | exact LeO.none _ | refine LeO.ite ?_ ?_ | refine LeO.bind ?_ (fun _ => ?_)
theorem laws_heldStringS.mono : ∀ a0 a1 k, LeO (laws_heldStringS.f k a0 a1) (laws_heldStringS.f (k + 1) a0 a1) := by
 intro a0 a1 k; have ih0 := laws_heldStringS.mono_l k; unfold laws_heldStringS.f
 with_reducible repeat' first | exact ih0 _ _ _ | exact laws_markText.mono _ _ | exact LeO.refl _ | exact LeO.none _ | refine LeO.ite ?_ ?_ | refine LeO.bind ?_ (fun _ => ?_)
theorem laws_heldStringS.calls (k : Nat) (A0 : Option Addr) (c0 : Nat) (l0 : List ByteArray) (a1 : Int) (r : Int) (w : World) (hr0 : Kd.C Kd.string w A0 l0.length l0) (hc0 : l0.length ≤ c0) (h : laws_heldStringS.f k l0 a1 = some r) :
  Calls Tryz.prog 34 #[.slice A0 l0.length c0, .int .i64 a1] w fun e w' => e = .returned (.int .i64 r) ∧ Below w.heap.size w w' := by
 have HR0 := asT hr0; have HC0 := asT hc0; clear hr0 hc0; have HB := asT (Below.refl w.heap.size w); have H := h; unfold laws_heldStringS.f at H; clear h; have H' := asT H; clear H; go_enter Tryz.func34, Tryz.ntmps34
 go_wp2
 go_loopg [1, 5] k (fun kq v1 v5 w' => ∃ (x1_1 : Int) (x5_1 : Int), v1 = .int .i64 x1_1 ∧ v5 = .int .i64 x5_1 ∧ Aside0 (laws_heldStringS.l0 kq l0 x1_1 x5_1 = some r) ∧ Aside0 (kq ≤ k) ∧ Aside0 (Below w.heap.size w w'))
 case atStart => exact ⟨(a1), (0), rdT, rdT, H', ⟨Nat.le_refl _⟩, ⟨hbT HB.out⟩⟩
 case round =>
  clear H'; (try clear p2); obtain ⟨x1_1, x5_1, rfl, rfl, HA, HK1, HB⟩ := hrel
  cases gk with
  | zero => exact absurd HA.out (by simp [laws_heldStringS.l0])
  | succ k1 =>
   have H := HA.out; clear HA
   simp only [laws_heldStringS.l0] at H
   by_cases c3 : x5_1 < (l0.length : Int)
   ·rw [if_pos c3] at H; have c3b0 := dt c3; clear c3; by_cases c4 : 0 ≤ x5_1
    ·rw [if_pos c4] at H; have c4b0 := dt c4; clear c4; obtain ⟨t495, A5, H⟩ := be H; by_cases c6 : (rdOf ByteArray.empty l0 x5_1).toList = t495.toList
     ·rw [if_pos c6] at H; have c6b0 : ((rdOf ByteArray.empty l0 x5_1).toList == t495.toList) = true := eC c6; have c6b1 : ((rdOf ByteArray.empty l0 x5_1).toList != t495.toList) = false := eA c6; clear c6; have H' := asT H; clear H
      try go_wp2
      replace HB := asT (below_drew1 HB.out); have p494 : 0 ≤ (x5_1 : Int) := dT asmT; have q494 : x5_1 < (l0.length : Int) := dT asmT; obtain ⟨ad494, e494, hx494_0⟩ := Kd.at_string HR0.out x5_1 p494 q494; have hw494_0 := hx494_0
      cases e494
      replace hx494_0 := hbc HB.out hx494_0; replace p494 := eq_true p494; replace q494 := eq_true q494; refine start_ (n := 7) (S := fun w' => w'.cell? (ad494.add (x5_1).toNat) = some (.string (rdOf ByteArray.empty l0 x5_1))) (ds := []) (bA 7 0) (by kernel_rfl) rfl rfl (((HB.out.cell (World.block_lt_of_cell? w _ hw494_0)).trans hw494_0)) (fun hHeld => ?_); generalize wr.drew = w7 at HB hx494_0 hHeld ⊢; refine pure_ (i := 0) (N := some 12) (v := ?_) (a' := ?_) (bA 7 1) rfl rfl (by kernel_rfl) (fun _ _ _ h => h) (Or.inl ⟨by rfl, ?_⟩) ?_ ?_
      rotate_left
      ·intro w'
       go_simp
       (with_reducible rfl)
      rotate_left
      ·simp only [Act.put, sA, sZ, sS, i64_w, i32_w]
       rfl
      refine pure_ (i := 1) (N := some 13) (v := ?_) (a' := ?_) (bA 7 3) rfl rfl (by kernel_rfl) (fun _ _ _ h => h) (Or.inl ⟨by rfl, ?_⟩) ?_ ?_
      rotate_left
      ·intro w'
       go_simp
       (with_reducible rfl)
      rotate_left
      ·simp only [Act.put, sA, sZ, sS, i64_w, i32_w]
       rfl
      refine pure_ (i := 2) (N := some 14) (v := ?_) (a' := ?_) (bA 7 7) rfl rfl (by kernel_rfl) (fun _ _ _ h => h) (Or.inl ⟨by rfl, ?_⟩) ?_ ?_
      rotate_left
      ·intro w'
       go_simp
       (with_reducible rfl)
      rotate_left
      ·simp only [Act.put, sA, sZ, sS, i64_w, i32_w]
       rfl
      refine pure_ (i := 4) (N := some 16) (v := ?_) (a' := ?_) (bA 7 23) rfl rfl (by kernel_rfl) (fun _ _ _ h => h) (Or.inl ⟨by rfl, ?_⟩) ?_ ?_
      rotate_left
      ·intro w'
       go_simp
       (with_reducible rfl)
      rotate_left
      ·simp only [Act.put, sA, sZ, sS, i64_w, i32_w]
       rfl
      refine take_ (i := 3) (N := some 15) (v := ?_) (a' := ?_) (bA 7 31) rfl rfl (by kernel_rfl) (fun _ _ _ h => h) (Or.inl ⟨by rfl, ?_⟩) hHeld ?_ ?_
      rotate_left
      ·intro w' s0
       go_simp
       (with_reducible rfl)
      rotate_left
      ·simp only [Act.put, sA, sZ, sS, i64_w, i32_w]
       rfl
      refine one_ (i := 5) (N := some 17) (bA 7 63) rfl rfl (by kernel_rfl) (by decide) (fun K hK => ?_); refine goes_ Tryz.func46 (by kernel_rfl) rfl #[.int .i64 x1_1] (by rfl) rfl rfl eqT ?_
      (with_reducible refine (laws_markText.calls k1 x1_1 t495 _ A5.out).mono ?_); rintro e w8 ⟨rfl, hb⟩; refine ⟨_, rfl, ?_⟩; replace HB := hS HB hb; (try clear hb hb2 hk hi)
      refine hK.out _ _ (((HB.out.cell (World.block_lt_of_cell? w _ hw494_0)).trans hw494_0)) (fun hHeld => ?_); clear hK K; refine nB 17 ?_ rfl; refine pure_ (i := 6) (N := some 18) (v := ?_) (a' := ?_) (bA 7 127) rfl rfl (by kernel_rfl) (fun _ _ _ h => h) (Or.inl ⟨by rfl, ?_⟩) ?_ ?_
      rotate_left
      ·intro w'
       go_simp
       (with_reducible rfl)
      rotate_left
      ·simp only [Act.put, sA, sZ, sS, i64_w, i32_w]
       rfl
      refine done_ (by kernel_rfl) ?_
      try go_wp2
      go_roundg k1
      case measure => have := HK1.out; omega
      case rel => exact ⟨(wrap64 (x1_1 + 1)), (wrap64 (x5_1 + 1)), rdT, rdT, H', ⟨by have := HK1.out; omega⟩, ⟨hbT HB.out⟩⟩
     ·rw [if_neg c6] at H; have c6b0 : ((rdOf ByteArray.empty l0 x5_1).toList == t495.toList) = false := eB c6; have c6b1 : ((rdOf ByteArray.empty l0 x5_1).toList != t495.toList) = true := eD c6; obtain rfl := oI H
      try go_wp2
      replace HB := asT (below_drew1 HB.out); have p494 : 0 ≤ (x5_1 : Int) := dT asmT; have q494 : x5_1 < (l0.length : Int) := dT asmT; obtain ⟨ad494, e494, hx494_0⟩ := Kd.at_string HR0.out x5_1 p494 q494; have hw494_0 := hx494_0
      cases e494
      replace hx494_0 := hbc HB.out hx494_0; replace p494 := eq_true p494; replace q494 := eq_true q494; refine start_ (n := 7) (S := fun w' => w'.cell? (ad494.add (x5_1).toNat) = some (.string (rdOf ByteArray.empty l0 x5_1))) (ds := []) (bA 7 0) (by kernel_rfl) rfl rfl (((HB.out.cell (World.block_lt_of_cell? w _ hw494_0)).trans hw494_0)) (fun hHeld => ?_); generalize wr.drew = w9 at HB hx494_0 hHeld ⊢; refine pure_ (i := 0) (N := some 12) (v := ?_) (a' := ?_) (bA 7 1) rfl rfl (by kernel_rfl) (fun _ _ _ h => h) (Or.inl ⟨by rfl, ?_⟩) ?_ ?_
      rotate_left
      ·intro w'
       go_simp
       (with_reducible rfl)
      rotate_left
      ·simp only [Act.put, sA, sZ, sS, i64_w, i32_w]
       rfl
      refine pure_ (i := 1) (N := some 13) (v := ?_) (a' := ?_) (bA 7 3) rfl rfl (by kernel_rfl) (fun _ _ _ h => h) (Or.inl ⟨by rfl, ?_⟩) ?_ ?_
      rotate_left
      ·intro w'
       go_simp
       (with_reducible rfl)
      rotate_left
      ·simp only [Act.put, sA, sZ, sS, i64_w, i32_w]
       rfl
      refine pure_ (i := 2) (N := some 14) (v := ?_) (a' := ?_) (bA 7 7) rfl rfl (by kernel_rfl) (fun _ _ _ h => h) (Or.inl ⟨by rfl, ?_⟩) ?_ ?_
      rotate_left
      ·intro w'
       go_simp
       (with_reducible rfl)
      rotate_left
      ·simp only [Act.put, sA, sZ, sS, i64_w, i32_w]
       rfl
      refine pure_ (i := 4) (N := some 16) (v := ?_) (a' := ?_) (bA 7 23) rfl rfl (by kernel_rfl) (fun _ _ _ h => h) (Or.inl ⟨by rfl, ?_⟩) ?_ ?_
      rotate_left
      ·intro w'
       go_simp
       (with_reducible rfl)
      rotate_left
      ·simp only [Act.put, sA, sZ, sS, i64_w, i32_w]
       rfl
      refine take_ (i := 3) (N := some 15) (v := ?_) (a' := ?_) (bA 7 31) rfl rfl (by kernel_rfl) (fun _ _ _ h => h) (Or.inl ⟨by rfl, ?_⟩) hHeld ?_ ?_
      rotate_left
      ·intro w' s0
       go_simp
       (with_reducible rfl)
      rotate_left
      ·simp only [Act.put, sA, sZ, sS, i64_w, i32_w]
       rfl
      refine one_ (i := 5) (N := some 17) (bA 7 63) rfl rfl (by kernel_rfl) (by decide) (fun K hK => ?_); refine goes_ Tryz.func46 (by kernel_rfl) rfl #[.int .i64 x1_1] (by rfl) rfl rfl eqT ?_
      (with_reducible refine (laws_markText.calls k1 x1_1 t495 _ A5.out).mono ?_); rintro e w10 ⟨rfl, hb⟩; refine ⟨_, rfl, ?_⟩; replace HB := hS HB hb; (try clear hb hb2 hk hi)
      refine hK.out _ _ (((HB.out.cell (World.block_lt_of_cell? w _ hw494_0)).trans hw494_0)) (fun hHeld => ?_); clear hK K; refine nB 17 ?_ rfl; refine pure_ (i := 6) (N := some 18) (v := ?_) (a' := ?_) (bA 7 127) rfl rfl (by kernel_rfl) (fun _ _ _ h => h) (Or.inl ⟨by rfl, ?_⟩) ?_ ?_
      rotate_left
      ·intro w'
       go_simp
       (with_reducible rfl)
      rotate_left
      ·simp only [Act.put, sA, sZ, sS, i64_w, i32_w]
       rfl
      refine done_ (by kernel_rfl) ?_
      try go_wp2
      go_ret; exact ⟨rlT, hbT HB.out⟩
    ·rw [if_neg c4] at H; exact absurd H (by simp)
   ·rw [if_neg c3] at H; have c3b0 := df c3; clear c3; obtain rfl := oI H
    go_wp2
    go_ret; exact ⟨rlT, hbT HB.out⟩
def laws_heldLinkS.l0 : Nat → List (S109) → Int → Int → Option (Int)
 | 0, _, _, _ => none
 | k + 1, x0, x1, x5 => if x5 < (x0.length : Int) then (if 0 ≤ x5 then (if ((rd_T109 x0 x5).f0) = ((x1) % 256) then (if ((rd_T109 x0 x5).f1) = ((wrap64 (x1 + 1)) % 256) then (laws_heldLinkS.l0 k x0 (wrap64 ((wrap64 (x1 + 1)) + 1)) (wrap64 (x5 + 1))) else (some (-1))) else (some (-1))) else (none)) else (some x1)
def laws_heldLinkS.f (k : Nat) (l0 : List (S109)) (a1 : Int) : Option (Int) := laws_heldLinkS.l0 k l0 a1 0
theorem laws_heldLinkS.mono_l : ∀ k, (∀ y0 y1 y2, LeO (laws_heldLinkS.l0 k y0 y1 y2) (laws_heldLinkS.l0 (k + 1) y0 y1 y2))
 | 0 => fun _ _ _ r h => by simp [laws_heldLinkS.l0] at h
 | k + 1 => by
  have ih0 := laws_heldLinkS.mono_l k
  ·intro y0 y1 y2; unfold laws_heldLinkS.l0
   with_reducible repeat' first | exact ih0 _ _ _ | exact LeO.refl _ | exact LeO.none _ | refine LeO.ite ?_ ?_ | refine LeO.bind ?_ (fun _ => ?_)
theorem laws_heldLinkS.mono : ∀ a0 a1 k, LeO (laws_heldLinkS.f k a0 a1) (laws_heldLinkS.f (k + 1) a0 a1) := by
 intro a0 a1 k; have ih0 := laws_heldLinkS.mono_l k; unfold laws_heldLinkS.f
 with_reducible repeat' first | exact ih0 _ _ _ | exact LeO.refl _ | exact LeO.none _ | refine LeO.ite ?_ ?_ | refine LeO.bind ?_ (fun _ => ?_)
theorem laws_heldLinkS.calls (k : Nat) (A0 : Option Addr) (c0 : Nat) (l0 : List (S109)) (a1 : Int) (r : Int) (w : World) (hr0 : Kd.C k109 w A0 l0.length l0) (hc0 : l0.length ≤ c0) (h : laws_heldLinkS.f k l0 a1 = some r) :
  Calls Tryz.prog 89 #[.slice A0 l0.length c0, .int .i64 a1] w fun e w' => e = .returned (.int .i64 r) ∧ Drawn0 w w' := by
 have HR0 := asT hr0; have HC0 := asT hc0; clear hr0 hc0; have H := h; unfold laws_heldLinkS.f at H; clear h; have H' := asT H; clear H; go_enter Tryz.func89, Tryz.ntmps89
 go_wp2
 go_loopg [1, 5] k (fun kq v1 v5 w' => ∃ (x1_1 : Int) (x5_1 : Int), v1 = .int .i64 x1_1 ∧ v5 = .int .i64 x5_1 ∧ Aside0 (laws_heldLinkS.l0 kq l0 x1_1 x5_1 = some r) ∧ Aside0 (kq ≤ k) ∧ Drawn0 w w')
 case atStart => exact ⟨(a1), (0), rdT, rdT, H', ⟨Nat.le_refl _⟩, drT⟩
 case round =>
  clear H'; (try clear p2); obtain ⟨x1_1, x5_1, rfl, rfl, HA, HK1, ⟨m1, rfl⟩⟩ := hrel
  cases gk with
  | zero => exact absurd HA.out (by simp [laws_heldLinkS.l0])
  | succ k1 =>
   have H := HA.out; clear HA
   simp only [laws_heldLinkS.l0] at H
   by_cases c3 : x5_1 < (l0.length : Int)
   ·rw [if_pos c3] at H; have c3b0 := dt c3; clear c3; by_cases c4 : 0 ≤ x5_1
    ·rw [if_pos c4] at H; have c4b0 := dt c4; clear c4; by_cases c5 : ((rd_T109 l0 x5_1).f0) = ((x1_1) % 256)
     ·rw [if_pos c5] at H; have c5b0 : (((rd_T109 l0 x5_1).f0) == ((x1_1) % 256)) = true := eC c5; have c5b1 : (((rd_T109 l0 x5_1).f0) != ((x1_1) % 256)) = false := eA c5; clear c5; by_cases c6 : ((rd_T109 l0 x5_1).f1) = ((wrap64 (x1_1 + 1)) % 256)
      ·rw [if_pos c6] at H; have c6b0 : (((rd_T109 l0 x5_1).f1) == ((wrap64 (x1_1 + 1)) % 256)) = true := eC c6; have c6b1 : (((rd_T109 l0 x5_1).f1) != ((wrap64 (x1_1 + 1)) % 256)) = false := eA c6; clear c6; have H' := asT H; clear H; have p496 : 0 ≤ (x5_1 : Int) := dT asmT; have q496 : x5_1 < (l0.length : Int) := dT asmT; obtain ⟨ad496, e496, hx496_0, hx496_1⟩ := at_T109 HR0.out x5_1 p496 q496
       cases e496
       replace p496 := eq_true p496; replace q496 := eq_true q496; have p497 : 0 ≤ (x5_1 : Int) := dT asmT; have q497 : x5_1 < (l0.length : Int) := dT asmT; obtain ⟨ad497, e497, hx497_0, hx497_1⟩ := at_T109 HR0.out x5_1 p497 q497; obtain rfl : ad496 = ad497 := (by injection e497); replace p497 := eq_true p497; replace q497 := eq_true q497
       go_wp2
       go_roundg k1
       case measure => have := HK1.out; omega
       case rel => exact ⟨(wrap64 ((wrap64 (x1_1 + 1)) + 1)), (wrap64 (x5_1 + 1)), rdT, rdT, H', ⟨by have := HK1.out; omega⟩, drT⟩
      ·rw [if_neg c6] at H; have c6b0 : (((rd_T109 l0 x5_1).f1) == ((wrap64 (x1_1 + 1)) % 256)) = false := eB c6; have c6b1 : (((rd_T109 l0 x5_1).f1) != ((wrap64 (x1_1 + 1)) % 256)) = true := eD c6; obtain rfl := oI H; have p496 : 0 ≤ (x5_1 : Int) := dT asmT; have q496 : x5_1 < (l0.length : Int) := dT asmT; obtain ⟨ad496, e496, hx496_0, hx496_1⟩ := at_T109 HR0.out x5_1 p496 q496
       cases e496
       replace p496 := eq_true p496; replace q496 := eq_true q496; have p497 : 0 ≤ (x5_1 : Int) := dT asmT; have q497 : x5_1 < (l0.length : Int) := dT asmT; obtain ⟨ad497, e497, hx497_0, hx497_1⟩ := at_T109 HR0.out x5_1 p497 q497; obtain rfl : ad496 = ad497 := (by injection e497); replace p497 := eq_true p497; replace q497 := eq_true q497
       go_wp2
       go_ret; exact ⟨rdT, drT⟩
     ·rw [if_neg c5] at H; have c5b0 : (((rd_T109 l0 x5_1).f0) == ((x1_1) % 256)) = false := eB c5; have c5b1 : (((rd_T109 l0 x5_1).f0) != ((x1_1) % 256)) = true := eD c5; obtain rfl := oI H; have p496 : 0 ≤ (x5_1 : Int) := dT asmT; have q496 : x5_1 < (l0.length : Int) := dT asmT; obtain ⟨ad496, e496, hx496_0, hx496_1⟩ := at_T109 HR0.out x5_1 p496 q496
      cases e496
      replace p496 := eq_true p496; replace q496 := eq_true q496
      go_wp2
      go_ret; exact ⟨rdT, drT⟩
    ·rw [if_neg c4] at H; exact absurd H (by simp)
   ·rw [if_neg c3] at H; have c3b0 := df c3; clear c3; obtain rfl := oI H
    go_wp2
    go_ret; exact ⟨rdT, drT⟩
def laws_heldCandidateS.l0 : Nat → List (S60) → Int → Int → Option (Int)
 | 0, _, _, _ => none
 | k + 1, x0, x1, x5 => if x5 < (x0.length : Int) then (if 0 ≤ x5 then ((laws_heldLinkS.f k ((rd_T60 x0 x5).f0) x1).bind fun t499 => (if t499 < 0 then (some (-1)) else (laws_heldCandidateS.l0 k x0 t499 (wrap64 (x5 + 1))))) else (none)) else (some x1)
def laws_heldCandidateS.f (k : Nat) (l0 : List (S60)) (a1 : Int) : Option (Int) := laws_heldCandidateS.l0 k l0 a1 0
theorem laws_heldCandidateS.mono_l : ∀ k, (∀ y0 y1 y2, LeO (laws_heldCandidateS.l0 k y0 y1 y2) (laws_heldCandidateS.l0 (k + 1) y0 y1 y2))
 | 0 => fun _ _ _ r h => by simp [laws_heldCandidateS.l0] at h
 | k + 1 => by
  have ih0 := laws_heldCandidateS.mono_l k
  ·intro y0 y1 y2; unfold laws_heldCandidateS.l0
   with_reducible repeat' first | exact ih0 _ _ _ | exact laws_heldLinkS.mono _ _ _ | exact LeO.refl _ | exact LeO.none _ | refine LeO.ite ?_ ?_ | refine LeO.bind ?_ (fun _ => ?_)
theorem laws_heldCandidateS.mono : ∀ a0 a1 k, LeO (laws_heldCandidateS.f k a0 a1) (laws_heldCandidateS.f (k + 1) a0 a1) := by
 intro a0 a1 k; have ih0 := laws_heldCandidateS.mono_l k; unfold laws_heldCandidateS.f
 with_reducible repeat' first | exact ih0 _ _ _ | exact laws_heldLinkS.mono _ _ _ | exact LeO.refl _ | exact LeO.none _ | refine LeO.ite ?_ ?_ | refine LeO.bind ?_ (fun _ => ?_)
theorem laws_heldCandidateS.calls (k : Nat) (A0 : Option Addr) (c0 : Nat) (l0 : List (S60)) (a1 : Int) (r : Int) (w : World) (hr0 : Kd.C k60 w A0 l0.length l0) (hc0 : l0.length ≤ c0) (h : laws_heldCandidateS.f k l0 a1 = some r) :
  Calls Tryz.prog 49 #[.slice A0 l0.length c0, .int .i64 a1] w fun e w' => e = .returned (.int .i64 r) ∧ Drawn0 w w' := by
 have HR0 := asT hr0; have HC0 := asT hc0; clear hr0 hc0; have H := h; unfold laws_heldCandidateS.f at H; clear h; have H' := asT H; clear H; go_enter Tryz.func49, Tryz.ntmps49
 go_wp2
 go_loopg [1, 5] k (fun kq v1 v5 w' => ∃ (x1_1 : Int) (x5_1 : Int), v1 = .int .i64 x1_1 ∧ v5 = .int .i64 x5_1 ∧ Aside0 (laws_heldCandidateS.l0 kq l0 x1_1 x5_1 = some r) ∧ Aside0 (kq ≤ k) ∧ Drawn0 w w')
 case atStart => exact ⟨(a1), (0), rdT, rdT, H', ⟨Nat.le_refl _⟩, drT⟩
 case round =>
  clear H'; (try clear p2); obtain ⟨x1_1, x5_1, rfl, rfl, HA, HK1, ⟨m1, rfl⟩⟩ := hrel
  cases gk with
  | zero => exact absurd HA.out (by simp [laws_heldCandidateS.l0])
  | succ k1 =>
   have H := HA.out; clear HA
   simp only [laws_heldCandidateS.l0] at H
   by_cases c3 : x5_1 < (l0.length : Int)
   ·rw [if_pos c3] at H; have c3b0 := dt c3; clear c3; by_cases c4 : 0 ≤ x5_1
    ·rw [if_pos c4] at H; have c4b0 := dt c4; clear c4; obtain ⟨t499, A5, H⟩ := be H; by_cases c6 : t499 < 0
     ·rw [if_pos c6] at H; have c6b0 := dt c6; clear c6; obtain rfl := oI H; have p498 : 0 ≤ (x5_1 : Int) := dT asmT; have q498 : x5_1 < (l0.length : Int) := dT asmT; obtain ⟨ad498, A498_0, c498_0, e498, hx498_0, hl498_0, hi498_0⟩ := at_T60 HR0.out x5_1 p498 q498
      cases e498
      have HR498_0 := asT hi498_0; have HC498_0 := asT hl498_0; clear hi498_0 hl498_0; replace p498 := eq_true p498; replace q498 := eq_true q498
      go_wp2_with (first | ((with_reducible refine gate_callee (f := 89) rfl ?_); refine goesL_ (some 18) rfl rfl Tryz.func89 (by kernel_rfl) rfl #[.slice A498_0 ((rd_T60 l0 x5_1).f0).length c498_0, .int .i64 x1_1] rfl eqT ?_; (with_reducible refine (laws_heldLinkS.calls k1 _ _ ((rd_T60 l0 x5_1).f0) x1_1 t499 _ ?side1 ?side2 A5.out).mono ?_); (case side1 => exact caT HR498_0.out); (case side2 => exact HC498_0.out); rintro e w' ⟨rfl, ⟨nd, rfl⟩⟩; refine ⟨_, rfl, ?_⟩))
      go_ret; exact ⟨rdT, drT⟩
     ·rw [if_neg c6] at H; have c6b0 := df c6; clear c6; have H' := asT H; clear H; have p498 : 0 ≤ (x5_1 : Int) := dT asmT; have q498 : x5_1 < (l0.length : Int) := dT asmT; obtain ⟨ad498, A498_0, c498_0, e498, hx498_0, hl498_0, hi498_0⟩ := at_T60 HR0.out x5_1 p498 q498
      cases e498
      have HR498_0 := asT hi498_0; have HC498_0 := asT hl498_0; clear hi498_0 hl498_0; replace p498 := eq_true p498; replace q498 := eq_true q498
      go_wp2_with (first | ((with_reducible refine gate_callee (f := 89) rfl ?_); refine goesL_ (some 18) rfl rfl Tryz.func89 (by kernel_rfl) rfl #[.slice A498_0 ((rd_T60 l0 x5_1).f0).length c498_0, .int .i64 x1_1] rfl eqT ?_; (with_reducible refine (laws_heldLinkS.calls k1 _ _ ((rd_T60 l0 x5_1).f0) x1_1 t499 _ ?side1 ?side2 A5.out).mono ?_); (case side1 => exact caT HR498_0.out); (case side2 => exact HC498_0.out); rintro e w' ⟨rfl, ⟨nd, rfl⟩⟩; refine ⟨_, rfl, ?_⟩))
      go_roundg k1
      case measure => have := HK1.out; omega
      case rel => exact ⟨(t499), (wrap64 (x5_1 + 1)), rdT, rdT, H', ⟨by have := HK1.out; omega⟩, drT⟩
    ·rw [if_neg c4] at H; exact absurd H (by simp)
   ·rw [if_neg c3] at H; have c3b0 := df c3; clear c3; obtain rfl := oI H
    go_wp2
    go_ret; exact ⟨rdT, drT⟩
def laws_heldIntS.l0 : Nat → List Int → Int → Int → Option (Int)
 | 0, _, _, _ => none
 | k + 1, x0, x1, x5 => if x5 < (x0.length : Int) then (if 0 ≤ x5 then (if (rd x0 x5) = x1 then (laws_heldIntS.l0 k x0 (wrap64 (x1 + 1)) (wrap64 (x5 + 1))) else (some (-1))) else (none)) else (some x1)
def laws_heldIntS.f (k : Nat) (l0 : List Int) (a1 : Int) : Option (Int) := laws_heldIntS.l0 k l0 a1 0
theorem laws_heldIntS.mono_l : ∀ k, (∀ y0 y1 y2, LeO (laws_heldIntS.l0 k y0 y1 y2) (laws_heldIntS.l0 (k + 1) y0 y1 y2))
 | 0 => fun _ _ _ r h => by simp [laws_heldIntS.l0] at h
 | k + 1 => by
  have ih0 := laws_heldIntS.mono_l k
  ·intro y0 y1 y2; unfold laws_heldIntS.l0
   with_reducible repeat' first | exact ih0 _ _ _ | exact LeO.refl _ | exact LeO.none _ | refine LeO.ite ?_ ?_ | refine LeO.bind ?_ (fun _ => ?_)
theorem laws_heldIntS.mono : ∀ a0 a1 k, LeO (laws_heldIntS.f k a0 a1) (laws_heldIntS.f (k + 1) a0 a1) := by
 intro a0 a1 k; have ih0 := laws_heldIntS.mono_l k; unfold laws_heldIntS.f
 with_reducible repeat' first | exact ih0 _ _ _ | exact LeO.refl _ | exact LeO.none _ | refine LeO.ite ?_ ?_ | refine LeO.bind ?_ (fun _ => ?_)
theorem laws_heldIntS.calls (k : Nat) (A0 : Option Addr) (c0 : Nat) (l0 : List Int) (a1 : Int) (r : Int) (w : World) (hr0 : Kd.C (Kd.int .i64) w A0 l0.length l0) (hc0 : l0.length ≤ c0) (h : laws_heldIntS.f k l0 a1 = some r) :
  Calls Tryz.prog 23 #[.slice A0 l0.length c0, .int .i64 a1] w fun e w' => e = .returned (.int .i64 r) ∧ Drawn0 w w' := by
 have HR0 := asT hr0; have HC0 := asT hc0; clear hr0 hc0; have H := h; unfold laws_heldIntS.f at H; clear h; have H' := asT H; clear H; go_enter Tryz.func23, Tryz.ntmps23
 go_wp2
 go_loopg [1, 5] k (fun kq v1 v5 w' => ∃ (x1_1 : Int) (x5_1 : Int), v1 = .int .i64 x1_1 ∧ v5 = .int .i64 x5_1 ∧ Aside0 (laws_heldIntS.l0 kq l0 x1_1 x5_1 = some r) ∧ Aside0 (kq ≤ k) ∧ Drawn0 w w')
 case atStart => exact ⟨(a1), (0), rdT, rdT, H', ⟨Nat.le_refl _⟩, drT⟩
 case round =>
  clear H'; (try clear c2 p2); obtain ⟨x1_1, x5_1, rfl, rfl, HA, HK1, ⟨m1, rfl⟩⟩ := hrel
  cases gk with
  | zero => exact absurd HA.out (by simp [laws_heldIntS.l0])
  | succ k1 =>
   have H := HA.out; clear HA
   simp only [laws_heldIntS.l0] at H
   by_cases c3 : x5_1 < (l0.length : Int)
   ·rw [if_pos c3] at H; have c3b0 := dt c3; clear c3; by_cases c4 : 0 ≤ x5_1
    ·rw [if_pos c4] at H; have c4b0 := dt c4; clear c4; by_cases c5 : (rd l0 x5_1) = x1_1
     ·rw [if_pos c5] at H; have c5b0 : ((rd l0 x5_1) == x1_1) = true := eC c5; have c5b1 : ((rd l0 x5_1) != x1_1) = false := eA c5; clear c5; have H' := asT H; clear H; have p500 : 0 ≤ (x5_1 : Int) := dT asmT; have q500 : x5_1 < (l0.length : Int) := dT asmT; obtain ⟨ad500, e500, hx500_0⟩ := Kd.at_int HR0.out x5_1 p500 q500
      cases e500
      replace p500 := eq_true p500; replace q500 := eq_true q500
      go_wp2
      go_roundg k1
      case measure => have := HK1.out; omega
      case rel => exact ⟨(wrap64 (x1_1 + 1)), (wrap64 (x5_1 + 1)), rdT, rdT, H', ⟨by have := HK1.out; omega⟩, drT⟩
     ·rw [if_neg c5] at H; have c5b0 : ((rd l0 x5_1) == x1_1) = false := eB c5; have c5b1 : ((rd l0 x5_1) != x1_1) = true := eD c5; obtain rfl := oI H; have p500 : 0 ≤ (x5_1 : Int) := dT asmT; have q500 : x5_1 < (l0.length : Int) := dT asmT; obtain ⟨ad500, e500, hx500_0⟩ := Kd.at_int HR0.out x5_1 p500 q500
      cases e500
      replace p500 := eq_true p500; replace q500 := eq_true q500
      go_wp2
      go_ret; exact ⟨rdT, drT⟩
    ·rw [if_neg c4] at H; exact absurd H (by simp)
   ·rw [if_neg c3] at H; have c3b0 := df c3; clear c3; obtain rfl := oI H
    go_wp2
    go_ret; exact ⟨rdT, drT⟩
def laws_heldIntSS.l0 : Nat → List (List Int) → Int → Int → Option (Int)
 | 0, _, _, _ => none
 | k + 1, x0, x1, x5 => if x5 < (x0.length : Int) then (if 0 ≤ x5 then ((laws_heldIntS.f k (rd_L6 x0 x5) x1).bind fun t502 => (if t502 < 0 then (some (-1)) else (laws_heldIntSS.l0 k x0 t502 (wrap64 (x5 + 1))))) else (none)) else (some x1)
def laws_heldIntSS.f (k : Nat) (l0 : List (List Int)) (a1 : Int) : Option (Int) := laws_heldIntSS.l0 k l0 a1 0
theorem laws_heldIntSS.mono_l : ∀ k, (∀ y0 y1 y2, LeO (laws_heldIntSS.l0 k y0 y1 y2) (laws_heldIntSS.l0 (k + 1) y0 y1 y2))
 | 0 => fun _ _ _ r h => by simp [laws_heldIntSS.l0] at h
 | k + 1 => by
  have ih0 := laws_heldIntSS.mono_l k
  ·intro y0 y1 y2; unfold laws_heldIntSS.l0
   with_reducible repeat' first | exact ih0 _ _ _ | exact laws_heldIntS.mono _ _ _ | exact LeO.refl _ | exact LeO.none _ | refine LeO.ite ?_ ?_ | refine LeO.bind ?_ (fun _ => ?_)
theorem laws_heldIntSS.mono : ∀ a0 a1 k, LeO (laws_heldIntSS.f k a0 a1) (laws_heldIntSS.f (k + 1) a0 a1) := by
 intro a0 a1 k; have ih0 := laws_heldIntSS.mono_l k; unfold laws_heldIntSS.f
 with_reducible repeat' first | exact ih0 _ _ _ | exact laws_heldIntS.mono _ _ _ | exact LeO.refl _ | exact LeO.none _ | refine LeO.ite ?_ ?_ | refine LeO.bind ?_ (fun _ => ?_)
theorem laws_heldIntSS.calls (k : Nat) (A0 : Option Addr) (c0 : Nat) (l0 : List (List Int)) (a1 : Int) (r : Int) (w : World) (hr0 : Kd.C (Kd.slice 3 (Kd.int .i64)) w A0 l0.length l0) (hc0 : l0.length ≤ c0) (h : laws_heldIntSS.f k l0 a1 = some r) :
  Calls Tryz.prog 50 #[.slice A0 l0.length c0, .int .i64 a1] w fun e w' => e = .returned (.int .i64 r) ∧ Drawn0 w w' := by
 have HR0 := asT hr0; have HC0 := asT hc0; clear hr0 hc0; have H := h; unfold laws_heldIntSS.f at H; clear h; have H' := asT H; clear H; go_enter Tryz.func50, Tryz.ntmps50
 go_wp2
 go_loopg [1, 5] k (fun kq v1 v5 w' => ∃ (x1_1 : Int) (x5_1 : Int), v1 = .int .i64 x1_1 ∧ v5 = .int .i64 x5_1 ∧ Aside0 (laws_heldIntSS.l0 kq l0 x1_1 x5_1 = some r) ∧ Aside0 (kq ≤ k) ∧ Drawn0 w w')
 case atStart => exact ⟨(a1), (0), rdT, rdT, H', ⟨Nat.le_refl _⟩, drT⟩
 case round =>
  clear H'; (try clear p2); obtain ⟨x1_1, x5_1, rfl, rfl, HA, HK1, ⟨m1, rfl⟩⟩ := hrel
  cases gk with
  | zero => exact absurd HA.out (by simp [laws_heldIntSS.l0])
  | succ k1 =>
   have H := HA.out; clear HA
   simp only [laws_heldIntSS.l0] at H
   by_cases c3 : x5_1 < (l0.length : Int)
   ·rw [if_pos c3] at H; have c3b0 := dt c3; clear c3; by_cases c4 : 0 ≤ x5_1
    ·rw [if_pos c4] at H; have c4b0 := dt c4; clear c4; obtain ⟨t502, A5, H⟩ := be H; by_cases c6 : t502 < 0
     ·rw [if_pos c6] at H; have c6b0 := dt c6; clear c6; obtain rfl := oI H; have p501 : 0 ≤ (x5_1 : Int) := dT asmT; have q501 : x5_1 < (l0.length : Int) := dT asmT; obtain ⟨ad501, A501_0, c501_0, e501, hx501_0, hl501_0, hi501_0⟩ := at_L6 HR0.out x5_1 p501 q501
      cases e501
      have HR501_0 := asT hi501_0; have HC501_0 := asT hl501_0; clear hi501_0 hl501_0; replace p501 := eq_true p501; replace q501 := eq_true q501
      go_wp2_with (first | ((with_reducible refine gate_callee (f := 23) rfl ?_); refine goesL_ (some 17) rfl rfl Tryz.func23 (by kernel_rfl) rfl #[.slice A501_0 (rd_L6 l0 x5_1).length c501_0, .int .i64 x1_1] rfl eqT ?_; (with_reducible refine (laws_heldIntS.calls k1 _ _ (rd_L6 l0 x5_1) x1_1 t502 _ ?side1 ?side2 A5.out).mono ?_); (case side1 => exact caT HR501_0.out); (case side2 => exact HC501_0.out); rintro e w' ⟨rfl, ⟨nd, rfl⟩⟩; refine ⟨_, rfl, ?_⟩))
      go_ret; exact ⟨rdT, drT⟩
     ·rw [if_neg c6] at H; have c6b0 := df c6; clear c6; have H' := asT H; clear H; have p501 : 0 ≤ (x5_1 : Int) := dT asmT; have q501 : x5_1 < (l0.length : Int) := dT asmT; obtain ⟨ad501, A501_0, c501_0, e501, hx501_0, hl501_0, hi501_0⟩ := at_L6 HR0.out x5_1 p501 q501
      cases e501
      have HR501_0 := asT hi501_0; have HC501_0 := asT hl501_0; clear hi501_0 hl501_0; replace p501 := eq_true p501; replace q501 := eq_true q501
      go_wp2_with (first | ((with_reducible refine gate_callee (f := 23) rfl ?_); refine goesL_ (some 17) rfl rfl Tryz.func23 (by kernel_rfl) rfl #[.slice A501_0 (rd_L6 l0 x5_1).length c501_0, .int .i64 x1_1] rfl eqT ?_; (with_reducible refine (laws_heldIntS.calls k1 _ _ (rd_L6 l0 x5_1) x1_1 t502 _ ?side1 ?side2 A5.out).mono ?_); (case side1 => exact caT HR501_0.out); (case side2 => exact HC501_0.out); rintro e w' ⟨rfl, ⟨nd, rfl⟩⟩; refine ⟨_, rfl, ?_⟩))
      go_roundg k1
      case measure => have := HK1.out; omega
      case rel => exact ⟨(t502), (wrap64 (x5_1 + 1)), rdT, rdT, H', ⟨by have := HK1.out; omega⟩, drT⟩
    ·rw [if_neg c4] at H; exact absurd H (by simp)
   ·rw [if_neg c3] at H; have c3b0 := df c3; clear c3; obtain rfl := oI H
    go_wp2
    go_ret; exact ⟨rdT, drT⟩
end Go.Proofs.YtlmfpkiaikjlbaaGreat.PFnExactTableauOf
