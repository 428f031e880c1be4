-- Made by gen.py (a program of this session) out of the translation; Lean checks it.
import Derived.Test.YtlmfpkiaikjlbaaGreatPFnExactDistinctProfilesx0
import Derived.Test.YtlmfpkiaikjlbaaGreatPFnExactDistinctProfilesx1
namespace Go.Proofs.YtlmfpkiaikjlbaaGreat.PFnExactDistinctProfiles
open Go.RowKit Go.Proofs.YtlmfpkiaikjlbaaGreatB Go.Proofs.YtlmfpkiaikjlbaaGreatW.PrintWords Go.Proofs.YtlmfpkiaikjlbaaGreatW.PrintLast Go.Proofs.YtlmfpkiaikjlbaaGreatW.PrintMore
attribute [local go_sem] max2_int min2_int max_two min_two max_three min_three max_four min_four   -- for this text's walks alone
set_option linter.unusedVariables false
set_option maxHeartbeats 8000000
set_option maxRecDepth 100000
set_option linter.unusedSimpArgs false
def laws_markLinkS.l0 : Nat → List (S109) → Int → Int → Option (Int × (List (S109)))
 | 0, _, _, _ => none
 | k + 1, x0, x1, x5 => if x5 < (x0.length : Int) then (if 0 ≤ x5 then ((some (x0.set (x5 : Int).toNat (⟨(x1) % 256, (rd_T109 x0 x5).f1⟩ : S109) : List (S109))).bind fun y129 => (laws_markLinkS.l0 k (y129.set (x5 : Int).toNat (⟨(rd_T109 y129 x5).f0, (wrap64 (x1 + 1)) % 256⟩ : S109)) (wrap64 ((wrap64 (x1 + 1)) + 1)) (wrap64 (x5 + 1)))) else (none)) else (some (x1, x0))
def laws_markLinkS.f (k : Nat) (l0 : List (S109)) (a1 : Int) : Option (Int × (List (S109))) := laws_markLinkS.l0 k l0 a1 0
theorem laws_markLinkS.mono_l : ∀ k, (∀ y0 y1 y2, LeO (laws_markLinkS.l0 k y0 y1 y2) (laws_markLinkS.l0 (k + 1) y0 y1 y2))
 | 0 => fun _ _ _ r h => by simp [laws_markLinkS.l0] at h
 | k + 1 => by
  have ih0 := laws_markLinkS.mono_l k
  ·intro y0 y1 y2; unfold laws_markLinkS.l0
   with_reducible repeat' first | exact ih0 _ _ _ | exact LeO.refl _ | exact LeO.none _ | refine LeO.ite ?_ ?_ | refine LeO.bind ?_ (fun _ => ?_)
theorem laws_markLinkS.mono : ∀ a0 a1 k, LeO (laws_markLinkS.f k a0 a1) (laws_markLinkS.f (k + 1) a0 a1) := by
 intro a0 a1 k; have ih0 := laws_markLinkS.mono_l k; unfold laws_markLinkS.f
 with_reducible repeat' first | exact ih0 _ _ _ | exact LeO.refl _ | exact LeO.none _ | refine LeO.ite ?_ ?_ | refine LeO.bind ?_ (fun _ => ?_)
theorem laws_markLinkS.calls (k : Nat) (P0_ : Nat → Prop) (u9000_ : Value) (l0 : List (S109)) (a1 : Int) (r1 : Int) (r2 : List (S109)) (w0 w : World) (hB : Below w0.heap.size w0 w) (ho0 : Kd.R k109 109 w w0.heap.size P0_ u9000_ l0) (h : laws_markLinkS.f k l0 a1 = some (r1, r2)) :
  Calls Tryz.prog 88 #[u9000_, .int .i64 a1] w fun e w' => e = .returned (.int .i64 r1) ∧ Kd.R k109 109 w' w0.heap.size (fun k_ => (P0_ k_ ∨ w.heap.size ≤ k_)) u9000_ r2 ∧ Below w0.heap.size w0 w' ∧ Kept w w' (fun k_ => P0_ k_) := by
 have HO0 := asT (show Kd.R k109 109 w w0.heap.size (fun k_ => (P0_ k_ ∨ w.heap.size ≤ k_)) u9000_ l0 from Kd.R_mono ho0 (fun k_ hk => (.inl hk))); have HK := asT (Kept.refl w (fun k_ => P0_ k_)); have HW0 := asT hB.size; have HB := asT hB; clear hB; have H := h; unfold laws_markLinkS.f at H; clear h; have H' := asT H; clear H; go_enter Tryz.func88, Tryz.ntmps88
 go_wp2
 go_loopg [1, 5] k (fun kq v1 v5 w' => ∃ (x0_1 : List (S109)) (x1_1 : Int) (x5_1 : Int), v1 = .int .i64 x1_1 ∧ v5 = .int .i64 x5_1 ∧ Aside0 (laws_markLinkS.l0 kq x0_1 x1_1 x5_1 = some (r1, r2)) ∧ Aside0 (kq ≤ k) ∧ Aside0 (Kd.R k109 109 w' w0.heap.size (fun k_ => (P0_ k_ ∨ w.heap.size ≤ k_)) u9000_ x0_1) ∧ Aside0 (Kept w w' (fun k_ => P0_ k_)) ∧ Aside0 (Below w0.heap.size w0 w'))
 case atStart => exact ⟨(l0), (a1), (0), rdT, rdT, H', ⟨Nat.le_refl _⟩, ⟨roT HO0.out⟩, ⟨by repeat (first | (with_reducible first | exact HK.out | apply Kept.alloc | apply Kept.drewN | apply Kept.drew) | exact HK.out)⟩, ⟨hbT HB.out⟩⟩
 case round =>
  clear H'; (try clear p2); obtain ⟨x0_1, x1_1, x5_1, rfl, rfl, HA, HK1, HO_0, HK, HB⟩ := hrel
  cases gk with
  | zero => exact absurd HA.out (by simp [laws_markLinkS.l0])
  | succ k1 =>
   have H := HA.out; clear HA
   simp only [laws_markLinkS.l0] at H
   by_cases c3 : x5_1 < (x0_1.length : Int)
   ·rw [if_pos c3] at H; have c3b0 := dt c3; clear c3; by_cases c4 : 0 ≤ x5_1
    ·rw [if_pos c4] at H; have c4b0 := dt c4; clear c4; obtain ⟨y129, hy129⟩ : ∃ y_ : List (S109), y_ = (x0_1.set (x5_1 : Int).toNat (⟨(x1_1) % 256, (rd_T109 x0_1 x5_1).f1⟩ : S109)) := ⟨_, rfl⟩
     replace H : (laws_markLinkS.l0 k1 (y129.set (x5_1 : Int).toNat (⟨(rd_T109 y129 x5_1).f0, (wrap64 (x1_1 + 1)) % 256⟩ : S109)) (wrap64 ((wrap64 (x1_1 + 1)) + 1)) (wrap64 (x5_1 + 1))) = some (r1, r2) := by first | (rw [hy129]; with_reducible exact H) | (have H2_ := (Option.bind_some _ _).symm.trans H; rw [hy129]; with_reducible exact H2_) | (have H2_ := (Option.bind_some _ _).symm.trans H; with_reducible exact H2_) | with_reducible exact H | (rw [hy129]; exact H) | exact H
     have Ny129 := asT hy129; clear hy129; obtain ⟨y130, hy130⟩ : ∃ y_ : List (S109), y_ = (y129.set (x5_1 : Int).toNat (⟨(rd_T109 y129 x5_1).f0, (wrap64 (x1_1 + 1)) % 256⟩ : S109)) := ⟨_, rfl⟩
     replace H : (laws_markLinkS.l0 k1 y130 (wrap64 ((wrap64 (x1_1 + 1)) + 1)) (wrap64 (x5_1 + 1))) = some (r1, r2) := by first | (rw [hy130]; with_reducible exact H) | (have H2_ := (Option.bind_some _ _).symm.trans H; rw [hy130]; with_reducible exact H2_) | (have H2_ := (Option.bind_some _ _).symm.trans H; with_reducible exact H2_) | with_reducible exact H | (rw [hy130]; exact H) | exact H
     have Ny130 := asT hy130; clear hy130; have H' := asT H; clear H; obtain ⟨Ao7, co7, eo7⟩ := Kd.R_slice HO_0.out; subst eo7; have p5 : 0 ≤ (x5_1 : Int) := dT asmT; have q5 : (x5_1 : Int) < ((x0_1.length : Int) : Int) := dT asmT; obtain ⟨go5, co5, eo5, gb5, gl5, cl5, HG5⟩ := Kd.R_form HO_0.out (by omega)
     (first | cases eo5 | (injection eo5 with ea_ en_ ec_; (first | subst ea_ | (injection ea_ with ea_; subst ea_)); subst ec_; clear en_))
     have GB5 := asT gb5; have GG5 := asT HG5; clear gb5 gl5 HG5; have HMgo5 := asT (show (P0_ go5 ∨ w.heap.size ≤ go5) from (HO_0.out.1 _ rfl)); obtain ⟨ce5, hcl5, hM5, hcc5, hfr5⟩ := Kd.R_elem HO_0.out z109 (x5_1 : Int) p5 q5; obtain rfl := k109_openM hM5; have hx5_0 : wr.cell? ⟨go5, (x5_1 : Int).toNat * 2, none⟩ = some (.int .u8 ((rd_T109 x0_1 x5_1).f0)) := hcc5 0 _ rfl; have hx5_1 : wr.cell? ⟨go5, (x5_1 : Int).toNat * 2 + 1, none⟩ = some (.int .u8 ((rd_T109 x0_1 x5_1).f1)) := hcc5 1 _ rfl; have hf5_0 : wr.frozen? ⟨go5, (x5_1 : Int).toNat * 2, none⟩ = false := hfr5 0; have hf5_1 : wr.frozen? ⟨go5, (x5_1 : Int).toNat * 2 + 1, none⟩ = false := hfr5 1; clear hcl5 hcc5 hfr5; (try clear hM5); replace p5 := eq_true p5; replace q5 := eq_true q5; have HX8 := asT (show Kd.R k109 109 wr w0.heap.size (fun k_ => (P0_ k_ ∨ w.heap.size ≤ k_)) (.slice (some ⟨go5, 0, none⟩) x0_1.length co7) x0_1 from (roT HO_0.out)); obtain ⟨ce8, hcl8, hM8, hcc8, hfr8⟩ := Kd.R_elem HX8.out z109 (x5_1 : Int) (dT asmT) (by have h_ : (x5_1 : Int) < ((x0_1.length : Int) : Int) := dT asmT; first | exact h_ | (have e_ := (Kd.R_reads' HO_0.out).1; omega) | simpa using h_); obtain rfl := k109_openM hM8; have HP8 := Kd.R_seg HX8.out (x5_1 : Int) (dT asmT) (by have h_ : (x5_1 : Int) < ((x0_1.length : Int) : Int) := dT asmT; first | exact h_ | (have e_ := (Kd.R_reads' HO_0.out).1; omega) | simpa using h_) (seg := [.int .u8 ((x1_1) % 256)]) (j := 0) hcl8 hcc8 (show 1 ≤ 2 from by decide) (x' := (⟨(x1_1) % 256, (rd_T109 x0_1 x5_1).f1⟩ : S109)) (k109_mkM _ _ _ (⟨(x1_1) % 256, (rd_T109 x0_1 x5_1).f1⟩ : S109) ) (fun _ hk => hk); have hx8_0 := hcc8 0 _ rfl
     (try simp only [show (k109).sz = 2 from rfl, Nat.mul_one, Nat.add_zero] at hx8_0)
     have hf8_0 := hfr8 0
     (try simp only [show (k109).sz = 2 from rfl, Nat.mul_one, Nat.add_zero] at hf8_0)
     clear hcl8 hcc8 hfr8; (try clear hM8)
     go_wp2_with (first | ((with_reducible refine gate_store (t := 5) (p := 17) rfl ?_); refine store_event (t := 5) (p := 17) (v := ?vo_w9) (w1 := (wr.setCell ⟨go5, (x5_1 : Int).toNat * 2, none⟩ (.int .u8 ((x1_1) % 256)))) ?hg ?ho ?hn ?hr ?_; (case ho => rfl); (case hg => rfl); (case hn => rfl); (case hr => first | (go_simp; done) | (go_simp; rfl)); intro w9 hw; have hg : wr.grownBy w9 (some go5) := (by rw [hw]; exact HP8.2); have hp_ : Kd.R k109 109 w9 w0.heap.size (fun k_ => (P0_ k_ ∨ w.heap.size ≤ k_)) (.slice (some ⟨go5, 0, none⟩) x0_1.length co7) y129 := (by rw [hw, Ny129.out]; exact HP8.1); clear HP8; replace HB := asT ((by rw [hw]; exact below_set (HB.out) GB5.out : Below w0.heap.size w0 w9)); replace HK := asT (Kept.of_grown (S := (fun k_ => P0_ k_)) hg (by repeat (first | (with_reducible first | exact HK.out | apply Kept.alloc | apply Kept.drewN | apply Kept.drew) | exact HK.out)) (fun k_ e_ => (HO_0.out.1 k_ e_))); replace HO_0 := asT (hp_); clear hg hw hp_; have p6 : 0 ≤ (x5_1 : Int) := dT asmT; have q6 : (x5_1 : Int) < ((x0_1.length : Int) : Int) := dT asmT; obtain ⟨ce6, hcl6, hM6, hcc6, hfr6⟩ := Kd.R_elem HO_0.out z109 (x5_1 : Int) p6 q6; obtain rfl := k109_openM hM6; have hx6_0 : w9.cell? ⟨go5, (x5_1 : Int).toNat * 2, none⟩ = some (.int .u8 ((rd_T109 y129 x5_1).f0)) := hcc6 0 _ rfl; have hx6_1 : w9.cell? ⟨go5, (x5_1 : Int).toNat * 2 + 1, none⟩ = some (.int .u8 ((rd_T109 y129 x5_1).f1)) := hcc6 1 _ rfl; have hf6_0 : w9.frozen? ⟨go5, (x5_1 : Int).toNat * 2, none⟩ = false := hfr6 0; have hf6_1 : w9.frozen? ⟨go5, (x5_1 : Int).toNat * 2 + 1, none⟩ = false := hfr6 1; clear hcl6 hcc6 hfr6; (try clear hM6); replace p6 := eq_true p6; replace q6 := eq_true q6; have HX10 := asT (show Kd.R k109 109 w9 w0.heap.size (fun k_ => (P0_ k_ ∨ w.heap.size ≤ k_)) (.slice (some ⟨go5, 0, none⟩) x0_1.length co7) y129 from (roT HO_0.out)); obtain ⟨ce10, hcl10, hM10, hcc10, hfr10⟩ := Kd.R_elem HX10.out z109 (x5_1 : Int) (dT asmT) (by have h_ : (x5_1 : Int) < ((x0_1.length : Int) : Int) := dT asmT; first | exact h_ | (have e_ := (Kd.R_reads' HO_0.out).1; omega) | simpa using h_); obtain rfl := k109_openM hM10; have HP10 := Kd.R_seg HX10.out (x5_1 : Int) (dT asmT) (by have h_ : (x5_1 : Int) < ((x0_1.length : Int) : Int) := dT asmT; first | exact h_ | (have e_ := (Kd.R_reads' HO_0.out).1; omega) | simpa using h_) (seg := [.int .u8 ((wrap64 (x1_1 + 1)) % 256)]) (j := 1) hcl10 hcc10 (show 2 ≤ 2 from by decide) (x' := (⟨(rd_T109 y129 x5_1).f0, (wrap64 (x1_1 + 1)) % 256⟩ : S109)) (k109_mkM _ _ _ (⟨(rd_T109 y129 x5_1).f0, (wrap64 (x1_1 + 1)) % 256⟩ : S109) ) (fun _ hk => hk); have hx10_1 := hcc10 1 _ rfl; (try simp only [show (k109).sz = 2 from rfl, Nat.mul_one, Nat.add_zero] at hx10_1); have hf10_1 := hfr10 1; (try simp only [show (k109).sz = 2 from rfl, Nat.mul_one, Nat.add_zero] at hf10_1); clear hcl10 hcc10 hfr10; (try clear hM10)) | ((with_reducible refine gate_store (t := 5) (p := 25) rfl ?_); refine store_event (t := 5) (p := 25) (v := ?vo_w11) (w1 := (w9.setCell ⟨go5, (x5_1 : Int).toNat * 2 + 1, none⟩ (.int .u8 ((wrap64 (x1_1 + 1)) % 256)))) ?hg ?ho ?hn ?hr ?_; (case ho => rfl); (case hg => rfl); (case hn => rfl); (case hr => first | (go_simp; done) | (go_simp; rfl)); intro w11 hw; have hg : w9.grownBy w11 (some go5) := (by rw [hw]; exact HP10.2); have hp_ : Kd.R k109 109 w11 w0.heap.size (fun k_ => (P0_ k_ ∨ w.heap.size ≤ k_)) (.slice (some ⟨go5, 0, none⟩) x0_1.length co7) y130 := (by rw [hw, Ny130.out]; exact HP10.1); clear HP10; replace HB := asT ((by rw [hw]; exact below_set (HB.out) GB5.out : Below w0.heap.size w0 w11)); replace HK := asT (Kept.of_grown (S := (fun k_ => P0_ k_)) hg (by repeat (first | (with_reducible first | exact HK.out | apply Kept.alloc | apply Kept.drewN | apply Kept.drew) | exact HK.out)) (fun k_ e_ => (HO_0.out.1 k_ e_))); replace HO_0 := asT (hp_); clear hg hw hp_))
     go_roundg k1
     case measure => have := HK1.out; omega
     case rel => exact ⟨(y130), (wrap64 ((wrap64 (x1_1 + 1)) + 1)), (wrap64 (x5_1 + 1)), rdT, rdT, H', ⟨by have := HK1.out; omega⟩, ⟨roT HO_0.out⟩, ⟨by repeat (first | (with_reducible first | exact HK.out | apply Kept.alloc | apply Kept.drewN | apply Kept.drew) | exact HK.out)⟩, ⟨hbT HB.out⟩⟩
    ·rw [if_neg c4] at H; exact absurd H (by simp)
   ·rw [if_neg c3] at H; have c3b0 := df c3; clear c3
    simp only [Option.some.injEq, Prod.mk.injEq] at H
    obtain ⟨rfl, rfl⟩ := H; obtain ⟨Ao12, co12, eo12⟩ := Kd.R_slice HO_0.out; subst eo12
    go_wp2
    go_ret; exact ⟨rlT, roT HO_0.out, hbT HB.out, by repeat (first | (with_reducible first | exact HK.out | apply Kept.alloc | apply Kept.drewN | apply Kept.drew) | exact HK.out)⟩
def laws_markCandidateS.l0 : Nat → List S60 → Int → Int → Option (Int × List S60)
  | 0, _, _, _ => none
  | k + 1, xs, a, i => if i < (xs.length : Int) then (if 0 ≤ i then ((laws_markLinkS.f k ((xs.getD i.toNat z60).f0) a).bind fun bt => laws_markCandidateS.l0 k (xs.set i.toNat (⟨bt.2⟩ : S60)) bt.1 (wrap64 (i + 1))) else none) else some (a, xs)
def laws_markCandidateS.f (k : Nat) (l0 : List S60) (a1 : Int) : Option (Int × List S60) := laws_markCandidateS.l0 k l0 a1 0
theorem laws_markCandidateS.mono_l : ∀ k, (∀ y0 y1 y2, LeO (laws_markCandidateS.l0 k y0 y1 y2) (laws_markCandidateS.l0 (k + 1) y0 y1 y2))
  | 0 => fun _ _ _ r h => by simp [laws_markCandidateS.l0] at h
  | k + 1 => by
    have ih0 := laws_markCandidateS.mono_l k; intro y0 y1 y2; unfold laws_markCandidateS.l0
    with_reducible repeat' first | exact ih0 _ _ _ | exact laws_markLinkS.mono _ _ _ | exact LeO.refl _ | exact LeO.none _ | refine LeO.ite ?_ ?_ | refine LeO.bind ?_ (fun _ => ?_)
theorem laws_markCandidateS.mono : ∀ a0 a1 k, LeO (laws_markCandidateS.f k a0 a1) (laws_markCandidateS.f (k + 1) a0 a1) := fun a0 a1 k => laws_markCandidateS.mono_l k a0 a1 0
theorem laws_markCandidateS.calls (k : Nat) (P0_ : Nat → Prop) (u_ : Value) (l0 : List S60) (a1 : Int) (r1 : Int) (r2 : List S60) (w0 w : World) (hB : Below w0.heap.size w0 w) (ho0 : Kd.S k60 60 w w0.heap.size P0_ u_ l0) (h : laws_markCandidateS.f k l0 a1 = some (r1, r2)) :
    Calls Tryz.prog 47 #[u_, .int .i64 a1] w fun e w' => e = .returned (.int .i64 r1) ∧ Kd.S k60 60 w' w0.heap.size P0_ u_ r2 ∧ Below w0.heap.size w0 w' ∧ Kept w w' P0_ := by
  obtain ⟨A, c, hu⟩ := Kd.S_slice ho0; subst hu; have H' := asT h; clear h; go_enter Tryz.func47, Tryz.ntmps47
  go_wp2
  go_loopg [1, 5] k (fun kq v1 v5 wr => ∃ (xs : List S60) (a i : Int), v1 = .int .i64 a ∧ v5 = .int .i64 i ∧ Aside0 (laws_markCandidateS.l0 kq xs a i = some (r1, r2)) ∧ Aside0 (kq ≤ k) ∧ Aside0 (xs.length = l0.length) ∧ Aside0 (Kd.S k60 60 wr w0.heap.size P0_ (.slice A l0.length c) xs) ∧ Aside0 (Below w0.heap.size w0 wr) ∧ Aside0 (Kept w wr P0_))
  case atStart => exact ⟨l0, a1, 0, rfl, rfl, H', ⟨Nat.le_refl _⟩, ⟨rfl⟩, ⟨ho0⟩, ⟨hB⟩, ⟨Nat.le_refl _, fun _ _ _ => rfl⟩⟩
  case round =>
    clear H' ho0 hB; obtain ⟨xs, a, i, rfl, rfl, HA, HK1, HL, HS, HB, HKp⟩ := hrel
    cases gk with
    | zero => exact absurd HA.out (by simp [laws_markCandidateS.l0])
    | succ k1 =>
      have H := HA.out; clear HA
      simp only [laws_markCandidateS.l0] at H
      by_cases c3 : i < (xs.length : Int)
      · rw [if_pos c3] at H; by_cases c4 : 0 ≤ i
        · rw [if_pos c4] at H; obtain ⟨⟨b1, b2⟩, hf, H2⟩ := Option.bind_eq_some_iff.mp H; clear H; obtain ⟨g, cap, e, hg0, hgl, _⟩ := Kd.S_form HS.out (by omega)
          injection e with e1 e2 e3
          subst e1; have hlen := HL.out; have c3b : decide (i < (l0.length : Int)) = true := dt (by omega); have p : (0 ≤ i) = True := eq_true c4; have q : (i < (l0.length : Int)) = True := eq_true (by omega); obtain ⟨oki, cs, hcl, hM, hcc, hoki, hH⟩ := Kd.S_lend HS.out z60 i c4 (show i < (l0.length : Int) by omega); obtain ⟨uv, rfl, hR⟩ := k60_openM hM; obtain ⟨A2, c2, e4⟩ := Kd.R_slice hR; subst e4
          have hx : wr.cell? ⟨g, i.toNat, none⟩ = some (.slice A2 (xs.getD i.toNat z60).f0.length c2) := by
            have := hcc 0 _ rfl
            rwa [show i.toNat * k60.sz + 0 = i.toNat from Nat.mul_one _] at this
          have hR' := asT hR; have hH' := asT hH; have hf' := asT hf; have H' := asT H2; have hM' := asT hoki; clear hR hH hf H2 hM hcc HS c3 hcl e2 e3 hlen
          go_wp2_with (first
            | (go_at_call 88; refine (laws_markLinkS.calls k1 oki _ _ a b1 b2 w0 wr HB.out hR'.out hf'.out).mono ?_; rintro e w2 ⟨rfl, hR2, hB2, hK2⟩; have HR2 := asT hR2; have HB2 := asT hB2; have HK2 := asT hK2; clear hR2 hB2 hK2))
          have c4 := of_eq_true p
          go_roundg k1
          case rel =>
            refine ⟨xs.set i.toNat (⟨b2⟩ : S60), b1, wrap64 (i + 1), rfl, by first | rfl | (simp only [i64_w]; done) | skip, H', ⟨by have := HK1.out; omega⟩, ⟨by rw [List.length_set]; exact HL.out⟩, ⟨?_⟩, HB2, ⟨?_⟩⟩
            · exact Kd.H_back (Kd.H_step hH'.out (fun k _ hn hlt => HK2.out.2 k hlt hn)) (k60_mkM _ _ _ (⟨b2⟩ : S60) (Kd.R_mono (Kd.R_tight rfl HR2.out) (fun k hk => hR'.out.1 k hk.symm))) (fun _ hk => hk)
            · exact ⟨Nat.le_trans HKp.out.1 HK2.out.1, fun k hlt hn => (HK2.out.2 k (Nat.lt_of_lt_of_le hlt HKp.out.1) (fun ho => hn (hM'.out k ho).1)).trans (HKp.out.2 k hlt hn)⟩
          case measure => have := HK1.out; omega
        · rw [if_neg c4] at H
          cases H
      · rw [if_neg c3] at H; obtain ⟨rfl, rfl⟩ := Prod.mk.inj (oI H); have hlen := HL.out; have c3b : decide (i < (l0.length : Int)) = false := df (by omega); clear hlen
        go_wp2
        go_ret; exact ⟨rfl, HS.out, HB.out, HKp.out⟩
def laws_markIntS.l0 : Nat → List Int → Int → Int → Option (Int × List Int)
 | 0, _, _, _ => none
 | k + 1, x0, x1, x5 => if x5 < (x0.length : Int) then (if 0 ≤ x5 then (laws_markIntS.l0 k (x0.set (x5 : Int).toNat x1) (wrap64 (x1 + 1)) (wrap64 (x5 + 1))) else (none)) else (some (x1, x0))
def laws_markIntS.f (k : Nat) (l0 : List Int) (a1 : Int) : Option (Int × List Int) := laws_markIntS.l0 k l0 a1 0
theorem laws_markIntS.mono_l : ∀ k, (∀ y0 y1 y2, LeO (laws_markIntS.l0 k y0 y1 y2) (laws_markIntS.l0 (k + 1) y0 y1 y2))
 | 0 => fun _ _ _ r h => by simp [laws_markIntS.l0] at h
 | k + 1 => by
  have ih0 := laws_markIntS.mono_l k
  ·intro y0 y1 y2; unfold laws_markIntS.l0
   with_reducible repeat' first | exact ih0 _ _ _ | exact LeO.refl _ | exact LeO.none _ | refine LeO.ite ?_ ?_ | refine LeO.bind ?_ (fun _ => ?_)
theorem laws_markIntS.mono : ∀ a0 a1 k, LeO (laws_markIntS.f k a0 a1) (laws_markIntS.f (k + 1) a0 a1) := by
 intro a0 a1 k; have ih0 := laws_markIntS.mono_l k; unfold laws_markIntS.f
 with_reducible repeat' first | exact ih0 _ _ _ | exact LeO.refl _ | exact LeO.none _ | refine LeO.ite ?_ ?_ | refine LeO.bind ?_ (fun _ => ?_)
theorem laws_markIntS.calls (k : Nat) (P0_ : Nat → Prop) (u9000_ : Value) (l0 : List Int) (a1 : Int) (r1 : Int) (r2 : List Int) (w0 w : World) (hB : Below w0.heap.size w0 w) (ho0 : Kd.R (Kd.int .i64) 3 w w0.heap.size P0_ u9000_ l0) (h : laws_markIntS.f k l0 a1 = some (r1, r2)) :
  Calls Tryz.prog 22 #[u9000_, .int .i64 a1] w fun e w' => e = .returned (.int .i64 r1) ∧ Kd.R (Kd.int .i64) 3 w' w0.heap.size (fun k_ => (P0_ k_ ∨ w.heap.size ≤ k_)) u9000_ r2 ∧ Below w0.heap.size w0 w' ∧ Kept w w' (fun k_ => P0_ k_) := by
 have HO0 := asT (show Kd.R (Kd.int .i64) 3 w w0.heap.size (fun k_ => (P0_ k_ ∨ w.heap.size ≤ k_)) u9000_ l0 from Kd.R_mono ho0 (fun k_ hk => (.inl hk))); have HK := asT (Kept.refl w (fun k_ => P0_ k_)); have HW0 := asT hB.size; have HB := asT hB; clear hB; have H := h; unfold laws_markIntS.f at H; clear h; have H' := asT H; clear H; go_enter Tryz.func22, Tryz.ntmps22
 go_wp2
 go_loopg [1, 5] k (fun kq v1 v5 w' => ∃ (x0_1 : List Int) (x1_1 : Int) (x5_1 : Int), v1 = .int .i64 x1_1 ∧ v5 = .int .i64 x5_1 ∧ Aside0 (laws_markIntS.l0 kq x0_1 x1_1 x5_1 = some (r1, r2)) ∧ Aside0 (kq ≤ k) ∧ Aside0 (Kd.R (Kd.int .i64) 3 w' w0.heap.size (fun k_ => (P0_ k_ ∨ w.heap.size ≤ k_)) u9000_ x0_1) ∧ Aside0 (Kept w w' (fun k_ => P0_ k_)) ∧ Aside0 (Below w0.heap.size w0 w'))
 case atStart => exact ⟨(l0), (a1), (0), rdT, rdT, H', ⟨Nat.le_refl _⟩, ⟨roT HO0.out⟩, ⟨by repeat (first | (with_reducible first | exact HK.out | apply Kept.alloc | apply Kept.drewN | apply Kept.drew) | exact HK.out)⟩, ⟨hbT HB.out⟩⟩
 case round =>
  clear H'; (try clear c2 p2); obtain ⟨x0_1, x1_1, x5_1, rfl, rfl, HA, HK1, HO_0, HK, HB⟩ := hrel
  cases gk with
  | zero => exact absurd HA.out (by simp [laws_markIntS.l0])
  | succ k1 =>
   have H := HA.out; clear HA
   simp only [laws_markIntS.l0] at H
   by_cases c3 : x5_1 < (x0_1.length : Int)
   ·rw [if_pos c3] at H; have c3b0 := dt c3; clear c3; by_cases c4 : 0 ≤ x5_1
    ·rw [if_pos c4] at H; have c4b0 := dt c4; clear c4; obtain ⟨y131, hy131⟩ : ∃ y_ : List Int, y_ = (x0_1.set (x5_1 : Int).toNat x1_1) := ⟨_, rfl⟩
     replace H : (laws_markIntS.l0 k1 y131 (wrap64 (x1_1 + 1)) (wrap64 (x5_1 + 1))) = some (r1, r2) := by first | (rw [hy131]; with_reducible exact H) | (have H2_ := (Option.bind_some _ _).symm.trans H; rw [hy131]; with_reducible exact H2_) | (have H2_ := (Option.bind_some _ _).symm.trans H; with_reducible exact H2_) | with_reducible exact H | (rw [hy131]; exact H) | exact H
     have Ny131 := asT hy131; clear hy131; have H' := asT H; clear H; obtain ⟨Ao6, co6, eo6⟩ := Kd.R_slice HO_0.out; subst eo6; have p5 : 0 ≤ (x5_1 : Int) := dT asmT; have q5 : (x5_1 : Int) < ((x0_1.length : Int) : Int) := dT asmT; obtain ⟨go5, co5, eo5, gb5, gl5, cl5, HG5⟩ := Kd.R_form HO_0.out (by omega)
     (first | cases eo5 | (injection eo5 with ea_ en_ ec_; (first | subst ea_ | (injection ea_ with ea_; subst ea_)); subst ec_; clear en_))
     have GB5 := asT gb5; have GG5 := asT HG5; clear gb5 gl5 HG5; have HMgo5 := asT (show (P0_ go5 ∨ w.heap.size ≤ go5) from (HO_0.out.1 _ rfl)); obtain ⟨hx5_0, hf5_0⟩ := Kd.R_celln 0 HO_0.out (x5_1 : Int) p5 q5; replace p5 := eq_true p5; replace q5 := eq_true q5; have HP7 := Kd.R_putg HO_0.out (x5_1 : Int) x1_1
     go_wp2_with (first | ((with_reducible refine gate_store (t := 3) (p := 15) rfl ?_); refine store_event (t := 3) (p := 15) (v := ?vo_w8) (w1 := (wr.setCell ⟨go5, (x5_1 : Int).toNat, none⟩ (.int .i64 x1_1))) ?hg ?ho ?hn ?hr ?_; (case ho => rfl); (case hg => rfl); (case hn => rfl); (case hr => first | (go_simp; done) | (go_simp; rfl)); intro w8 hw; have hg : wr.grownBy w8 (some go5) := (by rw [hw]; exact HP7.2); have hp_ : Kd.R (Kd.int .i64) 3 w8 w0.heap.size (fun k_ => (P0_ k_ ∨ w.heap.size ≤ k_)) (.slice (some ⟨go5, 0, none⟩) x0_1.length co6) y131 := (by rw [hw, Ny131.out]; exact HP7.1); clear HP7; replace HB := asT ((by rw [hw]; exact below_set (HB.out) GB5.out : Below w0.heap.size w0 w8)); replace HK := asT (Kept.of_grown (S := (fun k_ => P0_ k_)) hg (by repeat (first | (with_reducible first | exact HK.out | apply Kept.alloc | apply Kept.drewN | apply Kept.drew) | exact HK.out)) (fun k_ e_ => (HO_0.out.1 k_ e_))); replace HO_0 := asT (hp_); clear hg hw hp_))
     go_roundg k1
     case measure => have := HK1.out; omega
     case rel => exact ⟨(y131), (wrap64 (x1_1 + 1)), (wrap64 (x5_1 + 1)), rdT, rdT, H', ⟨by have := HK1.out; omega⟩, ⟨roT HO_0.out⟩, ⟨by repeat (first | (with_reducible first | exact HK.out | apply Kept.alloc | apply Kept.drewN | apply Kept.drew) | exact HK.out)⟩, ⟨hbT HB.out⟩⟩
    ·rw [if_neg c4] at H; exact absurd H (by simp)
   ·rw [if_neg c3] at H; have c3b0 := df c3; clear c3
    simp only [Option.some.injEq, Prod.mk.injEq] at H
    obtain ⟨rfl, rfl⟩ := H; obtain ⟨Ao9, co9, eo9⟩ := Kd.R_slice HO_0.out; subst eo9
    go_wp2
    go_ret; exact ⟨rlT, roT HO_0.out, hbT HB.out, by repeat (first | (with_reducible first | exact HK.out | apply Kept.alloc | apply Kept.drewN | apply Kept.drew) | exact HK.out)⟩
def laws_markIntSS.l0 : Nat → List (List Int) → Int → Int → Option (Int × List (List Int))
  | 0, _, _, _ => none
  | k + 1, xs, a, i => if i < (xs.length : Int) then (if 0 ≤ i then ((laws_markIntS.f k ((xs.getD i.toNat [])) a).bind fun bt => laws_markIntSS.l0 k (xs.set i.toNat bt.2) bt.1 (wrap64 (i + 1))) else none) else some (a, xs)
def laws_markIntSS.f (k : Nat) (l0 : List (List Int)) (a1 : Int) : Option (Int × List (List Int)) := laws_markIntSS.l0 k l0 a1 0
theorem laws_markIntSS.mono_l : ∀ k, (∀ y0 y1 y2, LeO (laws_markIntSS.l0 k y0 y1 y2) (laws_markIntSS.l0 (k + 1) y0 y1 y2))
  | 0 => fun _ _ _ r h => by simp [laws_markIntSS.l0] at h
  | k + 1 => by
    have ih0 := laws_markIntSS.mono_l k; intro y0 y1 y2; unfold laws_markIntSS.l0
    with_reducible repeat' first | exact ih0 _ _ _ | exact laws_markIntS.mono _ _ _ | exact LeO.refl _ | exact LeO.none _ | refine LeO.ite ?_ ?_ | refine LeO.bind ?_ (fun _ => ?_)
theorem laws_markIntSS.mono : ∀ a0 a1 k, LeO (laws_markIntSS.f k a0 a1) (laws_markIntSS.f (k + 1) a0 a1) := fun a0 a1 k => laws_markIntSS.mono_l k a0 a1 0
theorem laws_markIntSS.calls (k : Nat) (P0_ : Nat → Prop) (u_ : Value) (l0 : List (List Int)) (a1 : Int) (r1 : Int) (r2 : List (List Int)) (w0 w : World) (hB : Below w0.heap.size w0 w) (ho0 : Kd.S (Kd.slice 3 (Kd.int .i64)) 39 w w0.heap.size P0_ u_ l0) (h : laws_markIntSS.f k l0 a1 = some (r1, r2)) :
    Calls Tryz.prog 48 #[u_, .int .i64 a1] w fun e w' => e = .returned (.int .i64 r1) ∧ Kd.S (Kd.slice 3 (Kd.int .i64)) 39 w' w0.heap.size P0_ u_ r2 ∧ Below w0.heap.size w0 w' ∧ Kept w w' P0_ := by
  obtain ⟨A, c, hu⟩ := Kd.S_slice ho0; subst hu; have H' := asT h; clear h; go_enter Tryz.func48, Tryz.ntmps48
  go_wp2
  go_loopg [1, 5] k (fun kq v1 v5 wr => ∃ (xs : List (List Int)) (a i : Int), v1 = .int .i64 a ∧ v5 = .int .i64 i ∧ Aside0 (laws_markIntSS.l0 kq xs a i = some (r1, r2)) ∧ Aside0 (kq ≤ k) ∧ Aside0 (xs.length = l0.length) ∧ Aside0 (Kd.S (Kd.slice 3 (Kd.int .i64)) 39 wr w0.heap.size P0_ (.slice A l0.length c) xs) ∧ Aside0 (Below w0.heap.size w0 wr) ∧ Aside0 (Kept w wr P0_))
  case atStart => exact ⟨l0, a1, 0, rfl, rfl, H', ⟨Nat.le_refl _⟩, ⟨rfl⟩, ⟨ho0⟩, ⟨hB⟩, ⟨Nat.le_refl _, fun _ _ _ => rfl⟩⟩
  case round =>
    clear H' ho0 hB; obtain ⟨xs, a, i, rfl, rfl, HA, HK1, HL, HS, HB, HKp⟩ := hrel
    cases gk with
    | zero => exact absurd HA.out (by simp [laws_markIntSS.l0])
    | succ k1 =>
      have H := HA.out; clear HA
      simp only [laws_markIntSS.l0] at H
      by_cases c3 : i < (xs.length : Int)
      · rw [if_pos c3] at H; by_cases c4 : 0 ≤ i
        · rw [if_pos c4] at H; obtain ⟨⟨b1, b2⟩, hf, H2⟩ := Option.bind_eq_some_iff.mp H; clear H; obtain ⟨g, cap, e, hg0, hgl, _⟩ := Kd.S_form HS.out (by omega)
          injection e with e1 e2 e3
          subst e1; have hlen := HL.out; have c3b : decide (i < (l0.length : Int)) = true := dt (by omega); have p : (0 ≤ i) = True := eq_true c4; have q : (i < (l0.length : Int)) = True := eq_true (by omega); obtain ⟨oki, cs, hcl, hM, hcc, hoki, hH⟩ := Kd.S_lend HS.out ([] : List Int) i c4 (show i < (l0.length : Int) by omega); obtain ⟨uv, rfl, hR⟩ := hM; obtain ⟨A2, c2, e4⟩ := Kd.R_slice hR; subst e4
          have hx : wr.cell? ⟨g, i.toNat, none⟩ = some (.slice A2 (xs.getD i.toNat []).length c2) := by
            have := hcc 0 _ rfl
            rwa [show i.toNat * (Kd.slice 3 (Kd.int .i64)).sz + 0 = i.toNat from Nat.mul_one _] at this
          have hR' := asT hR; have hH' := asT hH; have hf' := asT hf; have H' := asT H2; have hM' := asT hoki; clear hR hH hf H2 hcc HS c3 hcl e2 e3 hlen
          go_wp2_with (first
            | (go_at_call 22; refine (laws_markIntS.calls k1 oki _ _ a b1 b2 w0 wr HB.out hR'.out hf'.out).mono ?_; rintro e w2 ⟨rfl, hR2, hB2, hK2⟩; have HR2 := asT hR2; have HB2 := asT hB2; have HK2 := asT hK2; clear hR2 hB2 hK2))
          have c4 := of_eq_true p
          go_roundg k1
          case rel =>
            refine ⟨xs.set i.toNat b2, b1, wrap64 (i + 1), rfl, by first | rfl | (simp only [i64_w]; done) | skip, H', ⟨by have := HK1.out; omega⟩, ⟨by rw [List.length_set]; exact HL.out⟩, ⟨?_⟩, HB2, ⟨?_⟩⟩
            · exact Kd.H_back (Kd.H_step hH'.out (fun k _ hn hlt => HK2.out.2 k hlt hn)) (show Kd.M (Kd.slice 3 (Kd.int .i64)) _ _ _ b2 _ from ⟨_, rfl, Kd.R_mono (Kd.R_tight rfl HR2.out) (fun k hk => hR'.out.1 k hk.symm)⟩) (fun _ hk => hk)
            · exact ⟨Nat.le_trans HKp.out.1 HK2.out.1, fun k hlt hn => (HK2.out.2 k (Nat.lt_of_lt_of_le hlt HKp.out.1) (fun ho => hn (hM'.out k ho).1)).trans (HKp.out.2 k hlt hn)⟩
          case measure => have := HK1.out; omega
        · rw [if_neg c4] at H
          cases H
      · rw [if_neg c3] at H; obtain ⟨rfl, rfl⟩ := Prod.mk.inj (oI H); have hlen := HL.out; have c3b : decide (i < (l0.length : Int)) = false := df (by omega); clear hlen
        go_wp2
        go_ret; exact ⟨rfl, HS.out, HB.out, HKp.out⟩
def laws_markTableau.f (k : Nat) (a0_0 : ByteArray) (l0_1 : List ByteArray) (l0_2 : List S60) (l0_3 : List (List Int)) (a1 : Int) : Option (Int × List ByteArray × List S60 × List (List Int)) := (laws_markStringS.f k l0_1 a1).bind fun t1 => (laws_markCandidateS.f k l0_2 t1.1).bind fun t2 => (laws_markIntSS.f k l0_3 t2.1).bind fun t3 => some (t3.1, t1.2, t2.2, t3.2)
theorem laws_markTableau.mono : ∀ a0 a1 a2 a3 a4 k, LeO (laws_markTableau.f k a0 a1 a2 a3 a4) (laws_markTableau.f (k + 1) a0 a1 a2 a3 a4) := by
  intro a0 a1 a2 a3 a4 k; unfold laws_markTableau.f; exact LeO.bind (laws_markStringS.mono _ _ k) (fun _ => LeO.bind (laws_markCandidateS.mono _ _ k) (fun _ => LeO.bind (laws_markIntSS.mono _ _ k) (fun _ => LeO.refl _)))
/-- the blocks of P that hold cells of these types -/
def Typd (P : Nat → Prop) (W : World) (es : List Nat) (b : Nat) : Nat → Prop := fun k => P k ∧ b ≤ k ∧ k < W.heap.size ∧ ∃ q, q ∈ es ∧ ∃ cells, W.heap[k]? = some (.cells cells q (0, 0))
theorem typd_apart {P : Nat → Prop} {W : World} {es fs : List Nat} {b k : Nat} (hd : ∀ q, q ∈ es → ∀ q', q' ∈ fs → q ≠ q') (h : Typd P W es b k) : ¬ Typd P W fs b k := by
  rintro ⟨_, _, _, q', hq', c', hc'⟩; obtain ⟨_, _, _, q, hq, c, hc⟩ := h; rw [hc] at hc'
  injection oI hc' with _ e _
  exact hd q hq q' hq' e
theorem laws_markTableau.calls (k : Nat) (P0_ : Nat → Prop) (a0_0 : ByteArray) (u1_ u2_ u3_ : Value) (l0_1 : List ByteArray) (l0_2 : List S60) (l0_3 : List (List Int)) (a1 : Int) (r1 : Int) (r2 : List ByteArray) (r3 : List S60) (r4 : List (List Int)) (w0 w : World) (hB : Below w0.heap.size w0 w) (ho0_1 : Kd.R Kd.string 9 w w0.heap.size P0_ u1_ l0_1) (ho0_2 : Kd.S k60 60 w w0.heap.size P0_ u2_ l0_2) (ho0_3 : Kd.S (Kd.slice 3 (Kd.int .i64)) 39 w w0.heap.size P0_ u3_ l0_3) (h : laws_markTableau.f k a0_0 l0_1 l0_2 l0_3 a1 = some (r1, r2, r3, r4)) :
    Calls Tryz.prog 15 #[.agg #[.string a0_0, u1_, u2_, u3_], .int .i64 a1] w fun e w' => e = .returned (.int .i64 r1) ∧ Kd.R Kd.string 9 w' w0.heap.size (fun k_ => (P0_ k_ ∨ w.heap.size ≤ k_)) u1_ r2 ∧ Kd.S k60 60 w' w0.heap.size P0_ u2_ r3 ∧ Kd.S (Kd.slice 3 (Kd.int .i64)) 39 w' w0.heap.size P0_ u3_ r4 ∧ Below w0.heap.size w0 w' ∧ Kept w w' (fun k_ => P0_ k_) := by
  unfold laws_markTableau.f at h; replace h := Option.bind_eq_some_iff.mp h; obtain ⟨⟨m1, q1⟩, hf1, h⟩ := h; replace h := Option.bind_eq_some_iff.mp h; obtain ⟨⟨m2, q2⟩, hf2, h⟩ := h; replace h := Option.bind_eq_some_iff.mp h; obtain ⟨⟨m3, q3⟩, hf3, h⟩ := h
  simp only [Option.some.injEq, Prod.mk.injEq] at h
  obtain ⟨rfl, rfl, rfl, rfl⟩ := h
  dsimp only at hf1 hf2 hf3
  have HF1 := asT hf1; have HF2 := asT hf2; have HF3 := asT hf3; clear hf1 hf2 hf3; have HO1 : Aside0 (Kd.R Kd.string 9 w w0.heap.size (Typd P0_ w (9 :: Kd.string.E) w0.heap.size) u1_ l0_1) := ⟨Kd.R_mono (Kd.R_bound ho0_1) (fun k hk => hk)⟩; have HO2 : Aside0 (Kd.S k60 60 w w0.heap.size (Typd P0_ w (60 :: k60.E) w0.heap.size) u2_ l0_2) := ⟨Kd.S_mono (Kd.S_bound ho0_2) (fun k hk => hk)⟩; have HO3 : Aside0 (Kd.S (Kd.slice 3 (Kd.int .i64)) 39 w w0.heap.size (Typd P0_ w (39 :: (Kd.slice 3 (Kd.int .i64)).E) w0.heap.size) u3_ l0_3) := ⟨Kd.S_mono (Kd.S_bound ho0_3) (fun k hk => hk)⟩; have d12 : Aside0 (∀ q, q ∈ (9 :: Kd.string.E) → ∀ q', q' ∈ (60 :: k60.E) → q ≠ q') := ⟨by decide⟩; have d13 : Aside0 (∀ q, q ∈ (9 :: Kd.string.E) → ∀ q', q' ∈ (39 :: (Kd.slice 3 (Kd.int .i64)).E) → q ≠ q') := ⟨by decide⟩; have d23 : Aside0 (∀ q, q ∈ (60 :: k60.E) → ∀ q', q' ∈ (39 :: (Kd.slice 3 (Kd.int .i64)).E) → q ≠ q') := ⟨by decide⟩; have HB := asT hB; clear ho0_1 ho0_2 ho0_3 hB; go_enter Tryz.func15, Tryz.ntmps15
  go_wp2_with (first
    | ((with_reducible refine gate_dst (N := 2) rfl ?_); refine boxT (N := 2) (cs := #[.string a0_0, u1_, u2_, u3_]) (t := 27) ?_; intro gx hgx w1 hbox hb; have HG := asT hgx; have HX1 := asT hb; have BK1 := asT hbox; have HB1 := asT (below_step HB.out hb); have P1 := asT (Kd.R_below HO1.out hb); have P2 := asT (Kd.S_below HO2.out hb); have P3 := asT (Kd.S_below HO3.out hb); clear hgx hb hbox; have x1 := bc1 BK1.out; have x2 := bc2 BK1.out; have x3 := bc3 BK1.out)
    | (go_at_call 14; refine (laws_markStringS.calls k _ u1_ l0_1 a1 m1 q1 w0 w1 HB1.out P1.out HF1.out).mono ?_; rintro e w2 ⟨rfl, ho, hb, hk⟩; have HK2 := asT hk; have HB2 := asT hb; have O1 := asT ho; have BK2 := asT (blk_kept BK1.out hk (fun hin => by have := hin.2.2.1; have := HG.out; omega)); have P2' := asT (Kd.S_step P2.out (fun k hk' hlt => hk.2 k (Nat.lt_of_lt_of_le hk'.2.2.1 HX1.out.size) (fun h1 => typd_apart d12.out h1 hk'))); have P3' := asT (Kd.S_step P3.out (fun k hk' hlt => hk.2 k (Nat.lt_of_lt_of_le hk'.2.2.1 HX1.out.size) (fun h1 => typd_apart d13.out h1 hk'))); clear ho hb hk x1 x2 x3; have y1 := bc1 BK2.out; have y2 := bc2 BK2.out; have y3 := bc3 BK2.out)
    | (go_at_call 47; refine (laws_markCandidateS.calls k _ u2_ l0_2 m1 m2 q2 w0 w2 HB2.out P2'.out HF2.out).mono ?_; rintro e w3 ⟨rfl, ho, hb, hk⟩; have HK3 := asT hk; have HB3 := asT hb; have O2 := asT ho; have BK3 := asT (blk_kept BK2.out hk (fun hin => by have := hin.2.2.1; have := HG.out; omega)); have P3'' := asT (Kd.S_step P3'.out (fun k hk' hlt => hk.2 k (Nat.lt_of_lt_of_le (Nat.lt_of_lt_of_le hk'.2.2.1 HX1.out.size) HK2.out.1) (fun h1 => typd_apart d23.out h1 hk'))); clear ho hb hk y1 y2 y3; have z1 := bc1 BK3.out; have z2 := bc2 BK3.out; have z3 := bc3 BK3.out)
    | (go_at_call 48; refine (laws_markIntSS.calls k _ u3_ l0_3 m2 m3 q3 w0 w3 HB3.out P3''.out HF3.out).mono ?_; rintro e w4 ⟨rfl, ho, hb, hk⟩; have HK4 := asT hk; have HB4 := asT hb; have O3 := asT ho; clear ho hb hk z1 z2 z3))
  go_ret; have k2 := HK2.out; have k3 := HK3.out; have k4 := HK4.out; have s1 := HX1.out.size; refine ⟨rfl, ?_, ?_, ?_, HB4.out, ?_, ?_⟩
  · refine Kd.R_mono (Kd.R_step (Kd.R_step O1.out (fun k hk hlt => k3.2 k (by omega) (fun h1 => ?_))) (fun k hk hlt => k4.2 k (by have := k3.1; omega) (fun h1 => ?_))) (fun k hk => hk.elim (fun h => .inl h.1) (fun h => .inr (by omega)))
    · rcases hk with h | h
      · exact typd_apart d12.out h h1
      · have := h1.2.2.1
        omega
    · rcases hk with h | h
      · exact typd_apart d13.out h h1
      · have := h1.2.2.1
        omega
  · exact Kd.S_mono (Kd.S_step O2.out (fun k hk hlt => k4.2 k (by omega) (fun h1 => typd_apart d23.out hk h1))) (fun k hk => hk.1)
  · exact Kd.S_mono O3.out (fun k hk => hk.1)
  · have := k2.1; have := k3.1; have := k4.1
    omega
  · intro k hk hP; have h2 := k2.1; have h3 := k3.1; rw [k4.2 k (by omega) (fun h1 => hP h1.1), k3.2 k (by omega) (fun h1 => hP h1.1), k2.2 k (by omega) (fun h1 => hP h1.1), HX1.out.block k hk]
def laws_szStringS.l0 : Nat → List ByteArray → Int → Int → Option (Int)
 | 0, _, _, _ => none
 | k + 1, x0, x1, x5 => if x5 < (x0.length : Int) then (if 0 ≤ x5 then (if (wrap64 (x1 - ((rdOf ByteArray.empty x0 x5).size : Int))) < 0 then (some (-1)) else (laws_szStringS.l0 k x0 (wrap64 (x1 - ((rdOf ByteArray.empty x0 x5).size : Int))) (wrap64 (x5 + 1)))) else (none)) else (some x1)
def laws_szStringS.f (k : Nat) (l0 : List ByteArray) (a1 : Int) : Option (Int) := if (wrap64 (a1 - (l0.length : Int))) < 0 then (some (-1)) else (laws_szStringS.l0 k l0 (wrap64 (a1 - (l0.length : Int))) 0)
theorem laws_szStringS.mono_l : ∀ k, (∀ y0 y1 y2, LeO (laws_szStringS.l0 k y0 y1 y2) (laws_szStringS.l0 (k + 1) y0 y1 y2))
 | 0 => fun _ _ _ r h => by simp [laws_szStringS.l0] at h
 | k + 1 => by
  have ih0 := laws_szStringS.mono_l k
  ·intro y0 y1 y2; unfold laws_szStringS.l0
   with_reducible repeat' first | exact ih0 _ _ _ | exact LeO.refl _ | exact LeO.none _ | refine LeO.ite ?_ ?_ | refine LeO.bind ?_ (fun _ => ?_)
theorem laws_szStringS.mono : ∀ a0 a1 k, LeO (laws_szStringS.f k a0 a1) (laws_szStringS.f (k + 1) a0 a1) := by
 intro a0 a1 k; have ih0 := laws_szStringS.mono_l k; unfold laws_szStringS.f
 with_reducible repeat' first | exact ih0 _ _ _ | exact LeO.refl _ | exact LeO.none _ | refine LeO.ite ?_ ?_ | refine LeO.bind ?_ (fun _ => ?_)
theorem laws_szStringS.calls (k : Nat) (A0 : Option Addr) (c0 : Nat) (l0 : List ByteArray) (a1 : Int) (r : Int) (w : World) (hr0 : Kd.C Kd.string w A0 l0.length l0) (hc0 : l0.length ≤ c0) (h : laws_szStringS.f k l0 a1 = some r) :
  Calls Tryz.prog 8 #[.slice A0 l0.length c0, .int .i64 a1] w fun e w' => e = .returned (.int .i64 r) ∧ Drawn0 w w' := by
 have HR0 := asT hr0; have HC0 := asT hc0; clear hr0 hc0; have H := h; unfold laws_szStringS.f at H; clear h; by_cases c3 : (wrap64 (a1 - (l0.length : Int))) < 0
 ·rw [if_pos c3] at H; have c3b0 := dt c3; clear c3; obtain rfl := oI H; go_enter Tryz.func8, Tryz.ntmps8
  go_wp2
  go_ret; exact ⟨rdT, drT⟩
 ·rw [if_neg c3] at H; have c3b0 := df c3; clear c3; have H' := asT H; clear H; go_enter Tryz.func8, Tryz.ntmps8
  go_wp2
  go_loopg [1, 5] k (fun kq v1 v5 w' => ∃ (x1_1 : Int) (x5_1 : Int), v1 = .int .i64 x1_1 ∧ v5 = .int .i64 x5_1 ∧ Aside0 (laws_szStringS.l0 kq l0 x1_1 x5_1 = some r) ∧ Aside0 (kq ≤ k) ∧ Drawn0 w w')
  case atStart => exact ⟨(wrap64 (a1 - (l0.length : Int))), (0), rdT, rdT, H', ⟨Nat.le_refl _⟩, drT⟩
  case round =>
   clear H'; (try clear p2 c3 c3b0); obtain ⟨x1_1, x5_1, rfl, rfl, HA, HK1, ⟨m1, rfl⟩⟩ := hrel
   cases gk with
   | zero => exact absurd HA.out (by simp [laws_szStringS.l0])
   | succ k1 =>
    have H := HA.out; clear HA
    simp only [laws_szStringS.l0] at H
    by_cases c4 : x5_1 < (l0.length : Int)
    ·rw [if_pos c4] at H; have c4b0 := dt c4; clear c4; by_cases c5 : 0 ≤ x5_1
     ·rw [if_pos c5] at H; have c5b0 := dt c5; clear c5; by_cases c6 : (wrap64 (x1_1 - ((rdOf ByteArray.empty l0 x5_1).size : Int))) < 0
      ·rw [if_pos c6] at H; have c6b0 := dt c6; clear c6; obtain rfl := oI H; have p132 : 0 ≤ (x5_1 : Int) := dT asmT; have q132 : x5_1 < (l0.length : Int) := dT asmT; obtain ⟨ad132, e132, hx132_0⟩ := Kd.at_string HR0.out x5_1 p132 q132
       cases e132
       replace p132 := eq_true p132; replace q132 := eq_true q132
       go_wp2
       go_ret; exact ⟨rdT, drT⟩
      ·rw [if_neg c6] at H; have c6b0 := df c6; clear c6; have H' := asT H; clear H; have p132 : 0 ≤ (x5_1 : Int) := dT asmT; have q132 : x5_1 < (l0.length : Int) := dT asmT; obtain ⟨ad132, e132, hx132_0⟩ := Kd.at_string HR0.out x5_1 p132 q132
       cases e132
       replace p132 := eq_true p132; replace q132 := eq_true q132
       go_wp2
       go_roundg k1
       case measure => have := HK1.out; omega
       case rel => exact ⟨(wrap64 (x1_1 - ((rdOf ByteArray.empty l0 x5_1).size : Int))), (wrap64 (x5_1 + 1)), rdT, rdT, H', ⟨by have := HK1.out; omega⟩, drT⟩
     ·rw [if_neg c5] at H; exact absurd H (by simp)
    ·rw [if_neg c4] at H; have c4b0 := df c4; clear c4; obtain rfl := oI H
     go_wp2
     go_ret; exact ⟨rdT, drT⟩
def laws_szLinkS.f (l0 : List (S134)) (a1 : Int) : Option (Int) := if (wrap64 (a1 - (l0.length : Int))) < 0 then (some (-1)) else (some (wrap64 (a1 - (l0.length : Int))))
theorem laws_szLinkS.calls (A0 : Option Addr) (c0 : Nat) (l0 : List (S134)) (a1 : Int) (r : Int) (w : World) (hr0 : Kd.C k134 w A0 l0.length l0) (hc0 : l0.length ≤ c0) (h : laws_szLinkS.f l0 a1 = some r) :
  Calls Tryz.prog 141 #[.slice A0 l0.length c0, .int .i64 a1] w fun e w' => e = .returned (.int .i64 r) ∧ Drawn0 w w' := by
 have HR0 := asT hr0; have HC0 := asT hc0; clear hr0 hc0; have H := h; unfold laws_szLinkS.f at H; clear h; by_cases c3 : (wrap64 (a1 - (l0.length : Int))) < 0
 ·rw [if_pos c3] at H; have c3b0 := dt c3; clear c3; obtain rfl := oI H; go_enter Tryz.func141, Tryz.ntmps141
  go_wp2
  go_ret; exact ⟨rdT, drT⟩
 ·rw [if_neg c3] at H; have c3b0 := df c3; clear c3; obtain rfl := oI H; go_enter Tryz.func141, Tryz.ntmps141
  go_wp2
  go_ret; exact ⟨rdT, drT⟩
def laws_szCandidate.f (l0_0 : List (S134)) (a1 : Int) : Option (Int) := (laws_szLinkS.f l0_0 a1).bind fun t134 => (if t134 < 0 then (some (-1)) else (some t134))
theorem laws_szCandidate.calls (A0_0 : Option Addr) (c0_0 : Nat) (l0_0 : List (S134)) (a1 : Int) (r : Int) (w : World) (hr0_0 : Kd.C k134 w A0_0 l0_0.length l0_0) (hc0_0 : l0_0.length ≤ c0_0) (h : laws_szCandidate.f l0_0 a1 = some r) :
  Calls Tryz.prog 90 #[.agg #[.slice A0_0 l0_0.length c0_0], .int .i64 a1] w fun e w' => e = .returned (.int .i64 r) ∧ Below w.heap.size w w' := by
 have hu96 := Tryz.underlying96; have HR0_0 := asT hr0_0; have HC0_0 := asT hc0_0; clear hr0_0 hc0_0; have HB := asT (Below.refl w.heap.size w); have H := h; unfold laws_szCandidate.f at H; clear h; obtain ⟨t134, A3, H⟩ := be H; by_cases c4 : t134 < 0
 ·rw [if_pos c4] at H; have c4b0 := dt c4; clear c4; obtain rfl := oI H; go_enter Tryz.func90, Tryz.ntmps90
  go_wp2_with (first | ((with_reducible refine gate_dst (N := 2) rfl ?_); refine boxT (N := 2) (cs := #[.slice A0_0 l0_0.length c0_0]) (t := 96) ?_; intro gb133 hg w5 hbox hb; have BK133 := asT hbox; have GW133 := asT (geT hg HB.out); have GE133 := GW133; replace HB := hS HB hb; clear hb hbox hg; obtain ⟨hcz6_0, hfz6_0⟩ := bx1 BK133.out) | ((with_reducible refine gate_callee (f := 141) rfl ?_); refine goesL_ (some 8) rfl rfl Tryz.func141 (by kernel_rfl) rfl #[.slice A0_0 l0_0.length c0_0, .int .i64 a1] rfl eqT ?_; (with_reducible refine (laws_szLinkS.calls _ _ l0_0 a1 t134 _ ?side1 ?side2 A3.out).mono ?_); (case side1 => exact crT HR0_0.out HB.out); (case side2 => exact HC0_0.out); rintro e w' ⟨rfl, ⟨nd, rfl⟩⟩; refine ⟨_, rfl, ?_⟩))
  go_ret; exact ⟨rlT, hbT HB.out⟩
 ·rw [if_neg c4] at H; have c4b0 := df c4; clear c4; obtain rfl := oI H; go_enter Tryz.func90, Tryz.ntmps90
  go_wp2_with (first | ((with_reducible refine gate_dst (N := 2) rfl ?_); refine boxT (N := 2) (cs := #[.slice A0_0 l0_0.length c0_0]) (t := 96) ?_; intro gb133 hg w7 hbox hb; have BK133 := asT hbox; have GW133 := asT (geT hg HB.out); have GE133 := GW133; replace HB := hS HB hb; clear hb hbox hg; obtain ⟨hcz8_0, hfz8_0⟩ := bx1 BK133.out) | ((with_reducible refine gate_callee (f := 141) rfl ?_); refine goesL_ (some 8) rfl rfl Tryz.func141 (by kernel_rfl) rfl #[.slice A0_0 l0_0.length c0_0, .int .i64 a1] rfl eqT ?_; (with_reducible refine (laws_szLinkS.calls _ _ l0_0 a1 t134 _ ?side1 ?side2 A3.out).mono ?_); (case side1 => exact crT HR0_0.out HB.out); (case side2 => exact HC0_0.out); rintro e w' ⟨rfl, ⟨nd, rfl⟩⟩; refine ⟨_, rfl, ?_⟩))
  go_ret; exact ⟨rlT, hbT HB.out⟩
def laws_szCandidateS.l0 : Nat → List (S96) → Int → Int → Option (Int)
 | 0, _, _, _ => none
 | k + 1, x0, x1, x5 => if x5 < (x0.length : Int) then (if 0 ≤ x5 then ((laws_szCandidate.f ((rd_T96 x0 x5).f0) x1).bind fun t136 => (if t136 < 0 then (some (-1)) else (laws_szCandidateS.l0 k x0 t136 (wrap64 (x5 + 1))))) else (none)) else (some x1)
def laws_szCandidateS.f (k : Nat) (l0 : List (S96)) (a1 : Int) : Option (Int) := if (wrap64 (a1 - (l0.length : Int))) < 0 then (some (-1)) else (laws_szCandidateS.l0 k l0 (wrap64 (a1 - (l0.length : Int))) 0)
theorem laws_szCandidateS.mono_l : ∀ k, (∀ y0 y1 y2, LeO (laws_szCandidateS.l0 k y0 y1 y2) (laws_szCandidateS.l0 (k + 1) y0 y1 y2))
 | 0 => fun _ _ _ r h => by simp [laws_szCandidateS.l0] at h
 | k + 1 => by
  have ih0 := laws_szCandidateS.mono_l k
  ·intro y0 y1 y2; unfold laws_szCandidateS.l0
   with_reducible repeat' first | exact ih0 _ _ _ | exact LeO.refl _ | exact LeO.none _ | refine LeO.ite ?_ ?_ | refine LeO.bind ?_ (fun _ => ?_)
theorem laws_szCandidateS.mono : ∀ a0 a1 k, LeO (laws_szCandidateS.f k a0 a1) (laws_szCandidateS.f (k + 1) a0 a1) := by
 intro a0 a1 k; have ih0 := laws_szCandidateS.mono_l k; unfold laws_szCandidateS.f
 with_reducible repeat' first | exact ih0 _ _ _ | exact LeO.refl _ | exact LeO.none _ | refine LeO.ite ?_ ?_ | refine LeO.bind ?_ (fun _ => ?_)
theorem laws_szCandidateS.calls (k : Nat) (A0 : Option Addr) (c0 : Nat) (l0 : List (S96)) (a1 : Int) (r : Int) (w : World) (hr0 : Kd.C k96 w A0 l0.length l0) (hc0 : l0.length ≤ c0) (h : laws_szCandidateS.f k l0 a1 = some r) :
  Calls Tryz.prog 51 #[.slice A0 l0.length c0, .int .i64 a1] w fun e w' => e = .returned (.int .i64 r) ∧ Below w.heap.size w w' := by
 have hu96 := Tryz.underlying96; have HR0 := asT hr0; have HC0 := asT hc0; clear hr0 hc0; have HB := asT (Below.refl w.heap.size w); have H := h; unfold laws_szCandidateS.f at H; clear h; by_cases c3 : (wrap64 (a1 - (l0.length : Int))) < 0
 ·rw [if_pos c3] at H; have c3b0 := dt c3; clear c3; obtain rfl := oI H; go_enter Tryz.func51, Tryz.ntmps51
  go_wp2
  go_ret; exact ⟨rlT, hbT HB.out⟩
 ·rw [if_neg c3] at H; have c3b0 := df c3; clear c3; have H' := asT H; clear H; go_enter Tryz.func51, Tryz.ntmps51
  go_wp2
  go_loopg [1, 5] k (fun kq v1 v5 w' => ∃ (x1_1 : Int) (x5_1 : Int), v1 = .int .i64 x1_1 ∧ v5 = .int .i64 x5_1 ∧ Aside0 (laws_szCandidateS.l0 kq l0 x1_1 x5_1 = some r) ∧ Aside0 (kq ≤ k) ∧ Aside0 (Below w.heap.size w w'))
  case atStart => exact ⟨(wrap64 (a1 - (l0.length : Int))), (0), rdT, rdT, H', ⟨Nat.le_refl _⟩, ⟨hbT HB.out⟩⟩
  case round =>
   clear H'; (try clear p2 c3 c3b0); obtain ⟨x1_1, x5_1, rfl, rfl, HA, HK1, HB⟩ := hrel
   cases gk with
   | zero => exact absurd HA.out (by simp [laws_szCandidateS.l0])
   | succ k1 =>
    have H := HA.out; clear HA
    simp only [laws_szCandidateS.l0] at H
    by_cases c4 : x5_1 < (l0.length : Int)
    ·rw [if_pos c4] at H; have c4b0 := dt c4; clear c4; by_cases c5 : 0 ≤ x5_1
     ·rw [if_pos c5] at H; have c5b0 := dt c5; clear c5; obtain ⟨t136, A6, H⟩ := be H; by_cases c7 : t136 < 0
      ·rw [if_pos c7] at H; have c7b0 := dt c7; clear c7; obtain rfl := oI H; have p135 : 0 ≤ (x5_1 : Int) := dT asmT; have q135 : x5_1 < (l0.length : Int) := dT asmT; obtain ⟨ad135, A135_0, c135_0, e135, hx135_0, hl135_0, hi135_0⟩ := at_T96 HR0.out x5_1 p135 q135
       cases e135
       replace hx135_0 := hbc HB.out hx135_0; have HR135_0 := asT hi135_0; have HC135_0 := asT hl135_0; clear hi135_0 hl135_0; replace p135 := eq_true p135; replace q135 := eq_true q135
       go_wp2_with (first | ((with_reducible refine gate_callee (f := 90) rfl ?_); refine goesL_ (some 23) rfl rfl Tryz.func90 (by kernel_rfl) rfl #[.agg #[.slice A135_0 ((rd_T96 l0 x5_1).f0).length c135_0], .int .i64 x1_1] rfl eqT ?_; (with_reducible refine (laws_szCandidate.calls _ _ ((rd_T96 l0 x5_1).f0) x1_1 t136 _ ?side1 ?side2 A6.out).mono ?_); (case side1 => exact crT HR135_0.out HB.out); (case side2 => exact HC135_0.out); rintro e w8 ⟨rfl, hb⟩; refine ⟨_, rfl, ?_⟩; replace HB := hS HB hb; (try clear hb hb2 hk hi)))
       go_ret; exact ⟨rlT, hbT HB.out⟩
      ·rw [if_neg c7] at H; have c7b0 := df c7; clear c7; have H' := asT H; clear H; have p135 : 0 ≤ (x5_1 : Int) := dT asmT; have q135 : x5_1 < (l0.length : Int) := dT asmT; obtain ⟨ad135, A135_0, c135_0, e135, hx135_0, hl135_0, hi135_0⟩ := at_T96 HR0.out x5_1 p135 q135
       cases e135
       replace hx135_0 := hbc HB.out hx135_0; have HR135_0 := asT hi135_0; have HC135_0 := asT hl135_0; clear hi135_0 hl135_0; replace p135 := eq_true p135; replace q135 := eq_true q135
       go_wp2_with (first | ((with_reducible refine gate_callee (f := 90) rfl ?_); refine goesL_ (some 23) rfl rfl Tryz.func90 (by kernel_rfl) rfl #[.agg #[.slice A135_0 ((rd_T96 l0 x5_1).f0).length c135_0], .int .i64 x1_1] rfl eqT ?_; (with_reducible refine (laws_szCandidate.calls _ _ ((rd_T96 l0 x5_1).f0) x1_1 t136 _ ?side1 ?side2 A6.out).mono ?_); (case side1 => exact crT HR135_0.out HB.out); (case side2 => exact HC135_0.out); rintro e w9 ⟨rfl, hb⟩; refine ⟨_, rfl, ?_⟩; replace HB := hS HB hb; (try clear hb hb2 hk hi)))
       go_roundg k1
       case measure => have := HK1.out; omega
       case rel => exact ⟨(t136), (wrap64 (x5_1 + 1)), rdT, rdT, H', ⟨by have := HK1.out; omega⟩, ⟨hbT HB.out⟩⟩
     ·rw [if_neg c5] at H; exact absurd H (by simp)
    ·rw [if_neg c4] at H; have c4b0 := df c4; clear c4; obtain rfl := oI H
     go_wp2
     go_ret; exact ⟨rlT, hbT HB.out⟩
def laws_szIntS.f (l0 : List Int) (a1 : Int) : Option (Int) := if (wrap64 (a1 - (l0.length : Int))) < 0 then (some (-1)) else (some (wrap64 (a1 - (l0.length : Int))))
theorem laws_szIntS.calls (A0 : Option Addr) (c0 : Nat) (l0 : List Int) (a1 : Int) (r : Int) (w : World) (hr0 : Kd.C (Kd.int .i64) w A0 l0.length l0) (hc0 : l0.length ≤ c0) (h : laws_szIntS.f l0 a1 = some r) :
  Calls Tryz.prog 91 #[.slice A0 l0.length c0, .int .i64 a1] w fun e w' => e = .returned (.int .i64 r) ∧ Drawn0 w w' := by
 have HR0 := asT hr0; have HC0 := asT hc0; clear hr0 hc0; have H := h; unfold laws_szIntS.f at H; clear h; by_cases c3 : (wrap64 (a1 - (l0.length : Int))) < 0
 ·rw [if_pos c3] at H; have c3b0 := dt c3; clear c3; obtain rfl := oI H; go_enter Tryz.func91, Tryz.ntmps91
  go_wp2
  go_ret; exact ⟨rdT, drT⟩
 ·rw [if_neg c3] at H; have c3b0 := df c3; clear c3; obtain rfl := oI H; go_enter Tryz.func91, Tryz.ntmps91
  go_wp2
  go_ret; exact ⟨rdT, drT⟩
def laws_szIntSS.l0 : Nat → List (List Int) → Int → Int → Option (Int)
 | 0, _, _, _ => none
 | k + 1, x0, x1, x5 => if x5 < (x0.length : Int) then (if 0 ≤ x5 then ((laws_szIntS.f (rd_L6 x0 x5) x1).bind fun t138 => (if t138 < 0 then (some (-1)) else (laws_szIntSS.l0 k x0 t138 (wrap64 (x5 + 1))))) else (none)) else (some x1)
def laws_szIntSS.f (k : Nat) (l0 : List (List Int)) (a1 : Int) : Option (Int) := if (wrap64 (a1 - (l0.length : Int))) < 0 then (some (-1)) else (laws_szIntSS.l0 k l0 (wrap64 (a1 - (l0.length : Int))) 0)
theorem laws_szIntSS.mono_l : ∀ k, (∀ y0 y1 y2, LeO (laws_szIntSS.l0 k y0 y1 y2) (laws_szIntSS.l0 (k + 1) y0 y1 y2))
 | 0 => fun _ _ _ r h => by simp [laws_szIntSS.l0] at h
 | k + 1 => by
  have ih0 := laws_szIntSS.mono_l k
  ·intro y0 y1 y2; unfold laws_szIntSS.l0
   with_reducible repeat' first | exact ih0 _ _ _ | exact LeO.refl _ | exact LeO.none _ | refine LeO.ite ?_ ?_ | refine LeO.bind ?_ (fun _ => ?_)
theorem laws_szIntSS.mono : ∀ a0 a1 k, LeO (laws_szIntSS.f k a0 a1) (laws_szIntSS.f (k + 1) a0 a1) := by
 intro a0 a1 k; have ih0 := laws_szIntSS.mono_l k; unfold laws_szIntSS.f
 with_reducible repeat' first | exact ih0 _ _ _ | exact LeO.refl _ | exact LeO.none _ | refine LeO.ite ?_ ?_ | refine LeO.bind ?_ (fun _ => ?_)
theorem laws_szIntSS.calls (k : Nat) (A0 : Option Addr) (c0 : Nat) (l0 : List (List Int)) (a1 : Int) (r : Int) (w : World) (hr0 : Kd.C (Kd.slice 3 (Kd.int .i64)) w A0 l0.length l0) (hc0 : l0.length ≤ c0) (h : laws_szIntSS.f k l0 a1 = some r) :
  Calls Tryz.prog 52 #[.slice A0 l0.length c0, .int .i64 a1] w fun e w' => e = .returned (.int .i64 r) ∧ Drawn0 w w' := by
 have HR0 := asT hr0; have HC0 := asT hc0; clear hr0 hc0; have H := h; unfold laws_szIntSS.f at H; clear h; by_cases c3 : (wrap64 (a1 - (l0.length : Int))) < 0
 ·rw [if_pos c3] at H; have c3b0 := dt c3; clear c3; obtain rfl := oI H; go_enter Tryz.func52, Tryz.ntmps52
  go_wp2
  go_ret; exact ⟨rdT, drT⟩
 ·rw [if_neg c3] at H; have c3b0 := df c3; clear c3; have H' := asT H; clear H; go_enter Tryz.func52, Tryz.ntmps52
  go_wp2
  go_loopg [1, 5] k (fun kq v1 v5 w' => ∃ (x1_1 : Int) (x5_1 : Int), v1 = .int .i64 x1_1 ∧ v5 = .int .i64 x5_1 ∧ Aside0 (laws_szIntSS.l0 kq l0 x1_1 x5_1 = some r) ∧ Aside0 (kq ≤ k) ∧ Drawn0 w w')
  case atStart => exact ⟨(wrap64 (a1 - (l0.length : Int))), (0), rdT, rdT, H', ⟨Nat.le_refl _⟩, drT⟩
  case round =>
   clear H'; (try clear p2 c3 c3b0); obtain ⟨x1_1, x5_1, rfl, rfl, HA, HK1, ⟨m1, rfl⟩⟩ := hrel
   cases gk with
   | zero => exact absurd HA.out (by simp [laws_szIntSS.l0])
   | succ k1 =>
    have H := HA.out; clear HA
    simp only [laws_szIntSS.l0] at H
    by_cases c4 : x5_1 < (l0.length : Int)
    ·rw [if_pos c4] at H; have c4b0 := dt c4; clear c4; by_cases c5 : 0 ≤ x5_1
     ·rw [if_pos c5] at H; have c5b0 := dt c5; clear c5; obtain ⟨t138, A6, H⟩ := be H; by_cases c7 : t138 < 0
      ·rw [if_pos c7] at H; have c7b0 := dt c7; clear c7; obtain rfl := oI H; have p137 : 0 ≤ (x5_1 : Int) := dT asmT; have q137 : x5_1 < (l0.length : Int) := dT asmT; obtain ⟨ad137, A137_0, c137_0, e137, hx137_0, hl137_0, hi137_0⟩ := at_L6 HR0.out x5_1 p137 q137
       cases e137
       have HR137_0 := asT hi137_0; have HC137_0 := asT hl137_0; clear hi137_0 hl137_0; replace p137 := eq_true p137; replace q137 := eq_true q137
       go_wp2_with (first | ((with_reducible refine gate_callee (f := 91) rfl ?_); refine goesL_ (some 23) rfl rfl Tryz.func91 (by kernel_rfl) rfl #[.slice A137_0 (rd_L6 l0 x5_1).length c137_0, .int .i64 x1_1] rfl eqT ?_; (with_reducible refine (laws_szIntS.calls _ _ (rd_L6 l0 x5_1) x1_1 t138 _ ?side1 ?side2 A6.out).mono ?_); (case side1 => exact caT HR137_0.out); (case side2 => exact HC137_0.out); rintro e w' ⟨rfl, ⟨nd, rfl⟩⟩; refine ⟨_, rfl, ?_⟩))
       go_ret; exact ⟨rdT, drT⟩
      ·rw [if_neg c7] at H; have c7b0 := df c7; clear c7; have H' := asT H; clear H; have p137 : 0 ≤ (x5_1 : Int) := dT asmT; have q137 : x5_1 < (l0.length : Int) := dT asmT; obtain ⟨ad137, A137_0, c137_0, e137, hx137_0, hl137_0, hi137_0⟩ := at_L6 HR0.out x5_1 p137 q137
       cases e137
       have HR137_0 := asT hi137_0; have HC137_0 := asT hl137_0; clear hi137_0 hl137_0; replace p137 := eq_true p137; replace q137 := eq_true q137
       go_wp2_with (first | ((with_reducible refine gate_callee (f := 91) rfl ?_); refine goesL_ (some 23) rfl rfl Tryz.func91 (by kernel_rfl) rfl #[.slice A137_0 (rd_L6 l0 x5_1).length c137_0, .int .i64 x1_1] rfl eqT ?_; (with_reducible refine (laws_szIntS.calls _ _ (rd_L6 l0 x5_1) x1_1 t138 _ ?side1 ?side2 A6.out).mono ?_); (case side1 => exact caT HR137_0.out); (case side2 => exact HC137_0.out); rintro e w' ⟨rfl, ⟨nd, rfl⟩⟩; refine ⟨_, rfl, ?_⟩))
       go_roundg k1
       case measure => have := HK1.out; omega
       case rel => exact ⟨(t138), (wrap64 (x5_1 + 1)), rdT, rdT, H', ⟨by have := HK1.out; omega⟩, drT⟩
     ·rw [if_neg c5] at H; exact absurd H (by simp)
    ·rw [if_neg c4] at H; have c4b0 := df c4; clear c4; obtain rfl := oI H
     go_wp2
     go_ret; exact ⟨rdT, drT⟩
def laws_szTableau.f (k : Nat) (a0_0 : ByteArray) (l0_1 : List ByteArray) (l0_2 : List (S96)) (l0_3 : List (List Int)) (a1 : Int) : Option (Int) := if (wrap64 (a1 - (a0_0.size : Int))) < 0 then (some (-1)) else ((laws_szStringS.f k l0_1 (wrap64 (a1 - (a0_0.size : Int)))).bind fun t140 => (if t140 < 0 then (some (-1)) else ((laws_szCandidateS.f k l0_2 t140).bind fun t141 => (if t141 < 0 then (some (-1)) else ((laws_szIntSS.f k l0_3 t141).bind fun t142 => (if t142 < 0 then (some (-1)) else (some t142)))))))
theorem laws_szTableau.mono : ∀ a0 a1 a2 a3 a4 k, LeO (laws_szTableau.f k a0 a1 a2 a3 a4) (laws_szTableau.f (k + 1) a0 a1 a2 a3 a4) := by
 intro a0 a1 a2 a3 a4 k; unfold laws_szTableau.f
 with_reducible repeat' first | exact laws_szCandidateS.mono _ _ _ | exact laws_szIntSS.mono _ _ _ | exact laws_szStringS.mono _ _ _ | exact LeO.refl _ | exact LeO.none _ | refine LeO.ite ?_ ?_ | refine LeO.bind ?_ (fun _ => ?_)
theorem laws_szTableau.calls (k : Nat) (a0_0 : ByteArray) (A0_1 : Option Addr) (c0_1 : Nat) (l0_1 : List ByteArray) (A0_2 : Option Addr) (c0_2 : Nat) (l0_2 : List (S96)) (A0_3 : Option Addr) (c0_3 : Nat) (l0_3 : List (List Int)) (a1 : Int) (r : Int) (w : World) (hr0_1 : Kd.C Kd.string w A0_1 l0_1.length l0_1) (hc0_1 : l0_1.length ≤ c0_1) (hr0_2 : Kd.C k96 w A0_2 l0_2.length l0_2) (hc0_2 : l0_2.length ≤ c0_2) (hr0_3 : Kd.C (Kd.slice 3 (Kd.int .i64)) w A0_3 l0_3.length l0_3) (hc0_3 : l0_3.length ≤ c0_3) (h : laws_szTableau.f k a0_0 l0_1 l0_2 l0_3 a1 = some r) :
  Calls Tryz.prog 17 #[.agg #[.string a0_0, .slice A0_1 l0_1.length c0_1, .slice A0_2 l0_2.length c0_2, .slice A0_3 l0_3.length c0_3], .int .i64 a1] w fun e w' => e = .returned (.int .i64 r) ∧ Below w.heap.size w w' := by
 have hu37 := Tryz.underlying37; have HR0_1 := asT hr0_1; have HC0_1 := asT hc0_1; clear hr0_1 hc0_1; have HR0_2 := asT hr0_2; have HC0_2 := asT hc0_2; clear hr0_2 hc0_2; have HR0_3 := asT hr0_3; have HC0_3 := asT hc0_3; clear hr0_3 hc0_3; have HB := asT (Below.refl w.heap.size w); have H := h; unfold laws_szTableau.f at H; clear h; by_cases c3 : (wrap64 (a1 - (a0_0.size : Int))) < 0
 ·rw [if_pos c3] at H; have c3b0 := dt c3; clear c3; obtain rfl := oI H; go_enter Tryz.func17, Tryz.ntmps17
  go_wp2_with (first | ((with_reducible refine gate_dst (N := 2) rfl ?_); refine boxT (N := 2) (cs := #[.string a0_0, .slice A0_1 l0_1.length c0_1, .slice A0_2 l0_2.length c0_2, .slice A0_3 l0_3.length c0_3]) (t := 37) ?_; intro gb139 hg w4 hbox hb; have BK139 := asT hbox; have GW139 := asT (geT hg HB.out); have GE139 := GW139; replace HB := hS HB hb; clear hb hbox hg; obtain ⟨hcz5_0, hcz5_1, hcz5_2, hcz5_3, hfz5_0, hfz5_1, hfz5_2, hfz5_3⟩ := bx4 BK139.out))
  go_ret; exact ⟨rlT, hbT HB.out⟩
 ·rw [if_neg c3] at H; have c3b0 := df c3; clear c3; obtain ⟨t140, A6, H⟩ := be H; by_cases c7 : t140 < 0
  ·rw [if_pos c7] at H; have c7b0 := dt c7; clear c7; obtain rfl := oI H; go_enter Tryz.func17, Tryz.ntmps17
   go_wp2_with (first | ((with_reducible refine gate_dst (N := 2) rfl ?_); refine boxT (N := 2) (cs := #[.string a0_0, .slice A0_1 l0_1.length c0_1, .slice A0_2 l0_2.length c0_2, .slice A0_3 l0_3.length c0_3]) (t := 37) ?_; intro gb139 hg w8 hbox hb; have BK139 := asT hbox; have GW139 := asT (geT hg HB.out); have GE139 := GW139; replace HB := hS HB hb; clear hb hbox hg; obtain ⟨hcz9_0, hcz9_1, hcz9_2, hcz9_3, hfz9_0, hfz9_1, hfz9_2, hfz9_3⟩ := bx4 BK139.out) | ((with_reducible refine gate_callee (f := 8) rfl ?_); refine goesL_ (some 15) rfl rfl Tryz.func8 (by kernel_rfl) rfl #[.slice A0_1 l0_1.length c0_1, .int .i64 (wrap64 (a1 - (a0_0.size : Int)))] rfl eqT ?_; (with_reducible refine (laws_szStringS.calls k _ _ l0_1 (wrap64 (a1 - (a0_0.size : Int))) t140 _ ?side1 ?side2 A6.out).mono ?_); (case side1 => exact crT HR0_1.out HB.out); (case side2 => exact HC0_1.out); rintro e w' ⟨rfl, ⟨nd, rfl⟩⟩; refine ⟨_, rfl, ?_⟩))
   go_ret; exact ⟨rlT, hbT HB.out⟩
  ·rw [if_neg c7] at H; have c7b0 := df c7; clear c7; obtain ⟨t141, A10, H⟩ := be H; by_cases c11 : t141 < 0
   ·rw [if_pos c11] at H; have c11b0 := dt c11; clear c11; obtain rfl := oI H; go_enter Tryz.func17, Tryz.ntmps17
    go_wp2_with (first | ((with_reducible refine gate_dst (N := 2) rfl ?_); refine boxT (N := 2) (cs := #[.string a0_0, .slice A0_1 l0_1.length c0_1, .slice A0_2 l0_2.length c0_2, .slice A0_3 l0_3.length c0_3]) (t := 37) ?_; intro gb139 hg w12 hbox hb; have BK139 := asT hbox; have GW139 := asT (geT hg HB.out); have GE139 := GW139; replace HB := hS HB hb; clear hb hbox hg; obtain ⟨hcz13_0, hcz13_1, hcz13_2, hcz13_3, hfz13_0, hfz13_1, hfz13_2, hfz13_3⟩ := bx4 BK139.out) | ((with_reducible refine gate_callee (f := 8) rfl ?_); refine goesL_ (some 15) rfl rfl Tryz.func8 (by kernel_rfl) rfl #[.slice A0_1 l0_1.length c0_1, .int .i64 (wrap64 (a1 - (a0_0.size : Int)))] rfl eqT ?_; (with_reducible refine (laws_szStringS.calls k _ _ l0_1 (wrap64 (a1 - (a0_0.size : Int))) t140 _ ?side1 ?side2 A6.out).mono ?_); (case side1 => exact crT HR0_1.out HB.out); (case side2 => exact HC0_1.out); rintro e w' ⟨rfl, ⟨nd, rfl⟩⟩; refine ⟨_, rfl, ?_⟩) | ((with_reducible refine gate_callee (f := 51) rfl ?_); refine goesL_ (some 21) rfl rfl Tryz.func51 (by kernel_rfl) rfl #[.slice A0_2 l0_2.length c0_2, .int .i64 t140] rfl eqT ?_; (with_reducible refine (laws_szCandidateS.calls k _ _ l0_2 t140 t141 _ ?side1 ?side2 A10.out).mono ?_); (case side1 => exact crT HR0_2.out (hbT HB.out)); (case side2 => exact HC0_2.out); rintro e w14 ⟨rfl, hb⟩; refine ⟨_, rfl, ?_⟩; replace BK139 := bS BK139 hb; replace HB := hS HB hb; (try clear hb hb2 hk hi)))
    go_ret; exact ⟨rlT, hbT HB.out⟩
   ·rw [if_neg c11] at H; have c11b0 := df c11; clear c11; obtain ⟨t142, A15, H⟩ := be H; by_cases c16 : t142 < 0
    ·rw [if_pos c16] at H; have c16b0 := dt c16; clear c16; obtain rfl := oI H; go_enter Tryz.func17, Tryz.ntmps17
     go_wp2_with (first | ((with_reducible refine gate_dst (N := 2) rfl ?_); refine boxT (N := 2) (cs := #[.string a0_0, .slice A0_1 l0_1.length c0_1, .slice A0_2 l0_2.length c0_2, .slice A0_3 l0_3.length c0_3]) (t := 37) ?_; intro gb139 hg w17 hbox hb; have BK139 := asT hbox; have GW139 := asT (geT hg HB.out); have GE139 := GW139; replace HB := hS HB hb; clear hb hbox hg; obtain ⟨hcz18_0, hcz18_1, hcz18_2, hcz18_3, hfz18_0, hfz18_1, hfz18_2, hfz18_3⟩ := bx4 BK139.out) | ((with_reducible refine gate_callee (f := 8) rfl ?_); refine goesL_ (some 15) rfl rfl Tryz.func8 (by kernel_rfl) rfl #[.slice A0_1 l0_1.length c0_1, .int .i64 (wrap64 (a1 - (a0_0.size : Int)))] rfl eqT ?_; (with_reducible refine (laws_szStringS.calls k _ _ l0_1 (wrap64 (a1 - (a0_0.size : Int))) t140 _ ?side1 ?side2 A6.out).mono ?_); (case side1 => exact crT HR0_1.out HB.out); (case side2 => exact HC0_1.out); rintro e w' ⟨rfl, ⟨nd, rfl⟩⟩; refine ⟨_, rfl, ?_⟩) | ((with_reducible refine gate_callee (f := 51) rfl ?_); refine goesL_ (some 21) rfl rfl Tryz.func51 (by kernel_rfl) rfl #[.slice A0_2 l0_2.length c0_2, .int .i64 t140] rfl eqT ?_; (with_reducible refine (laws_szCandidateS.calls k _ _ l0_2 t140 t141 _ ?side1 ?side2 A10.out).mono ?_); (case side1 => exact crT HR0_2.out (hbT HB.out)); (case side2 => exact HC0_2.out); rintro e w19 ⟨rfl, hb⟩; refine ⟨_, rfl, ?_⟩; replace BK139 := bS BK139 hb; replace HB := hS HB hb; (try clear hb hb2 hk hi); obtain ⟨hcz20_0, hcz20_1, hcz20_2, hcz20_3, hfz20_0, hfz20_1, hfz20_2, hfz20_3⟩ := bx4 BK139.out) | ((with_reducible refine gate_callee (f := 52) rfl ?_); refine goesL_ (some 27) rfl rfl Tryz.func52 (by kernel_rfl) rfl #[.slice A0_3 l0_3.length c0_3, .int .i64 t141] rfl eqT ?_; (with_reducible refine (laws_szIntSS.calls k _ _ l0_3 t141 t142 _ ?side1 ?side2 A15.out).mono ?_); (case side1 => exact crT HR0_3.out HB.out); (case side2 => exact HC0_3.out); rintro e w' ⟨rfl, ⟨nd, rfl⟩⟩; refine ⟨_, rfl, ?_⟩))
     go_ret; exact ⟨rlT, hbT HB.out⟩
    ·rw [if_neg c16] at H; have c16b0 := df c16; clear c16; obtain rfl := oI H; go_enter Tryz.func17, Tryz.ntmps17
     go_wp2_with (first | ((with_reducible refine gate_dst (N := 2) rfl ?_); refine boxT (N := 2) (cs := #[.string a0_0, .slice A0_1 l0_1.length c0_1, .slice A0_2 l0_2.length c0_2, .slice A0_3 l0_3.length c0_3]) (t := 37) ?_; intro gb139 hg w21 hbox hb; have BK139 := asT hbox; have GW139 := asT (geT hg HB.out); have GE139 := GW139; replace HB := hS HB hb; clear hb hbox hg; obtain ⟨hcz22_0, hcz22_1, hcz22_2, hcz22_3, hfz22_0, hfz22_1, hfz22_2, hfz22_3⟩ := bx4 BK139.out) | ((with_reducible refine gate_callee (f := 8) rfl ?_); refine goesL_ (some 15) rfl rfl Tryz.func8 (by kernel_rfl) rfl #[.slice A0_1 l0_1.length c0_1, .int .i64 (wrap64 (a1 - (a0_0.size : Int)))] rfl eqT ?_; (with_reducible refine (laws_szStringS.calls k _ _ l0_1 (wrap64 (a1 - (a0_0.size : Int))) t140 _ ?side1 ?side2 A6.out).mono ?_); (case side1 => exact crT HR0_1.out HB.out); (case side2 => exact HC0_1.out); rintro e w' ⟨rfl, ⟨nd, rfl⟩⟩; refine ⟨_, rfl, ?_⟩) | ((with_reducible refine gate_callee (f := 51) rfl ?_); refine goesL_ (some 21) rfl rfl Tryz.func51 (by kernel_rfl) rfl #[.slice A0_2 l0_2.length c0_2, .int .i64 t140] rfl eqT ?_; (with_reducible refine (laws_szCandidateS.calls k _ _ l0_2 t140 t141 _ ?side1 ?side2 A10.out).mono ?_); (case side1 => exact crT HR0_2.out (hbT HB.out)); (case side2 => exact HC0_2.out); rintro e w23 ⟨rfl, hb⟩; refine ⟨_, rfl, ?_⟩; replace BK139 := bS BK139 hb; replace HB := hS HB hb; (try clear hb hb2 hk hi); obtain ⟨hcz24_0, hcz24_1, hcz24_2, hcz24_3, hfz24_0, hfz24_1, hfz24_2, hfz24_3⟩ := bx4 BK139.out) | ((with_reducible refine gate_callee (f := 52) rfl ?_); refine goesL_ (some 27) rfl rfl Tryz.func52 (by kernel_rfl) rfl #[.slice A0_3 l0_3.length c0_3, .int .i64 t141] rfl eqT ?_; (with_reducible refine (laws_szIntSS.calls k _ _ l0_3 t141 t142 _ ?side1 ?side2 A15.out).mono ?_); (case side1 => exact crT HR0_3.out HB.out); (case side2 => exact HC0_3.out); rintro e w' ⟨rfl, ⟨nd, rfl⟩⟩; refine ⟨_, rfl, ?_⟩))
     go_ret; exact ⟨rlT, hbT HB.out⟩
def spec_l3Has.l0 : Nat → List ByteArray → ByteArray → Int → Option (Bool)
 | 0, _, _, _ => none
 | k + 1, x0, x1, x5 => if x5 < (x0.length : Int) then (if 0 ≤ x5 then (if (rdOf ByteArray.empty x0 x5).toList = x1.toList then (some true) else (spec_l3Has.l0 k x0 x1 (wrap64 (x5 + 1)))) else (none)) else (some false)
def spec_l3Has.f (k : Nat) (l0 : List ByteArray) (a1 : ByteArray) : Option (Bool) := spec_l3Has.l0 k l0 a1 0
theorem spec_l3Has.mono_l : ∀ k, (∀ y0 y1 y2, LeO (spec_l3Has.l0 k y0 y1 y2) (spec_l3Has.l0 (k + 1) y0 y1 y2))
 | 0 => fun _ _ _ r h => by simp [spec_l3Has.l0] at h
 | k + 1 => by
  have ih0 := spec_l3Has.mono_l k
  ·intro y0 y1 y2; unfold spec_l3Has.l0
   with_reducible repeat' first | exact ih0 _ _ _ | exact LeO.refl _ | exact LeO.none _ | refine LeO.ite ?_ ?_ | refine LeO.bind ?_ (fun _ => ?_)
theorem spec_l3Has.mono : ∀ a0 a1 k, LeO (spec_l3Has.f k a0 a1) (spec_l3Has.f (k + 1) a0 a1) := by
 intro a0 a1 k; have ih0 := spec_l3Has.mono_l k; unfold spec_l3Has.f
 with_reducible repeat' first | exact ih0 _ _ _ | exact LeO.refl _ | exact LeO.none _ | refine LeO.ite ?_ ?_ | refine LeO.bind ?_ (fun _ => ?_)
theorem spec_l3Has.calls (k : Nat) (A0 : Option Addr) (c0 : Nat) (l0 : List ByteArray) (a1 : ByteArray) (r : Bool) (w : World) (hr0 : Kd.C Kd.string w A0 l0.length l0) (hc0 : l0.length ≤ c0) (h : spec_l3Has.f k l0 a1 = some r) :
  Calls Tryz.prog 72 #[.slice A0 l0.length c0, .string a1] w fun e w' => e = .returned (.bool r) ∧ Drawn0 w w' := by
 have HR0 := asT hr0; have HC0 := asT hc0; clear hr0 hc0; have H := h; unfold spec_l3Has.f at H; clear h; have H' := asT H; clear H; go_enter Tryz.func72, Tryz.ntmps72
 go_wp2
 go_loopg [5] k (fun kq v5 w' => ∃ (x5_1 : Int), v5 = .int .i64 x5_1 ∧ Aside0 (spec_l3Has.l0 kq l0 a1 x5_1 = some r) ∧ Aside0 (kq ≤ k) ∧ Drawn0 w w')
 case atStart => exact ⟨(0), rdT, H', ⟨Nat.le_refl _⟩, drT⟩
 case round =>
  clear H'; (try clear p2); obtain ⟨x5_1, rfl, HA, HK1, ⟨m1, rfl⟩⟩ := hrel
  cases gk with
  | zero => exact absurd HA.out (by simp [spec_l3Has.l0])
  | succ k1 =>
   have H := HA.out; clear HA
   simp only [spec_l3Has.l0] at H
   by_cases c3 : x5_1 < (l0.length : Int)
   ·rw [if_pos c3] at H; have c3b0 := dt c3; clear c3; by_cases c4 : 0 ≤ x5_1
    ·rw [if_pos c4] at H; have c4b0 := dt c4; clear c4; by_cases c5 : (rdOf ByteArray.empty l0 x5_1).toList = a1.toList
     ·rw [if_pos c5] at H; have c5b0 : ((rdOf ByteArray.empty l0 x5_1).toList == a1.toList) = true := eC c5; have c5b1 : ((rdOf ByteArray.empty l0 x5_1).toList != a1.toList) = false := eA c5; clear c5; obtain rfl := oI H; have p143 : 0 ≤ (x5_1 : Int) := dT asmT; have q143 : x5_1 < (l0.length : Int) := dT asmT; obtain ⟨ad143, e143, hx143_0⟩ := Kd.at_string HR0.out x5_1 p143 q143
      cases e143
      replace p143 := eq_true p143; replace q143 := eq_true q143
      go_wp2
      go_ret; exact ⟨rdT, drT⟩
     ·rw [if_neg c5] at H; have c5b0 : ((rdOf ByteArray.empty l0 x5_1).toList == a1.toList) = false := eB c5; have c5b1 : ((rdOf ByteArray.empty l0 x5_1).toList != a1.toList) = true := eD c5; have H' := asT H; clear H; have p143 : 0 ≤ (x5_1 : Int) := dT asmT; have q143 : x5_1 < (l0.length : Int) := dT asmT; obtain ⟨ad143, e143, hx143_0⟩ := Kd.at_string HR0.out x5_1 p143 q143
      cases e143
      replace p143 := eq_true p143; replace q143 := eq_true q143
      go_wp2
      go_roundg k1
      case measure => have := HK1.out; omega
      case rel => exact ⟨(wrap64 (x5_1 + 1)), rdT, H', ⟨by have := HK1.out; omega⟩, drT⟩
    ·rw [if_neg c4] at H; exact absurd H (by simp)
   ·rw [if_neg c3] at H; have c3b0 := df c3; clear c3; obtain rfl := oI H
    go_wp2
    go_ret; exact ⟨rdT, drT⟩
def spec_ConstraintNames.f  : Option (List ByteArray) := some (([(⟨#[111, 110, 115, 101, 116]⟩ : ByteArray), (⟨#[110, 111, 99, 111, 100, 97]⟩ : ByteArray), (⟨#[99, 108, 117, 115, 116, 101, 114]⟩ : ByteArray), (⟨#[118, 111, 105, 99, 101]⟩ : ByteArray), (⟨#[102, 105, 110, 97, 108]⟩ : ByteArray), (⟨#[110, 97, 115, 97, 108]⟩ : ByteArray), (⟨#[109, 97, 120]⟩ : ByteArray), (⟨#[100, 101, 112]⟩ : ByteArray), (⟨#[105, 100, 101, 110, 116]⟩ : ByteArray), (⟨#[99, 111, 110, 116, 105, 103]⟩ : ByteArray)] : List ByteArray))
theorem spec_ConstraintNames.calls  (r : List ByteArray) (w : World) (h : spec_ConstraintNames.f  = some r) :
  Calls Tryz.prog 74 #[] w fun e w' => ∃ v0_ : Value, e = .returned (v0_) ∧ Kd.R Kd.string 9 w' w.heap.size (fun _ => True) v0_ r ∧ Below w.heap.size w w' := by
 have HB := asT (Below.refl w.heap.size w); have H := h; unfold spec_ConstraintNames.f at H; clear h; obtain ⟨y144, hy144⟩ : ∃ y_ : List ByteArray, y_ = (([(⟨#[111, 110, 115, 101, 116]⟩ : ByteArray), (⟨#[110, 111, 99, 111, 100, 97]⟩ : ByteArray), (⟨#[99, 108, 117, 115, 116, 101, 114]⟩ : ByteArray), (⟨#[118, 111, 105, 99, 101]⟩ : ByteArray), (⟨#[102, 105, 110, 97, 108]⟩ : ByteArray), (⟨#[110, 97, 115, 97, 108]⟩ : ByteArray), (⟨#[109, 97, 120]⟩ : ByteArray), (⟨#[100, 101, 112]⟩ : ByteArray), (⟨#[105, 100, 101, 110, 116]⟩ : ByteArray), (⟨#[99, 111, 110, 116, 105, 103]⟩ : ByteArray)] : List ByteArray)) := ⟨_, rfl⟩
 replace H : (some y144) = some r := by first | (rw [hy144]; with_reducible exact H) | (have H2_ := (Option.bind_some _ _).symm.trans H; rw [hy144]; with_reducible exact H2_) | (have H2_ := (Option.bind_some _ _).symm.trans H; with_reducible exact H2_) | with_reducible exact H | (rw [hy144]; exact H) | exact H
 have Ny144 := asT hy144; clear hy144; obtain rfl := oI H; go_enter Tryz.func74, Tryz.ntmps74
 go_wp2_with (first | ((with_reducible refine gate_dst (N := 1) rfl ?_); refine Kd.R_lit Kd.string _ 9 ?hg (N := 1) ?hd (xs := ([(⟨#[111, 110, 115, 101, 116]⟩ : ByteArray), (⟨#[110, 111, 99, 111, 100, 97]⟩ : ByteArray), (⟨#[99, 108, 117, 115, 116, 101, 114]⟩ : ByteArray), (⟨#[118, 111, 105, 99, 101]⟩ : ByteArray), (⟨#[102, 105, 110, 97, 108]⟩ : ByteArray), (⟨#[110, 97, 115, 97, 108]⟩ : ByteArray), (⟨#[109, 97, 120]⟩ : ByteArray), (⟨#[100, 101, 112]⟩ : ByteArray), (⟨#[105, 100, 101, 110, 116]⟩ : ByteArray), (⟨#[99, 111, 110, 116, 105, 103]⟩ : ByteArray)] : List ByteArray)) (inner := [.string (⟨#[111, 110, 115, 101, 116]⟩ : ByteArray), .string (⟨#[110, 111, 99, 111, 100, 97]⟩ : ByteArray), .string (⟨#[99, 108, 117, 115, 116, 101, 114]⟩ : ByteArray), .string (⟨#[118, 111, 105, 99, 101]⟩ : ByteArray), .string (⟨#[102, 105, 110, 97, 108]⟩ : ByteArray), .string (⟨#[110, 97, 115, 97, 108]⟩ : ByteArray), .string (⟨#[109, 97, 120]⟩ : ByteArray), .string (⟨#[100, 101, 112]⟩ : ByteArray), .string (⟨#[105, 100, 101, 110, 116]⟩ : ByteArray), .string (⟨#[99, 111, 110, 116, 105, 103]⟩ : ByteArray)]) (ok := fun _ => True) (okp := fun _ => True) ?hr ?hp (fun _ hk => hk) trivial (Below.refl _ _) (Nat.le_refl _) (by simp) ?_; (case hd => rfl); (case hg => rfl); (case hr => first | (go_simp; done) | (go_simp; rfl)); (case hp => exact (Reps.one (show Kd.M Kd.string _ _ _ (⟨#[111, 110, 115, 101, 116]⟩ : ByteArray) [.string (⟨#[111, 110, 115, 101, 116]⟩ : ByteArray)] from rfl) (Reps.one (show Kd.M Kd.string _ _ _ (⟨#[110, 111, 99, 111, 100, 97]⟩ : ByteArray) [.string (⟨#[110, 111, 99, 111, 100, 97]⟩ : ByteArray)] from rfl) (Reps.one (show Kd.M Kd.string _ _ _ (⟨#[99, 108, 117, 115, 116, 101, 114]⟩ : ByteArray) [.string (⟨#[99, 108, 117, 115, 116, 101, 114]⟩ : ByteArray)] from rfl) (Reps.one (show Kd.M Kd.string _ _ _ (⟨#[118, 111, 105, 99, 101]⟩ : ByteArray) [.string (⟨#[118, 111, 105, 99, 101]⟩ : ByteArray)] from rfl) (Reps.one (show Kd.M Kd.string _ _ _ (⟨#[102, 105, 110, 97, 108]⟩ : ByteArray) [.string (⟨#[102, 105, 110, 97, 108]⟩ : ByteArray)] from rfl) (Reps.one (show Kd.M Kd.string _ _ _ (⟨#[110, 97, 115, 97, 108]⟩ : ByteArray) [.string (⟨#[110, 97, 115, 97, 108]⟩ : ByteArray)] from rfl) (Reps.one (show Kd.M Kd.string _ _ _ (⟨#[109, 97, 120]⟩ : ByteArray) [.string (⟨#[109, 97, 120]⟩ : ByteArray)] from rfl) (Reps.one (show Kd.M Kd.string _ _ _ (⟨#[100, 101, 112]⟩ : ByteArray) [.string (⟨#[100, 101, 112]⟩ : ByteArray)] from rfl) (Reps.one (show Kd.M Kd.string _ _ _ (⟨#[105, 100, 101, 110, 116]⟩ : ByteArray) [.string (⟨#[105, 100, 101, 110, 116]⟩ : ByteArray)] from rfl) (Reps.one (show Kd.M Kd.string _ _ _ (⟨#[99, 111, 110, 116, 105, 103]⟩ : ByteArray) [.string (⟨#[99, 111, 110, 116, 105, 103]⟩ : ByteArray)] from rfl) (Reps.none _ _)))))))))))); intro v145 w1 ho2 hb hg_ hnew_; clear hg_ hnew_; (first | rw [← Ny144.out] at ho2 | (simp only [Int.reduceToNat] at ho2; rw [← Ny144.out] at ho2)); have HO146 := asT (Kd.R_lower ho2 (below_size (hbT HB.out))); replace HB := hS HB hb; clear hb ho2))
 go_ret; exact ⟨_, rlT, roT HO146.out, hbT HB.out⟩
def spec_l1In.f (a0 : Int) (a1 : Int) (a2 : Int) : Option (Bool) := if a0 ≥ a1 then (some (decide (a0 ≤ a2))) else (some false)
theorem spec_l1In.calls (a0 : Int) (a1 : Int) (a2 : Int) (r : Bool) (w : World) (h : spec_l1In.f a0 a1 a2 = some r) :
  Calls Tryz.prog 75 #[.int .i64 a0, .int .i64 a1, .int .i64 a2] w fun e w' => e = .returned (.bool r) ∧ Drawn0 w w' := by
 have H := h; unfold spec_l1In.f at H; clear h; by_cases c4 : a0 ≥ a1
 ·rw [if_pos c4] at H; have c4b0 : decide (a1 ≤ a0) = true := dt c4; clear c4; obtain rfl := oI H; go_enter Tryz.func75, Tryz.ntmps75
  go_wp2
  go_ret; exact ⟨rdT, drT⟩
 ·rw [if_neg c4] at H; have c4b0 : decide (a1 ≤ a0) = false := df c4; clear c4; obtain rfl := oI H; go_enter Tryz.func75, Tryz.ntmps75
  go_wp2
  go_ret; exact ⟨rdT, drT⟩
end Go.Proofs.YtlmfpkiaikjlbaaGreat.PFnExactDistinctProfiles
