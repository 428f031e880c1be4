-- Made by gen.py (a program of this session) out of the translation; Lean checks it.
import Derived.Test.YtmfhaplhgaehhaaGreatPFnExactRowWithx0
import Derived.Test.YtmfhaplhgaehhaaGreatPFnExactRowWithx5
namespace Go.Proofs.YtmfhaplhgaehhaaGreat.PFnExactRowWith
open Go.RowKit Go.Proofs.YtmfhaplhgaehhaaGreatB Go.Proofs.YtmfhaplhgaehhaaGreatW.PrintWords Go.Proofs.YtmfhaplhgaehhaaGreatW.PrintLast Go.Proofs.YtmfhaplhgaehhaaGreatW.PrintMore
attribute [local go_sem] max2_int min2_int max_two min_two max_three min_three max_four min_four   -- for this text's walks alone
set_option linter.unusedVariables false
set_option linter.unusedSimpArgs false

/-! ### laws_toCandidate: function 52 -/
def laws_toCandidate.f (k : Nat) (l0_0 : List (S96)) : Option ((List (S70))) := (laws_toLinkS.f k l0_0).bind fun t270 => (some t270)
theorem laws_toCandidate.mono : ∀ a0 k, LeO (laws_toCandidate.f k a0) (laws_toCandidate.f (k + 1) a0) := by
 intro a0 k
 unfold laws_toCandidate.f
 with_reducible repeat' first | exact laws_toLinkS.mono _ _ | exact LeO.refl _ | exact LeO.none _ | refine LeO.ite ?_ ?_ | refine LeO.bind ?_ (fun _ => ?_)
set_option maxHeartbeats 8000000 in
set_option maxRecDepth 100000 in
theorem laws_toCandidate.calls (k : Nat) (A0_0 : Option Addr) (c0_0 : Nat) (l0_0 : List (S96)) (r : List (S70)) (w : World) (hr0_0 : Kd.C k96 w A0_0 l0_0.length l0_0) (hc0_0 : l0_0.length ≤ c0_0) (h : laws_toCandidate.f k l0_0 = some r) :
  Calls Tryz.prog 52 #[.agg #[.slice A0_0 l0_0.length c0_0]] w fun e w' => ∃ v0_ : Value, e = .returned (.agg #[v0_]) ∧ Kd.R k70 70 w' w.heap.size (fun _ => True) v0_ r ∧ Below w.heap.size w w' := by
 have hu64 := Tryz.underlying64; have hu48 := Tryz.underlying48; have HR0_0 := Aside0.mk hr0_0; have HC0_0 := Aside0.mk hc0_0; clear hr0_0 hc0_0; have HB := asT (Below.refl w.heap.size w); have H := h; unfold laws_toCandidate.f at H; clear h; obtain ⟨t270, A2, H⟩ := be H
 obtain rfl := Option.some.inj H
 go_enter Tryz.func52, Tryz.ntmps52
 go_wp2_with (first | ((with_reducible refine gate_dst (N := 1) rfl ?_); refine boxT (N := 1) (cs := #[.slice A0_0 l0_0.length c0_0]) (t := 64) ?_; intro gb267 hg w3 hbox hb; have BK267 := asT hbox; have GW267 := asT (geT hg HB.out); have GE267 := GW267; replace HB := hS HB hb; clear hb hbox hg) | ((with_reducible refine gate_dst (N := 2) rfl ?_); refine boxT (N := 2) (cs := #[.slice none 0 0]) (t := 48) ?_; intro gb268 hg w4 hbox hb; have BK268 := asT (hbox); have GW268 := asT (geT hg HB.out); have GE268 := asT (geT hg HB.out); replace HB := hS HB hb; have NB267_268 := asT ((by rw [hg]; exact Nat.ne_of_lt (blk_lt (bkT BK267.out)) : gb267 ≠ gb268)); have NB268_267 := asT ((by rw [hg]; exact Nat.ne_of_gt (blk_lt (bkT BK267.out)) : gb268 ≠ gb267)); replace BK267 := bS BK267 hb; clear hb hbox hg) | ((with_reducible refine gate_dst (N := 3) rfl ?_); refine boxT (N := 3) (cs := #[.slice none 0 0]) (t := 48) ?_; intro gb269 hg w5 hbox hb; have BK269 := asT (hbox); have GW269 := asT (geT hg HB.out); have GE269 := asT (geT hg HB.out); replace HB := hS HB hb; have NB267_269 := asT ((by rw [hg]; exact Nat.ne_of_lt (blk_lt (bkT BK267.out)) : gb267 ≠ gb269)); have NB269_267 := asT ((by rw [hg]; exact Nat.ne_of_gt (blk_lt (bkT BK267.out)) : gb269 ≠ gb267)); replace BK267 := bS BK267 hb; have NB268_269 := asT ((by rw [hg]; exact Nat.ne_of_lt (blk_lt (bkT BK268.out)) : gb268 ≠ gb269)); have NB269_268 := asT ((by rw [hg]; exact Nat.ne_of_gt (blk_lt (bkT BK268.out)) : gb269 ≠ gb268)); replace BK268 := bS BK268 hb; clear hb hbox hg; have hnb6 := NB267_268.out; have hnc6 := NB268_267.out; have hnb7 := NB267_269.out; have hnc7 := NB269_267.out; obtain ⟨hcz8_0, hfz8_0⟩ := bx1 BK267.out) | ((with_reducible refine gate_callee (f := 80) rfl ?_); refine goesL_ (some 6) rfl rfl Tryz.func80 (by kernel_rfl) rfl #[.slice A0_0 l0_0.length c0_0] rfl eqT ?_; (with_reducible refine (laws_toLinkS.calls k _ _ l0_0 t270 _ ?side1 ?side2 A2.out).mono ?_); (case side1 => exact crT HR0_0.out HB.out); (case side2 => exact HC0_0.out); rintro e w9 ⟨v271, rfl, ho0, hb⟩; refine ⟨_, rfl, ?_⟩; have HO272 := asT (Kd.R_lower ho0 (below_size (hbT HB.out))); replace BK267 := bS BK267 hb; replace BK268 := bS BK268 hb; replace BK269 := bS BK269 hb; replace HB := hS HB hb; (try clear hb hb2 hk hi ho0); obtain ⟨Ao10, co10, eo10⟩ := Kd.R_slice HO272.out; subst eo10; have hnb11 := NB269_268.out; have hnc11 := NB268_269.out; obtain ⟨hcz12_0, hfz12_0⟩ := bx1 BK269.out; obtain ⟨hcz13_0, hfz13_0⟩ := bx1 BK268.out))
 refine bodyPost_ret (results_cell_row rfl _ _ gb268 48 #[.slice Ao10 t270.length co10] (0, 0) _ rfl (by (with_reducible repeat (first | refine blk_drewN ?_ _ | refine blk_drew ?_ | refine blk_alloc ?_ _)); refine blk_put (cs := #[.slice none 0 0]) ?_ 0 _ rfl; (with_reducible repeat (first | refine blk_drewN ?_ _ | refine blk_drew ?_ | refine blk_alloc ?_ _)); refine blk_far ?_ NB268_269.out _; (with_reducible repeat (first | refine blk_drewN ?_ _ | refine blk_drew ?_ | refine blk_alloc ?_ _)); exact BK268.out) Tryz.underlying48 rfl (by kernel_rfl)) rfl ?_
 exact ⟨_, rlT, by (with_reducible repeat (first | apply Kd.R_alloc | apply Kd.R_drewN | apply Kd.R_drew)); exact Kd.R_mono (Kd.R_far (p := ⟨gb268, 0, none⟩) (Kd.R_far (p := ⟨gb269, 0, none⟩) (Kd.R_types (Kd.R_types HO272.out BK269.out (by decide)) BK268.out (by decide)) (fun _ hk => hk.1.2) (.slice Ao10 t270.length co10)) (fun _ hk => hk.2) (.slice Ao10 t270.length co10)) (fun _ hk => trivial), hbT HB.out⟩

/-! ### laws_toCandidateS: function 23 -/
def laws_toCandidateS.l0 : Nat → List (S64) → List (S48) → Int → Option ((List (S48)))
 | 0, _, _, _ => none
 | k + 1, x0, x3, x4 => if x4 < (x0.length : Int) then (if 0 ≤ x4 then ((laws_toCandidate.f k ((rd_T64 x0 x4).f0)).bind fun t277 => (if x4 < (x3.length : Int) then (laws_toCandidateS.l0 k x0 (x3.set (x4 : Int).toNat (⟨t277⟩ : S48)) (wrap64 (x4 + 1))) else (none))) else (none)) else (some x3)
def laws_toCandidateS.f (k : Nat) (l0 : List (S64)) : Option ((List (S48))) := if 0 ≤ (l0.length : Int) then (if ((l0.length : Int) : Int).toNat ≤ 11728124029610 then (laws_toCandidateS.l0 k l0 (List.replicate ((l0.length : Int) : Int).toNat z48) 0) else (none)) else (none)
theorem laws_toCandidateS.mono_l : ∀ k, (∀ y0 y1 y2, LeO (laws_toCandidateS.l0 k y0 y1 y2) (laws_toCandidateS.l0 (k + 1) y0 y1 y2))
 | 0 => fun _ _ _ r h => by simp [laws_toCandidateS.l0] at h
 | k + 1 => by
  have ih0 := laws_toCandidateS.mono_l k
  ·intro y0 y1 y2
   unfold laws_toCandidateS.l0
   with_reducible repeat' first | exact ih0 _ _ _ | exact laws_toCandidate.mono _ _ | exact LeO.refl _ | exact LeO.none _ | refine LeO.ite ?_ ?_ | refine LeO.bind ?_ (fun _ => ?_)
theorem laws_toCandidateS.mono : ∀ a0 k, LeO (laws_toCandidateS.f k a0) (laws_toCandidateS.f (k + 1) a0) := by
 intro a0 k
 have ih0 := laws_toCandidateS.mono_l k
 unfold laws_toCandidateS.f
 with_reducible repeat' first | exact ih0 _ _ _ | exact laws_toCandidate.mono _ _ | exact LeO.refl _ | exact LeO.none _ | refine LeO.ite ?_ ?_ | refine LeO.bind ?_ (fun _ => ?_)
set_option maxHeartbeats 8000000 in
set_option maxRecDepth 100000 in
theorem laws_toCandidateS.calls (k : Nat) (A0 : Option Addr) (c0 : Nat) (l0 : List (S64)) (r : List (S48)) (w : World) (hr0 : Kd.C k64 w A0 l0.length l0) (hc0 : l0.length ≤ c0) (h : laws_toCandidateS.f k l0 = some r) :
  Calls Tryz.prog 23 #[.slice A0 l0.length c0] w fun e w' => ∃ v0_ : Value, e = .returned (v0_) ∧ Kd.S k48 48 w' w.heap.size (fun _ => True) v0_ r ∧ Below w.heap.size w w' := by
 have hu64 := Tryz.underlying64; have hu48 := Tryz.underlying48; have HR0 := Aside0.mk hr0; have HC0 := Aside0.mk hc0; clear hr0 hc0; have HB := asT (Below.refl w.heap.size w); have H := h; unfold laws_toCandidateS.f at H; clear h
 by_cases c2 : 0 ≤ (l0.length : Int)
 ·rw [if_pos c2] at H
  have c2b0 := eq_true c2
  have c2b1 : decide (0 ≤ (l0.length : Int)) = true := decide_eq_true c2
  clear c2
  by_cases c3 : ((l0.length : Int) : Int).toNat ≤ 11728124029610
  ·rw [if_pos c3] at H
   have c3b0 := eq_true c3
   have c3b1 : decide (((l0.length : Int) : Int).toNat ≤ 11728124029610) = true := decide_eq_true c3
   clear c3; obtain ⟨y273, hy273⟩ : ∃ y_ : List (S48), y_ = (List.replicate ((l0.length : Int) : Int).toNat z48) := ⟨_, rfl⟩
   replace H : (laws_toCandidateS.l0 k l0 y273 0) = some r := by first | (rw [hy273]; with_reducible exact H) | (have H2_ := (Option.bind_some _ _).symm.trans H; rw [hy273]; with_reducible exact H2_) | (have H2_ := (Option.bind_some _ _).symm.trans H; with_reducible exact H2_) | with_reducible exact H | (rw [hy273]; exact H) | exact H
   have Ny273 := Aside0.mk hy273; clear hy273; have H' := Aside0.mk H; clear H
   go_enter Tryz.func23, Tryz.ntmps23
   go_wp2_with (first | ((with_reducible refine gate_dst (N := 7) rfl ?_); refine Kd.S_make k48 _ 48 rfl (N := 7) rfl 29 _ _ rfl (l0.length : Int) rfl rfl Tryz.underlying29 (.agg #[(.slice none 0 0)]) 24 info48 rfl (by decide) (by omega) z48 (ok := fun _ => True) (okp := fun _ => True) (k48_mkM _ _ _ z48 (Kd.R_nil _ _ _ _ _)) (fun _ hk => hk) trivial (of_decide_eq_true asmT) (Nat.le_trans (Nat.mul_le_mul_right _ (of_decide_eq_true asmT : (l0.length : Int).toNat ≤ 11728124029610)) (by omega)) (Below.refl _ _) (Nat.le_refl _) ?_; intro v274 w4 ho5 hb hg_ hnew_; clear hg_ hnew_; (first | rw [← Ny273.out] at ho5 | (simp only [Int.reduceToNat] at ho5; rw [← Ny273.out] at ho5)); have HO275 := asT (Kd.S_lower ho5 (below_size (hbT HB.out))); replace HB := hS HB hb; clear hb ho5))
   go_loopg [4] k (fun kq v4 w' => ∃ (x3_1 : List (S48)) (x4_1 : Int), v4 = .int .i64 x4_1 ∧ Aside0 (laws_toCandidateS.l0 kq l0 x3_1 x4_1 = some r) ∧ Aside0 (kq ≤ k) ∧ Aside0 (Kd.S k48 48 w' w.heap.size (fun _ => True) v274 x3_1) ∧ Aside0 (Below w.heap.size w w'))
   case atStart => exact ⟨(y273), (0), rdT, H', ⟨Nat.le_refl _⟩, ⟨by (with_reducible repeat (first | apply Kd.S_alloc | apply Kd.S_drewN | apply Kd.S_drew)); exact HO275.out⟩, ⟨hbT HB.out⟩⟩
   case round =>
    clear H'; (try clear c2 c2b0 c2b1 p2 c3 c3b0 c3b1); obtain ⟨x3_1, x4_1, rfl, HA, HK1, HO_3, HB⟩ := hrel
    cases gk with
    | zero => exact absurd HA.out (by simp [laws_toCandidateS.l0])
    | succ k1 =>
     have H := HA.out; clear HA
     simp only [laws_toCandidateS.l0] at H
     by_cases c6 : x4_1 < (l0.length : Int)
     ·rw [if_pos c6] at H
      have c6b0 : decide (x4_1 < (l0.length : Int)) = true := decide_eq_true c6
      clear c6
      by_cases c7 : 0 ≤ x4_1
      ·rw [if_pos c7] at H
       have c7b0 : decide (0 ≤ x4_1) = true := decide_eq_true c7
       clear c7; obtain ⟨t277, A8, H⟩ := be H
       by_cases c9 : x4_1 < (x3_1.length : Int)
       ·rw [if_pos c9] at H
        have c9b0 : decide (x4_1 < (x3_1.length : Int)) = true := decide_eq_true c9
        clear c9; obtain ⟨y280, hy280⟩ : ∃ y_ : List (S48), y_ = (x3_1.set (x4_1 : Int).toNat (⟨t277⟩ : S48)) := ⟨_, rfl⟩
        replace H : (laws_toCandidateS.l0 k1 l0 y280 (wrap64 (x4_1 + 1))) = some r := by first | (rw [hy280]; with_reducible exact H) | (have H2_ := (Option.bind_some _ _).symm.trans H; rw [hy280]; with_reducible exact H2_) | (have H2_ := (Option.bind_some _ _).symm.trans H; with_reducible exact H2_) | with_reducible exact H | (rw [hy280]; exact H) | exact H
        have Ny280 := Aside0.mk hy280; clear hy280; have H' := Aside0.mk H; clear H
        have p276 : 0 ≤ (x4_1 : Int) := of_decide_eq_true asmT
        have q276 : x4_1 < (l0.length : Int) := of_decide_eq_true asmT
        obtain ⟨ad276, A276_0, c276_0, e276, hx276_0, hl276_0, hi276_0⟩ := at_T64 HR0.out x4_1 p276 q276
        cases e276
        replace hx276_0 := hbc HB.out hx276_0; have HR276_0 := Aside0.mk hi276_0; have HC276_0 := Aside0.mk hl276_0; clear hi276_0 hl276_0; replace p276 := eq_true p276; replace q276 := eq_true q276
        go_wp2_with (first | ((with_reducible refine gate_callee (f := 52) rfl ?_); refine goesL_ (some 20) rfl rfl Tryz.func52 (by kernel_rfl) rfl #[.agg #[.slice A276_0 ((rd_T64 l0 x4_1).f0).length c276_0]] rfl eqT ?_; (with_reducible refine (laws_toCandidate.calls k1 _ _ ((rd_T64 l0 x4_1).f0) t277 _ ?side1 ?side2 A8.out).mono ?_); (case side1 => exact crT HR276_0.out HB.out); (case side2 => exact HC276_0.out); rintro e w11 ⟨v278, rfl, ho0, hb⟩; refine ⟨_, rfl, ?_⟩; replace HO_3 := asT (Kd.S_elder' (by (with_reducible repeat (first | apply Kd.S_alloc | apply Kd.S_drewN | apply Kd.S_drew)); exact HO_3.out) (Kd.R_base ho0) hb); have HO279 := asT (Kd.R_lower ho0 (below_size (hbT HB.out))); replace HB := hS HB hb; (try clear hb hb2 hk hi ho0); have p10 : 0 ≤ (x4_1 : Int) := of_decide_eq_true asmT; have q10 : (x4_1 : Int) < ((x3_1.length : Int) : Int) := of_decide_eq_true asmT; obtain ⟨go10, co10, eo10, gb10, gl10, cl10, HG10⟩ := Kd.S_form HO_3.out (by omega); (first | cases eo10 | (injection eo10 with ea_ en_ ec_; (first | subst ea_ | (injection ea_ with ea_; subst ea_)); subst ec_; clear en_)); have GB10 := Aside0.mk gb10; have GG10 := Aside0.mk HG10; clear gb10 gl10 HG10; obtain ⟨_, ce10, hcl10, hM10, hcc10, hfr10, _, _⟩ := Kd.S_elem HO_3.out z48 (x4_1 : Int) p10 q10; obtain ⟨ve10_0, rfl, ge10_0⟩ := k48_openM hM10; have hx10_0 := hcc10 0 _ rfl; have hf10_0 := hfr10 0; (try simp only [show (k48).sz = 1 from rfl, Nat.mul_one, Nat.add_zero] at hx10_0); (try simp only [show (k48).sz = 1 from rfl, Nat.mul_one, Nat.add_zero] at hf10_0); clear hcl10 hcc10 hfr10; (try clear hM10); replace p10 := eq_true p10; replace q10 := eq_true q10; obtain ⟨Ao12, co12, eo12⟩ := Kd.R_slice HO279.out; subst eo12; replace HO_3 := asT (Kd.S_mono (ok' := (fun k_ => some k_ ≠ (.slice Ao12 t277.length co12 : Value).ownBlock)) HO_3.out (fun k_ hk => hk.2)); have HX13 := asT (show Kd.S k48 48 w11 w.heap.size (fun k_ => ((fun _ => True)) k_ ∧ ¬ ((fun k_ => some k_ = (.slice Ao12 t277.length co12 : Value).ownBlock)) k_) (.slice (some ⟨go10, 0, none⟩) x3_1.length co10) x3_1 from (by (with_reducible repeat (first | apply Kd.S_alloc | apply Kd.S_drewN | apply Kd.S_drew)); exact Kd.S_mono HO_3.out (fun k_ hk => ⟨trivial, fun e_ => hk e_⟩))); obtain ⟨oki13, ce13, hcl13, hM13, hcc13, hfr13, hoki13, hH13⟩ := Kd.S_elem HX13.out z48 (x4_1 : Int) (of_decide_eq_true asmT) (by have h_ : (x4_1 : Int) < ((x3_1.length : Int) : Int) := of_decide_eq_true asmT; first | exact h_ | (have e_ := (Kd.S_reads' HO_3.out).1; omega) | simpa using h_); obtain ⟨ve13_0, rfl, ge13_0⟩ := k48_openM hM13; have HP13 := Kd.S_seg hH13 (of_decide_eq_true asmT) (by have h_ : (x4_1 : Int) < ((x3_1.length : Int) : Int) := of_decide_eq_true asmT; first | exact h_ | (have e_ := (Kd.S_reads' HO_3.out).1; omega) | simpa using h_) (seg := [.slice Ao12 t277.length co12]) (j := 0) (show 1 ≤ 1 from by decide) (x' := (⟨t277⟩ : S48)) (k48_mkM _ _ _ (⟨t277⟩ : S48) (Kd.R_mono (Kd.R_tight rfl (Kd.R_mono (ok' := fun k_ => ((fun _ => True)) k_ ∧ k_ ≠ go10) (Kd.R_apart' (HO279.out) (Kd.S_typed HO_3.out) (by decide)) (fun k_ hk => ⟨trivial, fun e_ => (hk.2) (by rw [e_]; rfl)⟩))) (fun _ h_ => Or.inr (h_)))) (fun _ hk => hk) (fun k_ hk_ => ((Kd.R_mono (ok' := fun k_ => ((fun _ => True)) k_ ∧ k_ ≠ go10) (Kd.R_apart' (HO279.out) (Kd.S_typed HO_3.out) (by decide)) (fun k_ hk => ⟨trivial, fun e_ => (hk.2) (by rw [e_]; rfl)⟩))).1 k_ hk_.symm); have hx13_0 := hcc13 0 _ rfl; (try simp only [show (k48).sz = 1 from rfl, Nat.mul_one, Nat.add_zero] at hx13_0); have hf13_0 := hfr13 0; (try simp only [show (k48).sz = 1 from rfl, Nat.mul_one, Nat.add_zero] at hf13_0); clear hcl13 hcc13 hfr13 hoki13 hH13; (try clear hM13); (try simp only [show (k48).sz = 1 from rfl, Nat.mul_one, Nat.add_zero] at HP13)) | ((with_reducible refine gate_store (t := 48) (p := 21) rfl ?_); refine store_event (t := 48) (p := 21) (v := ?vo_w14) (w1 := (w11.setCell ⟨go10, (x4_1 : Int).toNat, none⟩ (.slice Ao12 t277.length co12))) ?hg ?ho ?hn ?hr ?_; (case ho => rfl); (case hg => rfl); (case hn => rfl); (case hr => first | (go_simp; done) | (go_simp; rfl)); intro w14 hw; have hg : w11.grownBy w14 (some go10) := (by rw [hw]; exact HP13.2); have hp_ : Kd.S k48 48 w14 w.heap.size (fun _ => True) (.slice (some ⟨go10, 0, none⟩) x3_1.length co10) y280 := (by rw [hw, Ny280.out]; exact HP13.1); clear HP13; replace HO_3 := asT (hp_); replace HB := asT ((by rw [hw]; exact below_set (HB.out) GB10.out : Below w.heap.size w w14)); clear HO279 hg hw hp_))
        go_roundg k1
        case measure => have := HK1.out; omega
        case rel => exact ⟨(y280), (wrap64 (x4_1 + 1)), rdT, H', ⟨by have := HK1.out; omega⟩, ⟨by (with_reducible repeat (first | apply Kd.S_alloc | apply Kd.S_drewN | apply Kd.S_drew)); exact HO_3.out⟩, ⟨hbT HB.out⟩⟩
       ·rw [if_neg c9] at H
        exact absurd H (by simp)
      ·rw [if_neg c7] at H
       exact absurd H (by simp)
     ·rw [if_neg c6] at H
      have c6b0 : decide (x4_1 < (l0.length : Int)) = false := decide_eq_false c6
      clear c6
      obtain rfl := Option.some.inj H
      go_wp2
      go_ret
      exact ⟨_, rlT, by (with_reducible repeat (first | apply Kd.S_alloc | apply Kd.S_drewN | apply Kd.S_drew)); exact HO_3.out, hbT HB.out⟩
  ·rw [if_neg c3] at H
   exact absurd H (by simp)
 ·rw [if_neg c2] at H
  exact absurd H (by simp)

/-! ### laws_toIntS: function 53 -/
def laws_toIntS.l0 : Nat → List Int → List Int → Int → Option (List Int)
 | 0, _, _, _ => none
 | k + 1, x0, x3, x4 => if x4 < (x0.length : Int) then (if 0 ≤ x4 then (if x4 < (x3.length : Int) then (laws_toIntS.l0 k x0 (x3.set (x4 : Int).toNat (rd x0 x4)) (wrap64 (x4 + 1))) else (none)) else (none)) else (some x3)
def laws_toIntS.f (k : Nat) (l0 : List Int) : Option (List Int) := if 0 ≤ (l0.length : Int) then (if ((l0.length : Int) : Int).toNat ≤ 35184372088832 then (laws_toIntS.l0 k l0 (List.replicate ((l0.length : Int) : Int).toNat 0) 0) else (none)) else (none)
theorem laws_toIntS.mono_l : ∀ k, (∀ y0 y1 y2, LeO (laws_toIntS.l0 k y0 y1 y2) (laws_toIntS.l0 (k + 1) y0 y1 y2))
 | 0 => fun _ _ _ r h => by simp [laws_toIntS.l0] at h
 | k + 1 => by
  have ih0 := laws_toIntS.mono_l k
  ·intro y0 y1 y2
   unfold laws_toIntS.l0
   with_reducible repeat' first | exact ih0 _ _ _ | exact LeO.refl _ | exact LeO.none _ | refine LeO.ite ?_ ?_ | refine LeO.bind ?_ (fun _ => ?_)
theorem laws_toIntS.mono : ∀ a0 k, LeO (laws_toIntS.f k a0) (laws_toIntS.f (k + 1) a0) := by
 intro a0 k
 have ih0 := laws_toIntS.mono_l k
 unfold laws_toIntS.f
 with_reducible repeat' first | exact ih0 _ _ _ | exact LeO.refl _ | exact LeO.none _ | refine LeO.ite ?_ ?_ | refine LeO.bind ?_ (fun _ => ?_)
set_option maxHeartbeats 8000000 in
set_option maxRecDepth 100000 in
theorem laws_toIntS.calls (k : Nat) (A0 : Option Addr) (c0 : Nat) (l0 : List Int) (r : List Int) (w : World) (hr0 : Kd.C (Kd.int .i64) w A0 l0.length l0) (hc0 : l0.length ≤ c0) (h : laws_toIntS.f k l0 = some r) :
  Calls Tryz.prog 53 #[.slice A0 l0.length c0] w fun e w' => ∃ v0_ : Value, e = .returned (v0_) ∧ Kd.R (Kd.int .i64) 3 w' w.heap.size (fun _ => True) v0_ r ∧ Below w.heap.size w w' := by
 have HR0 := Aside0.mk hr0; have HC0 := Aside0.mk hc0; clear hr0 hc0; have HB := asT (Below.refl w.heap.size w); have H := h; unfold laws_toIntS.f at H; clear h
 by_cases c2 : 0 ≤ (l0.length : Int)
 ·rw [if_pos c2] at H
  have c2b0 := eq_true c2
  have c2b1 : decide (0 ≤ (l0.length : Int)) = true := decide_eq_true c2
  clear c2
  by_cases c3 : ((l0.length : Int) : Int).toNat ≤ 35184372088832
  ·rw [if_pos c3] at H
   have c3b0 := eq_true c3
   have c3b1 : decide (((l0.length : Int) : Int).toNat ≤ 35184372088832) = true := decide_eq_true c3
   clear c3; obtain ⟨y281, hy281⟩ : ∃ y_ : List Int, y_ = (List.replicate ((l0.length : Int) : Int).toNat 0) := ⟨_, rfl⟩
   replace H : (laws_toIntS.l0 k l0 y281 0) = some r := by first | (rw [hy281]; with_reducible exact H) | (have H2_ := (Option.bind_some _ _).symm.trans H; rw [hy281]; with_reducible exact H2_) | (have H2_ := (Option.bind_some _ _).symm.trans H; with_reducible exact H2_) | with_reducible exact H | (rw [hy281]; exact H) | exact H
   have Ny281 := Aside0.mk hy281; clear hy281; have H' := Aside0.mk H; clear H
   go_enter Tryz.func53, Tryz.ntmps53
   go_wp2_with (first | ((with_reducible refine gate_dst (N := 7) rfl ?_); refine Kd.R_make (Kd.int .i64) _ 3 rfl (N := 7) rfl 57 _ _ rfl (l0.length : Int) rfl rfl Tryz.underlying57 (.int .i64 0) 8 info3 rfl (by decide) (by omega) 0 (ok := fun _ => True) (okp := fun _ => True) rfl (fun _ hk => hk) trivial (of_decide_eq_true asmT) (Nat.le_trans (Nat.mul_le_mul_right _ (of_decide_eq_true asmT : (l0.length : Int).toNat ≤ 35184372088832)) (by omega)) (Below.refl _ _) (Nat.le_refl _) ?_; intro v282 w4 ho5 hb hg_ hnew_; clear hg_ hnew_; (first | rw [← Ny281.out] at ho5 | (simp only [Int.reduceToNat] at ho5; rw [← Ny281.out] at ho5)); have HO283 := asT (Kd.R_lower ho5 (below_size (hbT HB.out))); replace HB := hS HB hb; clear hb ho5))
   go_loopg [4] k (fun kq v4 w' => ∃ (x3_1 : List Int) (x4_1 : Int), v4 = .int .i64 x4_1 ∧ Aside0 (laws_toIntS.l0 kq l0 x3_1 x4_1 = some r) ∧ Aside0 (kq ≤ k) ∧ Aside0 (Kd.R (Kd.int .i64) 3 w' w.heap.size (fun _ => True) v282 x3_1) ∧ Aside0 (Below w.heap.size w w'))
   case atStart => exact ⟨(y281), (0), rdT, H', ⟨Nat.le_refl _⟩, ⟨by (with_reducible repeat (first | apply Kd.R_alloc | apply Kd.R_drewN | apply Kd.R_drew)); exact HO283.out⟩, ⟨hbT HB.out⟩⟩
   case round =>
    clear H'; (try clear c2 c2b0 c2b1 p2 c3 c3b0 c3b1 c5); obtain ⟨x3_1, x4_1, rfl, HA, HK1, HO_3, HB⟩ := hrel
    cases gk with
    | zero => exact absurd HA.out (by simp [laws_toIntS.l0])
    | succ k1 =>
     have H := HA.out; clear HA
     simp only [laws_toIntS.l0] at H
     by_cases c6 : x4_1 < (l0.length : Int)
     ·rw [if_pos c6] at H
      have c6b0 : decide (x4_1 < (l0.length : Int)) = true := decide_eq_true c6
      clear c6
      by_cases c7 : 0 ≤ x4_1
      ·rw [if_pos c7] at H
       have c7b0 : decide (0 ≤ x4_1) = true := decide_eq_true c7
       clear c7
       by_cases c8 : x4_1 < (x3_1.length : Int)
       ·rw [if_pos c8] at H
        have c8b0 : decide (x4_1 < (x3_1.length : Int)) = true := decide_eq_true c8
        clear c8; obtain ⟨y285, hy285⟩ : ∃ y_ : List Int, y_ = (x3_1.set (x4_1 : Int).toNat (rd l0 x4_1)) := ⟨_, rfl⟩
        replace H : (laws_toIntS.l0 k1 l0 y285 (wrap64 (x4_1 + 1))) = some r := by first | (rw [hy285]; with_reducible exact H) | (have H2_ := (Option.bind_some _ _).symm.trans H; rw [hy285]; with_reducible exact H2_) | (have H2_ := (Option.bind_some _ _).symm.trans H; with_reducible exact H2_) | with_reducible exact H | (rw [hy285]; exact H) | exact H
        have Ny285 := Aside0.mk hy285; clear hy285; have H' := Aside0.mk H; clear H
        have p284 : 0 ≤ (x4_1 : Int) := of_decide_eq_true asmT
        have q284 : x4_1 < (l0.length : Int) := of_decide_eq_true asmT
        obtain ⟨ad284, e284, hx284_0⟩ := Kd.at_int HR0.out x4_1 p284 q284
        cases e284
        replace hx284_0 := hbc HB.out hx284_0; replace p284 := eq_true p284; replace q284 := eq_true q284
        have p9 : 0 ≤ (x4_1 : Int) := of_decide_eq_true asmT
        have q9 : (x4_1 : Int) < ((x3_1.length : Int) : Int) := of_decide_eq_true asmT
        obtain ⟨go9, co9, eo9, gb9, gl9, cl9, HG9⟩ := Kd.R_form HO_3.out (by omega)
        (first | cases eo9 | (injection eo9 with ea_ en_ ec_; (first | subst ea_ | (injection ea_ with ea_; subst ea_)); subst ec_; clear en_))
        have GB9 := Aside0.mk gb9; have GG9 := Aside0.mk HG9; clear gb9 gl9 HG9; obtain ⟨hx9_0, hf9_0⟩ := Kd.R_celln 0 HO_3.out (x4_1 : Int) p9 q9; replace p9 := eq_true p9; replace q9 := eq_true q9; have HP10 := Kd.R_putg HO_3.out (x4_1 : Int) (rd l0 x4_1)
        go_wp2_with (first | ((with_reducible refine gate_store (t := 3) (p := 20) rfl ?_); refine store_event (t := 3) (p := 20) (v := ?vo_w11) (w1 := (wr.setCell ⟨go9, (x4_1 : Int).toNat, none⟩ (.int .i64 (rd l0 x4_1)))) ?hg ?ho ?hn ?hr ?_; (case ho => rfl); (case hg => rfl); (case hn => rfl); (case hr => first | (go_simp; done) | (go_simp; rfl)); intro w11 hw; have hg : wr.grownBy w11 (some go9) := (by rw [hw]; exact HP10.2); have hp_ : Kd.R (Kd.int .i64) 3 w11 w.heap.size (fun _ => True) (.slice (some ⟨go9, 0, none⟩) x3_1.length co9) y285 := (by rw [hw, Ny285.out]; exact HP10.1); clear HP10; replace HO_3 := asT (hp_); replace HB := asT ((by rw [hw]; exact below_set (HB.out) GB9.out : Below w.heap.size w w11)); clear hg hw hp_))
        go_roundg k1
        case measure => have := HK1.out; omega
        case rel => exact ⟨(y285), (wrap64 (x4_1 + 1)), rdT, H', ⟨by have := HK1.out; omega⟩, ⟨by (with_reducible repeat (first | apply Kd.R_alloc | apply Kd.R_drewN | apply Kd.R_drew)); exact HO_3.out⟩, ⟨hbT HB.out⟩⟩
       ·rw [if_neg c8] at H
        exact absurd H (by simp)
      ·rw [if_neg c7] at H
       exact absurd H (by simp)
     ·rw [if_neg c6] at H
      have c6b0 : decide (x4_1 < (l0.length : Int)) = false := decide_eq_false c6
      clear c6
      obtain rfl := Option.some.inj H
      go_wp2
      go_ret
      exact ⟨_, rlT, by (with_reducible repeat (first | apply Kd.R_alloc | apply Kd.R_drewN | apply Kd.R_drew)); exact HO_3.out, hbT HB.out⟩
  ·rw [if_neg c3] at H
   exact absurd H (by simp)
 ·rw [if_neg c2] at H
  exact absurd H (by simp)

/-! ### laws_toIntSS: function 24 -/
def laws_toIntSS.l0 : Nat → List (List Int) → List (List Int) → Int → Option ((List (List Int)))
 | 0, _, _, _ => none
 | k + 1, x0, x3, x4 => if x4 < (x0.length : Int) then (if 0 ≤ x4 then ((laws_toIntS.f k (rd_L6 x0 x4)).bind fun t290 => (if x4 < (x3.length : Int) then (laws_toIntSS.l0 k x0 (x3.set (x4 : Int).toNat t290) (wrap64 (x4 + 1))) else (none))) else (none)) else (some x3)
def laws_toIntSS.f (k : Nat) (l0 : List (List Int)) : Option ((List (List Int))) := if 0 ≤ (l0.length : Int) then (if ((l0.length : Int) : Int).toNat ≤ 11728124029610 then (laws_toIntSS.l0 k l0 (List.replicate ((l0.length : Int) : Int).toNat []) 0) else (none)) else (none)
theorem laws_toIntSS.mono_l : ∀ k, (∀ y0 y1 y2, LeO (laws_toIntSS.l0 k y0 y1 y2) (laws_toIntSS.l0 (k + 1) y0 y1 y2))
 | 0 => fun _ _ _ r h => by simp [laws_toIntSS.l0] at h
 | k + 1 => by
  have ih0 := laws_toIntSS.mono_l k
  ·intro y0 y1 y2
   unfold laws_toIntSS.l0
   with_reducible repeat' first | exact ih0 _ _ _ | exact laws_toIntS.mono _ _ | exact LeO.refl _ | exact LeO.none _ | refine LeO.ite ?_ ?_ | refine LeO.bind ?_ (fun _ => ?_)
theorem laws_toIntSS.mono : ∀ a0 k, LeO (laws_toIntSS.f k a0) (laws_toIntSS.f (k + 1) a0) := by
 intro a0 k
 have ih0 := laws_toIntSS.mono_l k
 unfold laws_toIntSS.f
 with_reducible repeat' first | exact ih0 _ _ _ | exact laws_toIntS.mono _ _ | exact LeO.refl _ | exact LeO.none _ | refine LeO.ite ?_ ?_ | refine LeO.bind ?_ (fun _ => ?_)
set_option maxHeartbeats 8000000 in
set_option maxRecDepth 100000 in
theorem laws_toIntSS.calls (k : Nat) (A0 : Option Addr) (c0 : Nat) (l0 : List (List Int)) (r : List (List Int)) (w : World) (hr0 : Kd.C (Kd.slice 3 (Kd.int .i64)) w A0 l0.length l0) (hc0 : l0.length ≤ c0) (h : laws_toIntSS.f k l0 = some r) :
  Calls Tryz.prog 24 #[.slice A0 l0.length c0] w fun e w' => ∃ v0_ : Value, e = .returned (v0_) ∧ Kd.S (Kd.slice 3 (Kd.int .i64)) 57 w' w.heap.size (fun _ => True) v0_ r ∧ Below w.heap.size w w' := by
 have HR0 := Aside0.mk hr0; have HC0 := Aside0.mk hc0; clear hr0 hc0; have HB := asT (Below.refl w.heap.size w); have H := h; unfold laws_toIntSS.f at H; clear h
 by_cases c2 : 0 ≤ (l0.length : Int)
 ·rw [if_pos c2] at H
  have c2b0 := eq_true c2
  have c2b1 : decide (0 ≤ (l0.length : Int)) = true := decide_eq_true c2
  clear c2
  by_cases c3 : ((l0.length : Int) : Int).toNat ≤ 11728124029610
  ·rw [if_pos c3] at H
   have c3b0 := eq_true c3
   have c3b1 : decide (((l0.length : Int) : Int).toNat ≤ 11728124029610) = true := decide_eq_true c3
   clear c3; obtain ⟨y286, hy286⟩ : ∃ y_ : List (List Int), y_ = (List.replicate ((l0.length : Int) : Int).toNat []) := ⟨_, rfl⟩
   replace H : (laws_toIntSS.l0 k l0 y286 0) = some r := by first | (rw [hy286]; with_reducible exact H) | (have H2_ := (Option.bind_some _ _).symm.trans H; rw [hy286]; with_reducible exact H2_) | (have H2_ := (Option.bind_some _ _).symm.trans H; with_reducible exact H2_) | with_reducible exact H | (rw [hy286]; exact H) | exact H
   have Ny286 := Aside0.mk hy286; clear hy286; have H' := Aside0.mk H; clear H
   go_enter Tryz.func24, Tryz.ntmps24
   go_wp2_with (first | ((with_reducible refine gate_dst (N := 7) rfl ?_); refine Kd.S_make (Kd.slice 3 (Kd.int .i64)) _ 57 rfl (N := 7) rfl 24 _ _ rfl (l0.length : Int) rfl rfl Tryz.underlying24 (.slice none 0 0) 24 info57 rfl (by decide) (by omega) [] (ok := fun _ => True) (okp := fun _ => True) ⟨_, rfl, Kd.R_nil _ _ _ _ _⟩ (fun _ hk => hk) trivial (of_decide_eq_true asmT) (Nat.le_trans (Nat.mul_le_mul_right _ (of_decide_eq_true asmT : (l0.length : Int).toNat ≤ 11728124029610)) (by omega)) (Below.refl _ _) (Nat.le_refl _) ?_; intro v287 w4 ho5 hb hg_ hnew_; clear hg_ hnew_; (first | rw [← Ny286.out] at ho5 | (simp only [Int.reduceToNat] at ho5; rw [← Ny286.out] at ho5)); have HO288 := asT (Kd.S_lower ho5 (below_size (hbT HB.out))); replace HB := hS HB hb; clear hb ho5))
   go_loopg [4] k (fun kq v4 w' => ∃ (x3_1 : List (List Int)) (x4_1 : Int), v4 = .int .i64 x4_1 ∧ Aside0 (laws_toIntSS.l0 kq l0 x3_1 x4_1 = some r) ∧ Aside0 (kq ≤ k) ∧ Aside0 (Kd.S (Kd.slice 3 (Kd.int .i64)) 57 w' w.heap.size (fun _ => True) v287 x3_1) ∧ Aside0 (Below w.heap.size w w'))
   case atStart => exact ⟨(y286), (0), rdT, H', ⟨Nat.le_refl _⟩, ⟨by (with_reducible repeat (first | apply Kd.S_alloc | apply Kd.S_drewN | apply Kd.S_drew)); exact HO288.out⟩, ⟨hbT HB.out⟩⟩
   case round =>
    clear H'; (try clear c2 c2b0 c2b1 p2 c3 c3b0 c3b1); obtain ⟨x3_1, x4_1, rfl, HA, HK1, HO_3, HB⟩ := hrel
    cases gk with
    | zero => exact absurd HA.out (by simp [laws_toIntSS.l0])
    | succ k1 =>
     have H := HA.out; clear HA
     simp only [laws_toIntSS.l0] at H
     by_cases c6 : x4_1 < (l0.length : Int)
     ·rw [if_pos c6] at H
      have c6b0 : decide (x4_1 < (l0.length : Int)) = true := decide_eq_true c6
      clear c6
      by_cases c7 : 0 ≤ x4_1
      ·rw [if_pos c7] at H
       have c7b0 : decide (0 ≤ x4_1) = true := decide_eq_true c7
       clear c7; obtain ⟨t290, A8, H⟩ := be H
       by_cases c9 : x4_1 < (x3_1.length : Int)
       ·rw [if_pos c9] at H
        have c9b0 : decide (x4_1 < (x3_1.length : Int)) = true := decide_eq_true c9
        clear c9; obtain ⟨y293, hy293⟩ : ∃ y_ : List (List Int), y_ = (x3_1.set (x4_1 : Int).toNat t290) := ⟨_, rfl⟩
        replace H : (laws_toIntSS.l0 k1 l0 y293 (wrap64 (x4_1 + 1))) = some r := by first | (rw [hy293]; with_reducible exact H) | (have H2_ := (Option.bind_some _ _).symm.trans H; rw [hy293]; with_reducible exact H2_) | (have H2_ := (Option.bind_some _ _).symm.trans H; with_reducible exact H2_) | with_reducible exact H | (rw [hy293]; exact H) | exact H
        have Ny293 := Aside0.mk hy293; clear hy293; have H' := Aside0.mk H; clear H
        have p289 : 0 ≤ (x4_1 : Int) := of_decide_eq_true asmT
        have q289 : x4_1 < (l0.length : Int) := of_decide_eq_true asmT
        obtain ⟨ad289, A289_0, c289_0, e289, hx289_0, hl289_0, hi289_0⟩ := at_L6 HR0.out x4_1 p289 q289
        cases e289
        replace hx289_0 := hbc HB.out hx289_0; have HR289_0 := Aside0.mk hi289_0; have HC289_0 := Aside0.mk hl289_0; clear hi289_0 hl289_0; replace p289 := eq_true p289; replace q289 := eq_true q289
        go_wp2_with (first | ((with_reducible refine gate_callee (f := 53) rfl ?_); refine goesL_ (some 20) rfl rfl Tryz.func53 (by kernel_rfl) rfl #[.slice A289_0 (rd_L6 l0 x4_1).length c289_0] rfl eqT ?_; (with_reducible refine (laws_toIntS.calls k1 _ _ (rd_L6 l0 x4_1) t290 _ ?side1 ?side2 A8.out).mono ?_); (case side1 => exact crT HR289_0.out HB.out); (case side2 => exact HC289_0.out); rintro e w11 ⟨v291, rfl, ho0, hb⟩; refine ⟨_, rfl, ?_⟩; replace HO_3 := asT (Kd.S_elder' (by (with_reducible repeat (first | apply Kd.S_alloc | apply Kd.S_drewN | apply Kd.S_drew)); exact HO_3.out) (Kd.R_base ho0) hb); have HO292 := asT (Kd.R_lower ho0 (below_size (hbT HB.out))); replace HB := hS HB hb; (try clear hb hb2 hk hi ho0); have p10 : 0 ≤ (x4_1 : Int) := of_decide_eq_true asmT; have q10 : (x4_1 : Int) < ((x3_1.length : Int) : Int) := of_decide_eq_true asmT; obtain ⟨go10, co10, eo10, gb10, gl10, cl10, HG10⟩ := Kd.S_form HO_3.out (by omega); (first | cases eo10 | (injection eo10 with ea_ en_ ec_; (first | subst ea_ | (injection ea_ with ea_; subst ea_)); subst ec_; clear en_)); have GB10 := Aside0.mk gb10; have GG10 := Aside0.mk HG10; clear gb10 gl10 HG10; obtain ⟨_, ce10, hcl10, hM10, hcc10, hfr10, _, _⟩ := Kd.S_elem HO_3.out [] (x4_1 : Int) p10 q10; obtain ⟨ve10_0, rfl, ge10_0⟩ := hM10; have hx10_0 := hcc10 0 _ rfl; have hf10_0 := hfr10 0; (try simp only [show ((Kd.slice 3 (Kd.int .i64))).sz = 1 from rfl, Nat.mul_one, Nat.add_zero] at hx10_0); (try simp only [show ((Kd.slice 3 (Kd.int .i64))).sz = 1 from rfl, Nat.mul_one, Nat.add_zero] at hf10_0); clear hcl10 hcc10 hfr10; (try clear hM10); replace p10 := eq_true p10; replace q10 := eq_true q10; obtain ⟨Ao12, co12, eo12⟩ := Kd.R_slice HO292.out; subst eo12; replace HO_3 := asT (Kd.S_mono (ok' := (fun k_ => some k_ ≠ (.slice Ao12 t290.length co12 : Value).ownBlock)) HO_3.out (fun k_ hk => hk.2)); have HX13 := asT (show Kd.S (Kd.slice 3 (Kd.int .i64)) 57 w11 w.heap.size (fun k_ => ((fun _ => True)) k_ ∧ ¬ ((fun k_ => some k_ = (.slice Ao12 t290.length co12 : Value).ownBlock)) k_) (.slice (some ⟨go10, 0, none⟩) x3_1.length co10) x3_1 from (by (with_reducible repeat (first | apply Kd.S_alloc | apply Kd.S_drewN | apply Kd.S_drew)); exact Kd.S_mono HO_3.out (fun k_ hk => ⟨trivial, fun e_ => hk e_⟩))); obtain ⟨oki13, ce13, hcl13, hM13, hcc13, hfr13, hoki13, hH13⟩ := Kd.S_elem HX13.out [] (x4_1 : Int) (of_decide_eq_true asmT) (by have h_ : (x4_1 : Int) < ((x3_1.length : Int) : Int) := of_decide_eq_true asmT; first | exact h_ | (have e_ := (Kd.S_reads' HO_3.out).1; omega) | simpa using h_); obtain ⟨ve13_0, rfl, ge13_0⟩ := hM13; have HP13 := Kd.S_seg hH13 (of_decide_eq_true asmT) (by have h_ : (x4_1 : Int) < ((x3_1.length : Int) : Int) := of_decide_eq_true asmT; first | exact h_ | (have e_ := (Kd.S_reads' HO_3.out).1; omega) | simpa using h_) (seg := [.slice Ao12 t290.length co12]) (j := 0) (show 1 ≤ 1 from by decide) (x' := t290) (Kd.M_row (Kd.R_mono (Kd.R_tight rfl (Kd.R_mono (ok' := fun k_ => ((fun _ => True)) k_ ∧ k_ ≠ go10) (Kd.R_apart' (HO292.out) (Kd.S_typed HO_3.out) (by decide)) (fun k_ hk => ⟨trivial, fun e_ => (hk.2) (by rw [e_]; rfl)⟩))) (fun _ h_ => Or.inr (h_)))) (fun _ hk => hk) (fun k_ hk_ => ((Kd.R_mono (ok' := fun k_ => ((fun _ => True)) k_ ∧ k_ ≠ go10) (Kd.R_apart' (HO292.out) (Kd.S_typed HO_3.out) (by decide)) (fun k_ hk => ⟨trivial, fun e_ => (hk.2) (by rw [e_]; rfl)⟩))).1 k_ hk_.symm); have hx13_0 := hcc13 0 _ rfl; (try simp only [show ((Kd.slice 3 (Kd.int .i64))).sz = 1 from rfl, Nat.mul_one, Nat.add_zero] at hx13_0); have hf13_0 := hfr13 0; (try simp only [show ((Kd.slice 3 (Kd.int .i64))).sz = 1 from rfl, Nat.mul_one, Nat.add_zero] at hf13_0); clear hcl13 hcc13 hfr13 hoki13 hH13; (try clear hM13); (try simp only [show ((Kd.slice 3 (Kd.int .i64))).sz = 1 from rfl, Nat.mul_one, Nat.add_zero] at HP13)) | ((with_reducible refine gate_store (t := 57) (p := 21) rfl ?_); refine store_event (t := 57) (p := 21) (v := ?vo_w14) (w1 := (w11.setCell ⟨go10, (x4_1 : Int).toNat, none⟩ (.slice Ao12 t290.length co12))) ?hg ?ho ?hn ?hr ?_; (case ho => rfl); (case hg => rfl); (case hn => rfl); (case hr => first | (go_simp; done) | (go_simp; rfl)); intro w14 hw; have hg : w11.grownBy w14 (some go10) := (by rw [hw]; exact HP13.2); have hp_ : Kd.S (Kd.slice 3 (Kd.int .i64)) 57 w14 w.heap.size (fun _ => True) (.slice (some ⟨go10, 0, none⟩) x3_1.length co10) y293 := (by rw [hw, Ny293.out]; exact HP13.1); clear HP13; replace HO_3 := asT (hp_); replace HB := asT ((by rw [hw]; exact below_set (HB.out) GB10.out : Below w.heap.size w w14)); clear HO292 hg hw hp_))
        go_roundg k1
        case measure => have := HK1.out; omega
        case rel => exact ⟨(y293), (wrap64 (x4_1 + 1)), rdT, H', ⟨by have := HK1.out; omega⟩, ⟨by (with_reducible repeat (first | apply Kd.S_alloc | apply Kd.S_drewN | apply Kd.S_drew)); exact HO_3.out⟩, ⟨hbT HB.out⟩⟩
       ·rw [if_neg c9] at H
        exact absurd H (by simp)
      ·rw [if_neg c7] at H
       exact absurd H (by simp)
     ·rw [if_neg c6] at H
      have c6b0 : decide (x4_1 < (l0.length : Int)) = false := decide_eq_false c6
      clear c6
      obtain rfl := Option.some.inj H
      go_wp2
      go_ret
      exact ⟨_, rlT, by (with_reducible repeat (first | apply Kd.S_alloc | apply Kd.S_drewN | apply Kd.S_drew)); exact HO_3.out, hbT HB.out⟩
  ·rw [if_neg c3] at H
   exact absurd H (by simp)
 ·rw [if_neg c2] at H
  exact absurd H (by simp)

/-! ### laws_toTableau: function 7 -/
def laws_toTableau.f (k : Nat) (a0_0 : ByteArray) (l0_1 : List ByteArray) (l0_2 : List (S64)) (l0_3 : List (List Int)) : Option (ByteArray × List ByteArray × (List (S48)) × (List (List Int))) := (laws_toStringS.f k l0_1).bind fun t297 => ((laws_toCandidateS.f k l0_2).bind fun t300 => ((laws_toIntSS.f k l0_3).bind fun t303 => (some (a0_0, t297, t300, t303))))
theorem laws_toTableau.mono : ∀ a0 a1 a2 a3 k, LeO (laws_toTableau.f k a0 a1 a2 a3) (laws_toTableau.f (k + 1) a0 a1 a2 a3) := by
 intro a0 a1 a2 a3 k
 unfold laws_toTableau.f
 with_reducible repeat' first | exact laws_toCandidateS.mono _ _ | exact laws_toIntSS.mono _ _ | exact laws_toStringS.mono _ _ | exact LeO.refl _ | exact LeO.none _ | refine LeO.ite ?_ ?_ | refine LeO.bind ?_ (fun _ => ?_)
set_option maxHeartbeats 8000000 in
set_option maxRecDepth 100000 in
theorem laws_toTableau.calls (k : Nat) (a0_0 : ByteArray) (A0_1 : Option Addr) (c0_1 : Nat) (l0_1 : List ByteArray) (A0_2 : Option Addr) (c0_2 : Nat) (l0_2 : List (S64)) (A0_3 : Option Addr) (c0_3 : Nat) (l0_3 : List (List Int)) (r1 : ByteArray) (r2 : List ByteArray) (r3 : List (S48)) (r4 : List (List Int)) (w : World) (hr0_1 : Kd.C Kd.string w A0_1 l0_1.length l0_1) (hc0_1 : l0_1.length ≤ c0_1) (hr0_2 : Kd.C k64 w A0_2 l0_2.length l0_2) (hc0_2 : l0_2.length ≤ c0_2) (hr0_3 : Kd.C (Kd.slice 3 (Kd.int .i64)) w A0_3 l0_3.length l0_3) (hc0_3 : l0_3.length ≤ c0_3) (h : laws_toTableau.f k a0_0 l0_1 l0_2 l0_3 = some (r1, r2, r3, r4)) :
  Calls Tryz.prog 7 #[.agg #[.string a0_0, .slice A0_1 l0_1.length c0_1, .slice A0_2 l0_2.length c0_2, .slice A0_3 l0_3.length c0_3]] w fun e w' => ∃ v1_ v2_ v3_ : Value, e = .returned (.agg #[.string r1, v1_, v2_, v3_]) ∧ Kd.R Kd.string 9 w' w.heap.size (fun _ => True) v1_ r2 ∧ Kd.S k48 48 w' w.heap.size (fun _ => True) v2_ r3 ∧ Kd.S (Kd.slice 3 (Kd.int .i64)) 57 w' w.heap.size (fun _ => True) v3_ r4 ∧ Below w.heap.size w w' := by
 have hu26 := Tryz.underlying26; have hu31 := Tryz.underlying31; have HR0_1 := Aside0.mk hr0_1; have HC0_1 := Aside0.mk hc0_1; clear hr0_1 hc0_1; have HR0_2 := Aside0.mk hr0_2; have HC0_2 := Aside0.mk hc0_2; clear hr0_2 hc0_2; have HR0_3 := Aside0.mk hr0_3; have HC0_3 := Aside0.mk hc0_3; clear hr0_3 hc0_3; have HB := asT (Below.refl w.heap.size w); have H := h; unfold laws_toTableau.f at H; clear h; obtain ⟨t297, A2, H⟩ := be H; obtain ⟨t300, A3, H⟩ := be H; obtain ⟨t303, A4, H⟩ := be H
 simp only [Option.some.injEq, Prod.mk.injEq] at H
 obtain ⟨rfl, rfl, rfl, rfl⟩ := H
 go_enter Tryz.func7, Tryz.ntmps7
 go_wp2_with (first | ((with_reducible refine gate_dst (N := 1) rfl ?_); refine boxT (N := 1) (cs := #[.string a0_0, .slice A0_1 l0_1.length c0_1, .slice A0_2 l0_2.length c0_2, .slice A0_3 l0_3.length c0_3]) (t := 26) ?_; intro gb294 hg w5 hbox hb; have BK294 := asT hbox; have GW294 := asT (geT hg HB.out); have GE294 := GW294; replace HB := hS HB hb; clear hb hbox hg) | ((with_reducible refine gate_dst (N := 2) rfl ?_); refine boxT (N := 2) (cs := #[.string (⟨#[]⟩ : ByteArray), .slice none 0 0, .slice none 0 0, .slice none 0 0]) (t := 31) ?_; intro gb295 hg w6 hbox hb; have BK295 := asT (hbox); have GW295 := asT (geT hg HB.out); have GE295 := asT (geT hg HB.out); replace HB := hS HB hb; have NB294_295 := asT ((by rw [hg]; exact Nat.ne_of_lt (blk_lt (bkT BK294.out)) : gb294 ≠ gb295)); have NB295_294 := asT ((by rw [hg]; exact Nat.ne_of_gt (blk_lt (bkT BK294.out)) : gb295 ≠ gb294)); replace BK294 := bS BK294 hb; clear hb hbox hg) | ((with_reducible refine gate_dst (N := 3) rfl ?_); refine boxT (N := 3) (cs := #[.string (⟨#[]⟩ : ByteArray), .slice none 0 0, .slice none 0 0, .slice none 0 0]) (t := 31) ?_; intro gb296 hg w7 hbox hb; have BK296 := asT (hbox); have GW296 := asT (geT hg HB.out); have GE296 := asT (geT hg HB.out); replace HB := hS HB hb; have NB294_296 := asT ((by rw [hg]; exact Nat.ne_of_lt (blk_lt (bkT BK294.out)) : gb294 ≠ gb296)); have NB296_294 := asT ((by rw [hg]; exact Nat.ne_of_gt (blk_lt (bkT BK294.out)) : gb296 ≠ gb294)); replace BK294 := bS BK294 hb; have NB295_296 := asT ((by rw [hg]; exact Nat.ne_of_lt (blk_lt (g := gb295) (o := .cells #[.string (⟨#[]⟩ : ByteArray), .slice none 0 0, .slice none 0 0, .slice none 0 0] 31 (0, 0)) (bkT BK295.out)) : gb295 ≠ gb296)); have NB296_295 := asT ((by rw [hg]; exact Nat.ne_of_gt (blk_lt (g := gb295) (o := .cells #[.string (⟨#[]⟩ : ByteArray), .slice none 0 0, .slice none 0 0, .slice none 0 0] 31 (0, 0)) (bkT BK295.out)) : gb296 ≠ gb295)); replace BK295 := bS BK295 hb; clear hb hbox hg; have hnb8 := NB294_295.out; have hnc8 := NB295_294.out; have hnb9 := NB294_296.out; have hnc9 := NB296_294.out; obtain ⟨hcz10_0, hcz10_1, hcz10_2, hcz10_3, hfz10_0, hfz10_1, hfz10_2, hfz10_3⟩ := bx4 BK294.out; have hnb11 := NB296_295.out; have hnc11 := NB295_296.out; obtain ⟨hcz12_0, hcz12_1, hcz12_2, hcz12_3, hfz12_0, hfz12_1, hfz12_2, hfz12_3⟩ := bx4 BK296.out) | ((with_reducible refine gate_callee (f := 12) rfl ?_); refine goesL_ (some 9) rfl rfl Tryz.func12 (by kernel_rfl) rfl #[.slice A0_1 l0_1.length c0_1] rfl eqT ?_; (with_reducible refine (laws_toStringS.calls k _ _ l0_1 t297 _ ?side1 ?side2 A2.out).mono ?_); (case side1 => exact Kd.C_below HR0_1.out (hbT HB.out)); (case side2 => exact HC0_1.out); rintro e w13 ⟨v298, rfl, ho0, hb⟩; refine ⟨_, rfl, ?_⟩; have HO299 := asT (Kd.R_lower ho0 (below_size (hbT HB.out))); replace BK294 := asT (blk_below (g := gb294) (o := .cells #[.string a0_0, .slice A0_1 l0_1.length c0_1, .slice A0_2 l0_2.length c0_2, .slice A0_3 l0_3.length c0_3] 26 (0, 0)) (by (with_reducible repeat (first | refine blk_drewN ?_ _ | refine blk_drew ?_ | refine blk_alloc ?_ _)); refine blk_far ?_ NB294_296.out _; (with_reducible repeat (first | refine blk_drewN ?_ _ | refine blk_drew ?_ | refine blk_alloc ?_ _)); exact BK294.out) hb); replace BK295 := asT (blk_below (g := gb295) (o := .cells #[.string (⟨#[]⟩ : ByteArray), .slice none 0 0, .slice none 0 0, .slice none 0 0] 31 (0, 0)) (by (with_reducible repeat (first | refine blk_drewN ?_ _ | refine blk_drew ?_ | refine blk_alloc ?_ _)); refine blk_far ?_ NB295_296.out _; (with_reducible repeat (first | refine blk_drewN ?_ _ | refine blk_drew ?_ | refine blk_alloc ?_ _)); exact BK295.out) hb); replace BK296 := asT (blk_below (g := gb296) (o := .cells #[.string a0_0, .slice none 0 0, .slice none 0 0, .slice none 0 0] 31 (0, 0)) (by (with_reducible repeat (first | refine blk_drewN ?_ _ | refine blk_drew ?_ | refine blk_alloc ?_ _)); refine blk_put (cs := #[.string (⟨#[]⟩ : ByteArray), .slice none 0 0, .slice none 0 0, .slice none 0 0]) ?_ 0 _ rfl; (with_reducible repeat (first | refine blk_drewN ?_ _ | refine blk_drew ?_ | refine blk_alloc ?_ _)); exact BK296.out) hb); replace HB := hS HB hb; (try clear hb hb2 hk hi ho0); obtain ⟨Ao14, co14, eo14⟩ := Kd.R_slice HO299.out; subst eo14; obtain ⟨hcz15_0, hcz15_1, hcz15_2, hcz15_3, hfz15_0, hfz15_1, hfz15_2, hfz15_3⟩ := bx4 BK296.out; obtain ⟨hcz16_0, hcz16_1, hcz16_2, hcz16_3, hfz16_0, hfz16_1, hfz16_2, hfz16_3⟩ := bx4 BK294.out) | ((with_reducible refine gate_callee (f := 23) rfl ?_); refine goesL_ (some 13) rfl rfl Tryz.func23 (by kernel_rfl) rfl #[.slice A0_2 l0_2.length c0_2] rfl eqT ?_; (with_reducible refine (laws_toCandidateS.calls k _ _ l0_2 t300 _ ?side1 ?side2 A3.out).mono ?_); (case side1 => exact Kd.C_below HR0_2.out (hbT HB.out)); (case side2 => exact HC0_2.out); rintro e w17 ⟨v301, rfl, ho0, hb⟩; refine ⟨_, rfl, ?_⟩; replace HO299 := asT (Kd.R_below (by (with_reducible repeat (first | apply Kd.R_alloc | apply Kd.R_drewN | apply Kd.R_drew)); exact (Kd.R_mono (Kd.R_far (p := ⟨gb296, 1, none⟩) (Kd.R_types HO299.out BK296.out (by decide)) (fun _ hk => hk.2) (.slice Ao14 t297.length co14)) (fun _ h_ => h_.1))) hb); have HO302 := asT (Kd.S_lower ho0 (below_size (hbT HB.out))); replace BK294 := asT (blk_below (g := gb294) (o := .cells #[.string a0_0, .slice A0_1 l0_1.length c0_1, .slice A0_2 l0_2.length c0_2, .slice A0_3 l0_3.length c0_3] 26 (0, 0)) (by (with_reducible repeat (first | refine blk_drewN ?_ _ | refine blk_drew ?_ | refine blk_alloc ?_ _)); refine blk_far ?_ NB294_296.out _; (with_reducible repeat (first | refine blk_drewN ?_ _ | refine blk_drew ?_ | refine blk_alloc ?_ _)); exact BK294.out) hb); replace BK295 := asT (blk_below (g := gb295) (o := .cells #[.string (⟨#[]⟩ : ByteArray), .slice none 0 0, .slice none 0 0, .slice none 0 0] 31 (0, 0)) (by (with_reducible repeat (first | refine blk_drewN ?_ _ | refine blk_drew ?_ | refine blk_alloc ?_ _)); refine blk_far ?_ NB295_296.out _; (with_reducible repeat (first | refine blk_drewN ?_ _ | refine blk_drew ?_ | refine blk_alloc ?_ _)); exact BK295.out) hb); replace BK296 := asT (blk_below (g := gb296) (o := .cells #[.string a0_0, .slice Ao14 t297.length co14, .slice none 0 0, .slice none 0 0] 31 (0, 0)) (by (with_reducible repeat (first | refine blk_drewN ?_ _ | refine blk_drew ?_ | refine blk_alloc ?_ _)); refine blk_put (cs := #[.string a0_0, .slice none 0 0, .slice none 0 0, .slice none 0 0]) ?_ 1 _ rfl; (with_reducible repeat (first | refine blk_drewN ?_ _ | refine blk_drew ?_ | refine blk_alloc ?_ _)); exact BK296.out) hb); replace HB := hS HB hb; (try clear hb hb2 hk hi ho0); obtain ⟨Ao18, co18, eo18⟩ := Kd.S_slice HO302.out; subst eo18; obtain ⟨hcz19_0, hcz19_1, hcz19_2, hcz19_3, hfz19_0, hfz19_1, hfz19_2, hfz19_3⟩ := bx4 BK296.out; obtain ⟨hcz20_0, hcz20_1, hcz20_2, hcz20_3, hfz20_0, hfz20_1, hfz20_2, hfz20_3⟩ := bx4 BK294.out) | ((with_reducible refine gate_callee (f := 24) rfl ?_); refine goesL_ (some 17) rfl rfl Tryz.func24 (by kernel_rfl) rfl #[.slice A0_3 l0_3.length c0_3] rfl eqT ?_; (with_reducible refine (laws_toIntSS.calls k _ _ l0_3 t303 _ ?side1 ?side2 A4.out).mono ?_); (case side1 => exact Kd.C_below HR0_3.out (hbT HB.out)); (case side2 => exact HC0_3.out); rintro e w21 ⟨v304, rfl, ho0, hb⟩; refine ⟨_, rfl, ?_⟩; replace HO299 := asT (Kd.R_below (by (with_reducible repeat (first | apply Kd.R_alloc | apply Kd.R_drewN | apply Kd.R_drew)); exact (Kd.R_mono (Kd.R_far (p := ⟨gb296, 2, none⟩) (Kd.R_types HO299.out BK296.out (by decide)) (fun _ hk => hk.2) (.slice Ao18 t300.length co18)) (fun _ h_ => h_.1))) hb); replace HO302 := asT (Kd.S_below (by (with_reducible repeat (first | apply Kd.S_alloc | apply Kd.S_drewN | apply Kd.S_drew)); exact (Kd.S_mono (Kd.S_far (p := ⟨gb296, 2, none⟩) (Kd.S_types HO302.out BK296.out (by decide)) (fun _ hk => hk.2) (.slice Ao18 t300.length co18)) (fun _ h_ => h_.1))) hb); have HO305 := asT (Kd.S_lower ho0 (below_size (hbT HB.out))); replace BK294 := asT (blk_below (g := gb294) (o := .cells #[.string a0_0, .slice A0_1 l0_1.length c0_1, .slice A0_2 l0_2.length c0_2, .slice A0_3 l0_3.length c0_3] 26 (0, 0)) (by (with_reducible repeat (first | refine blk_drewN ?_ _ | refine blk_drew ?_ | refine blk_alloc ?_ _)); refine blk_far ?_ NB294_296.out _; (with_reducible repeat (first | refine blk_drewN ?_ _ | refine blk_drew ?_ | refine blk_alloc ?_ _)); exact BK294.out) hb); replace BK295 := asT (blk_below (g := gb295) (o := .cells #[.string (⟨#[]⟩ : ByteArray), .slice none 0 0, .slice none 0 0, .slice none 0 0] 31 (0, 0)) (by (with_reducible repeat (first | refine blk_drewN ?_ _ | refine blk_drew ?_ | refine blk_alloc ?_ _)); refine blk_far ?_ NB295_296.out _; (with_reducible repeat (first | refine blk_drewN ?_ _ | refine blk_drew ?_ | refine blk_alloc ?_ _)); exact BK295.out) hb); replace BK296 := asT (blk_below (g := gb296) (o := .cells #[.string a0_0, .slice Ao14 t297.length co14, .slice Ao18 t300.length co18, .slice none 0 0] 31 (0, 0)) (by (with_reducible repeat (first | refine blk_drewN ?_ _ | refine blk_drew ?_ | refine blk_alloc ?_ _)); refine blk_put (cs := #[.string a0_0, .slice Ao14 t297.length co14, .slice none 0 0, .slice none 0 0]) ?_ 2 _ rfl; (with_reducible repeat (first | refine blk_drewN ?_ _ | refine blk_drew ?_ | refine blk_alloc ?_ _)); exact BK296.out) hb); replace HB := hS HB hb; (try clear hb hb2 hk hi ho0); obtain ⟨Ao22, co22, eo22⟩ := Kd.S_slice HO305.out; subst eo22; obtain ⟨hcz23_0, hcz23_1, hcz23_2, hcz23_3, hfz23_0, hfz23_1, hfz23_2, hfz23_3⟩ := bx4 BK296.out; obtain ⟨hcz24_0, hcz24_1, hcz24_2, hcz24_3, hfz24_0, hfz24_1, hfz24_2, hfz24_3⟩ := bx4 BK295.out))
 refine bodyPost_ret (results_cell_row rfl _ _ gb295 31 #[.string a0_0, .slice Ao14 t297.length co14, .slice Ao18 t300.length co18, .slice Ao22 t303.length co22] (0, 0) _ rfl (by (with_reducible repeat (first | refine blk_drewN ?_ _ | refine blk_drew ?_ | refine blk_alloc ?_ _)); refine blk_put (cs := #[.string a0_0, .slice Ao14 t297.length co14, .slice Ao18 t300.length co18, .slice none 0 0]) ?_ 3 _ rfl; (with_reducible repeat (first | refine blk_drewN ?_ _ | refine blk_drew ?_ | refine blk_alloc ?_ _)); refine blk_put (cs := #[.string a0_0, .slice Ao14 t297.length co14, .slice none 0 0, .slice none 0 0]) ?_ 2 _ rfl; (with_reducible repeat (first | refine blk_drewN ?_ _ | refine blk_drew ?_ | refine blk_alloc ?_ _)); refine blk_put (cs := #[.string a0_0, .slice none 0 0, .slice none 0 0, .slice none 0 0]) ?_ 1 _ rfl; (with_reducible repeat (first | refine blk_drewN ?_ _ | refine blk_drew ?_ | refine blk_alloc ?_ _)); refine blk_put (cs := #[.string (⟨#[]⟩ : ByteArray), .slice none 0 0, .slice none 0 0, .slice none 0 0]) ?_ 0 _ rfl; (with_reducible repeat (first | refine blk_drewN ?_ _ | refine blk_drew ?_ | refine blk_alloc ?_ _)); refine blk_far ?_ NB295_296.out _; (with_reducible repeat (first | refine blk_drewN ?_ _ | refine blk_drew ?_ | refine blk_alloc ?_ _)); exact BK295.out) Tryz.underlying31 rfl (by kernel_rfl)) rfl ?_
 exact ⟨_, _, _, rlT, by (with_reducible repeat (first | apply Kd.R_alloc | apply Kd.R_drewN | apply Kd.R_drew)); exact Kd.R_mono (Kd.R_far (p := ⟨gb295, 3, none⟩) (Kd.R_far (p := ⟨gb295, 2, none⟩) (Kd.R_far (p := ⟨gb295, 1, none⟩) (Kd.R_far (p := ⟨gb295, 0, none⟩) (Kd.R_far (p := ⟨gb296, 3, none⟩) (Kd.R_types (Kd.R_types HO299.out BK296.out (by decide)) BK295.out (by decide)) (fun _ hk => hk.1.2) (.slice Ao22 t303.length co22)) (fun _ hk => hk.2) (.string a0_0)) (fun _ hk => hk.2) (.slice Ao14 t297.length co14)) (fun _ hk => hk.2) (.slice Ao18 t300.length co18)) (fun _ hk => hk.2) (.slice Ao22 t303.length co22)) (fun _ hk => trivial), by (with_reducible repeat (first | apply Kd.S_alloc | apply Kd.S_drewN | apply Kd.S_drew)); exact Kd.S_mono (Kd.S_far (p := ⟨gb295, 3, none⟩) (Kd.S_far (p := ⟨gb295, 2, none⟩) (Kd.S_far (p := ⟨gb295, 1, none⟩) (Kd.S_far (p := ⟨gb295, 0, none⟩) (Kd.S_far (p := ⟨gb296, 3, none⟩) (Kd.S_types (Kd.S_types HO302.out BK296.out (by decide)) BK295.out (by decide)) (fun _ hk => hk.1.2) (.slice Ao22 t303.length co22)) (fun _ hk => hk.2) (.string a0_0)) (fun _ hk => hk.2) (.slice Ao14 t297.length co14)) (fun _ hk => hk.2) (.slice Ao18 t300.length co18)) (fun _ hk => hk.2) (.slice Ao22 t303.length co22)) (fun _ hk => trivial), by (with_reducible repeat (first | apply Kd.S_alloc | apply Kd.S_drewN | apply Kd.S_drew)); exact Kd.S_mono (Kd.S_far (p := ⟨gb295, 3, none⟩) (Kd.S_far (p := ⟨gb295, 2, none⟩) (Kd.S_far (p := ⟨gb295, 1, none⟩) (Kd.S_far (p := ⟨gb295, 0, none⟩) (Kd.S_far (p := ⟨gb296, 3, none⟩) (Kd.S_types (Kd.S_types HO305.out BK296.out (by decide)) BK295.out (by decide)) (fun _ hk => hk.1.2) (.slice Ao22 t303.length co22)) (fun _ hk => hk.2) (.string a0_0)) (fun _ hk => hk.2) (.slice Ao14 t297.length co14)) (fun _ hk => hk.2) (.slice Ao18 t300.length co18)) (fun _ hk => hk.2) (.slice Ao22 t303.length co22)) (fun _ hk => trivial), hbT HB.out⟩

/-! ### impl_within: function 54 -/
def impl_within.f (a0 : Int) (a1 : Int) (a2 : Int) : Option (Bool) := if a1 ≤ a0 then (some (decide (a0 ≤ a2))) else (some false)
set_option maxHeartbeats 8000000 in
set_option maxRecDepth 100000 in
theorem impl_within.calls (a0 : Int) (a1 : Int) (a2 : Int) (r : Bool) (w : World) (h : impl_within.f a0 a1 a2 = some r) :
  Calls Tryz.prog 54 #[.int .i64 a0, .int .i64 a1, .int .i64 a2] w fun e w' => e = .returned (.bool r) ∧ Drawn0 w w' := by
 have H := h; unfold impl_within.f at H; clear h
 by_cases c4 : a1 ≤ a0
 ·rw [if_pos c4] at H
  have c4b0 : decide (a1 ≤ a0) = true := decide_eq_true c4
  clear c4
  obtain rfl := Option.some.inj H
  go_enter Tryz.func54, Tryz.ntmps54
  go_wp2
  go_ret
  exact ⟨rdT, drT⟩
 ·rw [if_neg c4] at H
  have c4b0 : decide (a1 ≤ a0) = false := decide_eq_false c4
  clear c4
  obtain rfl := Option.some.inj H
  go_enter Tryz.func54, Tryz.ntmps54
  go_wp2
  go_ret
  exact ⟨rdT, drT⟩

/-! ### slices_Index_string_string: function 94 -/
def slices_Index_string_string.l0 : Nat → List ByteArray → ByteArray → Int → Int → Option (Int)
 | 0, _, _, _, _ => none
 | k + 1, x0, x1, x7, x8 => if x8 < x7 then (if 0 ≤ x8 then (if x8 < (x0.length : Int) then (if x1.toList = (rdOf ByteArray.empty x0 x8).toList then (some x8) else (slices_Index_string_string.l0 k x0 x1 x7 (wrap64 (x8 + 1)))) else (none)) else (none)) else (some (-1))
def slices_Index_string_string.f (k : Nat) (l0 : List ByteArray) (a1 : ByteArray) : Option (Int) := slices_Index_string_string.l0 k l0 a1 (l0.length : Int) 0
theorem slices_Index_string_string.mono_l : ∀ k, (∀ y0 y1 y2 y3, LeO (slices_Index_string_string.l0 k y0 y1 y2 y3) (slices_Index_string_string.l0 (k + 1) y0 y1 y2 y3))
 | 0 => fun _ _ _ _ r h => by simp [slices_Index_string_string.l0] at h
 | k + 1 => by
  have ih0 := slices_Index_string_string.mono_l k
  ·intro y0 y1 y2 y3
   unfold slices_Index_string_string.l0
   with_reducible repeat' first | exact ih0 _ _ _ _ | exact LeO.refl _ | exact LeO.none _ | refine LeO.ite ?_ ?_ | refine LeO.bind ?_ (fun _ => ?_)
theorem slices_Index_string_string.mono : ∀ a0 a1 k, LeO (slices_Index_string_string.f k a0 a1) (slices_Index_string_string.f (k + 1) a0 a1) := by
 intro a0 a1 k
 have ih0 := slices_Index_string_string.mono_l k
 unfold slices_Index_string_string.f
 with_reducible repeat' first | exact ih0 _ _ _ _ | exact LeO.refl _ | exact LeO.none _ | refine LeO.ite ?_ ?_ | refine LeO.bind ?_ (fun _ => ?_)
set_option maxHeartbeats 8000000 in
set_option maxRecDepth 100000 in
theorem slices_Index_string_string.calls (k : Nat) (A0 : Option Addr) (c0 : Nat) (l0 : List ByteArray) (a1 : ByteArray) (r : Int) (w : World) (hr0 : Kd.C Kd.string w A0 l0.length l0) (hc0 : l0.length ≤ c0) (h : slices_Index_string_string.f k l0 a1 = some r) :
  Calls Tryz.prog 94 #[.slice A0 l0.length c0, .string a1] w fun e w' => e = .returned (.int .i64 r) ∧ Drawn0 w w' := by
 have HR0 := Aside0.mk hr0; have HC0 := Aside0.mk hc0; clear hr0 hc0; have H := h; unfold slices_Index_string_string.f at H; clear h; have H' := Aside0.mk H; clear H
 go_enter Tryz.func94, Tryz.ntmps94
 go_wp2
 go_loopg [8] k (fun kq v8 w' => ∃ (x8_1 : Int), v8 = .int .i64 x8_1 ∧ Aside0 (slices_Index_string_string.l0 kq l0 a1 (l0.length : Int) x8_1 = some r) ∧ Aside0 (kq ≤ k) ∧ Drawn0 w w')
 case atStart => exact ⟨(0), rdT, H', ⟨Nat.le_refl _⟩, drT⟩
 case round =>
  clear H'; (try clear p2); obtain ⟨x8_1, rfl, HA, HK1, ⟨m1, rfl⟩⟩ := hrel
  cases gk with
  | zero => exact absurd HA.out (by simp [slices_Index_string_string.l0])
  | succ k1 =>
   have H := HA.out; clear HA
   simp only [slices_Index_string_string.l0] at H
   by_cases c3 : x8_1 < (l0.length : Int)
   ·rw [if_pos c3] at H
    have c3b0 : decide (x8_1 < (l0.length : Int)) = true := decide_eq_true c3
    clear c3
    by_cases c4 : 0 ≤ x8_1
    ·rw [if_pos c4] at H
     have c4b0 : decide (0 ≤ x8_1) = true := decide_eq_true c4
     clear c4
     by_cases c5 : x8_1 < (l0.length : Int)
     ·rw [if_pos c5] at H
      have c5b0 : decide (x8_1 < (l0.length : Int)) = true := decide_eq_true c5
      clear c5
      by_cases c6 : a1.toList = (rdOf ByteArray.empty l0 x8_1).toList
      ·rw [if_pos c6] at H
       have c6b0 : (a1.toList == (rdOf ByteArray.empty l0 x8_1).toList) = true := beq_iff_eq.mpr c6
       have c6b1 : (a1.toList != (rdOf ByteArray.empty l0 x8_1).toList) = false := bne_eq_false_iff_eq.mpr c6
       clear c6
       obtain rfl := Option.some.inj H
       have p306 : 0 ≤ (x8_1 : Int) := of_decide_eq_true asmT
       have q306 : x8_1 < (l0.length : Int) := of_decide_eq_true asmT
       obtain ⟨ad306, e306, hx306_0⟩ := Kd.at_string HR0.out x8_1 p306 q306
       cases e306
       replace p306 := eq_true p306; replace q306 := eq_true q306
       go_wp2
       go_ret
       exact ⟨rdT, drT⟩
      ·rw [if_neg c6] at H
       have c6b0 : (a1.toList == (rdOf ByteArray.empty l0 x8_1).toList) = false := beq_eq_false_iff_ne.mpr c6
       have c6b1 : (a1.toList != (rdOf ByteArray.empty l0 x8_1).toList) = true := bne_iff_ne.mpr c6
       have H' := Aside0.mk H; clear H
       have p306 : 0 ≤ (x8_1 : Int) := of_decide_eq_true asmT
       have q306 : x8_1 < (l0.length : Int) := of_decide_eq_true asmT
       obtain ⟨ad306, e306, hx306_0⟩ := Kd.at_string HR0.out x8_1 p306 q306
       cases e306
       replace p306 := eq_true p306; replace q306 := eq_true q306
       go_wp2
       go_roundg k1
       case measure => have := HK1.out; omega
       case rel => exact ⟨(wrap64 (x8_1 + 1)), rdT, H', ⟨by have := HK1.out; omega⟩, drT⟩
     ·rw [if_neg c5] at H
      exact absurd H (by simp)
    ·rw [if_neg c4] at H
     exact absurd H (by simp)
   ·rw [if_neg c3] at H
    have c3b0 : decide (x8_1 < (l0.length : Int)) = false := decide_eq_false c3
    clear c3
    obtain rfl := Option.some.inj H
    go_wp2
    go_ret
    exact ⟨rdT, drT⟩

/-! ### slices_Contains_string_string: function 66 -/
def slices_Contains_string_string.f (k : Nat) (l0 : List ByteArray) (a1 : ByteArray) : Option (Bool) := (slices_Index_string_string.f k l0 a1).bind fun t307 => (some (decide (t307 ≥ 0)))
theorem slices_Contains_string_string.mono : ∀ a0 a1 k, LeO (slices_Contains_string_string.f k a0 a1) (slices_Contains_string_string.f (k + 1) a0 a1) := by
 intro a0 a1 k
 unfold slices_Contains_string_string.f
 with_reducible repeat' first | exact slices_Index_string_string.mono _ _ _ | exact LeO.refl _ | exact LeO.none _ | refine LeO.ite ?_ ?_ | refine LeO.bind ?_ (fun _ => ?_)
set_option maxHeartbeats 8000000 in
set_option maxRecDepth 100000 in
theorem slices_Contains_string_string.calls (k : Nat) (A0 : Option Addr) (c0 : Nat) (l0 : List ByteArray) (a1 : ByteArray) (r : Bool) (w : World) (hr0 : Kd.C Kd.string w A0 l0.length l0) (hc0 : l0.length ≤ c0) (h : slices_Contains_string_string.f k l0 a1 = some r) :
  Calls Tryz.prog 66 #[.slice A0 l0.length c0, .string a1] w fun e w' => e = .returned (.bool r) ∧ Drawn0 w w' := by
 have HR0 := Aside0.mk hr0; have HC0 := Aside0.mk hc0; clear hr0 hc0; have H := h; unfold slices_Contains_string_string.f at H; clear h; obtain ⟨t307, A3, H⟩ := be H
 obtain rfl := Option.some.inj H
 go_enter Tryz.func66, Tryz.ntmps66
 go_wp2_with (first | ((with_reducible refine gate_callee (f := 94) rfl ?_); refine goesL_ (some 7) rfl rfl Tryz.func94 (by kernel_rfl) rfl #[.slice A0 l0.length c0, .string a1] rfl eqT ?_; (with_reducible refine (slices_Index_string_string.calls k _ _ l0 a1 t307 _ ?side1 ?side2 A3.out).mono ?_); (case side1 => repeat (first | exact HR0.out | (with_reducible refine Kd.C_alloc ?_ _) | (with_reducible refine Kd.C_drewN ?_ _) | (with_reducible refine Kd.C_drew ?_))); (case side2 => exact HC0.out); rintro e w' ⟨rfl, ⟨nd, rfl⟩⟩; refine ⟨_, rfl, ?_⟩))
 go_ret
 exact ⟨rdT, drT⟩

/-! ### impl_ConstraintNames: function 67 -/
def impl_ConstraintNames.f  : Option (List ByteArray) := some (([(⟨#[111, 110, 115, 101, 116]⟩ : ByteArray), (⟨#[110, 111, 99, 111, 100, 97]⟩ : ByteArray), (⟨#[99, 108, 117, 115, 116, 101, 114]⟩ : ByteArray), (⟨#[118, 111, 105, 99, 101]⟩ : ByteArray), (⟨#[102, 105, 110, 97, 108]⟩ : ByteArray), (⟨#[110, 97, 115, 97, 108]⟩ : ByteArray), (⟨#[109, 97, 120]⟩ : ByteArray), (⟨#[100, 101, 112]⟩ : ByteArray), (⟨#[105, 100, 101, 110, 116]⟩ : ByteArray), (⟨#[99, 111, 110, 116, 105, 103]⟩ : ByteArray)] : List ByteArray))
set_option maxHeartbeats 8000000 in
set_option maxRecDepth 100000 in
theorem impl_ConstraintNames.calls  (r : List ByteArray) (w : World) (h : impl_ConstraintNames.f  = some r) :
  Calls Tryz.prog 67 #[] w fun e w' => ∃ v0_ : Value, e = .returned (v0_) ∧ Kd.R Kd.string 9 w' w.heap.size (fun _ => True) v0_ r ∧ Below w.heap.size w w' := by
 have HB := asT (Below.refl w.heap.size w); have H := h; unfold impl_ConstraintNames.f at H; clear h; obtain ⟨y308, hy308⟩ : ∃ y_ : List ByteArray, y_ = (([(⟨#[111, 110, 115, 101, 116]⟩ : ByteArray), (⟨#[110, 111, 99, 111, 100, 97]⟩ : ByteArray), (⟨#[99, 108, 117, 115, 116, 101, 114]⟩ : ByteArray), (⟨#[118, 111, 105, 99, 101]⟩ : ByteArray), (⟨#[102, 105, 110, 97, 108]⟩ : ByteArray), (⟨#[110, 97, 115, 97, 108]⟩ : ByteArray), (⟨#[109, 97, 120]⟩ : ByteArray), (⟨#[100, 101, 112]⟩ : ByteArray), (⟨#[105, 100, 101, 110, 116]⟩ : ByteArray), (⟨#[99, 111, 110, 116, 105, 103]⟩ : ByteArray)] : List ByteArray)) := ⟨_, rfl⟩
 replace H : (some y308) = some r := by first | (rw [hy308]; with_reducible exact H) | (have H2_ := (Option.bind_some _ _).symm.trans H; rw [hy308]; with_reducible exact H2_) | (have H2_ := (Option.bind_some _ _).symm.trans H; with_reducible exact H2_) | with_reducible exact H | (rw [hy308]; exact H) | exact H
 have Ny308 := Aside0.mk hy308; clear hy308
 obtain rfl := Option.some.inj H
 go_enter Tryz.func67, Tryz.ntmps67
 go_wp2_with (first | ((with_reducible refine gate_dst (N := 1) rfl ?_); refine Kd.R_lit Kd.string _ 9 ?hg (N := 1) ?hd (xs := ([(⟨#[111, 110, 115, 101, 116]⟩ : ByteArray), (⟨#[110, 111, 99, 111, 100, 97]⟩ : ByteArray), (⟨#[99, 108, 117, 115, 116, 101, 114]⟩ : ByteArray), (⟨#[118, 111, 105, 99, 101]⟩ : ByteArray), (⟨#[102, 105, 110, 97, 108]⟩ : ByteArray), (⟨#[110, 97, 115, 97, 108]⟩ : ByteArray), (⟨#[109, 97, 120]⟩ : ByteArray), (⟨#[100, 101, 112]⟩ : ByteArray), (⟨#[105, 100, 101, 110, 116]⟩ : ByteArray), (⟨#[99, 111, 110, 116, 105, 103]⟩ : ByteArray)] : List ByteArray)) (inner := [.string (⟨#[111, 110, 115, 101, 116]⟩ : ByteArray), .string (⟨#[110, 111, 99, 111, 100, 97]⟩ : ByteArray), .string (⟨#[99, 108, 117, 115, 116, 101, 114]⟩ : ByteArray), .string (⟨#[118, 111, 105, 99, 101]⟩ : ByteArray), .string (⟨#[102, 105, 110, 97, 108]⟩ : ByteArray), .string (⟨#[110, 97, 115, 97, 108]⟩ : ByteArray), .string (⟨#[109, 97, 120]⟩ : ByteArray), .string (⟨#[100, 101, 112]⟩ : ByteArray), .string (⟨#[105, 100, 101, 110, 116]⟩ : ByteArray), .string (⟨#[99, 111, 110, 116, 105, 103]⟩ : ByteArray)]) (ok := fun _ => True) (okp := fun _ => True) ?hr ?hp (fun _ hk => hk) trivial (Below.refl _ _) (Nat.le_refl _) (by simp) ?_; (case hd => rfl); (case hg => rfl); (case hr => first | (go_simp; done) | (go_simp; rfl)); (case hp => exact (Reps.one (show Kd.M Kd.string _ _ _ (⟨#[111, 110, 115, 101, 116]⟩ : ByteArray) [.string (⟨#[111, 110, 115, 101, 116]⟩ : ByteArray)] from rfl) (Reps.one (show Kd.M Kd.string _ _ _ (⟨#[110, 111, 99, 111, 100, 97]⟩ : ByteArray) [.string (⟨#[110, 111, 99, 111, 100, 97]⟩ : ByteArray)] from rfl) (Reps.one (show Kd.M Kd.string _ _ _ (⟨#[99, 108, 117, 115, 116, 101, 114]⟩ : ByteArray) [.string (⟨#[99, 108, 117, 115, 116, 101, 114]⟩ : ByteArray)] from rfl) (Reps.one (show Kd.M Kd.string _ _ _ (⟨#[118, 111, 105, 99, 101]⟩ : ByteArray) [.string (⟨#[118, 111, 105, 99, 101]⟩ : ByteArray)] from rfl) (Reps.one (show Kd.M Kd.string _ _ _ (⟨#[102, 105, 110, 97, 108]⟩ : ByteArray) [.string (⟨#[102, 105, 110, 97, 108]⟩ : ByteArray)] from rfl) (Reps.one (show Kd.M Kd.string _ _ _ (⟨#[110, 97, 115, 97, 108]⟩ : ByteArray) [.string (⟨#[110, 97, 115, 97, 108]⟩ : ByteArray)] from rfl) (Reps.one (show Kd.M Kd.string _ _ _ (⟨#[109, 97, 120]⟩ : ByteArray) [.string (⟨#[109, 97, 120]⟩ : ByteArray)] from rfl) (Reps.one (show Kd.M Kd.string _ _ _ (⟨#[100, 101, 112]⟩ : ByteArray) [.string (⟨#[100, 101, 112]⟩ : ByteArray)] from rfl) (Reps.one (show Kd.M Kd.string _ _ _ (⟨#[105, 100, 101, 110, 116]⟩ : ByteArray) [.string (⟨#[105, 100, 101, 110, 116]⟩ : ByteArray)] from rfl) (Reps.one (show Kd.M Kd.string _ _ _ (⟨#[99, 111, 110, 116, 105, 103]⟩ : ByteArray) [.string (⟨#[99, 111, 110, 116, 105, 103]⟩ : ByteArray)] from rfl) (Reps.none _ _)))))))))))); intro v309 w1 ho2 hb hg_ hnew_; clear hg_ hnew_; (first | rw [← Ny308.out] at ho2 | (simp only [Int.reduceToNat] at ho2; rw [← Ny308.out] at ho2)); have HO310 := asT (Kd.R_lower ho2 (below_size (hbT HB.out))); replace HB := hS HB hb; clear hb ho2))
 go_ret
 exact ⟨_, rlT, by (with_reducible repeat (first | apply Kd.R_alloc | apply Kd.R_drewN | apply Kd.R_drew)); exact HO310.out, hbT HB.out⟩

/-! ### impl_AreConstraints: function 34 -/
def impl_AreConstraints.l0 : Nat → List ByteArray → List ByteArray → Int → Int → Option (Bool)
 | 0, _, _, _, _ => none
 | k + 1, x0, x5, x6, x7 => if x7 < x6 then (if 0 ≤ x7 then (if x7 < (x5.length : Int) then ((impl_ConstraintNames.f).bind fun t313 => ((slices_Contains_string_string.f k t313 (rdOf ByteArray.empty x5 x7)).bind fun t316 => (if t316 = true then (if x7 ≤ (x0.length : Int) then ((slices_Contains_string_string.f k (x0.take (x7 : Int).toNat) (rdOf ByteArray.empty x5 x7)).bind fun t318 => (if t318 = true then (some false) else (impl_AreConstraints.l0 k x0 x5 x6 (wrap64 (x7 + 1))))) else (none)) else (some false)))) else (none)) else (none)) else ((impl_within.f (x0.length : Int) 1 5).bind fun t311 => (some t311))
def impl_AreConstraints.f (k : Nat) (l0 : List ByteArray) : Option (Bool) := impl_AreConstraints.l0 k l0 l0 (l0.length : Int) 0
theorem impl_AreConstraints.mono_l : ∀ k, (∀ y0 y1 y2 y3, LeO (impl_AreConstraints.l0 k y0 y1 y2 y3) (impl_AreConstraints.l0 (k + 1) y0 y1 y2 y3))
 | 0 => fun _ _ _ _ r h => by simp [impl_AreConstraints.l0] at h
 | k + 1 => by
  have ih0 := impl_AreConstraints.mono_l k
  ·intro y0 y1 y2 y3
   unfold impl_AreConstraints.l0
   with_reducible repeat' first | exact ih0 _ _ _ _ | exact slices_Contains_string_string.mono _ _ _ | exact LeO.refl _ | exact LeO.none _ | refine LeO.ite ?_ ?_ | refine LeO.bind ?_ (fun _ => ?_)
theorem impl_AreConstraints.mono : ∀ a0 k, LeO (impl_AreConstraints.f k a0) (impl_AreConstraints.f (k + 1) a0) := by
 intro a0 k
 have ih0 := impl_AreConstraints.mono_l k
 unfold impl_AreConstraints.f
 with_reducible repeat' first | exact ih0 _ _ _ _ | exact slices_Contains_string_string.mono _ _ _ | exact LeO.refl _ | exact LeO.none _ | refine LeO.ite ?_ ?_ | refine LeO.bind ?_ (fun _ => ?_)
set_option maxHeartbeats 8000000 in
set_option maxRecDepth 100000 in
theorem impl_AreConstraints.calls (k : Nat) (A0 : Option Addr) (c0 : Nat) (l0 : List ByteArray) (r : Bool) (w : World) (hr0 : Kd.C Kd.string w A0 l0.length l0) (hc0 : l0.length ≤ c0) (h : impl_AreConstraints.f k l0 = some r) :
  Calls Tryz.prog 34 #[.slice A0 l0.length c0] w fun e w' => e = .returned (.bool r) ∧ Below w.heap.size w w' := by
 have HR0 := Aside0.mk hr0; have HC0 := Aside0.mk hc0; clear hr0 hc0; have HB := asT (Below.refl w.heap.size w); have H := h; unfold impl_AreConstraints.f at H; clear h; have H' := Aside0.mk H; clear H
 go_enter Tryz.func34, Tryz.ntmps34
 go_wp2
 go_loopg [7] k (fun kq v7 w' => ∃ (x7_1 : Int), v7 = .int .i64 x7_1 ∧ Aside0 (impl_AreConstraints.l0 kq l0 l0 (l0.length : Int) x7_1 = some r) ∧ Aside0 (kq ≤ k) ∧ Aside0 (Below w.heap.size w w'))
 case atStart => exact ⟨(0), rdT, H', ⟨Nat.le_refl _⟩, ⟨hbT HB.out⟩⟩
 case round =>
  clear H'; obtain ⟨x7_1, rfl, HA, HK1, HB⟩ := hrel
  cases gk with
  | zero => exact absurd HA.out (by simp [impl_AreConstraints.l0])
  | succ k1 =>
   have H := HA.out; clear HA
   simp only [impl_AreConstraints.l0] at H
   by_cases c2 : x7_1 < (l0.length : Int)
   ·rw [if_pos c2] at H
    have c2b0 : decide (x7_1 < (l0.length : Int)) = true := decide_eq_true c2
    clear c2
    by_cases c3 : 0 ≤ x7_1
    ·rw [if_pos c3] at H
     have c3b0 : decide (0 ≤ x7_1) = true := decide_eq_true c3
     clear c3
     by_cases c4 : x7_1 < (l0.length : Int)
     ·rw [if_pos c4] at H
      have c4b0 : decide (x7_1 < (l0.length : Int)) = true := decide_eq_true c4
      clear c4; obtain ⟨t313, A5, H⟩ := be H; obtain ⟨t316, A6, H⟩ := be H
      by_cases c7 : t316 = true
      ·subst c7
       rw [if_pos rfl] at H; have c8b0 := eq_true (of_decide_eq_true asmT : 0 ≤ x7_1)
       by_cases c9 : x7_1 ≤ (l0.length : Int)
       ·rw [if_pos c9] at H
        have c9b0 := eq_true c9
        have c9b1 : decide (x7_1 ≤ (l0.length : Int)) = true := decide_eq_true c9
        clear c9; obtain ⟨t318, A10, H⟩ := be H
        by_cases c11 : t318 = true
        ·subst c11
         rw [if_pos rfl] at H; have H1 := H; clear H; have H := H1; clear H1
         obtain rfl := Option.some.inj H
         have p312 : 0 ≤ (x7_1 : Int) := of_decide_eq_true asmT
         have q312 : x7_1 < (l0.length : Int) := of_decide_eq_true asmT
         obtain ⟨ad312, e312, hx312_0⟩ := Kd.at_string HR0.out x7_1 p312 q312
         cases e312
         replace hx312_0 := hbc HB.out hx312_0; replace p312 := eq_true p312; replace q312 := eq_true q312
         go_wp2_with (first | ((with_reducible refine gate_callee (f := 67) rfl ?_); refine goesL_ (some 12) rfl rfl Tryz.func67 (by kernel_rfl) rfl #[] rfl eqT ?_; (with_reducible refine (impl_ConstraintNames.calls  t313 _ A5.out).mono ?_); rintro e w12 ⟨v314, rfl, ho0, hb⟩; refine ⟨_, rfl, ?_⟩; have HO315 := asT (Kd.R_lower ho0 (below_size (hbT HB.out))); replace HB := hS HB hb; (try clear hb hb2 hk hi ho0); obtain ⟨Ao13, co13, eo13⟩ := Kd.R_slice HO315.out; subst eo13) | ((with_reducible refine gate_callee (f := 66) rfl ?_); refine goesL_ (some 14) rfl rfl Tryz.func66 (by kernel_rfl) rfl #[.slice Ao13 t313.length co13, .string (rdOf ByteArray.empty l0 x7_1)] rfl eqT ?_; (with_reducible refine (slices_Contains_string_string.calls k1 _ _ t313 (rdOf ByteArray.empty l0 x7_1) true _ ?side1 ?side2 A6.out).mono ?_); (case side1 => repeat (first | exact (Kd.R_reads' HO315.out).2.2 | (with_reducible refine Kd.C_alloc ?_ _) | (with_reducible refine Kd.C_drewN ?_ _) | (with_reducible refine Kd.C_drew ?_))); (case side2 => exact (Kd.R_reads' HO315.out).2.1); rintro e w' ⟨rfl, ⟨nd, rfl⟩⟩; refine ⟨_, rfl, ?_⟩; obtain ⟨i014, hi014, _, hsz14, _⟩ := info_parts info9; obtain ⟨hcut14, hA14, hC14⟩ := print_take_of (P := Tryz.prog) Value.string (⟨#[]⟩ : ByteArray) 22 9 .i64 Tryz.underlying22 hi014 hsz14 (some ad312) c0 l0 x7_1 (of_decide_eq_true asmT) (of_decide_eq_true asmT) HC0.out; have HR317 := asT (Kd.C_of_reads (h1 := fun _ => rfl) (hA14 _ (Kd.reads_of_C HR0.out))); have HC317 := Aside0.mk hC14; clear hA14 hC14 hi014 hsz14) | (go_at_call 66; refine calls_of_args (args' := #[.slice _ (l0.take (x7_1 : Int).toNat).length _, .string (rdOf ByteArray.empty l0 x7_1)]) (by first | (rw [show (l0.take (x7_1 : Int).toNat).length = x7_1.toNat from (by rw [List.length_take]; have h_ : (x7_1 : Int) ≤ (l0.length : Int) := of_decide_eq_true asmT; omega)] <;> rfl) | rfl) ?_; (with_reducible refine (slices_Contains_string_string.calls k1 _ _ (l0.take (x7_1 : Int).toNat) (rdOf ByteArray.empty l0 x7_1) true _ ?side1 ?side2 A10.out).mono ?_); (case side1 => exact crT HR317.out (hbT HB.out)); (case side2 => exact HC317.out); rintro e w' ⟨rfl, ⟨nd, rfl⟩⟩))
         go_ret
         exact ⟨rlT, hbT HB.out⟩
        ·replace c11 := Bool.eq_false_iff.mpr c11
         subst c11; rw [if_neg nF] at H; have H' := Aside0.mk H; clear H
         have p312 : 0 ≤ (x7_1 : Int) := of_decide_eq_true asmT
         have q312 : x7_1 < (l0.length : Int) := of_decide_eq_true asmT
         obtain ⟨ad312, e312, hx312_0⟩ := Kd.at_string HR0.out x7_1 p312 q312
         cases e312
         replace hx312_0 := hbc HB.out hx312_0; replace p312 := eq_true p312; replace q312 := eq_true q312
         go_wp2_with (first | ((with_reducible refine gate_callee (f := 67) rfl ?_); refine goesL_ (some 12) rfl rfl Tryz.func67 (by kernel_rfl) rfl #[] rfl eqT ?_; (with_reducible refine (impl_ConstraintNames.calls  t313 _ A5.out).mono ?_); rintro e w15 ⟨v314, rfl, ho0, hb⟩; refine ⟨_, rfl, ?_⟩; have HO315 := asT (Kd.R_lower ho0 (below_size (hbT HB.out))); replace HB := hS HB hb; (try clear hb hb2 hk hi ho0); obtain ⟨Ao16, co16, eo16⟩ := Kd.R_slice HO315.out; subst eo16) | ((with_reducible refine gate_callee (f := 66) rfl ?_); refine goesL_ (some 14) rfl rfl Tryz.func66 (by kernel_rfl) rfl #[.slice Ao16 t313.length co16, .string (rdOf ByteArray.empty l0 x7_1)] rfl eqT ?_; (with_reducible refine (slices_Contains_string_string.calls k1 _ _ t313 (rdOf ByteArray.empty l0 x7_1) true _ ?side1 ?side2 A6.out).mono ?_); (case side1 => repeat (first | exact (Kd.R_reads' HO315.out).2.2 | (with_reducible refine Kd.C_alloc ?_ _) | (with_reducible refine Kd.C_drewN ?_ _) | (with_reducible refine Kd.C_drew ?_))); (case side2 => exact (Kd.R_reads' HO315.out).2.1); rintro e w' ⟨rfl, ⟨nd, rfl⟩⟩; refine ⟨_, rfl, ?_⟩; obtain ⟨i017, hi017, _, hsz17, _⟩ := info_parts info9; obtain ⟨hcut17, hA17, hC17⟩ := print_take_of (P := Tryz.prog) Value.string (⟨#[]⟩ : ByteArray) 22 9 .i64 Tryz.underlying22 hi017 hsz17 (some ad312) c0 l0 x7_1 (of_decide_eq_true asmT) (of_decide_eq_true asmT) HC0.out; have HR317 := asT (Kd.C_of_reads (h1 := fun _ => rfl) (hA17 _ (Kd.reads_of_C HR0.out))); have HC317 := Aside0.mk hC17; clear hA17 hC17 hi017 hsz17) | (go_at_call 66; refine calls_of_args (args' := #[.slice _ (l0.take (x7_1 : Int).toNat).length _, .string (rdOf ByteArray.empty l0 x7_1)]) (by first | (rw [show (l0.take (x7_1 : Int).toNat).length = x7_1.toNat from (by rw [List.length_take]; have h_ : (x7_1 : Int) ≤ (l0.length : Int) := of_decide_eq_true asmT; omega)] <;> rfl) | rfl) ?_; (with_reducible refine (slices_Contains_string_string.calls k1 _ _ (l0.take (x7_1 : Int).toNat) (rdOf ByteArray.empty l0 x7_1) false _ ?side1 ?side2 A10.out).mono ?_); (case side1 => exact crT HR317.out (hbT HB.out)); (case side2 => exact HC317.out); rintro e w' ⟨rfl, ⟨nd, rfl⟩⟩))
         go_roundg k1
         case measure => have := HK1.out; omega
         case rel => exact ⟨(wrap64 (x7_1 + 1)), rdT, H', ⟨by have := HK1.out; omega⟩, ⟨hbT HB.out⟩⟩
       ·rw [if_neg c9] at H
        exact absurd H (by simp)
      ·replace c7 := Bool.eq_false_iff.mpr c7
       subst c7; rw [if_neg nF] at H; have H1 := H; clear H; have H := H1; clear H1
       obtain rfl := Option.some.inj H
       have p312 : 0 ≤ (x7_1 : Int) := of_decide_eq_true asmT
       have q312 : x7_1 < (l0.length : Int) := of_decide_eq_true asmT
       obtain ⟨ad312, e312, hx312_0⟩ := Kd.at_string HR0.out x7_1 p312 q312
       cases e312
       replace hx312_0 := hbc HB.out hx312_0; replace p312 := eq_true p312; replace q312 := eq_true q312
       go_wp2_with (first | ((with_reducible refine gate_callee (f := 67) rfl ?_); refine goesL_ (some 12) rfl rfl Tryz.func67 (by kernel_rfl) rfl #[] rfl eqT ?_; (with_reducible refine (impl_ConstraintNames.calls  t313 _ A5.out).mono ?_); rintro e w18 ⟨v314, rfl, ho0, hb⟩; refine ⟨_, rfl, ?_⟩; have HO315 := asT (Kd.R_lower ho0 (below_size (hbT HB.out))); replace HB := hS HB hb; (try clear hb hb2 hk hi ho0); obtain ⟨Ao19, co19, eo19⟩ := Kd.R_slice HO315.out; subst eo19) | ((with_reducible refine gate_callee (f := 66) rfl ?_); refine goesL_ (some 14) rfl rfl Tryz.func66 (by kernel_rfl) rfl #[.slice Ao19 t313.length co19, .string (rdOf ByteArray.empty l0 x7_1)] rfl eqT ?_; (with_reducible refine (slices_Contains_string_string.calls k1 _ _ t313 (rdOf ByteArray.empty l0 x7_1) false _ ?side1 ?side2 A6.out).mono ?_); (case side1 => repeat (first | exact (Kd.R_reads' HO315.out).2.2 | (with_reducible refine Kd.C_alloc ?_ _) | (with_reducible refine Kd.C_drewN ?_ _) | (with_reducible refine Kd.C_drew ?_))); (case side2 => exact (Kd.R_reads' HO315.out).2.1); rintro e w' ⟨rfl, ⟨nd, rfl⟩⟩; refine ⟨_, rfl, ?_⟩))
       go_ret
       exact ⟨rlT, hbT HB.out⟩
     ·rw [if_neg c4] at H
      exact absurd H (by simp)
    ·rw [if_neg c3] at H
     exact absurd H (by simp)
   ·rw [if_neg c2] at H
    have c2b0 : decide (x7_1 < (l0.length : Int)) = false := decide_eq_false c2
    clear c2; obtain ⟨t311, A20, H⟩ := be H
    obtain rfl := Option.some.inj H
    go_wp2_with (first | ((with_reducible refine gate_callee (f := 54) rfl ?_); refine goesL_ (some 26) rfl rfl Tryz.func54 (by kernel_rfl) rfl #[.int .i64 (l0.length : Int), .int .i64 1, .int .i64 5] rfl eqT ?_; (with_reducible refine (impl_within.calls (l0.length : Int) 1 5 t311 _ A20.out).mono ?_); rintro e w' ⟨rfl, ⟨nd, rfl⟩⟩; refine ⟨_, rfl, ?_⟩))
    go_ret
    exact ⟨rlT, hbT HB.out⟩

/-! ### strings_IndexByte: function 117 -/
set_option maxRecDepth 100000 in
theorem stringslite_IndexByte.calls (s : ByteArray) (c : Int) (w : World) :
    Calls Tryz.prog 134 #[.string s, .int .u8 c] w fun e w' => e = .returned (.int .i64 (Lib.indexByte s.data.toList c.toNat.toUInt8)) ∧ w' = w := by
  go_enter Tryz.func134, Tryz.ntmps134
  go_wp2
  rw [run_callFunc_extern Tryz.func136 (by kernel_rfl) (by kernel_rfl) (by kernel_rfl) (e := Extern.BytealgIndexByte.indexByte) (by kernel_rfl), Lib.run_indexByteString]
  simp only [Result.andThen]
  rw [Oper.upon_value]
  go_wp2
  go_ret
  exact ⟨rfl, rfl⟩
def strings_IndexByte.f (a0 : ByteArray) (a1 : Int) : Option (Int) := some (Lib.indexByte a0.data.toList a1.toNat.toUInt8)
set_option maxRecDepth 100000 in
theorem strings_IndexByte.calls (a0 : ByteArray) (a1 : Int) (r : Int) (w : World) (h : strings_IndexByte.f a0 a1 = some r) :
    Calls Tryz.prog 117 #[.string a0, .int .u8 a1] w fun e w' => e = .returned (.int .i64 r) ∧ Drawn0 w w' := by
  obtain rfl := Option.some.inj h
  go_enter Tryz.func117, Tryz.ntmps117
  go_wp2_with (go_at_call 134; refine (stringslite_IndexByte.calls _ _ _).mono ?_; rintro e w' ⟨rfl, rfl⟩)
  go_ret
  exact ⟨rfl, Drawn0.refl _⟩

/-! ### impl_IsSound: function 95 -/
def impl_IsSound.f (a0 : Int) : Option (Bool) := (strings_IndexByte.f (⟨#[112, 116, 98, 100, 110, 97, 105]⟩ : ByteArray) a0).bind fun t319 => (some (decide (t319 ≥ 0)))
set_option maxHeartbeats 8000000 in
set_option maxRecDepth 100000 in
theorem impl_IsSound.calls (a0 : Int) (r : Bool) (w : World) (h : impl_IsSound.f a0 = some r) :
  Calls Tryz.prog 95 #[.int .u8 a0] w fun e w' => e = .returned (.bool r) ∧ Drawn0 w w' := by
 have H := h; unfold impl_IsSound.f at H; clear h; obtain ⟨t319, A2, H⟩ := be H
 obtain rfl := Option.some.inj H
 go_enter Tryz.func95, Tryz.ntmps95
 go_wp2_with (first | ((with_reducible refine gate_callee (f := 117) rfl ?_); refine goesL_ (some 4) rfl rfl Tryz.func117 (by kernel_rfl) rfl #[.string (⟨#[112, 116, 98, 100, 110, 97, 105]⟩ : ByteArray), .int .u8 a0] rfl eqT ?_; (with_reducible refine (strings_IndexByte.calls (⟨#[112, 116, 98, 100, 110, 97, 105]⟩ : ByteArray) a0 t319 _ A2.out).mono ?_); rintro e w' ⟨rfl, ⟨nd, rfl⟩⟩; refine ⟨_, rfl, ?_⟩))
 go_ret
 exact ⟨rdT, drT⟩

/-! ### impl_areSounds: function 68 -/
def impl_areSounds.l0 : Nat → ByteArray → Int → Int → Option (Bool)
 | 0, _, _, _ => none
 | k + 1, x0, x5, x6 => if x6 < x5 then (if 0 ≤ x6 then (if x6 < (x0.size : Int) then ((impl_IsSound.f (bt x0 x6)).bind fun t320 => (if t320 = true then (impl_areSounds.l0 k x0 x5 (wrap64 (x6 + 1))) else (some false))) else (none)) else (none)) else ((impl_within.f (x0.size : Int) 1 20).bind fun t321 => (some t321))
def impl_areSounds.f (k : Nat) (a0 : ByteArray) : Option (Bool) := impl_areSounds.l0 k a0 (a0.size : Int) 0
theorem impl_areSounds.mono_l : ∀ k, (∀ y0 y1 y2, LeO (impl_areSounds.l0 k y0 y1 y2) (impl_areSounds.l0 (k + 1) y0 y1 y2))
 | 0 => fun _ _ _ r h => by simp [impl_areSounds.l0] at h
 | k + 1 => by
  have ih0 := impl_areSounds.mono_l k
  ·intro y0 y1 y2
   unfold impl_areSounds.l0
   with_reducible repeat' first | exact ih0 _ _ _ | exact LeO.refl _ | exact LeO.none _ | refine LeO.ite ?_ ?_ | refine LeO.bind ?_ (fun _ => ?_)
theorem impl_areSounds.mono : ∀ a0 k, LeO (impl_areSounds.f k a0) (impl_areSounds.f (k + 1) a0) := by
 intro a0 k
 have ih0 := impl_areSounds.mono_l k
 unfold impl_areSounds.f
 with_reducible repeat' first | exact ih0 _ _ _ | exact LeO.refl _ | exact LeO.none _ | refine LeO.ite ?_ ?_ | refine LeO.bind ?_ (fun _ => ?_)
set_option maxHeartbeats 8000000 in
set_option maxRecDepth 100000 in
theorem impl_areSounds.calls (k : Nat) (a0 : ByteArray) (r : Bool) (w : World) (h : impl_areSounds.f k a0 = some r) :
  Calls Tryz.prog 68 #[.string a0] w fun e w' => e = .returned (.bool r) ∧ Drawn0 w w' := by
 have H := h; unfold impl_areSounds.f at H; clear h; have H' := Aside0.mk H; clear H
 go_enter Tryz.func68, Tryz.ntmps68
 go_wp2
 go_loopg [6] k (fun kq v6 w' => ∃ (x6_1 : Int), v6 = .int .i64 x6_1 ∧ Aside0 (impl_areSounds.l0 kq a0 (a0.size : Int) x6_1 = some r) ∧ Aside0 (kq ≤ k) ∧ Drawn0 w w')
 case atStart => exact ⟨(0), rdT, H', ⟨Nat.le_refl _⟩, drT⟩
 case round =>
  clear H'; obtain ⟨x6_1, rfl, HA, HK1, ⟨m1, rfl⟩⟩ := hrel
  cases gk with
  | zero => exact absurd HA.out (by simp [impl_areSounds.l0])
  | succ k1 =>
   have H := HA.out; clear HA
   simp only [impl_areSounds.l0] at H
   by_cases c2 : x6_1 < (a0.size : Int)
   ·rw [if_pos c2] at H
    have c2b0 : decide (x6_1 < (a0.size : Int)) = true := decide_eq_true c2
    clear c2
    by_cases c3 : 0 ≤ x6_1
    ·rw [if_pos c3] at H
     have c3b0 : decide (0 ≤ x6_1) = true := decide_eq_true c3
     clear c3
     by_cases c4 : x6_1 < (a0.size : Int)
     ·rw [if_pos c4] at H
      have c4b0 : decide (x6_1 < (a0.size : Int)) = true := decide_eq_true c4
      clear c4; obtain ⟨t320, A6, H⟩ := be H
      by_cases c7 : t320 = true
      ·subst c7
       rw [if_pos rfl] at H; have H' := Aside0.mk H; clear H
       have p5 : 0 ≤ (x6_1 : Int) := of_decide_eq_true asmT
       have q5 : x6_1 < (a0.size : Int) := of_decide_eq_true asmT
       have hx5 := bt_at a0 x6_1; replace p5 := eq_true p5; replace q5 := eq_true q5
       go_wp2_with (first | ((with_reducible refine gate_callee (f := 95) rfl ?_); refine goesL_ (some 12) rfl rfl Tryz.func95 (by kernel_rfl) rfl #[.int .u8 (bt a0 x6_1)] rfl eqT ?_; (with_reducible refine (impl_IsSound.calls (bt a0 x6_1) true _ A6.out).mono ?_); rintro e w' ⟨rfl, ⟨nd, rfl⟩⟩; refine ⟨_, rfl, ?_⟩))
       go_roundg k1
       case measure => have := HK1.out; omega
       case rel => exact ⟨(wrap64 (x6_1 + 1)), rdT, H', ⟨by have := HK1.out; omega⟩, drT⟩
      ·replace c7 := Bool.eq_false_iff.mpr c7
       subst c7; rw [if_neg nF] at H; have H1 := H; clear H; have H := H1; clear H1
       obtain rfl := Option.some.inj H
       have p5 : 0 ≤ (x6_1 : Int) := of_decide_eq_true asmT
       have q5 : x6_1 < (a0.size : Int) := of_decide_eq_true asmT
       have hx5 := bt_at a0 x6_1; replace p5 := eq_true p5; replace q5 := eq_true q5
       go_wp2_with (first | ((with_reducible refine gate_callee (f := 95) rfl ?_); refine goesL_ (some 12) rfl rfl Tryz.func95 (by kernel_rfl) rfl #[.int .u8 (bt a0 x6_1)] rfl eqT ?_; (with_reducible refine (impl_IsSound.calls (bt a0 x6_1) false _ A6.out).mono ?_); rintro e w' ⟨rfl, ⟨nd, rfl⟩⟩; refine ⟨_, rfl, ?_⟩))
       go_ret
       exact ⟨rdT, drT⟩
     ·rw [if_neg c4] at H
      exact absurd H (by simp)
    ·rw [if_neg c3] at H
     exact absurd H (by simp)
   ·rw [if_neg c2] at H
    have c2b0 : decide (x6_1 < (a0.size : Int)) = false := decide_eq_false c2
    clear c2; obtain ⟨t321, A8, H⟩ := be H
    obtain rfl := Option.some.inj H
    go_wp2_with (first | ((with_reducible refine gate_callee (f := 54) rfl ?_); refine goesL_ (some 17) rfl rfl Tryz.func54 (by kernel_rfl) rfl #[.int .i64 (a0.size : Int), .int .i64 1, .int .i64 20] rfl eqT ?_; (with_reducible refine (impl_within.calls (a0.size : Int) 1 20 t321 _ A8.out).mono ?_); rintro e w' ⟨rfl, ⟨nd, rfl⟩⟩; refine ⟨_, rfl, ?_⟩))
    go_ret
    exact ⟨rdT, drT⟩

/-! ### impl_IsForm: function 35 -/
def impl_IsForm.f (k : Nat) (a0 : ByteArray) : Option (Bool) := if a0.toList = ([] : List UInt8) then (some true) else (if (a0.size : Int) ≤ 8 then ((impl_areSounds.f k a0).bind fun t322 => (some t322)) else (some false))
theorem impl_IsForm.mono : ∀ a0 k, LeO (impl_IsForm.f k a0) (impl_IsForm.f (k + 1) a0) := by
 intro a0 k
 unfold impl_IsForm.f
 with_reducible repeat' first | exact impl_areSounds.mono _ _ | exact LeO.refl _ | exact LeO.none _ | refine LeO.ite ?_ ?_ | refine LeO.bind ?_ (fun _ => ?_)
set_option maxHeartbeats 8000000 in
set_option maxRecDepth 100000 in
theorem impl_IsForm.calls (k : Nat) (a0 : ByteArray) (r : Bool) (w : World) (h : impl_IsForm.f k a0 = some r) :
  Calls Tryz.prog 35 #[.string a0] w fun e w' => e = .returned (.bool r) ∧ Drawn0 w w' := by
 have H := h; unfold impl_IsForm.f at H; clear h
 by_cases c2 : a0.toList = ([] : List UInt8)
 ·rw [if_pos c2] at H
  have c2b0 : (a0.toList == ([] : List UInt8)) = true := beq_iff_eq.mpr c2
  have c2b1 : (a0.toList != ([] : List UInt8)) = false := bne_eq_false_iff_eq.mpr c2
  clear c2
  obtain rfl := Option.some.inj H
  go_enter Tryz.func35, Tryz.ntmps35
  go_wp2
  go_ret
  exact ⟨rdT, drT⟩
 ·rw [if_neg c2] at H
  have c2b0 : (a0.toList == ([] : List UInt8)) = false := beq_eq_false_iff_ne.mpr c2
  have c2b1 : (a0.toList != ([] : List UInt8)) = true := bne_iff_ne.mpr c2
  by_cases c3 : (a0.size : Int) ≤ 8
  ·rw [if_pos c3] at H
   have c3b0 : decide ((a0.size : Int) ≤ 8) = true := decide_eq_true c3
   have c3b1 : decide (a0.size ≤ 8) = true := decide_eq_true (by omega)
   clear c3; obtain ⟨t322, A4, H⟩ := be H
   obtain rfl := Option.some.inj H
   go_enter Tryz.func35, Tryz.ntmps35
   go_wp2_with (first | (go_at_call 68; (with_reducible refine (impl_areSounds.calls k a0 t322 _ A4.out).mono ?_); rintro e w' ⟨rfl, ⟨nd, rfl⟩⟩))
   go_ret
   exact ⟨rdT, drT⟩
  ·rw [if_neg c3] at H
   have c3b0 : decide ((a0.size : Int) ≤ 8) = false := decide_eq_false c3
   have c3b1 : decide (a0.size ≤ 8) = false := decide_eq_false (by omega)
   clear c3
   obtain rfl := Option.some.inj H
   go_enter Tryz.func35, Tryz.ntmps35
   go_wp2
   go_ret
   exact ⟨rdT, drT⟩

/-! ### impl_sounds: function 58 -/
def impl_sounds.l0 : Nat → Bool → List Int → List (S70) → Int → Int → Option (ByteArray)
 | 0, _, _, _, _, _ => none
 | k + 1, x1, x5, x11, x12, x13 => if x13 < x12 then (if 0 ≤ x13 then (if x13 < (x11.length : Int) then (if x1 = true then (if ((rd_T70 x11 x13).f1) = 0 then (impl_sounds.l0 k x1 x5 x11 x12 (wrap64 (x13 + 1))) else (if x5.length < 140737488355328 then (impl_sounds.l0 k x1 (x5 ++ [(rd_T70 x11 x13).f1]) x11 x12 (wrap64 (x13 + 1))) else (none))) else (if ((rd_T70 x11 x13).f0) = 0 then (impl_sounds.l0 k x1 x5 x11 x12 (wrap64 (x13 + 1))) else (if x5.length < 140737488355328 then (impl_sounds.l0 k x1 (x5 ++ [(rd_T70 x11 x13).f0]) x11 x12 (wrap64 (x13 + 1))) else (none)))) else (none)) else (none)) else (some (strOfNums x5))
def impl_sounds.f (k : Nat) (l0_0 : List (S70)) (a1 : Bool) : Option (ByteArray) := impl_sounds.l0 k a1 (([] : List Int)) l0_0 (l0_0.length : Int) 0
theorem impl_sounds.mono_l : ∀ k, (∀ y0 y1 y2 y3 y4, LeO (impl_sounds.l0 k y0 y1 y2 y3 y4) (impl_sounds.l0 (k + 1) y0 y1 y2 y3 y4))
 | 0 => fun _ _ _ _ _ r h => by simp [impl_sounds.l0] at h
 | k + 1 => by
  have ih0 := impl_sounds.mono_l k
  ·intro y0 y1 y2 y3 y4
   unfold impl_sounds.l0
   with_reducible repeat' first | exact ih0 _ _ _ _ _ | exact LeO.refl _ | exact LeO.none _ | refine LeO.ite ?_ ?_ | refine LeO.bind ?_ (fun _ => ?_)
theorem impl_sounds.mono : ∀ a0 a1 k, LeO (impl_sounds.f k a0 a1) (impl_sounds.f (k + 1) a0 a1) := by
 intro a0 a1 k
 have ih0 := impl_sounds.mono_l k
 unfold impl_sounds.f
 with_reducible repeat' first | exact ih0 _ _ _ _ _ | exact LeO.refl _ | exact LeO.none _ | refine LeO.ite ?_ ?_ | refine LeO.bind ?_ (fun _ => ?_)
set_option maxHeartbeats 8000000 in
set_option maxRecDepth 100000 in
theorem impl_sounds.calls (k : Nat) (A0_0 : Option Addr) (c0_0 : Nat) (l0_0 : List (S70)) (a1 : Bool) (r : ByteArray) (w : World) (hr0_0 : Kd.C k70 w A0_0 l0_0.length l0_0) (hc0_0 : l0_0.length ≤ c0_0) (h : impl_sounds.f k l0_0 a1 = some r) :
  Calls Tryz.prog 58 #[.agg #[.slice A0_0 l0_0.length c0_0], .bool a1] w fun e w' => e = .returned (.string r) ∧ Below w.heap.size w w' := by
 have hu48 := Tryz.underlying48; have hu70 := Tryz.underlying70; have HR0_0 := Aside0.mk hr0_0; have HC0_0 := Aside0.mk hc0_0; clear hr0_0 hc0_0; have HB := asT (Below.refl w.heap.size w); have H := h; unfold impl_sounds.f at H; clear h; obtain ⟨y324, hy324⟩ : ∃ y_ : List Int, y_ = (([] : List Int)) := ⟨_, rfl⟩
 replace H : (impl_sounds.l0 k a1 y324 l0_0 (l0_0.length : Int) 0) = some r := by first | (rw [hy324]; with_reducible exact H) | (have H2_ := (Option.bind_some _ _).symm.trans H; rw [hy324]; with_reducible exact H2_) | (have H2_ := (Option.bind_some _ _).symm.trans H; with_reducible exact H2_) | with_reducible exact H | (rw [hy324]; exact H) | exact H
 have Ny324 := Aside0.mk hy324; clear hy324; have H' := Aside0.mk H; clear H
 go_enter Tryz.func58, Tryz.ntmps58
 go_wp2_with (first | ((with_reducible refine gate_dst (N := 2) rfl ?_); refine boxT (N := 2) (cs := #[.slice A0_0 l0_0.length c0_0]) (t := 48) ?_; intro gb323 hg w3 hbox hb; have BK323 := asT hbox; have GW323 := asT (geT hg HB.out); have GE323 := GW323; replace HB := hS HB hb; clear hb hbox hg) | ((with_reducible refine gate_dst (N := 9) rfl ?_); refine Kd.R_lit (Kd.int .u8) _ 5 ?hg (N := 9) ?hd (xs := ([] : List Int)) (inner := []) (ok := fun _ => True) (okp := fun _ => True) ?hr ?hp (fun _ hk => hk) trivial (Below.refl _ _) (Nat.le_refl _) (by simp) ?_; (case hd => rfl); (case hg => rfl); (case hr => first | (go_simp; done) | (go_simp; rfl)); (case hp => exact (Reps.none _ _)); intro v325 w4 ho5 hb hg_ hnew_; clear hg_ hnew_; (first | rw [← Ny324.out] at ho5 | (simp only [Int.reduceToNat] at ho5; rw [← Ny324.out] at ho5)); have HO326 := asT (Kd.R_lower ho5 (below_size (hbT HB.out))); replace BK323 := bS BK323 hb; replace HB := hS HB hb; clear hb ho5; obtain ⟨hcz6_0, hfz6_0⟩ := bx1 BK323.out))
 go_loopg [5, 13] k (fun kq v5 v13 w' => ∃ (x5_1 : List Int) (x13_1 : Int), v13 = .int .i64 x13_1 ∧ Aside0 (impl_sounds.l0 kq a1 x5_1 l0_0 (l0_0.length : Int) x13_1 = some r) ∧ Aside0 (kq ≤ k) ∧ Aside0 (Kd.R (Kd.int .u8) 5 w' w.heap.size (fun _ => True) v5 x5_1) ∧ Aside0 (w'.heap[gb323]? = some (.cells #[(.slice A0_0 l0_0.length c0_0)] 48 (0, 0))) ∧ Aside0 (Below w.heap.size w w'))
 case atStart => exact ⟨(y324), (0), rdT, H', ⟨Nat.le_refl _⟩, ⟨by (with_reducible repeat (first | apply Kd.R_alloc | apply Kd.R_drewN | apply Kd.R_drew)); exact HO326.out⟩, ⟨by (with_reducible repeat (first | refine blk_drewN ?_ _ | refine blk_drew ?_ | refine blk_alloc ?_ _)); exact BK323.out⟩, ⟨hbT HB.out⟩⟩
 case round =>
  clear H'; (try clear p2 c5 hcz6_0 hfz6_0); obtain ⟨x5_1, x13_1, rfl, HA, HK1, HO_5, BK323, HB⟩ := hrel
  cases gk with
  | zero => exact absurd HA.out (by simp [impl_sounds.l0])
  | succ k1 =>
   have H := HA.out; clear HA
   simp only [impl_sounds.l0] at H
   by_cases c7 : x13_1 < (l0_0.length : Int)
   ·rw [if_pos c7] at H
    have c7b0 : decide (x13_1 < (l0_0.length : Int)) = true := decide_eq_true c7
    clear c7
    by_cases c8 : 0 ≤ x13_1
    ·rw [if_pos c8] at H
     have c8b0 : decide (0 ≤ x13_1) = true := decide_eq_true c8
     clear c8
     by_cases c9 : x13_1 < (l0_0.length : Int)
     ·rw [if_pos c9] at H
      have c9b0 : decide (x13_1 < (l0_0.length : Int)) = true := decide_eq_true c9
      clear c9
      by_cases c10 : a1 = true
      ·subst c10
       rw [if_pos rfl] at H; have H1 := H; clear H; have H := H1; clear H1
       by_cases c11 : ((rd_T70 l0_0 x13_1).f1) = 0
       ·rw [if_pos c11] at H
        have c11b0 : (((rd_T70 l0_0 x13_1).f1) == 0) = true := beq_iff_eq.mpr c11
        have c11b1 : (((rd_T70 l0_0 x13_1).f1) != 0) = false := bne_eq_false_iff_eq.mpr c11
        clear c11; have H' := Aside0.mk H; clear H
        have p327 : 0 ≤ (x13_1 : Int) := of_decide_eq_true asmT
        have q327 : x13_1 < (l0_0.length : Int) := of_decide_eq_true asmT
        obtain ⟨ad327, e327, hx327_0, hx327_1⟩ := at_T70 HR0_0.out x13_1 p327 q327
        cases e327
        replace hx327_0 := hbc HB.out hx327_0; replace hx327_1 := hbc HB.out hx327_1; replace p327 := eq_true p327; replace q327 := eq_true q327
        go_wp2_with (first | ((with_reducible refine gate_dst (N := 7) rfl ?_); refine boxT (N := 7) (cs := #[.int .u8 0, .int .u8 0]) (t := 70) ?_; intro gb328 hg w12 hbox hb; replace HO_5 := asT (Kd.R_below (roT HO_5.out) hb); have BK328 := asT (hbox); have GW328 := asT (geT hg HB.out); have GE328 := asT (geT hg HB.out); replace HB := hS HB hb; have NB323_328 := asT ((by rw [hg]; exact Nat.ne_of_lt (blk_lt (g := gb323) (o := .cells #[.slice (some ad327) l0_0.length c0_0] 48 (0, 0)) (bkT BK323.out)) : gb323 ≠ gb328)); have NB328_323 := asT ((by rw [hg]; exact Nat.ne_of_gt (blk_lt (g := gb323) (o := .cells #[.slice (some ad327) l0_0.length c0_0] 48 (0, 0)) (bkT BK323.out)) : gb328 ≠ gb323)); replace BK323 := bS BK323 hb; clear hb hbox hg; have hnb13 := NB328_323.out; have hnc13 := NB323_328.out; obtain ⟨hcz14_0, hcz14_1, hfz14_0, hfz14_1⟩ := bx2 BK328.out))
        go_roundg k1
        case measure => have := HK1.out; omega
        case rel => exact ⟨(x5_1), (wrap64 (x13_1 + 1)), rdT, H', ⟨by have := HK1.out; omega⟩, ⟨by (with_reducible repeat (first | apply Kd.R_alloc | apply Kd.R_drewN | apply Kd.R_drew)); exact Kd.R_mono (Kd.R_far (p := ⟨gb328, 1, none⟩) (Kd.R_far (p := ⟨gb328, 0, none⟩) (Kd.R_types HO_5.out BK328.out (by decide)) (fun _ hk => hk.2) (.int .u8 ((rd_T70 l0_0 x13_1).f0))) (fun _ hk => hk.2) (.int .u8 ((rd_T70 l0_0 x13_1).f1))) (fun _ hk => trivial)⟩, ⟨by (with_reducible repeat (first | refine blk_drewN ?_ _ | refine blk_drew ?_ | refine blk_alloc ?_ _)); refine blk_far ?_ NB323_328.out _; (with_reducible repeat (first | refine blk_drewN ?_ _ | refine blk_drew ?_ | refine blk_alloc ?_ _)); refine blk_far ?_ NB323_328.out _; (with_reducible repeat (first | refine blk_drewN ?_ _ | refine blk_drew ?_ | refine blk_alloc ?_ _)); exact BK323.out⟩, ⟨hbT HB.out⟩⟩
       ·rw [if_neg c11] at H
        have c11b0 : (((rd_T70 l0_0 x13_1).f1) == 0) = false := beq_eq_false_iff_ne.mpr c11
        have c11b1 : (((rd_T70 l0_0 x13_1).f1) != 0) = true := bne_iff_ne.mpr c11
        by_cases c15 : x5_1.length < 140737488355328
        ·rw [if_pos c15] at H
         have LMc15 := Aside0.mk c15; clear c15; obtain ⟨y329, hy329⟩ : ∃ y_ : List Int, y_ = (x5_1 ++ [(rd_T70 l0_0 x13_1).f1]) := ⟨_, rfl⟩
         replace H : (impl_sounds.l0 k1 true y329 l0_0 (l0_0.length : Int) (wrap64 (x13_1 + 1))) = some r := by first | (rw [hy329]; with_reducible exact H) | (have H2_ := (Option.bind_some _ _).symm.trans H; rw [hy329]; with_reducible exact H2_) | (have H2_ := (Option.bind_some _ _).symm.trans H; with_reducible exact H2_) | with_reducible exact H | (rw [hy329]; exact H) | exact H
         have Ny329 := Aside0.mk hy329; clear hy329; have H' := Aside0.mk H; clear H
         have p327 : 0 ≤ (x13_1 : Int) := of_decide_eq_true asmT
         have q327 : x13_1 < (l0_0.length : Int) := of_decide_eq_true asmT
         obtain ⟨ad327, e327, hx327_0, hx327_1⟩ := at_T70 HR0_0.out x13_1 p327 q327
         cases e327
         replace hx327_0 := hbc HB.out hx327_0; replace hx327_1 := hbc HB.out hx327_1; replace p327 := eq_true p327; replace q327 := eq_true q327
         go_wp2_with (first | ((with_reducible refine gate_dst (N := 7) rfl ?_); refine boxT (N := 7) (cs := #[.int .u8 0, .int .u8 0]) (t := 70) ?_; intro gb328 hg w16 hbox hb; replace HO_5 := asT (Kd.R_below (roT HO_5.out) hb); have BK328 := asT (hbox); have GW328 := asT (geT hg HB.out); have GE328 := asT (geT hg HB.out); replace HB := hS HB hb; have NB323_328 := asT ((by rw [hg]; exact Nat.ne_of_lt (blk_lt (g := gb323) (o := .cells #[.slice (some ad327) l0_0.length c0_0] 48 (0, 0)) (bkT BK323.out)) : gb323 ≠ gb328)); have NB328_323 := asT ((by rw [hg]; exact Nat.ne_of_gt (blk_lt (g := gb323) (o := .cells #[.slice (some ad327) l0_0.length c0_0] 48 (0, 0)) (bkT BK323.out)) : gb328 ≠ gb323)); replace BK323 := bS BK323 hb; clear hb hbox hg; have hnb17 := NB328_323.out; have hnc17 := NB323_328.out; obtain ⟨hcz18_0, hcz18_1, hfz18_0, hfz18_1⟩ := bx2 BK328.out) | ((with_reducible refine gate_builtin (b := .append) (xs := #[.tmp 24, .tmp 26]) rfl ?_); at_builtin; refine Kd.R_append (Kd.int .u8) (w0 := w) w.heap.size rfl (.tmp 24) (.tmp 26) 80 5 (.int .u8 0) 1 rfl Tryz.underlying80 info5 rfl (by decide) (by omega) u5 x5_1 ((rd_T70 l0_0 x13_1).f1) [.int .u8 ((rd_T70 l0_0 x13_1).f1)] (fun _ => True) (fun _ => False) rfl (by first | (go_simp; done) | (go_simp; rfl)) ?aP (fun _ hk => hk.elim) ?aF ?aO ?aB ?aS ?aL ?_; (case aP => exact rfl); (case aB => exact (hbT HB.out)); (case aF => exact (fun _ _ => trivial)); (case aO => exact (by (with_reducible repeat (first | apply Kd.R_alloc | apply Kd.R_drewN | apply Kd.R_drew)); exact Kd.R_mono (Kd.R_far (p := ⟨gb328, 1, none⟩) (Kd.R_far (p := ⟨gb328, 0, none⟩) (Kd.R_types HO_5.out BK328.out (by decide)) (fun _ hk => hk.2) (.int .u8 ((rd_T70 l0_0 x13_1).f0))) (fun _ hk => hk.2) (.int .u8 ((rd_T70 l0_0 x13_1).f1))) (fun _ hk => trivial))); (case aS => exact (below_size (hbT HB.out))); (case aL => have := LMc15.out; omega); intro v330 w19 ho hb hg hat; rw [← Ny329.out] at ho; replace BK323 := asT (blk_grown (g := gb323) (o := .cells #[.slice (some ad327) l0_0.length c0_0] 48 (0, 0)) (by (with_reducible repeat (first | refine blk_drewN ?_ _ | refine blk_drew ?_ | refine blk_alloc ?_ _)); refine blk_far ?_ NB323_328.out _; (with_reducible repeat (first | refine blk_drewN ?_ _ | refine blk_drew ?_ | refine blk_alloc ?_ _)); refine blk_far ?_ NB323_328.out _; (with_reducible repeat (first | refine blk_drewN ?_ _ | refine blk_drew ?_ | refine blk_alloc ?_ _)); exact BK323.out) hg (Kd.R_ne HO_5.out BK323.out (by decide))); replace BK328 := asT (blk_grown (g := gb328) (o := .cells #[.int .u8 ((rd_T70 l0_0 x13_1).f0), .int .u8 ((rd_T70 l0_0 x13_1).f1)] 70 (0, 0)) (by (with_reducible repeat (first | refine blk_drewN ?_ _ | refine blk_drew ?_ | refine blk_alloc ?_ _)); refine blk_put (cs := #[.int .u8 ((rd_T70 l0_0 x13_1).f0), .int .u8 0]) ?_ 1 _ rfl; (with_reducible repeat (first | refine blk_drewN ?_ _ | refine blk_drew ?_ | refine blk_alloc ?_ _)); refine blk_put (cs := #[.int .u8 0, .int .u8 0]) ?_ 0 _ rfl; (with_reducible repeat (first | refine blk_drewN ?_ _ | refine blk_drew ?_ | refine blk_alloc ?_ _)); exact BK328.out) hg (Kd.R_ne HO_5.out BK328.out (by decide))); replace HB := asT (hb); have HO331 := asT (ho); clear HO_5 ho hb hg hat))
         go_roundg k1
         case measure => have := HK1.out; omega
         case rel => exact ⟨(y329), (wrap64 (x13_1 + 1)), rdT, H', ⟨by have := HK1.out; omega⟩, ⟨by (with_reducible repeat (first | apply Kd.R_alloc | apply Kd.R_drewN | apply Kd.R_drew)); exact HO331.out⟩, ⟨by (with_reducible repeat (first | refine blk_drewN ?_ _ | refine blk_drew ?_ | refine blk_alloc ?_ _)); exact BK323.out⟩, ⟨hbT HB.out⟩⟩
        ·rw [if_neg c15] at H
         exact absurd H (by simp)
      ·replace c10 := Bool.eq_false_iff.mpr c10
       subst c10; rw [if_neg nF] at H; have H1 := H; clear H; have H := H1; clear H1
       by_cases c20 : ((rd_T70 l0_0 x13_1).f0) = 0
       ·rw [if_pos c20] at H
        have c20b0 : (((rd_T70 l0_0 x13_1).f0) == 0) = true := beq_iff_eq.mpr c20
        have c20b1 : (((rd_T70 l0_0 x13_1).f0) != 0) = false := bne_eq_false_iff_eq.mpr c20
        clear c20; have H' := Aside0.mk H; clear H
        have p327 : 0 ≤ (x13_1 : Int) := of_decide_eq_true asmT
        have q327 : x13_1 < (l0_0.length : Int) := of_decide_eq_true asmT
        obtain ⟨ad327, e327, hx327_0, hx327_1⟩ := at_T70 HR0_0.out x13_1 p327 q327
        cases e327
        replace hx327_0 := hbc HB.out hx327_0; replace hx327_1 := hbc HB.out hx327_1; replace p327 := eq_true p327; replace q327 := eq_true q327
        go_wp2_with (first | ((with_reducible refine gate_dst (N := 7) rfl ?_); refine boxT (N := 7) (cs := #[.int .u8 0, .int .u8 0]) (t := 70) ?_; intro gb328 hg w21 hbox hb; replace HO_5 := asT (Kd.R_below (roT HO_5.out) hb); have BK328 := asT (hbox); have GW328 := asT (geT hg HB.out); have GE328 := asT (geT hg HB.out); replace HB := hS HB hb; have NB323_328 := asT ((by rw [hg]; exact Nat.ne_of_lt (blk_lt (g := gb323) (o := .cells #[.slice (some ad327) l0_0.length c0_0] 48 (0, 0)) (bkT BK323.out)) : gb323 ≠ gb328)); have NB328_323 := asT ((by rw [hg]; exact Nat.ne_of_gt (blk_lt (g := gb323) (o := .cells #[.slice (some ad327) l0_0.length c0_0] 48 (0, 0)) (bkT BK323.out)) : gb328 ≠ gb323)); replace BK323 := bS BK323 hb; clear hb hbox hg; have hnb22 := NB328_323.out; have hnc22 := NB323_328.out; obtain ⟨hcz23_0, hcz23_1, hfz23_0, hfz23_1⟩ := bx2 BK328.out))
        go_roundg k1
        case measure => have := HK1.out; omega
        case rel => exact ⟨(x5_1), (wrap64 (x13_1 + 1)), rdT, H', ⟨by have := HK1.out; omega⟩, ⟨by (with_reducible repeat (first | apply Kd.R_alloc | apply Kd.R_drewN | apply Kd.R_drew)); exact Kd.R_mono (Kd.R_far (p := ⟨gb328, 1, none⟩) (Kd.R_far (p := ⟨gb328, 0, none⟩) (Kd.R_types HO_5.out BK328.out (by decide)) (fun _ hk => hk.2) (.int .u8 ((rd_T70 l0_0 x13_1).f0))) (fun _ hk => hk.2) (.int .u8 ((rd_T70 l0_0 x13_1).f1))) (fun _ hk => trivial)⟩, ⟨by (with_reducible repeat (first | refine blk_drewN ?_ _ | refine blk_drew ?_ | refine blk_alloc ?_ _)); refine blk_far ?_ NB323_328.out _; (with_reducible repeat (first | refine blk_drewN ?_ _ | refine blk_drew ?_ | refine blk_alloc ?_ _)); refine blk_far ?_ NB323_328.out _; (with_reducible repeat (first | refine blk_drewN ?_ _ | refine blk_drew ?_ | refine blk_alloc ?_ _)); exact BK323.out⟩, ⟨hbT HB.out⟩⟩
       ·rw [if_neg c20] at H
        have c20b0 : (((rd_T70 l0_0 x13_1).f0) == 0) = false := beq_eq_false_iff_ne.mpr c20
        have c20b1 : (((rd_T70 l0_0 x13_1).f0) != 0) = true := bne_iff_ne.mpr c20
        by_cases c24 : x5_1.length < 140737488355328
        ·rw [if_pos c24] at H
         have LMc24 := Aside0.mk c24; clear c24; obtain ⟨y332, hy332⟩ : ∃ y_ : List Int, y_ = (x5_1 ++ [(rd_T70 l0_0 x13_1).f0]) := ⟨_, rfl⟩
         replace H : (impl_sounds.l0 k1 false y332 l0_0 (l0_0.length : Int) (wrap64 (x13_1 + 1))) = some r := by first | (rw [hy332]; with_reducible exact H) | (have H2_ := (Option.bind_some _ _).symm.trans H; rw [hy332]; with_reducible exact H2_) | (have H2_ := (Option.bind_some _ _).symm.trans H; with_reducible exact H2_) | with_reducible exact H | (rw [hy332]; exact H) | exact H
         have Ny332 := Aside0.mk hy332; clear hy332; have H' := Aside0.mk H; clear H
         have p327 : 0 ≤ (x13_1 : Int) := of_decide_eq_true asmT
         have q327 : x13_1 < (l0_0.length : Int) := of_decide_eq_true asmT
         obtain ⟨ad327, e327, hx327_0, hx327_1⟩ := at_T70 HR0_0.out x13_1 p327 q327
         cases e327
         replace hx327_0 := hbc HB.out hx327_0; replace hx327_1 := hbc HB.out hx327_1; replace p327 := eq_true p327; replace q327 := eq_true q327
         go_wp2_with (first | ((with_reducible refine gate_dst (N := 7) rfl ?_); refine boxT (N := 7) (cs := #[.int .u8 0, .int .u8 0]) (t := 70) ?_; intro gb328 hg w25 hbox hb; replace HO_5 := asT (Kd.R_below (roT HO_5.out) hb); have BK328 := asT (hbox); have GW328 := asT (geT hg HB.out); have GE328 := asT (geT hg HB.out); replace HB := hS HB hb; have NB323_328 := asT ((by rw [hg]; exact Nat.ne_of_lt (blk_lt (g := gb323) (o := .cells #[.slice (some ad327) l0_0.length c0_0] 48 (0, 0)) (bkT BK323.out)) : gb323 ≠ gb328)); have NB328_323 := asT ((by rw [hg]; exact Nat.ne_of_gt (blk_lt (g := gb323) (o := .cells #[.slice (some ad327) l0_0.length c0_0] 48 (0, 0)) (bkT BK323.out)) : gb328 ≠ gb323)); replace BK323 := bS BK323 hb; clear hb hbox hg; have hnb26 := NB328_323.out; have hnc26 := NB323_328.out; obtain ⟨hcz27_0, hcz27_1, hfz27_0, hfz27_1⟩ := bx2 BK328.out) | ((with_reducible refine gate_builtin (b := .append) (xs := #[.tmp 24, .tmp 26]) rfl ?_); at_builtin; refine Kd.R_append (Kd.int .u8) (w0 := w) w.heap.size rfl (.tmp 24) (.tmp 26) 80 5 (.int .u8 0) 1 rfl Tryz.underlying80 info5 rfl (by decide) (by omega) u5 x5_1 ((rd_T70 l0_0 x13_1).f0) [.int .u8 ((rd_T70 l0_0 x13_1).f0)] (fun _ => True) (fun _ => False) rfl (by first | (go_simp; done) | (go_simp; rfl)) ?aP (fun _ hk => hk.elim) ?aF ?aO ?aB ?aS ?aL ?_; (case aP => exact rfl); (case aB => exact (hbT HB.out)); (case aF => exact (fun _ _ => trivial)); (case aO => exact (by (with_reducible repeat (first | apply Kd.R_alloc | apply Kd.R_drewN | apply Kd.R_drew)); exact Kd.R_mono (Kd.R_far (p := ⟨gb328, 1, none⟩) (Kd.R_far (p := ⟨gb328, 0, none⟩) (Kd.R_types HO_5.out BK328.out (by decide)) (fun _ hk => hk.2) (.int .u8 ((rd_T70 l0_0 x13_1).f0))) (fun _ hk => hk.2) (.int .u8 ((rd_T70 l0_0 x13_1).f1))) (fun _ hk => trivial))); (case aS => exact (below_size (hbT HB.out))); (case aL => have := LMc24.out; omega); intro v333 w28 ho hb hg hat; rw [← Ny332.out] at ho; replace BK323 := asT (blk_grown (g := gb323) (o := .cells #[.slice (some ad327) l0_0.length c0_0] 48 (0, 0)) (by (with_reducible repeat (first | refine blk_drewN ?_ _ | refine blk_drew ?_ | refine blk_alloc ?_ _)); refine blk_far ?_ NB323_328.out _; (with_reducible repeat (first | refine blk_drewN ?_ _ | refine blk_drew ?_ | refine blk_alloc ?_ _)); refine blk_far ?_ NB323_328.out _; (with_reducible repeat (first | refine blk_drewN ?_ _ | refine blk_drew ?_ | refine blk_alloc ?_ _)); exact BK323.out) hg (Kd.R_ne HO_5.out BK323.out (by decide))); replace BK328 := asT (blk_grown (g := gb328) (o := .cells #[.int .u8 ((rd_T70 l0_0 x13_1).f0), .int .u8 ((rd_T70 l0_0 x13_1).f1)] 70 (0, 0)) (by (with_reducible repeat (first | refine blk_drewN ?_ _ | refine blk_drew ?_ | refine blk_alloc ?_ _)); refine blk_put (cs := #[.int .u8 ((rd_T70 l0_0 x13_1).f0), .int .u8 0]) ?_ 1 _ rfl; (with_reducible repeat (first | refine blk_drewN ?_ _ | refine blk_drew ?_ | refine blk_alloc ?_ _)); refine blk_put (cs := #[.int .u8 0, .int .u8 0]) ?_ 0 _ rfl; (with_reducible repeat (first | refine blk_drewN ?_ _ | refine blk_drew ?_ | refine blk_alloc ?_ _)); exact BK328.out) hg (Kd.R_ne HO_5.out BK328.out (by decide))); replace HB := asT (hb); have HO334 := asT (ho); clear HO_5 ho hb hg hat))
         go_roundg k1
         case measure => have := HK1.out; omega
         case rel => exact ⟨(y332), (wrap64 (x13_1 + 1)), rdT, H', ⟨by have := HK1.out; omega⟩, ⟨by (with_reducible repeat (first | apply Kd.R_alloc | apply Kd.R_drewN | apply Kd.R_drew)); exact HO334.out⟩, ⟨by (with_reducible repeat (first | refine blk_drewN ?_ _ | refine blk_drew ?_ | refine blk_alloc ?_ _)); exact BK323.out⟩, ⟨hbT HB.out⟩⟩
        ·rw [if_neg c24] at H
         exact absurd H (by simp)
     ·rw [if_neg c9] at H
      exact absurd H (by simp)
    ·rw [if_neg c8] at H
     exact absurd H (by simp)
   ·rw [if_neg c7] at H
    have c7b0 : decide (x13_1 < (l0_0.length : Int)) = false := decide_eq_false c7
    clear c7
    obtain rfl := Option.some.inj H
    have hcv29 := own_string (P := Tryz.prog) Tryz.underlying80 Tryz.underlying5 Tryz.underlying9 (Kd.own_of_R HO_5.out)
    go_wp2
    go_ret
    exact ⟨rlT, hbT HB.out⟩

/-! ### impl_SwapVoice: function 98 -/
def impl_SwapVoice.f (a0 : Int) : Option (Int × Bool) := (strings_IndexByte.f (⟨#[112, 116, 98, 100]⟩ : ByteArray) a0).bind fun t335 => (if t335 < 0 then (some (a0, false)) else (if 0 ≤ t335 then (if t335 < 4 then (some (bt (⟨#[98, 100, 112, 116]⟩ : ByteArray) t335, true)) else (none)) else (none)))
set_option maxHeartbeats 8000000 in
set_option maxRecDepth 100000 in
theorem impl_SwapVoice.calls (a0 : Int) (r1 : Int) (r2 : Bool) (w : World) (h : impl_SwapVoice.f a0 = some (r1, r2)) :
  Calls Tryz.prog 98 #[.int .u8 a0] w fun e w' => e = .returned (.tuple #[.int .u8 r1, .bool r2]) ∧ Drawn0 w w' := by
 have H := h; unfold impl_SwapVoice.f at H; clear h; obtain ⟨t335, A2, H⟩ := be H
 by_cases c3 : t335 < 0
 ·rw [if_pos c3] at H
  have c3b0 : decide (t335 < 0) = true := decide_eq_true c3
  clear c3
  simp only [Option.some.injEq, Prod.mk.injEq] at H
  obtain ⟨rfl, rfl⟩ := H
  go_enter Tryz.func98, Tryz.ntmps98
  go_wp2_with (first | ((with_reducible refine gate_callee (f := 117) rfl ?_); refine goesL_ (some 6) rfl rfl Tryz.func117 (by kernel_rfl) rfl #[.string (⟨#[112, 116, 98, 100]⟩ : ByteArray), .int .u8 a0] rfl eqT ?_; (with_reducible refine (strings_IndexByte.calls (⟨#[112, 116, 98, 100]⟩ : ByteArray) a0 t335 _ A2.out).mono ?_); rintro e w' ⟨rfl, ⟨nd, rfl⟩⟩; refine ⟨_, rfl, ?_⟩))
  go_ret2
  exact ⟨rdT, drT⟩
 ·rw [if_neg c3] at H
  have c3b0 : decide (t335 < 0) = false := decide_eq_false c3
  clear c3
  by_cases c4 : 0 ≤ t335
  ·rw [if_pos c4] at H
   have c4b0 : decide (0 ≤ t335) = true := decide_eq_true c4
   clear c4
   by_cases c5 : t335 < 4
   ·rw [if_pos c5] at H
    have c5b0 : decide (t335 < 4) = true := decide_eq_true c5
    clear c5
    simp only [Option.some.injEq, Prod.mk.injEq] at H
    obtain ⟨rfl, rfl⟩ := H
    go_enter Tryz.func98, Tryz.ntmps98
    go_wp2_with (first | ((with_reducible refine gate_callee (f := 117) rfl ?_); refine goesL_ (some 6) rfl rfl Tryz.func117 (by kernel_rfl) rfl #[.string (⟨#[112, 116, 98, 100]⟩ : ByteArray), .int .u8 a0] rfl eqT ?_; (with_reducible refine (strings_IndexByte.calls (⟨#[112, 116, 98, 100]⟩ : ByteArray) a0 t335 _ A2.out).mono ?_); rintro e w' ⟨rfl, ⟨nd, rfl⟩⟩; refine ⟨_, rfl, ?_⟩; have p6 : 0 ≤ (t335 : Int) := of_decide_eq_true asmT; have q6 : t335 < (4 : Int) := of_decide_eq_true asmT; have hx6 := bt_at (⟨#[98, 100, 112, 116]⟩ : ByteArray) t335; replace p6 := eq_true p6; replace q6 := eq_true q6))
    go_ret2
    exact ⟨rdT, drT⟩
   ·rw [if_neg c5] at H
    exact absurd H (by simp)
  ·rw [if_neg c4] at H
   exact absurd H (by simp)

end Go.Proofs.YtmfhaplhgaehhaaGreat.PFnExactRowWith
