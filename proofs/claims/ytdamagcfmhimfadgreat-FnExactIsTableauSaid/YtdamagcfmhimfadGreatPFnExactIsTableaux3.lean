-- Made by gen.py (a program of this session) out of the translation; Lean checks it.
import Derived.Test.YtdamagcfmhimfadGreatPFnExactIsTableaux0
import Derived.Test.YtdamagcfmhimfadGreatPFnExactIsTableaux2
namespace Go.Proofs.YtdamagcfmhimfadGreat.PFnExactIsTableau
open Go.RowKit Go.Proofs.YtdamagcfmhimfadGreatB Go.Proofs.YtdamagcfmhimfadGreatW.PrintWords Go.Proofs.YtdamagcfmhimfadGreatW.PrintLast Go.Proofs.YtdamagcfmhimfadGreatW.PrintMore
attribute [local go_sem] max2_int min2_int max_two min_two max_three min_three max_four min_four   -- for this text's walks alone
set_option linter.unusedVariables false
set_option linter.unusedSimpArgs false

/-! ### spec_SwapVoice: function 80 -/
def spec_SwapVoice.f (a0 : Int) : Option (Int × Bool) := if a0 = 112 then (some (98, true)) else (if a0 = 98 then (some (112, true)) else (if a0 = 116 then (some (100, true)) else (if a0 = 100 then (some (116, true)) else (some (a0, false)))))
set_option maxHeartbeats 8000000 in
set_option maxRecDepth 100000 in
theorem spec_SwapVoice.calls (a0 : Int) (r1 : Int) (r2 : Bool) (w : World) (h : spec_SwapVoice.f a0 = some (r1, r2)) :
  Calls Tryz.prog 80 #[.int .u8 a0] w fun e w' => e = .returned (.tuple #[.int .u8 r1, .bool r2]) ∧ Drawn0 w w' := by
 have H := h; unfold spec_SwapVoice.f at H; clear h
 by_cases c2 : a0 = 112
 ·rw [if_pos c2] at H
  have c2b0 : (a0 == 112) = true := beq_iff_eq.mpr c2
  have c2b1 : (a0 != 112) = false := bne_eq_false_iff_eq.mpr c2
  clear c2
  simp only [Option.some.injEq, Prod.mk.injEq] at H
  obtain ⟨rfl, rfl⟩ := H
  go_enter Tryz.func80, Tryz.ntmps80
  go_wp2
  go_ret2
  exact ⟨rdT, drT⟩
 ·rw [if_neg c2] at H
  have c2b0 : (a0 == 112) = false := beq_eq_false_iff_ne.mpr c2
  have c2b1 : (a0 != 112) = true := bne_iff_ne.mpr c2
  by_cases c3 : a0 = 98
  ·rw [if_pos c3] at H
   have c3b0 : (a0 == 98) = true := beq_iff_eq.mpr c3
   have c3b1 : (a0 != 98) = false := bne_eq_false_iff_eq.mpr c3
   clear c3
   simp only [Option.some.injEq, Prod.mk.injEq] at H
   obtain ⟨rfl, rfl⟩ := H
   go_enter Tryz.func80, Tryz.ntmps80
   go_wp2
   go_ret2
   exact ⟨rdT, drT⟩
  ·rw [if_neg c3] at H
   have c3b0 : (a0 == 98) = false := beq_eq_false_iff_ne.mpr c3
   have c3b1 : (a0 != 98) = true := bne_iff_ne.mpr c3
   by_cases c4 : a0 = 116
   ·rw [if_pos c4] at H
    have c4b0 : (a0 == 116) = true := beq_iff_eq.mpr c4
    have c4b1 : (a0 != 116) = false := bne_eq_false_iff_eq.mpr c4
    clear c4
    simp only [Option.some.injEq, Prod.mk.injEq] at H
    obtain ⟨rfl, rfl⟩ := H
    go_enter Tryz.func80, Tryz.ntmps80
    go_wp2
    go_ret2
    exact ⟨rdT, drT⟩
   ·rw [if_neg c4] at H
    have c4b0 : (a0 == 116) = false := beq_eq_false_iff_ne.mpr c4
    have c4b1 : (a0 != 116) = true := bne_iff_ne.mpr c4
    by_cases c5 : a0 = 100
    ·rw [if_pos c5] at H
     have c5b0 : (a0 == 100) = true := beq_iff_eq.mpr c5
     have c5b1 : (a0 != 100) = false := bne_eq_false_iff_eq.mpr c5
     clear c5
     simp only [Option.some.injEq, Prod.mk.injEq] at H
     obtain ⟨rfl, rfl⟩ := H
     go_enter Tryz.func80, Tryz.ntmps80
     go_wp2
     go_ret2
     exact ⟨rdT, drT⟩
    ·rw [if_neg c5] at H
     have c5b0 : (a0 == 100) = false := beq_eq_false_iff_ne.mpr c5
     have c5b1 : (a0 != 100) = true := bne_iff_ne.mpr c5
     simp only [Option.some.injEq, Prod.mk.injEq] at H
     obtain ⟨rfl, rfl⟩ := H
     go_enter Tryz.func80, Tryz.ntmps80
     go_wp2
     go_ret2
     exact ⟨rdT, drT⟩

/-! ### spec_l6Out: function 82 -/
def spec_l6Out.l0 : Nat → List Int → Int → List (S89) → Option (ByteArray)
 | 0, _, _, _ => none
 | k + 1, x3, x4, x137000 => if x4 < (x137000.length : Int) then (if 0 ≤ x4 then (if ((rd_T89 x137000 x4).f1) = 0 then (spec_l6Out.l0 k x3 (wrap64 (x4 + 1)) x137000) else (if x3.length < 140737488355328 then (spec_l6Out.l0 k (x3 ++ [(rd_T89 x137000 x4).f1]) (wrap64 (x4 + 1)) x137000) else (none))) else (none)) else (some (strOfNums x3))
def spec_l6Out.f (k : Nat) (l0_0 : List (S89)) : Option (ByteArray) := spec_l6Out.l0 k (([] : List Int)) 0 l0_0
theorem spec_l6Out.mono_l : ∀ k, (∀ y0 y1 y2, LeO (spec_l6Out.l0 k y0 y1 y2) (spec_l6Out.l0 (k + 1) y0 y1 y2))
 | 0 => fun _ _ _ r h => by simp [spec_l6Out.l0] at h
 | k + 1 => by
  have ih0 := spec_l6Out.mono_l k
  ·intro y0 y1 y2
   unfold spec_l6Out.l0
   repeat' first
   | (with_reducible exact ih0 _ _ _)
   | (with_reducible exact LeO.refl _)
   | (with_reducible exact LeO.none _)
   | (with_reducible refine LeO.ite ?_ ?_)
   | (with_reducible refine LeO.bind ?_ (fun _ => ?_))
   | exact ih0 _ _ _
   | exact LeO.none _
   | refine LeO.ite ?_ ?_
   | refine LeO.bind ?_ (fun _ => ?_)
theorem spec_l6Out.mono : ∀ a0 k, LeO (spec_l6Out.f k a0) (spec_l6Out.f (k + 1) a0) := by
 intro a0 k
 have ih0 := spec_l6Out.mono_l k
 unfold spec_l6Out.f
 repeat' first
   | (with_reducible exact ih0 _ _ _)
   | (with_reducible exact LeO.refl _)
   | (with_reducible exact LeO.none _)
   | (with_reducible refine LeO.ite ?_ ?_)
   | (with_reducible refine LeO.bind ?_ (fun _ => ?_))
   | exact ih0 _ _ _
   | exact LeO.none _
   | refine LeO.ite ?_ ?_
   | refine LeO.bind ?_ (fun _ => ?_)
set_option maxHeartbeats 8000000 in
set_option maxRecDepth 100000 in
theorem spec_l6Out.calls (k : Nat) (A0_0 : Option Addr) (c0_0 : Nat) (l0_0 : List (S89)) (r : ByteArray) (w : World) (hr0_0 : Kd.C k89 w A0_0 l0_0.length l0_0) (hc0_0 : l0_0.length ≤ c0_0) (h : spec_l6Out.f k l0_0 = some r) :
  Calls Tryz.prog 82 #[.agg #[.slice A0_0 l0_0.length c0_0]] w fun e w' => e = .returned (.string r) ∧ Below w.heap.size w w' := by
 have hu61 := Tryz.underlying61; have HR0_0 := Aside0.mk hr0_0; have HC0_0 := Aside0.mk hc0_0; clear hr0_0 hc0_0; have HB := asT (Below.refl w.heap.size w); have H := h; unfold spec_l6Out.f at H; clear h; obtain ⟨y137, hy137⟩ : ∃ y_ : List Int, y_ = (([] : List Int)) := ⟨_, rfl⟩
 replace H : (spec_l6Out.l0 k y137 0 l0_0) = some r := by first | (rw [hy137]; with_reducible exact H) | (have H2_ := (Option.bind_some _ _).symm.trans H; rw [hy137]; with_reducible exact H2_) | (have H2_ := (Option.bind_some _ _).symm.trans H; with_reducible exact H2_) | with_reducible exact H | (rw [hy137]; exact H) | exact H
 have Ny137 := Aside0.mk hy137; clear hy137; have H' := Aside0.mk H; clear H
 go_enter Tryz.func82, Tryz.ntmps82
 go_wp2_with (first | ((with_reducible refine gate_dst (N := 1) rfl ?_); refine boxT (N := 1) (cs := #[.slice A0_0 l0_0.length c0_0]) (t := 61) ?_; intro gb136 hg w2 hbox hb; have BK136 := asT hbox; have GW136 := asT (geT hg HB.out); have GE136 := GW136; replace HB := asT (below_step (hbT HB.out) hb); clear hb hbox hg) | ((with_reducible refine gate_dst (N := 5) rfl ?_); refine Kd.R_lit (Kd.int .u8) _ 5 ?hg (N := 5) ?hd (xs := ([] : List Int)) (inner := []) (ok := fun _ => True) (okp := fun _ => True) ?hr ?hp (fun _ hk => hk) trivial (Below.refl _ _) (Nat.le_refl _) (by simp) ?_; (case hd => rfl); (case hg => rfl); (case hr => first | (go_simp; done) | (go_simp; rfl)); (case hp => exact (Reps.none _ _)); intro v138 w3 ho4 hb hg_ hnew_; clear hg_ hnew_; (first | rw [← Ny137.out] at ho4 | (simp only [Int.reduceToNat] at ho4; rw [← Ny137.out] at ho4)); have HO139 := asT (Kd.R_lower ho4 (below_size (hbT HB.out))); replace BK136 := asT (blk_below (bkT BK136.out) hb); replace HB := asT (below_step (hbT HB.out) hb); clear hb ho4))
 go_loopg [3, 4] k (fun kq v3 v4 w' => ∃ (x3_1 : List Int) (x4_1 : Int), v4 = .int .i64 x4_1 ∧ Aside0 (spec_l6Out.l0 kq x3_1 x4_1 l0_0 = some r) ∧ Aside0 (kq ≤ k) ∧ Aside0 (Kd.R (Kd.int .u8) 5 w' w.heap.size (fun _ => True) v3 x3_1) ∧ Aside0 (w'.heap[gb136]? = some (.cells #[(.slice A0_0 l0_0.length c0_0)] 61 (0, 0))) ∧ Aside0 (Below w.heap.size w w'))
 case atStart => exact ⟨(y137), (0), rdT, H', ⟨Nat.le_refl _⟩, ⟨by (with_reducible repeat (first | apply Kd.R_alloc | apply Kd.R_drewN | apply Kd.R_drew)); exact HO139.out⟩, ⟨by (with_reducible repeat (first | refine blk_drewN ?_ _ | refine blk_drew ?_ | refine blk_alloc ?_ _)); exact BK136.out⟩, ⟨hbT HB.out⟩⟩
 case round =>
  clear H'; (try clear p2); obtain ⟨x3_1, x4_1, rfl, HA, HK1, HO_3, BK136, HB⟩ := hrel
  cases gk with
  | zero => exact absurd HA.out (by simp [spec_l6Out.l0])
  | succ k1 =>
   have H := HA.out; clear HA
   simp only [spec_l6Out.l0] at H
   by_cases c5 : x4_1 < (l0_0.length : Int)
   ·rw [if_pos c5] at H
    have c5b0 : decide (x4_1 < (l0_0.length : Int)) = true := decide_eq_true c5
    clear c5
    by_cases c6 : 0 ≤ x4_1
    ·rw [if_pos c6] at H
     have c6b0 : decide (0 ≤ x4_1) = true := decide_eq_true c6
     clear c6
     by_cases c7 : ((rd_T89 l0_0 x4_1).f1) = 0
     ·rw [if_pos c7] at H
      have c7b0 : (((rd_T89 l0_0 x4_1).f1) == 0) = true := beq_iff_eq.mpr c7
      have c7b1 : (((rd_T89 l0_0 x4_1).f1) != 0) = false := bne_eq_false_iff_eq.mpr c7
      clear c7; have H' := Aside0.mk H; clear H
      have hcz8_0 : wr.cell? ⟨gb136, 0, none⟩ = some (.slice A0_0 l0_0.length c0_0) := (blk_cell BK136.out 0).trans rfl
      have hfz8_0 := blk_frozen BK136.out 0
      have p140 : 0 ≤ (x4_1 : Int) := of_decide_eq_true asmT
      have q140 : x4_1 < (l0_0.length : Int) := of_decide_eq_true asmT
      obtain ⟨ad140, e140, hx140_0, hx140_1⟩ := at_T89 HR0_0.out x4_1 p140 q140
      cases e140
      replace hx140_0 := (HB.out.cell (World.block_lt_of_cell? w _ hx140_0)).trans hx140_0; replace hx140_1 := (HB.out.cell (World.block_lt_of_cell? w _ hx140_1)).trans hx140_1; replace p140 := eq_true p140; replace q140 := eq_true q140
      go_wp2
      go_roundg k1
      case measure => have := HK1.out; omega
      case rel => exact ⟨(x3_1), (wrap64 (x4_1 + 1)), rdT, H', ⟨by have := HK1.out; omega⟩, ⟨by (with_reducible repeat (first | apply Kd.R_alloc | apply Kd.R_drewN | apply Kd.R_drew)); exact HO_3.out⟩, ⟨by (with_reducible repeat (first | refine blk_drewN ?_ _ | refine blk_drew ?_ | refine blk_alloc ?_ _)); exact BK136.out⟩, ⟨hbT HB.out⟩⟩
     ·rw [if_neg c7] at H
      have c7b0 : (((rd_T89 l0_0 x4_1).f1) == 0) = false := beq_eq_false_iff_ne.mpr c7
      have c7b1 : (((rd_T89 l0_0 x4_1).f1) != 0) = true := bne_iff_ne.mpr c7
      by_cases c9 : x3_1.length < 140737488355328
      ·rw [if_pos c9] at H
       have LMc9 := Aside0.mk c9; clear c9; obtain ⟨y142, hy142⟩ : ∃ y_ : List Int, y_ = (x3_1 ++ [(rd_T89 l0_0 x4_1).f1]) := ⟨_, rfl⟩
       replace H : (spec_l6Out.l0 k1 y142 (wrap64 (x4_1 + 1)) l0_0) = some r := by first | (rw [hy142]; with_reducible exact H) | (have H2_ := (Option.bind_some _ _).symm.trans H; rw [hy142]; with_reducible exact H2_) | (have H2_ := (Option.bind_some _ _).symm.trans H; with_reducible exact H2_) | with_reducible exact H | (rw [hy142]; exact H) | exact H
       have Ny142 := Aside0.mk hy142; clear hy142; have H' := Aside0.mk H; clear H
       have hcz10_0 : wr.cell? ⟨gb136, 0, none⟩ = some (.slice A0_0 l0_0.length c0_0) := (blk_cell BK136.out 0).trans rfl
       have hfz10_0 := blk_frozen BK136.out 0
       have p140 : 0 ≤ (x4_1 : Int) := of_decide_eq_true asmT
       have q140 : x4_1 < (l0_0.length : Int) := of_decide_eq_true asmT
       obtain ⟨ad140, e140, hx140_0, hx140_1⟩ := at_T89 HR0_0.out x4_1 p140 q140
       cases e140
       replace hx140_0 := (HB.out.cell (World.block_lt_of_cell? w _ hx140_0)).trans hx140_0; replace hx140_1 := (HB.out.cell (World.block_lt_of_cell? w _ hx140_1)).trans hx140_1; replace p140 := eq_true p140; replace q140 := eq_true q140
       have p141 : 0 ≤ (x4_1 : Int) := of_decide_eq_true asmT
       have q141 : x4_1 < (l0_0.length : Int) := of_decide_eq_true asmT
       obtain ⟨ad141, e141, hx141_0, hx141_1⟩ := at_T89 HR0_0.out x4_1 p141 q141
       obtain rfl : ad140 = ad141 := (by injection e141)
       replace hx141_0 := (HB.out.cell (World.block_lt_of_cell? w _ hx141_0)).trans hx141_0; replace hx141_1 := (HB.out.cell (World.block_lt_of_cell? w _ hx141_1)).trans hx141_1; replace p141 := eq_true p141; replace q141 := eq_true q141
       go_wp2_with (first | ((with_reducible refine gate_builtin (b := .append) (xs := #[.tmp 20, .tmp 27]) rfl ?_); at_builtin; refine Kd.R_append (Kd.int .u8) (w0 := w) w.heap.size rfl (.tmp 20) (.tmp 27) 101 5 (.int .u8 0) 1 rfl Tryz.underlying101 info5 rfl (by decide) (by omega) u3 x3_1 ((rd_T89 l0_0 x4_1).f1) [.int .u8 ((rd_T89 l0_0 x4_1).f1)] (fun _ => True) (fun _ => False) rfl rfl ?aP (fun _ hk => hk.elim) ?aF ?aO ?aB ?aS ?aL ?_; (case aP => exact rfl); (case aB => exact (hbT HB.out)); (case aF => exact (fun _ _ => trivial)); (case aO => exact (roT HO_3.out)); (case aS => exact (below_size (hbT HB.out))); (case aL => have := LMc9.out; omega); intro v143 w11 ho hb hg hat; rw [← Ny142.out] at ho; replace BK136 := asT (blk_grown (g := gb136) (o := .cells #[.slice (some ad140) l0_0.length c0_0] 61 (0, 0)) (bkT BK136.out) hg (Kd.R_ne HO_3.out BK136.out (by decide))); replace HB := asT (hb); have HO144 := asT (ho); clear HO_3 ho hb hg hat))
       go_roundg k1
       case measure => have := HK1.out; omega
       case rel => exact ⟨(y142), (wrap64 (x4_1 + 1)), rdT, H', ⟨by have := HK1.out; omega⟩, ⟨by (with_reducible repeat (first | apply Kd.R_alloc | apply Kd.R_drewN | apply Kd.R_drew)); exact HO144.out⟩, ⟨by (with_reducible repeat (first | refine blk_drewN ?_ _ | refine blk_drew ?_ | refine blk_alloc ?_ _)); exact BK136.out⟩, ⟨hbT HB.out⟩⟩
      ·rw [if_neg c9] at H
       exact absurd H (by simp)
    ·rw [if_neg c6] at H
     exact absurd H (by simp)
   ·rw [if_neg c5] at H
    have c5b0 : decide (x4_1 < (l0_0.length : Int)) = false := decide_eq_false c5
    clear c5
    obtain rfl := Option.some.inj H
    have hcz12_0 : wr.cell? ⟨gb136, 0, none⟩ = some (.slice A0_0 l0_0.length c0_0) := (blk_cell BK136.out 0).trans rfl
    have hfz12_0 := blk_frozen BK136.out 0; have hcv13 := own_string (P := Tryz.prog) Tryz.underlying101 Tryz.underlying5 Tryz.underlying9 (Kd.own_of_R HO_3.out)
    go_wp2
    go_ret
    exact ⟨rlT, hbT HB.out⟩

/-! ### spec_IsCandidate: function 39 -/
mutual
def spec_IsCandidate.l0 : Nat → Int → List (S89) → Option (Bool)
 | 0, _, _ => none
 | k + 1, x3, x146000 => if x3 < (x146000.length : Int) then (if 0 ≤ x3 then ((spec_SwapVoice.f ((rd_T89 x146000 x3).f0)).bind fun bt148 => (if ((rd_T89 x146000 x3).f0) = 0 then (if ((rd_T89 x146000 x3).f1) = 0 then (spec_IsCandidate.j1 k x3 bt148.1 bt148.2 (((rd_T89 x146000 x3).f1) == 0) x146000 ((rd_T89 x146000 x3).f0) ((rd_T89 x146000 x3).f1)) else ((spec_IsSound.f k ((rd_T89 x146000 x3).f1)).bind fun t150 => (if t150 = true then (spec_IsCandidate.j1 k x3 bt148.1 bt148.2 (((rd_T89 x146000 x3).f1) == 0) x146000 ((rd_T89 x146000 x3).f0) ((rd_T89 x146000 x3).f1)) else (spec_IsCandidate.j1 k x3 bt148.1 bt148.2 true x146000 ((rd_T89 x146000 x3).f0) ((rd_T89 x146000 x3).f1))))) else ((spec_IsSound.f k ((rd_T89 x146000 x3).f0)).bind fun t151 => (if t151 = true then (if ((rd_T89 x146000 x3).f1) = 0 then (spec_IsCandidate.j1 k x3 bt148.1 bt148.2 false x146000 ((rd_T89 x146000 x3).f0) ((rd_T89 x146000 x3).f1)) else ((spec_IsSound.f k ((rd_T89 x146000 x3).f1)).bind fun t152 => (if t152 = true then (spec_IsCandidate.j1 k x3 bt148.1 bt148.2 false x146000 ((rd_T89 x146000 x3).f0) ((rd_T89 x146000 x3).f1)) else (spec_IsCandidate.j1 k x3 bt148.1 bt148.2 true x146000 ((rd_T89 x146000 x3).f0) ((rd_T89 x146000 x3).f1))))) else (spec_IsCandidate.j1 k x3 bt148.1 bt148.2 true x146000 ((rd_T89 x146000 x3).f0) ((rd_T89 x146000 x3).f1)))))) else (none)) else (if (x146000.length : Int) ≤ 16 then ((spec_l6In.f k x146000).bind fun t153 => ((spec_IsForm.f k t153).bind fun t154 => (if t154 = true then ((spec_l6Out.f k x146000).bind fun t155 => ((spec_IsForm.f k t155).bind fun t156 => (some t156))) else (some false)))) else (some false))
def spec_IsCandidate.j1 : Nat → Int → Int → Bool → Bool → List (S89) → Int → Int → Option (Bool)
 | 0, _, _, _, _, _, _, _ => none
 | k + 1, x3, x5, x6, x54, x146000, x148000, x148001 => if x54 = true then (some false) else (if x148000 = 0 then (spec_IsCandidate.l0 k (wrap64 (x3 + 1)) x146000) else (if x148001 = 0 then (spec_IsCandidate.l0 k (wrap64 (x3 + 1)) x146000) else (if x148000 = x148001 then (spec_IsCandidate.l0 k (wrap64 (x3 + 1)) x146000) else (if x6 = true then (if x5 = x148001 then (spec_IsCandidate.l0 k (wrap64 (x3 + 1)) x146000) else (some false)) else (some false)))))
end
def spec_IsCandidate.f (k : Nat) (l0_0 : List (S89)) : Option (Bool) := spec_IsCandidate.l0 k 0 l0_0
theorem spec_IsCandidate.mono_l : ∀ k, (∀ y0 y1, LeO (spec_IsCandidate.l0 k y0 y1) (spec_IsCandidate.l0 (k + 1) y0 y1)) ∧ (∀ y0 y1 y2 y3 y4 y5 y6, LeO (spec_IsCandidate.j1 k y0 y1 y2 y3 y4 y5 y6) (spec_IsCandidate.j1 (k + 1) y0 y1 y2 y3 y4 y5 y6))
 | 0 => ⟨fun _ _ r h => by simp [spec_IsCandidate.l0] at h, fun _ _ _ _ _ _ _ r h => by simp [spec_IsCandidate.j1] at h⟩
 | k + 1 => by
  obtain ⟨ih0, ih1⟩ := spec_IsCandidate.mono_l k; refine ⟨?_, ?_⟩
  ·intro y0 y1
   unfold spec_IsCandidate.l0
   repeat' first
   | (with_reducible exact ih0 _ _)
   | (with_reducible exact ih1 _ _ _ _ _ _ _)
   | (with_reducible exact spec_IsForm.mono _ _)
   | (with_reducible exact spec_IsSound.mono _ _)
   | (with_reducible exact spec_l6In.mono _ _)
   | (with_reducible exact spec_l6Out.mono _ _)
   | (with_reducible exact LeO.refl _)
   | (with_reducible exact LeO.none _)
   | (with_reducible refine LeO.ite ?_ ?_)
   | (with_reducible refine LeO.bind ?_ (fun _ => ?_))
   | exact ih0 _ _
   | exact ih1 _ _ _ _ _ _ _
   | exact spec_IsForm.mono _ _
   | exact spec_IsSound.mono _ _
   | exact spec_l6In.mono _ _
   | exact spec_l6Out.mono _ _
   | exact LeO.none _
   | refine LeO.ite ?_ ?_
   | refine LeO.bind ?_ (fun _ => ?_)
  ·intro y0 y1 y2 y3 y4 y5 y6
   unfold spec_IsCandidate.j1
   repeat' first
   | (with_reducible exact ih0 _ _)
   | (with_reducible exact ih1 _ _ _ _ _ _ _)
   | (with_reducible exact spec_IsForm.mono _ _)
   | (with_reducible exact spec_IsSound.mono _ _)
   | (with_reducible exact spec_l6In.mono _ _)
   | (with_reducible exact spec_l6Out.mono _ _)
   | (with_reducible exact LeO.refl _)
   | (with_reducible exact LeO.none _)
   | (with_reducible refine LeO.ite ?_ ?_)
   | (with_reducible refine LeO.bind ?_ (fun _ => ?_))
   | exact ih0 _ _
   | exact ih1 _ _ _ _ _ _ _
   | exact spec_IsForm.mono _ _
   | exact spec_IsSound.mono _ _
   | exact spec_l6In.mono _ _
   | exact spec_l6Out.mono _ _
   | exact LeO.none _
   | refine LeO.ite ?_ ?_
   | refine LeO.bind ?_ (fun _ => ?_)
theorem spec_IsCandidate.mono : ∀ a0 k, LeO (spec_IsCandidate.f k a0) (spec_IsCandidate.f (k + 1) a0) := by
 intro a0 k
 obtain ⟨ih0, ih1⟩ := spec_IsCandidate.mono_l k
 unfold spec_IsCandidate.f
 repeat' first
   | (with_reducible exact ih0 _ _)
   | (with_reducible exact ih1 _ _ _ _ _ _ _)
   | (with_reducible exact spec_IsForm.mono _ _)
   | (with_reducible exact spec_IsSound.mono _ _)
   | (with_reducible exact spec_l6In.mono _ _)
   | (with_reducible exact spec_l6Out.mono _ _)
   | (with_reducible exact LeO.refl _)
   | (with_reducible exact LeO.none _)
   | (with_reducible refine LeO.ite ?_ ?_)
   | (with_reducible refine LeO.bind ?_ (fun _ => ?_))
   | exact ih0 _ _
   | exact ih1 _ _ _ _ _ _ _
   | exact spec_IsForm.mono _ _
   | exact spec_IsSound.mono _ _
   | exact spec_l6In.mono _ _
   | exact spec_l6Out.mono _ _
   | exact LeO.none _
   | refine LeO.ite ?_ ?_
   | refine LeO.bind ?_ (fun _ => ?_)
set_option maxHeartbeats 8000000 in
set_option maxRecDepth 100000 in
theorem spec_IsCandidate.calls (k : Nat) (A0_0 : Option Addr) (c0_0 : Nat) (l0_0 : List (S89)) (r : Bool) (w : World) (hr0_0 : Kd.C k89 w A0_0 l0_0.length l0_0) (hc0_0 : l0_0.length ≤ c0_0) (h : spec_IsCandidate.f k l0_0 = some r) :
  Calls Tryz.prog 39 #[.agg #[.slice A0_0 l0_0.length c0_0]] w fun e w' => e = .returned (.bool r) ∧ Below w.heap.size w w' := by
 have hu61 := Tryz.underlying61; have hu89 := Tryz.underlying89; have HR0_0 := Aside0.mk hr0_0; have HC0_0 := Aside0.mk hc0_0; clear hr0_0 hc0_0; have HB := asT (Below.refl w.heap.size w); have H := h; unfold spec_IsCandidate.f at H; clear h; have H' := Aside0.mk H; clear H
 go_enter Tryz.func39, Tryz.ntmps39
 go_wp2_with (first | ((with_reducible refine gate_dst (N := 1) rfl ?_); refine boxT (N := 1) (cs := #[.slice A0_0 l0_0.length c0_0]) (t := 61) ?_; intro gb145 hg w2 hbox hb; have BK145 := asT hbox; have GW145 := asT (geT hg HB.out); have GE145 := GW145; replace HB := asT (below_step (hbT HB.out) hb); clear hb hbox hg))
 go_loopg [3] k (fun kq v3 w' => ∃ (x3_1 : Int), v3 = .int .i64 x3_1 ∧ Aside0 (spec_IsCandidate.l0 kq x3_1 l0_0 = some r) ∧ Aside0 (kq ≤ k) ∧ Aside0 (w'.heap[gb145]? = some (.cells #[(.slice A0_0 l0_0.length c0_0)] 61 (0, 0))) ∧ Aside0 (Below w.heap.size w w'))
 case atStart => exact ⟨(0), rdT, H', ⟨Nat.le_refl _⟩, ⟨by (with_reducible repeat (first | refine blk_drewN ?_ _ | refine blk_drew ?_ | refine blk_alloc ?_ _)); exact BK145.out⟩, ⟨hbT HB.out⟩⟩
 case round =>
  clear H'; (try clear p2); obtain ⟨x3_1, rfl, HA, HK1, BK145, HB⟩ := hrel
  cases gk with
  | zero => exact absurd HA.out (by simp [spec_IsCandidate.l0])
  | succ k1 =>
   have H := HA.out; clear HA
   simp only [spec_IsCandidate.l0] at H
   by_cases c3 : x3_1 < (l0_0.length : Int)
   ·rw [if_pos c3] at H
    have c3b0 : decide (x3_1 < (l0_0.length : Int)) = true := decide_eq_true c3
    clear c3
    by_cases c4 : 0 ≤ x3_1
    ·rw [if_pos c4] at H
     have c4b0 : decide (0 ≤ x3_1) = true := decide_eq_true c4
     clear c4; replace H := Option.bind_eq_some_iff.mp H; obtain ⟨⟨t148, t149⟩, A50, H⟩ := H; replace H : (if ((rd_T89 l0_0 x3_1).f0) = 0 then (if ((rd_T89 l0_0 x3_1).f1) = 0 then (spec_IsCandidate.j1 k1 x3_1 t148 t149 (((rd_T89 l0_0 x3_1).f1) == 0) l0_0 ((rd_T89 l0_0 x3_1).f0) ((rd_T89 l0_0 x3_1).f1)) else ((spec_IsSound.f k1 ((rd_T89 l0_0 x3_1).f1)).bind fun t150 => (if t150 = true then (spec_IsCandidate.j1 k1 x3_1 t148 t149 (((rd_T89 l0_0 x3_1).f1) == 0) l0_0 ((rd_T89 l0_0 x3_1).f0) ((rd_T89 l0_0 x3_1).f1)) else (spec_IsCandidate.j1 k1 x3_1 t148 t149 true l0_0 ((rd_T89 l0_0 x3_1).f0) ((rd_T89 l0_0 x3_1).f1))))) else ((spec_IsSound.f k1 ((rd_T89 l0_0 x3_1).f0)).bind fun t151 => (if t151 = true then (if ((rd_T89 l0_0 x3_1).f1) = 0 then (spec_IsCandidate.j1 k1 x3_1 t148 t149 false l0_0 ((rd_T89 l0_0 x3_1).f0) ((rd_T89 l0_0 x3_1).f1)) else ((spec_IsSound.f k1 ((rd_T89 l0_0 x3_1).f1)).bind fun t152 => (if t152 = true then (spec_IsCandidate.j1 k1 x3_1 t148 t149 false l0_0 ((rd_T89 l0_0 x3_1).f0) ((rd_T89 l0_0 x3_1).f1)) else (spec_IsCandidate.j1 k1 x3_1 t148 t149 true l0_0 ((rd_T89 l0_0 x3_1).f0) ((rd_T89 l0_0 x3_1).f1))))) else (spec_IsCandidate.j1 k1 x3_1 t148 t149 true l0_0 ((rd_T89 l0_0 x3_1).f0) ((rd_T89 l0_0 x3_1).f1))))) = some r := H; have A5 := Aside0.mk A50; clear A50; have HC6 := Aside0.mk H; clear H
     have hcz7_0 : wr.cell? ⟨gb145, 0, none⟩ = some (.slice A0_0 l0_0.length c0_0) := (blk_cell BK145.out 0).trans rfl
     have hfz7_0 := blk_frozen BK145.out 0
     have p146 : 0 ≤ (x3_1 : Int) := of_decide_eq_true asmT
     have q146 : x3_1 < (l0_0.length : Int) := of_decide_eq_true asmT
     obtain ⟨ad146, e146, hx146_0, hx146_1⟩ := at_T89 HR0_0.out x3_1 p146 q146
     cases e146
     replace hx146_0 := (HB.out.cell (World.block_lt_of_cell? w _ hx146_0)).trans hx146_0; replace hx146_1 := (HB.out.cell (World.block_lt_of_cell? w _ hx146_1)).trans hx146_1; replace p146 := eq_true p146; replace q146 := eq_true q146
     go_upto_region 6 with (first | ((with_reducible refine gate_dst (N := 4) rfl ?_); refine boxT (N := 4) (cs := #[.int .u8 0, .int .u8 0]) (t := 89) ?_; intro gb147 hg w8 hbox hb; have BK147 := asT (hbox); have GW147 := asT (geT hg HB.out); have GE147 := asT (geT hg HB.out); replace HB := asT (below_step (hbT HB.out) hb); have NB145_147 := asT ((by rw [hg]; exact Nat.ne_of_lt (blk_lt (g := gb145) (o := .cells #[.slice (some ad146) l0_0.length c0_0] 61 (0, 0)) (bkT BK145.out)) : gb145 ≠ gb147)); have NB147_145 := asT ((by rw [hg]; exact Nat.ne_of_gt (blk_lt (g := gb145) (o := .cells #[.slice (some ad146) l0_0.length c0_0] 61 (0, 0)) (bkT BK145.out)) : gb147 ≠ gb145)); replace BK145 := asT (blk_below (g := gb145) (o := .cells #[.slice (some ad146) l0_0.length c0_0] 61 (0, 0)) (bkT BK145.out) hb); clear hb hbox hg; have hnb9 := NB147_145.out; have hnc9 := NB145_147.out; have hcz10_0 : w8.cell? ⟨gb147, 0, none⟩ = some (.int .u8 0) := (blk_cell BK147.out 0).trans rfl; have hcz10_1 : w8.cell? ⟨gb147, 1, none⟩ = some (.int .u8 0) := (blk_cell BK147.out 1).trans rfl; have hfz10_0 := blk_frozen BK147.out 0; have hfz10_1 := blk_frozen BK147.out 1) | ((with_reducible refine gate_callee (f := 80) rfl ?_); refine goesL_ (some 22) rfl rfl Tryz.func80 (by kernel_rfl) rfl #[.int .u8 ((rd_T89 l0_0 x3_1).f0)] rfl eqT ?_; (with_reducible refine (spec_SwapVoice.calls ((rd_T89 l0_0 x3_1).f0) t148 t149 _ A5.out).mono ?_); rintro e w' ⟨rfl, ⟨nd, rfl⟩⟩; refine ⟨_, rfl, ?_⟩))
     (try simp only [Act.put, sA, sZ, sS])
     go_cut [54] (fun v54 wc => ∃ (kq : Nat) (x54_5 : Bool), v54 = .bool x54_5 ∧ Aside0 (spec_IsCandidate.j1 kq x3_1 t148 t149 x54_5 l0_0 ((rd_T89 l0_0 x3_1).f0) ((rd_T89 l0_0 x3_1).f1) = some r) ∧ Aside0 (kq ≤ k1) ∧ Aside0 (wc.heap[gb145]? = some (.cells #[(.slice (some ad146) l0_0.length c0_0)] 61 (0, 0))) ∧ Aside0 (wc.heap[gb147]? = some (.cells #[.int .u8 ((rd_T89 l0_0 x3_1).f0), .int .u8 ((rd_T89 l0_0 x3_1).f1)] 89 (0, 0))) ∧ Aside0 (Below w.heap.size w wc))
     case first =>
      have H := HC6.out; clear HC6
      by_cases c11 : ((rd_T89 l0_0 x3_1).f0) = 0
      ·rw [if_pos c11] at H
       have c11b0 : (((rd_T89 l0_0 x3_1).f0) == 0) = true := beq_iff_eq.mpr c11
       have c11b1 : (((rd_T89 l0_0 x3_1).f0) != 0) = false := bne_eq_false_iff_eq.mpr c11
       clear c11
       (first | rw [c11b0] | (simp only [i64_w, i32_w]; rw [c11b0]) | skip)
       by_cases c12 : ((rd_T89 l0_0 x3_1).f1) = 0
       ·rw [if_pos c12] at H
        have c12b0 : (((rd_T89 l0_0 x3_1).f1) == 0) = true := beq_iff_eq.mpr c12
        have c12b1 : (((rd_T89 l0_0 x3_1).f1) != 0) = false := bne_eq_false_iff_eq.mpr c12
        clear c12; have H' := Aside0.mk H; clear H; have hnb13 := NB147_145.out; have hnc13 := NB145_147.out
        have hcz14_0 : w8.cell? ⟨gb147, 0, none⟩ = some (.int .u8 0) := (blk_cell BK147.out 0).trans rfl
        have hcz14_1 : w8.cell? ⟨gb147, 1, none⟩ = some (.int .u8 0) := (blk_cell BK147.out 1).trans rfl
        have hfz14_0 := blk_frozen BK147.out 0; have hfz14_1 := blk_frozen BK147.out 1
        go_wp2
        go_meet
        case rel => exact ⟨_, ((((rd_T89 l0_0 x3_1).f1) == 0)), rdT, H', ⟨by have := HK1.out; first | omega | exact Nat.le_refl _⟩, ⟨by (with_reducible repeat (first | refine blk_drewN ?_ _ | refine blk_drew ?_ | refine blk_alloc ?_ _)); refine blk_far ?_ NB145_147.out _; (with_reducible repeat (first | refine blk_drewN ?_ _ | refine blk_drew ?_ | refine blk_alloc ?_ _)); refine blk_far ?_ NB145_147.out _; (with_reducible repeat (first | refine blk_drewN ?_ _ | refine blk_drew ?_ | refine blk_alloc ?_ _)); exact BK145.out⟩, ⟨by (with_reducible repeat (first | refine blk_drewN ?_ _ | refine blk_drew ?_ | refine blk_alloc ?_ _)); refine blk_put (cs := #[.int .u8 ((rd_T89 l0_0 x3_1).f0), .int .u8 0]) ?_ 1 _ rfl; (with_reducible repeat (first | refine blk_drewN ?_ _ | refine blk_drew ?_ | refine blk_alloc ?_ _)); refine blk_put (cs := #[.int .u8 0, .int .u8 0]) ?_ 0 _ rfl; (with_reducible repeat (first | refine blk_drewN ?_ _ | refine blk_drew ?_ | refine blk_alloc ?_ _)); exact BK147.out⟩, ⟨hbT HB.out⟩⟩
       ·rw [if_neg c12] at H
        have c12b0 : (((rd_T89 l0_0 x3_1).f1) == 0) = false := beq_eq_false_iff_ne.mpr c12
        have c12b1 : (((rd_T89 l0_0 x3_1).f1) != 0) = true := bne_iff_ne.mpr c12
        replace H := Option.bind_eq_some_iff.mp H; obtain ⟨t150, A150, H⟩ := H; have A15 := Aside0.mk A150; clear A150
        by_cases c16 : t150 = true
        ·subst c16
         rw [if_pos rfl] at H; have H1 := H; clear H; have H := H1; clear H1; have H' := Aside0.mk H; clear H; have hnb17 := NB147_145.out; have hnc17 := NB145_147.out
         have hcz18_0 : w8.cell? ⟨gb147, 0, none⟩ = some (.int .u8 0) := (blk_cell BK147.out 0).trans rfl
         have hcz18_1 : w8.cell? ⟨gb147, 1, none⟩ = some (.int .u8 0) := (blk_cell BK147.out 1).trans rfl
         have hfz18_0 := blk_frozen BK147.out 0; have hfz18_1 := blk_frozen BK147.out 1
         go_wp2_with (first | (go_at_call 81; (with_reducible refine (spec_IsSound.calls k1 ((rd_T89 l0_0 x3_1).f1) true _ A15.out).mono ?_); rintro e w' ⟨rfl, ⟨nd, rfl⟩⟩))
         go_meet
         case rel => exact ⟨_, ((((rd_T89 l0_0 x3_1).f1) == 0)), rdT, H', ⟨by have := HK1.out; first | omega | exact Nat.le_refl _⟩, ⟨by (with_reducible repeat (first | refine blk_drewN ?_ _ | refine blk_drew ?_ | refine blk_alloc ?_ _)); refine blk_far ?_ NB145_147.out _; (with_reducible repeat (first | refine blk_drewN ?_ _ | refine blk_drew ?_ | refine blk_alloc ?_ _)); refine blk_far ?_ NB145_147.out _; (with_reducible repeat (first | refine blk_drewN ?_ _ | refine blk_drew ?_ | refine blk_alloc ?_ _)); exact BK145.out⟩, ⟨by (with_reducible repeat (first | refine blk_drewN ?_ _ | refine blk_drew ?_ | refine blk_alloc ?_ _)); refine blk_put (cs := #[.int .u8 ((rd_T89 l0_0 x3_1).f0), .int .u8 0]) ?_ 1 _ rfl; (with_reducible repeat (first | refine blk_drewN ?_ _ | refine blk_drew ?_ | refine blk_alloc ?_ _)); refine blk_put (cs := #[.int .u8 0, .int .u8 0]) ?_ 0 _ rfl; (with_reducible repeat (first | refine blk_drewN ?_ _ | refine blk_drew ?_ | refine blk_alloc ?_ _)); exact BK147.out⟩, ⟨hbT HB.out⟩⟩
        ·replace c16 := Bool.eq_false_iff.mpr c16
         subst c16; rw [if_neg (show ¬ (false = true) by decide)] at H; have H1 := H; clear H; have H := H1; clear H1; have H' := Aside0.mk H; clear H; have hnb19 := NB147_145.out; have hnc19 := NB145_147.out
         have hcz20_0 : w8.cell? ⟨gb147, 0, none⟩ = some (.int .u8 0) := (blk_cell BK147.out 0).trans rfl
         have hcz20_1 : w8.cell? ⟨gb147, 1, none⟩ = some (.int .u8 0) := (blk_cell BK147.out 1).trans rfl
         have hfz20_0 := blk_frozen BK147.out 0; have hfz20_1 := blk_frozen BK147.out 1
         go_wp2_with (first | (go_at_call 81; (with_reducible refine (spec_IsSound.calls k1 ((rd_T89 l0_0 x3_1).f1) false _ A15.out).mono ?_); rintro e w' ⟨rfl, ⟨nd, rfl⟩⟩))
         go_meet
         case rel => exact ⟨_, (true), rdT, H', ⟨by have := HK1.out; first | omega | exact Nat.le_refl _⟩, ⟨by (with_reducible repeat (first | refine blk_drewN ?_ _ | refine blk_drew ?_ | refine blk_alloc ?_ _)); refine blk_far ?_ NB145_147.out _; (with_reducible repeat (first | refine blk_drewN ?_ _ | refine blk_drew ?_ | refine blk_alloc ?_ _)); refine blk_far ?_ NB145_147.out _; (with_reducible repeat (first | refine blk_drewN ?_ _ | refine blk_drew ?_ | refine blk_alloc ?_ _)); exact BK145.out⟩, ⟨by (with_reducible repeat (first | refine blk_drewN ?_ _ | refine blk_drew ?_ | refine blk_alloc ?_ _)); refine blk_put (cs := #[.int .u8 ((rd_T89 l0_0 x3_1).f0), .int .u8 0]) ?_ 1 _ rfl; (with_reducible repeat (first | refine blk_drewN ?_ _ | refine blk_drew ?_ | refine blk_alloc ?_ _)); refine blk_put (cs := #[.int .u8 0, .int .u8 0]) ?_ 0 _ rfl; (with_reducible repeat (first | refine blk_drewN ?_ _ | refine blk_drew ?_ | refine blk_alloc ?_ _)); exact BK147.out⟩, ⟨hbT HB.out⟩⟩
      ·rw [if_neg c11] at H
       have c11b0 : (((rd_T89 l0_0 x3_1).f0) == 0) = false := beq_eq_false_iff_ne.mpr c11
       have c11b1 : (((rd_T89 l0_0 x3_1).f0) != 0) = true := bne_iff_ne.mpr c11
       (first | rw [c11b0] | (simp only [i64_w, i32_w]; rw [c11b0]) | skip)
       replace H := Option.bind_eq_some_iff.mp H; obtain ⟨t151, A210, H⟩ := H; have A21 := Aside0.mk A210; clear A210
       by_cases c22 : t151 = true
       ·subst c22
        rw [if_pos rfl] at H; have H1 := H; clear H; have H := H1; clear H1
        by_cases c23 : ((rd_T89 l0_0 x3_1).f1) = 0
        ·rw [if_pos c23] at H
         have c23b0 : (((rd_T89 l0_0 x3_1).f1) == 0) = true := beq_iff_eq.mpr c23
         have c23b1 : (((rd_T89 l0_0 x3_1).f1) != 0) = false := bne_eq_false_iff_eq.mpr c23
         clear c23; have H' := Aside0.mk H; clear H; have hnb24 := NB147_145.out; have hnc24 := NB145_147.out
         have hcz25_0 : w8.cell? ⟨gb147, 0, none⟩ = some (.int .u8 0) := (blk_cell BK147.out 0).trans rfl
         have hcz25_1 : w8.cell? ⟨gb147, 1, none⟩ = some (.int .u8 0) := (blk_cell BK147.out 1).trans rfl
         have hfz25_0 := blk_frozen BK147.out 0; have hfz25_1 := blk_frozen BK147.out 1
         go_wp2_with (first | (go_at_call 81; (with_reducible refine (spec_IsSound.calls k1 ((rd_T89 l0_0 x3_1).f0) true _ A21.out).mono ?_); rintro e w' ⟨rfl, ⟨nd, rfl⟩⟩))
         go_meet
         case rel => exact ⟨_, (false), rdT, H', ⟨by have := HK1.out; first | omega | exact Nat.le_refl _⟩, ⟨by (with_reducible repeat (first | refine blk_drewN ?_ _ | refine blk_drew ?_ | refine blk_alloc ?_ _)); refine blk_far ?_ NB145_147.out _; (with_reducible repeat (first | refine blk_drewN ?_ _ | refine blk_drew ?_ | refine blk_alloc ?_ _)); refine blk_far ?_ NB145_147.out _; (with_reducible repeat (first | refine blk_drewN ?_ _ | refine blk_drew ?_ | refine blk_alloc ?_ _)); exact BK145.out⟩, ⟨by (with_reducible repeat (first | refine blk_drewN ?_ _ | refine blk_drew ?_ | refine blk_alloc ?_ _)); refine blk_put (cs := #[.int .u8 ((rd_T89 l0_0 x3_1).f0), .int .u8 0]) ?_ 1 _ rfl; (with_reducible repeat (first | refine blk_drewN ?_ _ | refine blk_drew ?_ | refine blk_alloc ?_ _)); refine blk_put (cs := #[.int .u8 0, .int .u8 0]) ?_ 0 _ rfl; (with_reducible repeat (first | refine blk_drewN ?_ _ | refine blk_drew ?_ | refine blk_alloc ?_ _)); exact BK147.out⟩, ⟨hbT HB.out⟩⟩
        ·rw [if_neg c23] at H
         have c23b0 : (((rd_T89 l0_0 x3_1).f1) == 0) = false := beq_eq_false_iff_ne.mpr c23
         have c23b1 : (((rd_T89 l0_0 x3_1).f1) != 0) = true := bne_iff_ne.mpr c23
         replace H := Option.bind_eq_some_iff.mp H; obtain ⟨t152, A260, H⟩ := H; have A26 := Aside0.mk A260; clear A260
         by_cases c27 : t152 = true
         ·subst c27
          rw [if_pos rfl] at H; have H1 := H; clear H; have H := H1; clear H1; have H' := Aside0.mk H; clear H; have hnb28 := NB147_145.out; have hnc28 := NB145_147.out
          have hcz29_0 : w8.cell? ⟨gb147, 0, none⟩ = some (.int .u8 0) := (blk_cell BK147.out 0).trans rfl
          have hcz29_1 : w8.cell? ⟨gb147, 1, none⟩ = some (.int .u8 0) := (blk_cell BK147.out 1).trans rfl
          have hfz29_0 := blk_frozen BK147.out 0; have hfz29_1 := blk_frozen BK147.out 1
          go_wp2_with (first | (go_at_call 81; (with_reducible refine (spec_IsSound.calls k1 ((rd_T89 l0_0 x3_1).f0) true _ A21.out).mono ?_); rintro e w' ⟨rfl, ⟨nd, rfl⟩⟩) | (go_at_call 81; (with_reducible refine (spec_IsSound.calls k1 ((rd_T89 l0_0 x3_1).f1) true _ A26.out).mono ?_); rintro e w' ⟨rfl, ⟨nd, rfl⟩⟩))
          go_meet
          case rel => exact ⟨_, (false), rdT, H', ⟨by have := HK1.out; first | omega | exact Nat.le_refl _⟩, ⟨by (with_reducible repeat (first | refine blk_drewN ?_ _ | refine blk_drew ?_ | refine blk_alloc ?_ _)); refine blk_far ?_ NB145_147.out _; (with_reducible repeat (first | refine blk_drewN ?_ _ | refine blk_drew ?_ | refine blk_alloc ?_ _)); refine blk_far ?_ NB145_147.out _; (with_reducible repeat (first | refine blk_drewN ?_ _ | refine blk_drew ?_ | refine blk_alloc ?_ _)); exact BK145.out⟩, ⟨by (with_reducible repeat (first | refine blk_drewN ?_ _ | refine blk_drew ?_ | refine blk_alloc ?_ _)); refine blk_put (cs := #[.int .u8 ((rd_T89 l0_0 x3_1).f0), .int .u8 0]) ?_ 1 _ rfl; (with_reducible repeat (first | refine blk_drewN ?_ _ | refine blk_drew ?_ | refine blk_alloc ?_ _)); refine blk_put (cs := #[.int .u8 0, .int .u8 0]) ?_ 0 _ rfl; (with_reducible repeat (first | refine blk_drewN ?_ _ | refine blk_drew ?_ | refine blk_alloc ?_ _)); exact BK147.out⟩, ⟨hbT HB.out⟩⟩
         ·replace c27 := Bool.eq_false_iff.mpr c27
          subst c27; rw [if_neg (show ¬ (false = true) by decide)] at H; have H1 := H; clear H; have H := H1; clear H1; have H' := Aside0.mk H; clear H; have hnb30 := NB147_145.out; have hnc30 := NB145_147.out
          have hcz31_0 : w8.cell? ⟨gb147, 0, none⟩ = some (.int .u8 0) := (blk_cell BK147.out 0).trans rfl
          have hcz31_1 : w8.cell? ⟨gb147, 1, none⟩ = some (.int .u8 0) := (blk_cell BK147.out 1).trans rfl
          have hfz31_0 := blk_frozen BK147.out 0; have hfz31_1 := blk_frozen BK147.out 1
          go_wp2_with (first | (go_at_call 81; (with_reducible refine (spec_IsSound.calls k1 ((rd_T89 l0_0 x3_1).f0) true _ A21.out).mono ?_); rintro e w' ⟨rfl, ⟨nd, rfl⟩⟩) | (go_at_call 81; (with_reducible refine (spec_IsSound.calls k1 ((rd_T89 l0_0 x3_1).f1) false _ A26.out).mono ?_); rintro e w' ⟨rfl, ⟨nd, rfl⟩⟩))
          go_meet
          case rel => exact ⟨_, (true), rdT, H', ⟨by have := HK1.out; first | omega | exact Nat.le_refl _⟩, ⟨by (with_reducible repeat (first | refine blk_drewN ?_ _ | refine blk_drew ?_ | refine blk_alloc ?_ _)); refine blk_far ?_ NB145_147.out _; (with_reducible repeat (first | refine blk_drewN ?_ _ | refine blk_drew ?_ | refine blk_alloc ?_ _)); refine blk_far ?_ NB145_147.out _; (with_reducible repeat (first | refine blk_drewN ?_ _ | refine blk_drew ?_ | refine blk_alloc ?_ _)); exact BK145.out⟩, ⟨by (with_reducible repeat (first | refine blk_drewN ?_ _ | refine blk_drew ?_ | refine blk_alloc ?_ _)); refine blk_put (cs := #[.int .u8 ((rd_T89 l0_0 x3_1).f0), .int .u8 0]) ?_ 1 _ rfl; (with_reducible repeat (first | refine blk_drewN ?_ _ | refine blk_drew ?_ | refine blk_alloc ?_ _)); refine blk_put (cs := #[.int .u8 0, .int .u8 0]) ?_ 0 _ rfl; (with_reducible repeat (first | refine blk_drewN ?_ _ | refine blk_drew ?_ | refine blk_alloc ?_ _)); exact BK147.out⟩, ⟨hbT HB.out⟩⟩
       ·replace c22 := Bool.eq_false_iff.mpr c22
        subst c22; rw [if_neg (show ¬ (false = true) by decide)] at H; have H1 := H; clear H; have H := H1; clear H1; have H' := Aside0.mk H; clear H; have hnb32 := NB147_145.out; have hnc32 := NB145_147.out
        have hcz33_0 : w8.cell? ⟨gb147, 0, none⟩ = some (.int .u8 0) := (blk_cell BK147.out 0).trans rfl
        have hcz33_1 : w8.cell? ⟨gb147, 1, none⟩ = some (.int .u8 0) := (blk_cell BK147.out 1).trans rfl
        have hfz33_0 := blk_frozen BK147.out 0; have hfz33_1 := blk_frozen BK147.out 1
        go_wp2_with (first | (go_at_call 81; (with_reducible refine (spec_IsSound.calls k1 ((rd_T89 l0_0 x3_1).f0) false _ A21.out).mono ?_); rintro e w' ⟨rfl, ⟨nd, rfl⟩⟩))
        go_meet
        case rel => exact ⟨_, (true), rdT, H', ⟨by have := HK1.out; first | omega | exact Nat.le_refl _⟩, ⟨by (with_reducible repeat (first | refine blk_drewN ?_ _ | refine blk_drew ?_ | refine blk_alloc ?_ _)); refine blk_far ?_ NB145_147.out _; (with_reducible repeat (first | refine blk_drewN ?_ _ | refine blk_drew ?_ | refine blk_alloc ?_ _)); refine blk_far ?_ NB145_147.out _; (with_reducible repeat (first | refine blk_drewN ?_ _ | refine blk_drew ?_ | refine blk_alloc ?_ _)); exact BK145.out⟩, ⟨by (with_reducible repeat (first | refine blk_drewN ?_ _ | refine blk_drew ?_ | refine blk_alloc ?_ _)); refine blk_put (cs := #[.int .u8 ((rd_T89 l0_0 x3_1).f0), .int .u8 0]) ?_ 1 _ rfl; (with_reducible repeat (first | refine blk_drewN ?_ _ | refine blk_drew ?_ | refine blk_alloc ?_ _)); refine blk_put (cs := #[.int .u8 0, .int .u8 0]) ?_ 0 _ rfl; (with_reducible repeat (first | refine blk_drewN ?_ _ | refine blk_drew ?_ | refine blk_alloc ?_ _)); exact BK147.out⟩, ⟨hbT HB.out⟩⟩
     case rest =>
      clear HC6; (try clear c1); (try clear p1); (try clear q1); (try clear hx1); (try clear c2); (try clear p2); (try clear c3); (try clear c3b0); (try clear c4); (try clear c4b0); (try clear c8); (try clear c9); (try clear c11); (try clear c11b0); (try clear c11b1); (try clear c12); (try clear c12b0); (try clear c12b1); (try clear c13); (try clear p14); (try clear q14); (try clear hx14); (try clear c16); (try clear c17); (try clear c19); (try clear c22); (try clear c23); (try clear c23b0); (try clear c23b1); (try clear c24); (try clear c27); (try clear c28); (try clear c30); (try clear c32); (try clear hcz10_0); (try clear hcz10_1); (try clear hcz14_0); (try clear hcz14_1); (try clear hcz18_0); (try clear hcz18_1); (try clear hcz20_0); (try clear hcz20_1); (try clear hcz25_0); (try clear hcz25_1); (try clear hcz29_0); (try clear hcz29_1); (try clear hcz31_0); (try clear hcz31_1); (try clear hcz33_0); (try clear hcz33_1); (try clear hcz7_0); (try clear hfz10_0); (try clear hfz10_1); (try clear hfz14_0); (try clear hfz14_1); (try clear hfz18_0); (try clear hfz18_1); (try clear hfz20_0); (try clear hfz20_1); (try clear hfz25_0); (try clear hfz25_1); (try clear hfz29_0); (try clear hfz29_1); (try clear hfz31_0); (try clear hfz31_1); (try clear hfz33_0); (try clear hfz33_1); (try clear hfz7_0); (try clear hx146_0); (try clear hx146_1); (try clear p146); (try clear p2); (try clear q146); obtain ⟨kq, x54_5, rfl, HA, HJ5, BK145, BK147, HB⟩ := hcut
      cases kq with
      | zero => exact absurd HA.out (by simp [spec_IsCandidate.j1])
      | succ kj5 =>
       have H := HA.out; clear HA
       simp only [spec_IsCandidate.j1] at H
       by_cases c34 : x54_5 = true
       ·subst c34
        rw [if_pos rfl] at H; have H1 := H; clear H; have H := H1; clear H1
        obtain rfl := Option.some.inj H
        go_wp2
        go_ret
        exact ⟨rlT, hbT HB.out⟩
       ·replace c34 := Bool.eq_false_iff.mpr c34
        subst c34; rw [if_neg (show ¬ (false = true) by decide)] at H; have H1 := H; clear H; have H := H1; clear H1
        by_cases c35 : ((rd_T89 l0_0 x3_1).f0) = 0
        ·rw [if_pos c35] at H
         have c35b0 : (((rd_T89 l0_0 x3_1).f0) == 0) = true := beq_iff_eq.mpr c35
         have c35b1 : (((rd_T89 l0_0 x3_1).f0) != 0) = false := bne_eq_false_iff_eq.mpr c35
         clear c35; have H' := Aside0.mk H; clear H; have hnb36 := NB147_145.out; have hnc36 := NB145_147.out
         have hcz37_0 : wc.cell? ⟨gb147, 0, none⟩ = some (.int .u8 ((rd_T89 l0_0 x3_1).f0)) := (blk_cell BK147.out 0).trans rfl
         have hcz37_1 : wc.cell? ⟨gb147, 1, none⟩ = some (.int .u8 ((rd_T89 l0_0 x3_1).f1)) := (blk_cell BK147.out 1).trans rfl
         have hfz37_0 := blk_frozen BK147.out 0; have hfz37_1 := blk_frozen BK147.out 1
         go_wp2
         go_roundg kj5
         case measure => have := HK1.out; have := HJ5.out; omega
         case rel => exact ⟨(wrap64 (x3_1 + 1)), rdT, H', ⟨by have := HK1.out; have := HJ5.out; omega⟩, ⟨by (with_reducible repeat (first | refine blk_drewN ?_ _ | refine blk_drew ?_ | refine blk_alloc ?_ _)); exact BK145.out⟩, ⟨hbT HB.out⟩⟩
        ·rw [if_neg c35] at H
         have c35b0 : (((rd_T89 l0_0 x3_1).f0) == 0) = false := beq_eq_false_iff_ne.mpr c35
         have c35b1 : (((rd_T89 l0_0 x3_1).f0) != 0) = true := bne_iff_ne.mpr c35
         by_cases c38 : ((rd_T89 l0_0 x3_1).f1) = 0
         ·rw [if_pos c38] at H
          have c38b0 : (((rd_T89 l0_0 x3_1).f1) == 0) = true := beq_iff_eq.mpr c38
          have c38b1 : (((rd_T89 l0_0 x3_1).f1) != 0) = false := bne_eq_false_iff_eq.mpr c38
          clear c38; have H' := Aside0.mk H; clear H; have hnb39 := NB147_145.out; have hnc39 := NB145_147.out
          have hcz40_0 : wc.cell? ⟨gb147, 0, none⟩ = some (.int .u8 ((rd_T89 l0_0 x3_1).f0)) := (blk_cell BK147.out 0).trans rfl
          have hcz40_1 : wc.cell? ⟨gb147, 1, none⟩ = some (.int .u8 ((rd_T89 l0_0 x3_1).f1)) := (blk_cell BK147.out 1).trans rfl
          have hfz40_0 := blk_frozen BK147.out 0; have hfz40_1 := blk_frozen BK147.out 1
          go_wp2
          go_roundg kj5
          case measure => have := HK1.out; have := HJ5.out; omega
          case rel => exact ⟨(wrap64 (x3_1 + 1)), rdT, H', ⟨by have := HK1.out; have := HJ5.out; omega⟩, ⟨by (with_reducible repeat (first | refine blk_drewN ?_ _ | refine blk_drew ?_ | refine blk_alloc ?_ _)); exact BK145.out⟩, ⟨hbT HB.out⟩⟩
         ·rw [if_neg c38] at H
          have c38b0 : (((rd_T89 l0_0 x3_1).f1) == 0) = false := beq_eq_false_iff_ne.mpr c38
          have c38b1 : (((rd_T89 l0_0 x3_1).f1) != 0) = true := bne_iff_ne.mpr c38
          by_cases c41 : ((rd_T89 l0_0 x3_1).f0) = ((rd_T89 l0_0 x3_1).f1)
          ·rw [if_pos c41] at H
           have c41b0 : (((rd_T89 l0_0 x3_1).f0) == ((rd_T89 l0_0 x3_1).f1)) = true := beq_iff_eq.mpr c41
           have c41b1 : (((rd_T89 l0_0 x3_1).f0) != ((rd_T89 l0_0 x3_1).f1)) = false := bne_eq_false_iff_eq.mpr c41
           clear c41; have H' := Aside0.mk H; clear H; have hnb42 := NB147_145.out; have hnc42 := NB145_147.out
           have hcz43_0 : wc.cell? ⟨gb147, 0, none⟩ = some (.int .u8 ((rd_T89 l0_0 x3_1).f0)) := (blk_cell BK147.out 0).trans rfl
           have hcz43_1 : wc.cell? ⟨gb147, 1, none⟩ = some (.int .u8 ((rd_T89 l0_0 x3_1).f1)) := (blk_cell BK147.out 1).trans rfl
           have hfz43_0 := blk_frozen BK147.out 0; have hfz43_1 := blk_frozen BK147.out 1
           go_wp2
           go_roundg kj5
           case measure => have := HK1.out; have := HJ5.out; omega
           case rel => exact ⟨(wrap64 (x3_1 + 1)), rdT, H', ⟨by have := HK1.out; have := HJ5.out; omega⟩, ⟨by (with_reducible repeat (first | refine blk_drewN ?_ _ | refine blk_drew ?_ | refine blk_alloc ?_ _)); exact BK145.out⟩, ⟨hbT HB.out⟩⟩
          ·rw [if_neg c41] at H
           have c41b0 : (((rd_T89 l0_0 x3_1).f0) == ((rd_T89 l0_0 x3_1).f1)) = false := beq_eq_false_iff_ne.mpr c41
           have c41b1 : (((rd_T89 l0_0 x3_1).f0) != ((rd_T89 l0_0 x3_1).f1)) = true := bne_iff_ne.mpr c41
           by_cases c44 : t149 = true
           ·subst c44
            rw [if_pos rfl] at H; have H1 := H; clear H; have H := H1; clear H1
            by_cases c45 : t148 = ((rd_T89 l0_0 x3_1).f1)
            ·rw [if_pos c45] at H
             have c45b0 : (t148 == ((rd_T89 l0_0 x3_1).f1)) = true := beq_iff_eq.mpr c45
             have c45b1 : (t148 != ((rd_T89 l0_0 x3_1).f1)) = false := bne_eq_false_iff_eq.mpr c45
             clear c45; have H' := Aside0.mk H; clear H; have hnb46 := NB147_145.out; have hnc46 := NB145_147.out
             have hcz47_0 : wc.cell? ⟨gb147, 0, none⟩ = some (.int .u8 ((rd_T89 l0_0 x3_1).f0)) := (blk_cell BK147.out 0).trans rfl
             have hcz47_1 : wc.cell? ⟨gb147, 1, none⟩ = some (.int .u8 ((rd_T89 l0_0 x3_1).f1)) := (blk_cell BK147.out 1).trans rfl
             have hfz47_0 := blk_frozen BK147.out 0; have hfz47_1 := blk_frozen BK147.out 1
             go_wp2
             go_roundg kj5
             case measure => have := HK1.out; have := HJ5.out; omega
             case rel => exact ⟨(wrap64 (x3_1 + 1)), rdT, H', ⟨by have := HK1.out; have := HJ5.out; omega⟩, ⟨by (with_reducible repeat (first | refine blk_drewN ?_ _ | refine blk_drew ?_ | refine blk_alloc ?_ _)); exact BK145.out⟩, ⟨hbT HB.out⟩⟩
            ·rw [if_neg c45] at H
             have c45b0 : (t148 == ((rd_T89 l0_0 x3_1).f1)) = false := beq_eq_false_iff_ne.mpr c45
             have c45b1 : (t148 != ((rd_T89 l0_0 x3_1).f1)) = true := bne_iff_ne.mpr c45
             obtain rfl := Option.some.inj H
             have hnb48 := NB147_145.out; have hnc48 := NB145_147.out
             have hcz49_0 : wc.cell? ⟨gb147, 0, none⟩ = some (.int .u8 ((rd_T89 l0_0 x3_1).f0)) := (blk_cell BK147.out 0).trans rfl
             have hcz49_1 : wc.cell? ⟨gb147, 1, none⟩ = some (.int .u8 ((rd_T89 l0_0 x3_1).f1)) := (blk_cell BK147.out 1).trans rfl
             have hfz49_0 := blk_frozen BK147.out 0; have hfz49_1 := blk_frozen BK147.out 1
             go_wp2
             go_ret
             exact ⟨rlT, hbT HB.out⟩
           ·replace c44 := Bool.eq_false_iff.mpr c44
            subst c44; rw [if_neg (show ¬ (false = true) by decide)] at H; have H1 := H; clear H; have H := H1; clear H1
            obtain rfl := Option.some.inj H
            have hnb50 := NB147_145.out; have hnc50 := NB145_147.out
            have hcz51_0 : wc.cell? ⟨gb147, 0, none⟩ = some (.int .u8 ((rd_T89 l0_0 x3_1).f0)) := (blk_cell BK147.out 0).trans rfl
            have hcz51_1 : wc.cell? ⟨gb147, 1, none⟩ = some (.int .u8 ((rd_T89 l0_0 x3_1).f1)) := (blk_cell BK147.out 1).trans rfl
            have hfz51_0 := blk_frozen BK147.out 0; have hfz51_1 := blk_frozen BK147.out 1
            go_wp2
            go_ret
            exact ⟨rlT, hbT HB.out⟩
    ·rw [if_neg c4] at H
     exact absurd H (by simp)
   ·rw [if_neg c3] at H
    have c3b0 : decide (x3_1 < (l0_0.length : Int)) = false := decide_eq_false c3
    clear c3
    by_cases c52 : (l0_0.length : Int) ≤ 16
    ·rw [if_pos c52] at H
     have c52b0 : decide ((l0_0.length : Int) ≤ 16) = true := decide_eq_true c52
     have c52b1 : decide (l0_0.length ≤ 16) = true := decide_eq_true (by omega)
     clear c52; replace H := Option.bind_eq_some_iff.mp H; obtain ⟨t153, A530, H⟩ := H; have A53 := Aside0.mk A530; clear A530; replace H := Option.bind_eq_some_iff.mp H; obtain ⟨t154, A540, H⟩ := H; have A54 := Aside0.mk A540; clear A540
     by_cases c55 : t154 = true
     ·subst c55
      rw [if_pos rfl] at H; have H1 := H; clear H; have H := H1; clear H1; replace H := Option.bind_eq_some_iff.mp H; obtain ⟨t155, A560, H⟩ := H; have A56 := Aside0.mk A560; clear A560; replace H := Option.bind_eq_some_iff.mp H; obtain ⟨t156, A570, H⟩ := H; have A57 := Aside0.mk A570; clear A570
      obtain rfl := Option.some.inj H
      have hcz58_0 : wr.cell? ⟨gb145, 0, none⟩ = some (.slice A0_0 l0_0.length c0_0) := (blk_cell BK145.out 0).trans rfl
      have hfz58_0 := blk_frozen BK145.out 0
      go_wp2_with (first | (go_at_call 79; (with_reducible refine (spec_l6In.calls k1 _ _ l0_0 t153 _ ?side1 ?side2 A53.out).mono ?_); (case side1 => exact crT HR0_0.out HB.out); (case side2 => exact HC0_0.out); rintro e w59 ⟨rfl, hb⟩; replace BK145 := asT (blk_below (bkT BK145.out) hb); replace HB := asT (below_step (hbT HB.out) hb); (try clear hb); (try clear hb2); (try clear hk); (try clear hi)) | (go_at_call 36; (with_reducible refine (spec_IsForm.calls k1 t153 true _ A54.out).mono ?_); rintro e w' ⟨rfl, ⟨nd, rfl⟩⟩; have hcz60_0 : w59.cell? ⟨gb145, 0, none⟩ = some (.slice A0_0 l0_0.length c0_0) := (blk_cell BK145.out 0).trans rfl; have hfz60_0 := blk_frozen BK145.out 0) | (go_at_call 82; (with_reducible refine (spec_l6Out.calls k1 _ _ l0_0 t155 _ ?side1 ?side2 A56.out).mono ?_); (case side1 => exact crT HR0_0.out (hbT HB.out)); (case side2 => exact HC0_0.out); rintro e w61 ⟨rfl, hb⟩; replace BK145 := asT (blk_below (bkT BK145.out) hb); replace HB := asT (below_step (hbT HB.out) hb); (try clear hb); (try clear hb2); (try clear hk); (try clear hi)) | (go_at_call 36; (with_reducible refine (spec_IsForm.calls k1 t155 t156 _ A57.out).mono ?_); rintro e w' ⟨rfl, ⟨nd, rfl⟩⟩))
      go_ret
      exact ⟨rlT, hbT HB.out⟩
     ·replace c55 := Bool.eq_false_iff.mpr c55
      subst c55; rw [if_neg (show ¬ (false = true) by decide)] at H; have H1 := H; clear H; have H := H1; clear H1
      obtain rfl := Option.some.inj H
      have hcz62_0 : wr.cell? ⟨gb145, 0, none⟩ = some (.slice A0_0 l0_0.length c0_0) := (blk_cell BK145.out 0).trans rfl
      have hfz62_0 := blk_frozen BK145.out 0
      go_wp2_with (first | (go_at_call 79; (with_reducible refine (spec_l6In.calls k1 _ _ l0_0 t153 _ ?side1 ?side2 A53.out).mono ?_); (case side1 => exact crT HR0_0.out HB.out); (case side2 => exact HC0_0.out); rintro e w63 ⟨rfl, hb⟩; replace BK145 := asT (blk_below (bkT BK145.out) hb); replace HB := asT (below_step (hbT HB.out) hb); (try clear hb); (try clear hb2); (try clear hk); (try clear hi)) | (go_at_call 36; (with_reducible refine (spec_IsForm.calls k1 t153 false _ A54.out).mono ?_); rintro e w' ⟨rfl, ⟨nd, rfl⟩⟩))
      go_ret
      exact ⟨rlT, hbT HB.out⟩
    ·rw [if_neg c52] at H
     have c52b0 : decide ((l0_0.length : Int) ≤ 16) = false := decide_eq_false c52
     have c52b1 : decide (l0_0.length ≤ 16) = false := decide_eq_false (by omega)
     clear c52
     obtain rfl := Option.some.inj H
     have hcz64_0 : wr.cell? ⟨gb145, 0, none⟩ = some (.slice A0_0 l0_0.length c0_0) := (blk_cell BK145.out 0).trans rfl
     have hfz64_0 := blk_frozen BK145.out 0
     go_wp2
     go_ret
     exact ⟨rlT, hbT HB.out⟩

/-! ### spec_InputOf: function 38 -/
def spec_InputOf.f (k : Nat) (l0_0 : List (S89)) : Option (ByteArray) := (spec_IsCandidate.f k l0_0).bind fun t158 => (if t158 = true then ((spec_l6In.f k l0_0).bind fun t159 => (some t159)) else (some (⟨#[]⟩ : ByteArray)))
theorem spec_InputOf.mono : ∀ a0 k, LeO (spec_InputOf.f k a0) (spec_InputOf.f (k + 1) a0) := by
 intro a0 k
 unfold spec_InputOf.f
 repeat' first
   | (with_reducible exact spec_IsCandidate.mono _ _)
   | (with_reducible exact spec_l6In.mono _ _)
   | (with_reducible exact LeO.refl _)
   | (with_reducible exact LeO.none _)
   | (with_reducible refine LeO.ite ?_ ?_)
   | (with_reducible refine LeO.bind ?_ (fun _ => ?_))
   | exact spec_IsCandidate.mono _ _
   | exact spec_l6In.mono _ _
   | exact LeO.none _
   | refine LeO.ite ?_ ?_
   | refine LeO.bind ?_ (fun _ => ?_)
set_option maxHeartbeats 8000000 in
set_option maxRecDepth 100000 in
theorem spec_InputOf.calls (k : Nat) (A0_0 : Option Addr) (c0_0 : Nat) (l0_0 : List (S89)) (r : ByteArray) (w : World) (hr0_0 : Kd.C k89 w A0_0 l0_0.length l0_0) (hc0_0 : l0_0.length ≤ c0_0) (h : spec_InputOf.f k l0_0 = some r) :
  Calls Tryz.prog 38 #[.agg #[.slice A0_0 l0_0.length c0_0]] w fun e w' => e = .returned (.string r) ∧ Below w.heap.size w w' := by
 have hu61 := Tryz.underlying61; have HR0_0 := Aside0.mk hr0_0; have HC0_0 := Aside0.mk hc0_0; clear hr0_0 hc0_0; have HB := asT (Below.refl w.heap.size w); have H := h; unfold spec_InputOf.f at H; clear h; replace H := Option.bind_eq_some_iff.mp H; obtain ⟨t158, A20, H⟩ := H; have A2 := Aside0.mk A20; clear A20
 by_cases c3 : t158 = true
 ·subst c3
  rw [if_pos rfl] at H; have H1 := H; clear H; have H := H1; clear H1; replace H := Option.bind_eq_some_iff.mp H; obtain ⟨t159, A40, H⟩ := H; have A4 := Aside0.mk A40; clear A40
  obtain rfl := Option.some.inj H
  go_enter Tryz.func38, Tryz.ntmps38
  go_wp2_with (first | ((with_reducible refine gate_dst (N := 1) rfl ?_); refine boxT (N := 1) (cs := #[.slice A0_0 l0_0.length c0_0]) (t := 61) ?_; intro gb157 hg w5 hbox hb; have BK157 := asT hbox; have GW157 := asT (geT hg HB.out); have GE157 := GW157; replace HB := asT (below_step (hbT HB.out) hb); clear hb hbox hg; have hcz6_0 : w5.cell? ⟨gb157, 0, none⟩ = some (.slice A0_0 l0_0.length c0_0) := (blk_cell BK157.out 0).trans rfl; have hfz6_0 := blk_frozen BK157.out 0) | ((with_reducible refine gate_callee (f := 39) rfl ?_); refine goesL_ (some 4) rfl rfl Tryz.func39 (by kernel_rfl) rfl #[.agg #[.slice A0_0 l0_0.length c0_0]] rfl eqT ?_; (with_reducible refine (spec_IsCandidate.calls k _ _ l0_0 true _ ?side1 ?side2 A2.out).mono ?_); (case side1 => exact crT HR0_0.out HB.out); (case side2 => exact HC0_0.out); rintro e w7 ⟨rfl, hb⟩; refine ⟨_, rfl, ?_⟩; replace BK157 := asT (blk_below (bkT BK157.out) hb); replace HB := asT (below_step (hbT HB.out) hb); (try clear hb); (try clear hb2); (try clear hk); (try clear hi); have hcz8_0 : w7.cell? ⟨gb157, 0, none⟩ = some (.slice A0_0 l0_0.length c0_0) := (blk_cell BK157.out 0).trans rfl; have hfz8_0 := blk_frozen BK157.out 0) | ((with_reducible refine gate_callee (f := 79) rfl ?_); refine goesL_ (some 7) rfl rfl Tryz.func79 (by kernel_rfl) rfl #[.agg #[.slice A0_0 l0_0.length c0_0]] rfl eqT ?_; (with_reducible refine (spec_l6In.calls k _ _ l0_0 t159 _ ?side1 ?side2 A4.out).mono ?_); (case side1 => exact crT HR0_0.out HB.out); (case side2 => exact HC0_0.out); rintro e w9 ⟨rfl, hb⟩; refine ⟨_, rfl, ?_⟩; replace BK157 := asT (blk_below (bkT BK157.out) hb); replace HB := asT (below_step (hbT HB.out) hb); (try clear hb); (try clear hb2); (try clear hk); (try clear hi)))
  go_ret
  exact ⟨rlT, hbT HB.out⟩
 ·replace c3 := Bool.eq_false_iff.mpr c3
  subst c3; rw [if_neg (show ¬ (false = true) by decide)] at H; have H1 := H; clear H; have H := H1; clear H1
  obtain rfl := Option.some.inj H
  go_enter Tryz.func38, Tryz.ntmps38
  go_wp2_with (first | ((with_reducible refine gate_dst (N := 1) rfl ?_); refine boxT (N := 1) (cs := #[.slice A0_0 l0_0.length c0_0]) (t := 61) ?_; intro gb157 hg w10 hbox hb; have BK157 := asT hbox; have GW157 := asT (geT hg HB.out); have GE157 := GW157; replace HB := asT (below_step (hbT HB.out) hb); clear hb hbox hg; have hcz11_0 : w10.cell? ⟨gb157, 0, none⟩ = some (.slice A0_0 l0_0.length c0_0) := (blk_cell BK157.out 0).trans rfl; have hfz11_0 := blk_frozen BK157.out 0) | ((with_reducible refine gate_callee (f := 39) rfl ?_); refine goesL_ (some 4) rfl rfl Tryz.func39 (by kernel_rfl) rfl #[.agg #[.slice A0_0 l0_0.length c0_0]] rfl eqT ?_; (with_reducible refine (spec_IsCandidate.calls k _ _ l0_0 false _ ?side1 ?side2 A2.out).mono ?_); (case side1 => exact crT HR0_0.out HB.out); (case side2 => exact HC0_0.out); rintro e w12 ⟨rfl, hb⟩; refine ⟨_, rfl, ?_⟩; replace BK157 := asT (blk_below (bkT BK157.out) hb); replace HB := asT (below_step (hbT HB.out) hb); (try clear hb); (try clear hb2); (try clear hk); (try clear hi)))
  go_ret
  exact ⟨rlT, hbT HB.out⟩

/-! ### spec_l5Same: function 83 -/
def spec_l5Same.l0 : Nat → List Int → List Int → Int → Option (Bool)
 | 0, _, _, _ => none
 | k + 1, x0, x1, x5 => if x5 < (x0.length : Int) then (if 0 ≤ x5 then (if x5 < (x1.length : Int) then (if (rd x0 x5) = (rd x1 x5) then (spec_l5Same.l0 k x0 x1 (wrap64 (x5 + 1))) else (some false)) else (none)) else (none)) else (some true)
def spec_l5Same.f (k : Nat) (l0 : List Int) (l1 : List Int) : Option (Bool) := if (l0.length : Int) = (l1.length : Int) then (spec_l5Same.l0 k l0 l1 0) else (some false)
theorem spec_l5Same.mono_l : ∀ k, (∀ y0 y1 y2, LeO (spec_l5Same.l0 k y0 y1 y2) (spec_l5Same.l0 (k + 1) y0 y1 y2))
 | 0 => fun _ _ _ r h => by simp [spec_l5Same.l0] at h
 | k + 1 => by
  have ih0 := spec_l5Same.mono_l k
  ·intro y0 y1 y2
   unfold spec_l5Same.l0
   repeat' first
   | (with_reducible exact ih0 _ _ _)
   | (with_reducible exact LeO.refl _)
   | (with_reducible exact LeO.none _)
   | (with_reducible refine LeO.ite ?_ ?_)
   | (with_reducible refine LeO.bind ?_ (fun _ => ?_))
   | exact ih0 _ _ _
   | exact LeO.none _
   | refine LeO.ite ?_ ?_
   | refine LeO.bind ?_ (fun _ => ?_)
theorem spec_l5Same.mono : ∀ a0 a1 k, LeO (spec_l5Same.f k a0 a1) (spec_l5Same.f (k + 1) a0 a1) := by
 intro a0 a1 k
 have ih0 := spec_l5Same.mono_l k
 unfold spec_l5Same.f
 repeat' first
   | (with_reducible exact ih0 _ _ _)
   | (with_reducible exact LeO.refl _)
   | (with_reducible exact LeO.none _)
   | (with_reducible refine LeO.ite ?_ ?_)
   | (with_reducible refine LeO.bind ?_ (fun _ => ?_))
   | exact ih0 _ _ _
   | exact LeO.none _
   | refine LeO.ite ?_ ?_
   | refine LeO.bind ?_ (fun _ => ?_)
set_option maxHeartbeats 8000000 in
set_option maxRecDepth 100000 in
theorem spec_l5Same.calls (k : Nat) (A0 : Option Addr) (c0 : Nat) (l0 : List Int) (A1 : Option Addr) (c1 : Nat) (l1 : List Int) (r : Bool) (w : World) (hr0 : Kd.C (Kd.int .i64) w A0 l0.length l0) (hc0 : l0.length ≤ c0) (hr1 : Kd.C (Kd.int .i64) w A1 l1.length l1) (hc1 : l1.length ≤ c1) (h : spec_l5Same.f k l0 l1 = some r) :
  Calls Tryz.prog 83 #[.slice A0 l0.length c0, .slice A1 l1.length c1] w fun e w' => e = .returned (.bool r) ∧ Drawn0 w w' := by
 have HR0 := Aside0.mk hr0; have HC0 := Aside0.mk hc0; clear hr0 hc0; have HR1 := Aside0.mk hr1; have HC1 := Aside0.mk hc1; clear hr1 hc1; have H := h; unfold spec_l5Same.f at H; clear h
 by_cases c3 : (l0.length : Int) = (l1.length : Int)
 ·rw [if_pos c3] at H
  have c3b0 : ((l0.length : Int) == (l1.length : Int)) = true := beq_iff_eq.mpr c3
  have c3b1 : ((l0.length : Int) != (l1.length : Int)) = false := bne_eq_false_iff_eq.mpr c3
  have c3b2 : (l0.length == l1.length) = true := by first | simpa using c3 | (simp at c3 ⊢; omega)
  clear c3; have H' := Aside0.mk H; clear H
  go_enter Tryz.func83, Tryz.ntmps83
  go_wp2
  repeat (go_quiet (fail); try go_wp2)
  go_loopg [5] k (fun kq v5 w' => ∃ (x5_1 : Int), v5 = .int .i64 x5_1 ∧ Aside0 (spec_l5Same.l0 kq l0 l1 x5_1 = some r) ∧ Aside0 (kq ≤ k) ∧ Drawn0 w w')
  case atStart => exact ⟨(0), rdT, H', ⟨Nat.le_refl _⟩, drT⟩
  case round =>
   clear H'; (try clear c1); (try clear p2); (try clear c3); (try clear c3b0); (try clear c3b1); (try clear c3b2); obtain ⟨x5_1, rfl, HA, HK1, ⟨m1, rfl⟩⟩ := hrel
   cases gk with
   | zero => exact absurd HA.out (by simp [spec_l5Same.l0])
   | succ k1 =>
    have H := HA.out; clear HA
    simp only [spec_l5Same.l0] at H
    by_cases c4 : x5_1 < (l0.length : Int)
    ·rw [if_pos c4] at H
     have c4b0 : decide (x5_1 < (l0.length : Int)) = true := decide_eq_true c4
     clear c4
     by_cases c5 : 0 ≤ x5_1
     ·rw [if_pos c5] at H
      have c5b0 : decide (0 ≤ x5_1) = true := decide_eq_true c5
      clear c5
      by_cases c6 : x5_1 < (l1.length : Int)
      ·rw [if_pos c6] at H
       have c6b0 : decide (x5_1 < (l1.length : Int)) = true := decide_eq_true c6
       clear c6
       by_cases c7 : (rd l0 x5_1) = (rd l1 x5_1)
       ·rw [if_pos c7] at H
        have c7b0 : ((rd l0 x5_1) == (rd l1 x5_1)) = true := beq_iff_eq.mpr c7
        have c7b1 : ((rd l0 x5_1) != (rd l1 x5_1)) = false := bne_eq_false_iff_eq.mpr c7
        clear c7; have H' := Aside0.mk H; clear H
        have p160 : 0 ≤ (x5_1 : Int) := of_decide_eq_true asmT
        have q160 : x5_1 < (l0.length : Int) := of_decide_eq_true asmT
        obtain ⟨ad160, e160, hx160_0⟩ := Kd.at_int HR0.out x5_1 p160 q160
        cases e160
        replace p160 := eq_true p160; replace q160 := eq_true q160
        have p161 : 0 ≤ (x5_1 : Int) := of_decide_eq_true asmT
        have q161 : x5_1 < (l1.length : Int) := of_decide_eq_true asmT
        obtain ⟨ad161, e161, hx161_0⟩ := Kd.at_int HR1.out x5_1 p161 q161
        cases e161
        replace p161 := eq_true p161; replace q161 := eq_true q161
        go_wp2
        repeat (go_quiet (fail); try go_wp2)
        go_roundg k1
        case measure => have := HK1.out; omega
        case rel => exact ⟨(wrap64 (x5_1 + 1)), rdT, H', ⟨by have := HK1.out; omega⟩, drT⟩
       ·rw [if_neg c7] at H
        have c7b0 : ((rd l0 x5_1) == (rd l1 x5_1)) = false := beq_eq_false_iff_ne.mpr c7
        have c7b1 : ((rd l0 x5_1) != (rd l1 x5_1)) = true := bne_iff_ne.mpr c7
        obtain rfl := Option.some.inj H
        have p160 : 0 ≤ (x5_1 : Int) := of_decide_eq_true asmT
        have q160 : x5_1 < (l0.length : Int) := of_decide_eq_true asmT
        obtain ⟨ad160, e160, hx160_0⟩ := Kd.at_int HR0.out x5_1 p160 q160
        cases e160
        replace p160 := eq_true p160; replace q160 := eq_true q160
        have p161 : 0 ≤ (x5_1 : Int) := of_decide_eq_true asmT
        have q161 : x5_1 < (l1.length : Int) := of_decide_eq_true asmT
        obtain ⟨ad161, e161, hx161_0⟩ := Kd.at_int HR1.out x5_1 p161 q161
        cases e161
        replace p161 := eq_true p161; replace q161 := eq_true q161
        go_wp2
        repeat (go_quiet (fail); try go_wp2)
        go_ret
        exact ⟨rdT, drT⟩
      ·rw [if_neg c6] at H
       exact absurd H (by simp)
     ·rw [if_neg c5] at H
      exact absurd H (by simp)
    ·rw [if_neg c4] at H
     have c4b0 : decide (x5_1 < (l0.length : Int)) = false := decide_eq_false c4
     clear c4
     obtain rfl := Option.some.inj H
     go_wp2
     repeat (go_quiet (fail); try go_wp2)
     go_ret
     exact ⟨rdT, drT⟩
 ·rw [if_neg c3] at H
  have c3b0 : ((l0.length : Int) == (l1.length : Int)) = false := beq_eq_false_iff_ne.mpr c3
  have c3b1 : ((l0.length : Int) != (l1.length : Int)) = true := bne_iff_ne.mpr c3
  have c3b2 : (l0.length == l1.length) = false := by first | simpa using c3 | (simp at c3 ⊢; omega)
  obtain rfl := Option.some.inj H
  go_enter Tryz.func83, Tryz.ntmps83
  go_wp2
  repeat (go_quiet (fail); try go_wp2)
  go_ret
  exact ⟨rdT, drT⟩

/-! ### spec_l11Same: function 40 -/
def spec_l11Same.f (k : Nat) (l0 : List Int) (l1 : List Int) : Option (Bool) := (spec_l5Same.f k l0 l1).bind fun t162 => (some t162)
theorem spec_l11Same.mono : ∀ a0 a1 k, LeO (spec_l11Same.f k a0 a1) (spec_l11Same.f (k + 1) a0 a1) := by
 intro a0 a1 k
 unfold spec_l11Same.f
 repeat' first
   | (with_reducible exact spec_l5Same.mono _ _ _)
   | (with_reducible exact LeO.refl _)
   | (with_reducible exact LeO.none _)
   | (with_reducible refine LeO.ite ?_ ?_)
   | (with_reducible refine LeO.bind ?_ (fun _ => ?_))
   | exact spec_l5Same.mono _ _ _
   | exact LeO.none _
   | refine LeO.ite ?_ ?_
   | refine LeO.bind ?_ (fun _ => ?_)
set_option maxHeartbeats 8000000 in
set_option maxRecDepth 100000 in
theorem spec_l11Same.calls (k : Nat) (A0 : Option Addr) (c0 : Nat) (l0 : List Int) (A1 : Option Addr) (c1 : Nat) (l1 : List Int) (r : Bool) (w : World) (hr0 : Kd.C (Kd.int .i64) w A0 l0.length l0) (hc0 : l0.length ≤ c0) (hr1 : Kd.C (Kd.int .i64) w A1 l1.length l1) (hc1 : l1.length ≤ c1) (h : spec_l11Same.f k l0 l1 = some r) :
  Calls Tryz.prog 40 #[.slice A0 l0.length c0, .slice A1 l1.length c1] w fun e w' => e = .returned (.bool r) ∧ Drawn0 w w' := by
 have HR0 := Aside0.mk hr0; have HC0 := Aside0.mk hc0; clear hr0 hc0; have HR1 := Aside0.mk hr1; have HC1 := Aside0.mk hc1; clear hr1 hc1; have H := h; unfold spec_l11Same.f at H; clear h; replace H := Option.bind_eq_some_iff.mp H; obtain ⟨t162, A30, H⟩ := H; have A3 := Aside0.mk A30; clear A30
 obtain rfl := Option.some.inj H
 go_enter Tryz.func40, Tryz.ntmps40
 go_wp2_with (first | ((with_reducible refine gate_callee (f := 83) rfl ?_); refine goesL_ (some 7) rfl rfl Tryz.func83 (by kernel_rfl) rfl #[.slice A0 l0.length c0, .slice A1 l1.length c1] rfl eqT ?_; (with_reducible refine (spec_l5Same.calls k _ _ l0 _ _ l1 t162 _ ?side1 ?side2 ?side3 ?side4 A3.out).mono ?_); (case side1 => repeat (first | exact HR0.out | (with_reducible refine Kd.C_alloc ?_ _) | (with_reducible refine Kd.C_drewN ?_ _) | (with_reducible refine Kd.C_drew ?_))); (case side2 => exact HC0.out); (case side3 => repeat (first | exact HR1.out | (with_reducible refine Kd.C_alloc ?_ _) | (with_reducible refine Kd.C_drewN ?_ _) | (with_reducible refine Kd.C_drew ?_))); (case side4 => exact HC1.out); rintro e w' ⟨rfl, ⟨nd, rfl⟩⟩; refine ⟨_, rfl, ?_⟩))
 go_ret
 exact ⟨rdT, drT⟩

/-! ### spec_OutputOf: function 53 -/
def spec_OutputOf.f (k : Nat) (l0_0 : List (S89)) : Option (ByteArray) := (spec_IsCandidate.f k l0_0).bind fun t164 => (if t164 = true then ((spec_l6Out.f k l0_0).bind fun t165 => (some t165)) else (some (⟨#[]⟩ : ByteArray)))
theorem spec_OutputOf.mono : ∀ a0 k, LeO (spec_OutputOf.f k a0) (spec_OutputOf.f (k + 1) a0) := by
 intro a0 k
 unfold spec_OutputOf.f
 repeat' first
   | (with_reducible exact spec_IsCandidate.mono _ _)
   | (with_reducible exact spec_l6Out.mono _ _)
   | (with_reducible exact LeO.refl _)
   | (with_reducible exact LeO.none _)
   | (with_reducible refine LeO.ite ?_ ?_)
   | (with_reducible refine LeO.bind ?_ (fun _ => ?_))
   | exact spec_IsCandidate.mono _ _
   | exact spec_l6Out.mono _ _
   | exact LeO.none _
   | refine LeO.ite ?_ ?_
   | refine LeO.bind ?_ (fun _ => ?_)
set_option maxHeartbeats 8000000 in
set_option maxRecDepth 100000 in
theorem spec_OutputOf.calls (k : Nat) (A0_0 : Option Addr) (c0_0 : Nat) (l0_0 : List (S89)) (r : ByteArray) (w : World) (hr0_0 : Kd.C k89 w A0_0 l0_0.length l0_0) (hc0_0 : l0_0.length ≤ c0_0) (h : spec_OutputOf.f k l0_0 = some r) :
  Calls Tryz.prog 53 #[.agg #[.slice A0_0 l0_0.length c0_0]] w fun e w' => e = .returned (.string r) ∧ Below w.heap.size w w' := by
 have hu61 := Tryz.underlying61; have HR0_0 := Aside0.mk hr0_0; have HC0_0 := Aside0.mk hc0_0; clear hr0_0 hc0_0; have HB := asT (Below.refl w.heap.size w); have H := h; unfold spec_OutputOf.f at H; clear h; replace H := Option.bind_eq_some_iff.mp H; obtain ⟨t164, A20, H⟩ := H; have A2 := Aside0.mk A20; clear A20
 by_cases c3 : t164 = true
 ·subst c3
  rw [if_pos rfl] at H; have H1 := H; clear H; have H := H1; clear H1; replace H := Option.bind_eq_some_iff.mp H; obtain ⟨t165, A40, H⟩ := H; have A4 := Aside0.mk A40; clear A40
  obtain rfl := Option.some.inj H
  go_enter Tryz.func53, Tryz.ntmps53
  go_wp2_with (first | ((with_reducible refine gate_dst (N := 1) rfl ?_); refine boxT (N := 1) (cs := #[.slice A0_0 l0_0.length c0_0]) (t := 61) ?_; intro gb163 hg w5 hbox hb; have BK163 := asT hbox; have GW163 := asT (geT hg HB.out); have GE163 := GW163; replace HB := asT (below_step (hbT HB.out) hb); clear hb hbox hg; have hcz6_0 : w5.cell? ⟨gb163, 0, none⟩ = some (.slice A0_0 l0_0.length c0_0) := (blk_cell BK163.out 0).trans rfl; have hfz6_0 := blk_frozen BK163.out 0) | ((with_reducible refine gate_callee (f := 39) rfl ?_); refine goesL_ (some 4) rfl rfl Tryz.func39 (by kernel_rfl) rfl #[.agg #[.slice A0_0 l0_0.length c0_0]] rfl eqT ?_; (with_reducible refine (spec_IsCandidate.calls k _ _ l0_0 true _ ?side1 ?side2 A2.out).mono ?_); (case side1 => exact crT HR0_0.out HB.out); (case side2 => exact HC0_0.out); rintro e w7 ⟨rfl, hb⟩; refine ⟨_, rfl, ?_⟩; replace BK163 := asT (blk_below (bkT BK163.out) hb); replace HB := asT (below_step (hbT HB.out) hb); (try clear hb); (try clear hb2); (try clear hk); (try clear hi); have hcz8_0 : w7.cell? ⟨gb163, 0, none⟩ = some (.slice A0_0 l0_0.length c0_0) := (blk_cell BK163.out 0).trans rfl; have hfz8_0 := blk_frozen BK163.out 0) | ((with_reducible refine gate_callee (f := 82) rfl ?_); refine goesL_ (some 7) rfl rfl Tryz.func82 (by kernel_rfl) rfl #[.agg #[.slice A0_0 l0_0.length c0_0]] rfl eqT ?_; (with_reducible refine (spec_l6Out.calls k _ _ l0_0 t165 _ ?side1 ?side2 A4.out).mono ?_); (case side1 => exact crT HR0_0.out HB.out); (case side2 => exact HC0_0.out); rintro e w9 ⟨rfl, hb⟩; refine ⟨_, rfl, ?_⟩; replace BK163 := asT (blk_below (bkT BK163.out) hb); replace HB := asT (below_step (hbT HB.out) hb); (try clear hb); (try clear hb2); (try clear hk); (try clear hi)))
  go_ret
  exact ⟨rlT, hbT HB.out⟩
 ·replace c3 := Bool.eq_false_iff.mpr c3
  subst c3; rw [if_neg (show ¬ (false = true) by decide)] at H; have H1 := H; clear H; have H := H1; clear H1
  obtain rfl := Option.some.inj H
  go_enter Tryz.func53, Tryz.ntmps53
  go_wp2_with (first | ((with_reducible refine gate_dst (N := 1) rfl ?_); refine boxT (N := 1) (cs := #[.slice A0_0 l0_0.length c0_0]) (t := 61) ?_; intro gb163 hg w10 hbox hb; have BK163 := asT hbox; have GW163 := asT (geT hg HB.out); have GE163 := GW163; replace HB := asT (below_step (hbT HB.out) hb); clear hb hbox hg; have hcz11_0 : w10.cell? ⟨gb163, 0, none⟩ = some (.slice A0_0 l0_0.length c0_0) := (blk_cell BK163.out 0).trans rfl; have hfz11_0 := blk_frozen BK163.out 0) | ((with_reducible refine gate_callee (f := 39) rfl ?_); refine goesL_ (some 4) rfl rfl Tryz.func39 (by kernel_rfl) rfl #[.agg #[.slice A0_0 l0_0.length c0_0]] rfl eqT ?_; (with_reducible refine (spec_IsCandidate.calls k _ _ l0_0 false _ ?side1 ?side2 A2.out).mono ?_); (case side1 => exact crT HR0_0.out HB.out); (case side2 => exact HC0_0.out); rintro e w12 ⟨rfl, hb⟩; refine ⟨_, rfl, ?_⟩; replace BK163 := asT (blk_below (bkT BK163.out) hb); replace HB := asT (below_step (hbT HB.out) hb); (try clear hb); (try clear hb2); (try clear hk); (try clear hi)))
  go_ret
  exact ⟨rlT, hbT HB.out⟩

end Go.Proofs.YtdamagcfmhimfadGreat.PFnExactIsTableau
