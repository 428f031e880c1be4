-- Made by gen.py (a program of this session) out of the translation; Lean checks it.
import Derived.Test.YtmfhaplhgaehhaaPFnExactFuseAllx0
namespace Go.Proofs.Ytmfhaplhgaehhaa.PFnExactFuseAll
open Go.RowKit Go.Proofs.YtmfhaplhgaehhaaB Go.Proofs.YtmfhaplhgaehhaaW.PrintWords Go.Proofs.YtmfhaplhgaehhaaW.PrintLast Go.Proofs.YtmfhaplhgaehhaaW.PrintMore
attribute [local go_sem] max2_int min2_int max_two min_two max_three min_three max_four min_four   -- for this text's walks alone
set_option linter.unusedVariables false
set_option linter.unusedSimpArgs false

/-! ### laws_toIntS: function 140 -/
def laws_toIntS.l0 : Nat → List Int → List Int → Int → Option (List Int)
 | 0, _, _, _ => none
 | k + 1, x0, x3, x4 => if x4 < (x0.length : Int) then (if 0 ≤ x4 then (if x4 < (x3.length : Int) then (laws_toIntS.l0 k x0 (x3.set (x4 : Int).toNat (rd x0 x4)) (wrap64 (x4 + 1))) else (none)) else (none)) else (some x3)
def laws_toIntS.f (k : Nat) (l0 : List Int) : Option (List Int) := if 0 ≤ (l0.length : Int) then (if ((l0.length : Int) : Int).toNat ≤ 35184372088832 then (laws_toIntS.l0 k l0 (List.replicate ((l0.length : Int) : Int).toNat 0) 0) else (none)) else (none)
theorem laws_toIntS.mono_l : ∀ k, (∀ y0 y1 y2, LeO (laws_toIntS.l0 k y0 y1 y2) (laws_toIntS.l0 (k + 1) y0 y1 y2))
 | 0 => fun _ _ _ r h => by simp [laws_toIntS.l0] at h
 | k + 1 => by
  have ih0 := laws_toIntS.mono_l k
  ·intro y0 y1 y2
   unfold laws_toIntS.l0
   with_reducible repeat' first | exact ih0 _ _ _ | exact LeO.refl _ | exact LeO.none _ | refine LeO.ite ?_ ?_ | refine LeO.bind ?_ (fun _ => ?_)
theorem laws_toIntS.mono : ∀ a0 k, LeO (laws_toIntS.f k a0) (laws_toIntS.f (k + 1) a0) := by
 intro a0 k
 have ih0 := laws_toIntS.mono_l k
 unfold laws_toIntS.f
 with_reducible repeat' first | exact ih0 _ _ _ | exact LeO.refl _ | exact LeO.none _ | refine LeO.ite ?_ ?_ | refine LeO.bind ?_ (fun _ => ?_)
set_option maxHeartbeats 8000000 in
set_option maxRecDepth 100000 in
theorem laws_toIntS.calls (k : Nat) (A0 : Option Addr) (c0 : Nat) (l0 : List Int) (r : List Int) (w : World) (hr0 : Kd.C (Kd.int .i64) w A0 l0.length l0) (hc0 : l0.length ≤ c0) (h : laws_toIntS.f k l0 = some r) :
  Calls Try.prog 140 #[.slice A0 l0.length c0] w fun e w' => ∃ v0_ : Value, e = .returned (v0_) ∧ Kd.R (Kd.int .i64) 3 w' w.heap.size (fun _ => True) v0_ r ∧ Below w.heap.size w w' := by
 have HR0 := Aside0.mk hr0; have HC0 := Aside0.mk hc0; clear hr0 hc0; have HB := asT (Below.refl w.heap.size w); have H := h; unfold laws_toIntS.f at H; clear h
 by_cases c2 : 0 ≤ (l0.length : Int)
 ·rw [if_pos c2] at H
  have c2b0 := eq_true c2
  have c2b1 : decide (0 ≤ (l0.length : Int)) = true := decide_eq_true c2
  clear c2
  by_cases c3 : ((l0.length : Int) : Int).toNat ≤ 35184372088832
  ·rw [if_pos c3] at H
   have c3b0 := eq_true c3
   have c3b1 : decide (((l0.length : Int) : Int).toNat ≤ 35184372088832) = true := decide_eq_true c3
   clear c3; obtain ⟨y146, hy146⟩ : ∃ y_ : List Int, y_ = (List.replicate ((l0.length : Int) : Int).toNat 0) := ⟨_, rfl⟩
   replace H : (laws_toIntS.l0 k l0 y146 0) = some r := by first | (rw [hy146]; with_reducible exact H) | (have H2_ := (Option.bind_some _ _).symm.trans H; rw [hy146]; with_reducible exact H2_) | (have H2_ := (Option.bind_some _ _).symm.trans H; with_reducible exact H2_) | with_reducible exact H | (rw [hy146]; exact H) | exact H
   have Ny146 := Aside0.mk hy146; clear hy146; have H' := Aside0.mk H; clear H
   go_enter Try.func140, Try.ntmps140
   go_wp2_with (first | ((with_reducible refine gate_dst (N := 7) rfl ?_); refine Kd.R_make (Kd.int .i64) _ 3 rfl (N := 7) rfl 58 _ _ rfl (l0.length : Int) rfl rfl Try.underlying58 (.int .i64 0) 8 info3 rfl (by decide) (by omega) 0 (ok := fun _ => True) (okp := fun _ => True) rfl (fun _ hk => hk) trivial (of_decide_eq_true asmT) (Nat.le_trans (Nat.mul_le_mul_right _ (of_decide_eq_true asmT : (l0.length : Int).toNat ≤ 35184372088832)) (by omega)) (Below.refl _ _) (Nat.le_refl _) ?_; intro v147 w4 ho5 hb hg_ hnew_; clear hg_ hnew_; (first | rw [← Ny146.out] at ho5 | (simp only [Int.reduceToNat] at ho5; rw [← Ny146.out] at ho5)); have HO148 := asT (Kd.R_lower ho5 (below_size (hbT HB.out))); replace HB := hS HB hb; clear hb ho5))
   go_loopg [4] k (fun kq v4 w' => ∃ (x3_1 : List Int) (x4_1 : Int), v4 = .int .i64 x4_1 ∧ Aside0 (laws_toIntS.l0 kq l0 x3_1 x4_1 = some r) ∧ Aside0 (kq ≤ k) ∧ Aside0 (Kd.R (Kd.int .i64) 3 w' w.heap.size (fun _ => True) v147 x3_1) ∧ Aside0 (Below w.heap.size w w'))
   case atStart => exact ⟨(y146), (0), rdT, H', ⟨Nat.le_refl _⟩, ⟨by (with_reducible repeat (first | apply Kd.R_alloc | apply Kd.R_drewN | apply Kd.R_drew)); exact HO148.out⟩, ⟨hbT HB.out⟩⟩
   case round =>
    clear H'; (try clear c1 c2 c2b0 c2b1 p2 c3 c3b0 c3b1); obtain ⟨x3_1, x4_1, rfl, HA, HK1, HO_3, HB⟩ := hrel
    cases gk with
    | zero => exact absurd HA.out (by simp [laws_toIntS.l0])
    | succ k1 =>
     have H := HA.out; clear HA
     simp only [laws_toIntS.l0] at H
     by_cases c6 : x4_1 < (l0.length : Int)
     ·rw [if_pos c6] at H
      have c6b0 : decide (x4_1 < (l0.length : Int)) = true := decide_eq_true c6
      clear c6
      by_cases c7 : 0 ≤ x4_1
      ·rw [if_pos c7] at H
       have c7b0 : decide (0 ≤ x4_1) = true := decide_eq_true c7
       clear c7
       by_cases c8 : x4_1 < (x3_1.length : Int)
       ·rw [if_pos c8] at H
        have c8b0 : decide (x4_1 < (x3_1.length : Int)) = true := decide_eq_true c8
        clear c8; obtain ⟨y150, hy150⟩ : ∃ y_ : List Int, y_ = (x3_1.set (x4_1 : Int).toNat (rd l0 x4_1)) := ⟨_, rfl⟩
        replace H : (laws_toIntS.l0 k1 l0 y150 (wrap64 (x4_1 + 1))) = some r := by first | (rw [hy150]; with_reducible exact H) | (have H2_ := (Option.bind_some _ _).symm.trans H; rw [hy150]; with_reducible exact H2_) | (have H2_ := (Option.bind_some _ _).symm.trans H; with_reducible exact H2_) | with_reducible exact H | (rw [hy150]; exact H) | exact H
        have Ny150 := Aside0.mk hy150; clear hy150; have H' := Aside0.mk H; clear H
        have p149 : 0 ≤ (x4_1 : Int) := of_decide_eq_true asmT
        have q149 : x4_1 < (l0.length : Int) := of_decide_eq_true asmT
        obtain ⟨ad149, e149, hx149_0⟩ := Kd.at_int HR0.out x4_1 p149 q149
        cases e149
        replace hx149_0 := hbc HB.out hx149_0; replace p149 := eq_true p149; replace q149 := eq_true q149
        have p9 : 0 ≤ (x4_1 : Int) := of_decide_eq_true asmT
        have q9 : (x4_1 : Int) < ((x3_1.length : Int) : Int) := of_decide_eq_true asmT
        obtain ⟨go9, co9, eo9, gb9, gl9, cl9, HG9⟩ := Kd.R_form HO_3.out (by omega)
        (first | cases eo9 | (injection eo9 with ea_ en_ ec_; (first | subst ea_ | (injection ea_ with ea_; subst ea_)); subst ec_; clear en_))
        have GB9 := Aside0.mk gb9; have GG9 := Aside0.mk HG9; clear gb9 gl9 HG9; obtain ⟨hx9_0, hf9_0⟩ := Kd.R_celln 0 HO_3.out (x4_1 : Int) p9 q9; replace p9 := eq_true p9; replace q9 := eq_true q9; have HP10 := Kd.R_putg HO_3.out (x4_1 : Int) (rd l0 x4_1)
        go_wp2_with (first | ((with_reducible refine gate_store (t := 3) (p := 20) rfl ?_); refine store_event (t := 3) (p := 20) (v := ?vo_w11) (w1 := (wr.setCell ⟨go9, (x4_1 : Int).toNat, none⟩ (.int .i64 (rd l0 x4_1)))) ?hg ?ho ?hn ?hr ?_; (case ho => rfl); (case hg => rfl); (case hn => rfl); (case hr => first | (go_simp; done) | (go_simp; rfl)); intro w11 hw; have hg : wr.grownBy w11 (some go9) := (by rw [hw]; exact HP10.2); have hp_ : Kd.R (Kd.int .i64) 3 w11 w.heap.size (fun _ => True) (.slice (some ⟨go9, 0, none⟩) x3_1.length co9) y150 := (by rw [hw, Ny150.out]; exact HP10.1); clear HP10; replace HO_3 := asT (hp_); replace HB := asT ((by rw [hw]; exact below_set (HB.out) GB9.out : Below w.heap.size w w11)); clear hg hw hp_))
        go_roundg k1
        case measure => have := HK1.out; omega
        case rel => exact ⟨(y150), (wrap64 (x4_1 + 1)), rdT, H', ⟨by have := HK1.out; omega⟩, ⟨by (with_reducible repeat (first | apply Kd.R_alloc | apply Kd.R_drewN | apply Kd.R_drew)); exact HO_3.out⟩, ⟨hbT HB.out⟩⟩
       ·rw [if_neg c8] at H
        exact absurd H (by simp)
      ·rw [if_neg c7] at H
       exact absurd H (by simp)
     ·rw [if_neg c6] at H
      have c6b0 : decide (x4_1 < (l0.length : Int)) = false := decide_eq_false c6
      clear c6
      obtain rfl := Option.some.inj H
      go_wp2
      go_ret
      exact ⟨_, rlT, by (with_reducible repeat (first | apply Kd.R_alloc | apply Kd.R_drewN | apply Kd.R_drew)); exact HO_3.out, hbT HB.out⟩
  ·rw [if_neg c3] at H
   exact absurd H (by simp)
 ·rw [if_neg c2] at H
  exact absurd H (by simp)

/-! ### laws_toRow: function 115 -/
def laws_toRow.f (k : Nat) (l0_0 : List Int) : Option (List Int) := (laws_toIntS.f k l0_0).bind fun t154 => (some t154)
theorem laws_toRow.mono : ∀ a0 k, LeO (laws_toRow.f k a0) (laws_toRow.f (k + 1) a0) := by
 intro a0 k
 unfold laws_toRow.f
 with_reducible repeat' first | exact laws_toIntS.mono _ _ | exact LeO.refl _ | exact LeO.none _ | refine LeO.ite ?_ ?_ | refine LeO.bind ?_ (fun _ => ?_)
set_option maxHeartbeats 8000000 in
set_option maxRecDepth 100000 in
theorem laws_toRow.calls (k : Nat) (A0_0 : Option Addr) (c0_0 : Nat) (l0_0 : List Int) (r : List Int) (w : World) (hr0_0 : Kd.C (Kd.int .i64) w A0_0 l0_0.length l0_0) (hc0_0 : l0_0.length ≤ c0_0) (h : laws_toRow.f k l0_0 = some r) :
  Calls Try.prog 115 #[.agg #[.slice A0_0 l0_0.length c0_0]] w fun e w' => ∃ v0_ : Value, e = .returned (.agg #[v0_]) ∧ Kd.R (Kd.int .i64) 3 w' w.heap.size (fun _ => True) v0_ r ∧ Below w.heap.size w w' := by
 have hu110 := Try.underlying110; have hu60 := Try.underlying60; have HR0_0 := Aside0.mk hr0_0; have HC0_0 := Aside0.mk hc0_0; clear hr0_0 hc0_0; have HB := asT (Below.refl w.heap.size w); have H := h; unfold laws_toRow.f at H; clear h; obtain ⟨t154, A2, H⟩ := be H
 obtain rfl := Option.some.inj H
 go_enter Try.func115, Try.ntmps115
 go_wp2_with (first | ((with_reducible refine gate_dst (N := 1) rfl ?_); refine boxT (N := 1) (cs := #[.slice A0_0 l0_0.length c0_0]) (t := 110) ?_; intro gb151 hg w3 hbox hb; have BK151 := asT hbox; have GW151 := asT (geT hg HB.out); have GE151 := GW151; replace HB := hS HB hb; clear hb hbox hg) | ((with_reducible refine gate_dst (N := 2) rfl ?_); refine boxT (N := 2) (cs := #[.slice none 0 0]) (t := 60) ?_; intro gb152 hg w4 hbox hb; have BK152 := asT (hbox); have GW152 := asT (geT hg HB.out); have GE152 := asT (geT hg HB.out); replace HB := hS HB hb; have NB151_152 := asT ((by rw [hg]; exact Nat.ne_of_lt (blk_lt (bkT BK151.out)) : gb151 ≠ gb152)); have NB152_151 := asT ((by rw [hg]; exact Nat.ne_of_gt (blk_lt (bkT BK151.out)) : gb152 ≠ gb151)); replace BK151 := bS BK151 hb; clear hb hbox hg) | ((with_reducible refine gate_dst (N := 3) rfl ?_); refine boxT (N := 3) (cs := #[.slice none 0 0]) (t := 60) ?_; intro gb153 hg w5 hbox hb; have BK153 := asT (hbox); have GW153 := asT (geT hg HB.out); have GE153 := asT (geT hg HB.out); replace HB := hS HB hb; have NB151_153 := asT ((by rw [hg]; exact Nat.ne_of_lt (blk_lt (bkT BK151.out)) : gb151 ≠ gb153)); have NB153_151 := asT ((by rw [hg]; exact Nat.ne_of_gt (blk_lt (bkT BK151.out)) : gb153 ≠ gb151)); replace BK151 := bS BK151 hb; have NB152_153 := asT ((by rw [hg]; exact Nat.ne_of_lt (blk_lt (bkT BK152.out)) : gb152 ≠ gb153)); have NB153_152 := asT ((by rw [hg]; exact Nat.ne_of_gt (blk_lt (bkT BK152.out)) : gb153 ≠ gb152)); replace BK152 := bS BK152 hb; clear hb hbox hg; have hnb6 := NB151_152.out; have hnc6 := NB152_151.out; have hnb7 := NB151_153.out; have hnc7 := NB153_151.out; obtain ⟨hcz8_0, hfz8_0⟩ := bx1 BK151.out) | ((with_reducible refine gate_callee (f := 140) rfl ?_); refine goesL_ (some 6) rfl rfl Try.func140 (by kernel_rfl) rfl #[.slice A0_0 l0_0.length c0_0] rfl eqT ?_; (with_reducible refine (laws_toIntS.calls k _ _ l0_0 t154 _ ?side1 ?side2 A2.out).mono ?_); (case side1 => exact crT HR0_0.out HB.out); (case side2 => exact HC0_0.out); rintro e w9 ⟨v155, rfl, ho0, hb⟩; refine ⟨_, rfl, ?_⟩; have HO156 := asT (Kd.R_lower ho0 (below_size (hbT HB.out))); replace BK151 := bS BK151 hb; replace BK152 := bS BK152 hb; replace BK153 := bS BK153 hb; replace HB := hS HB hb; (try clear hb hb2 hk hi ho0); obtain ⟨Ao10, co10, eo10⟩ := Kd.R_slice HO156.out; subst eo10; have hnb11 := NB153_152.out; have hnc11 := NB152_153.out; obtain ⟨hcz12_0, hfz12_0⟩ := bx1 BK153.out; obtain ⟨hcz13_0, hfz13_0⟩ := bx1 BK152.out))
 refine bodyPost_ret (results_cell_row rfl _ _ gb152 60 #[.slice Ao10 t154.length co10] (0, 0) _ rfl (by (with_reducible repeat (first | refine blk_drewN ?_ _ | refine blk_drew ?_ | refine blk_alloc ?_ _)); refine blk_put (cs := #[.slice none 0 0]) ?_ 0 _ rfl; (with_reducible repeat (first | refine blk_drewN ?_ _ | refine blk_drew ?_ | refine blk_alloc ?_ _)); refine blk_far ?_ NB152_153.out _; (with_reducible repeat (first | refine blk_drewN ?_ _ | refine blk_drew ?_ | refine blk_alloc ?_ _)); exact BK152.out) Try.underlying60 rfl (by kernel_rfl)) rfl ?_
 exact ⟨_, rlT, by (with_reducible repeat (first | apply Kd.R_alloc | apply Kd.R_drewN | apply Kd.R_drew)); exact Kd.R_mono (Kd.R_far (p := ⟨gb152, 0, none⟩) (Kd.R_far (p := ⟨gb153, 0, none⟩) (Kd.R_types (Kd.R_types HO156.out BK153.out (by decide)) BK152.out (by decide)) (fun _ hk => hk.1.2) (.slice Ao10 t154.length co10)) (fun _ hk => hk.2) (.slice Ao10 t154.length co10)) (fun _ hk => trivial), hbT HB.out⟩

/-! ### laws_toRowS: function 57 -/
def laws_toRowS.l0 : Nat → List (S110) → List (S60) → Int → Option ((List (S60)))
 | 0, _, _, _ => none
 | k + 1, x0, x3, x4 => if x4 < (x0.length : Int) then (if 0 ≤ x4 then ((laws_toRow.f k ((rd_T110 x0 x4).f0)).bind fun t161 => (if x4 < (x3.length : Int) then (laws_toRowS.l0 k x0 (x3.set (x4 : Int).toNat (⟨t161⟩ : S60)) (wrap64 (x4 + 1))) else (none))) else (none)) else (some x3)
def laws_toRowS.f (k : Nat) (l0 : List (S110)) : Option ((List (S60))) := if 0 ≤ (l0.length : Int) then (if ((l0.length : Int) : Int).toNat ≤ 11728124029610 then (laws_toRowS.l0 k l0 (List.replicate ((l0.length : Int) : Int).toNat z60) 0) else (none)) else (none)
theorem laws_toRowS.mono_l : ∀ k, (∀ y0 y1 y2, LeO (laws_toRowS.l0 k y0 y1 y2) (laws_toRowS.l0 (k + 1) y0 y1 y2))
 | 0 => fun _ _ _ r h => by simp [laws_toRowS.l0] at h
 | k + 1 => by
  have ih0 := laws_toRowS.mono_l k
  ·intro y0 y1 y2
   unfold laws_toRowS.l0
   with_reducible repeat' first | exact ih0 _ _ _ | exact laws_toRow.mono _ _ | exact LeO.refl _ | exact LeO.none _ | refine LeO.ite ?_ ?_ | refine LeO.bind ?_ (fun _ => ?_)
theorem laws_toRowS.mono : ∀ a0 k, LeO (laws_toRowS.f k a0) (laws_toRowS.f (k + 1) a0) := by
 intro a0 k
 have ih0 := laws_toRowS.mono_l k
 unfold laws_toRowS.f
 with_reducible repeat' first | exact ih0 _ _ _ | exact laws_toRow.mono _ _ | exact LeO.refl _ | exact LeO.none _ | refine LeO.ite ?_ ?_ | refine LeO.bind ?_ (fun _ => ?_)
set_option maxHeartbeats 8000000 in
set_option maxRecDepth 100000 in
theorem laws_toRowS.calls (k : Nat) (A0 : Option Addr) (c0 : Nat) (l0 : List (S110)) (r : List (S60)) (w : World) (hr0 : Kd.C k110 w A0 l0.length l0) (hc0 : l0.length ≤ c0) (h : laws_toRowS.f k l0 = some r) :
  Calls Try.prog 57 #[.slice A0 l0.length c0] w fun e w' => ∃ v0_ : Value, e = .returned (v0_) ∧ Kd.S k60 60 w' w.heap.size (fun _ => True) v0_ r ∧ Below w.heap.size w w' := by
 have hu110 := Try.underlying110; have hu60 := Try.underlying60; have HR0 := Aside0.mk hr0; have HC0 := Aside0.mk hc0; clear hr0 hc0; have HB := asT (Below.refl w.heap.size w); have H := h; unfold laws_toRowS.f at H; clear h
 by_cases c2 : 0 ≤ (l0.length : Int)
 ·rw [if_pos c2] at H
  have c2b0 := eq_true c2
  have c2b1 : decide (0 ≤ (l0.length : Int)) = true := decide_eq_true c2
  clear c2
  by_cases c3 : ((l0.length : Int) : Int).toNat ≤ 11728124029610
  ·rw [if_pos c3] at H
   have c3b0 := eq_true c3
   have c3b1 : decide (((l0.length : Int) : Int).toNat ≤ 11728124029610) = true := decide_eq_true c3
   clear c3; obtain ⟨y157, hy157⟩ : ∃ y_ : List (S60), y_ = (List.replicate ((l0.length : Int) : Int).toNat z60) := ⟨_, rfl⟩
   replace H : (laws_toRowS.l0 k l0 y157 0) = some r := by first | (rw [hy157]; with_reducible exact H) | (have H2_ := (Option.bind_some _ _).symm.trans H; rw [hy157]; with_reducible exact H2_) | (have H2_ := (Option.bind_some _ _).symm.trans H; with_reducible exact H2_) | with_reducible exact H | (rw [hy157]; exact H) | exact H
   have Ny157 := Aside0.mk hy157; clear hy157; have H' := Aside0.mk H; clear H
   go_enter Try.func57, Try.ntmps57
   go_wp2_with (first | ((with_reducible refine gate_dst (N := 7) rfl ?_); refine Kd.S_make k60 _ 60 rfl (N := 7) rfl 63 _ _ rfl (l0.length : Int) rfl rfl Try.underlying63 (.agg #[(.slice none 0 0)]) 24 info60 rfl (by decide) (by omega) z60 (ok := fun _ => True) (okp := fun _ => True) (k60_mkM _ _ _ z60 (Kd.R_nil _ _ _ _ _)) (fun _ hk => hk) trivial (of_decide_eq_true asmT) (Nat.le_trans (Nat.mul_le_mul_right _ (of_decide_eq_true asmT : (l0.length : Int).toNat ≤ 11728124029610)) (by omega)) (Below.refl _ _) (Nat.le_refl _) ?_; intro v158 w4 ho5 hb hg_ hnew_; clear hg_ hnew_; (first | rw [← Ny157.out] at ho5 | (simp only [Int.reduceToNat] at ho5; rw [← Ny157.out] at ho5)); have HO159 := asT (Kd.S_lower ho5 (below_size (hbT HB.out))); replace HB := hS HB hb; clear hb ho5))
   go_loopg [4] k (fun kq v4 w' => ∃ (x3_1 : List (S60)) (x4_1 : Int), v4 = .int .i64 x4_1 ∧ Aside0 (laws_toRowS.l0 kq l0 x3_1 x4_1 = some r) ∧ Aside0 (kq ≤ k) ∧ Aside0 (Kd.S k60 60 w' w.heap.size (fun _ => True) v158 x3_1) ∧ Aside0 (Below w.heap.size w w'))
   case atStart => exact ⟨(y157), (0), rdT, H', ⟨Nat.le_refl _⟩, ⟨by (with_reducible repeat (first | apply Kd.S_alloc | apply Kd.S_drewN | apply Kd.S_drew)); exact HO159.out⟩, ⟨hbT HB.out⟩⟩
   case round =>
    clear H'; (try clear c2 c2b0 c2b1 p2 c3 c3b0 c3b1 c5); obtain ⟨x3_1, x4_1, rfl, HA, HK1, HO_3, HB⟩ := hrel
    cases gk with
    | zero => exact absurd HA.out (by simp [laws_toRowS.l0])
    | succ k1 =>
     have H := HA.out; clear HA
     simp only [laws_toRowS.l0] at H
     by_cases c6 : x4_1 < (l0.length : Int)
     ·rw [if_pos c6] at H
      have c6b0 : decide (x4_1 < (l0.length : Int)) = true := decide_eq_true c6
      clear c6
      by_cases c7 : 0 ≤ x4_1
      ·rw [if_pos c7] at H
       have c7b0 : decide (0 ≤ x4_1) = true := decide_eq_true c7
       clear c7; obtain ⟨t161, A8, H⟩ := be H
       by_cases c9 : x4_1 < (x3_1.length : Int)
       ·rw [if_pos c9] at H
        have c9b0 : decide (x4_1 < (x3_1.length : Int)) = true := decide_eq_true c9
        clear c9; obtain ⟨y164, hy164⟩ : ∃ y_ : List (S60), y_ = (x3_1.set (x4_1 : Int).toNat (⟨t161⟩ : S60)) := ⟨_, rfl⟩
        replace H : (laws_toRowS.l0 k1 l0 y164 (wrap64 (x4_1 + 1))) = some r := by first | (rw [hy164]; with_reducible exact H) | (have H2_ := (Option.bind_some _ _).symm.trans H; rw [hy164]; with_reducible exact H2_) | (have H2_ := (Option.bind_some _ _).symm.trans H; with_reducible exact H2_) | with_reducible exact H | (rw [hy164]; exact H) | exact H
        have Ny164 := Aside0.mk hy164; clear hy164; have H' := Aside0.mk H; clear H
        have p160 : 0 ≤ (x4_1 : Int) := of_decide_eq_true asmT
        have q160 : x4_1 < (l0.length : Int) := of_decide_eq_true asmT
        obtain ⟨ad160, A160_0, c160_0, e160, hx160_0, hl160_0, hi160_0⟩ := at_T110 HR0.out x4_1 p160 q160
        cases e160
        replace hx160_0 := hbc HB.out hx160_0; have HR160_0 := Aside0.mk hi160_0; have HC160_0 := Aside0.mk hl160_0; clear hi160_0 hl160_0; replace p160 := eq_true p160; replace q160 := eq_true q160
        go_wp2_with (first | ((with_reducible refine gate_callee (f := 115) rfl ?_); refine goesL_ (some 20) rfl rfl Try.func115 (by kernel_rfl) rfl #[.agg #[.slice A160_0 ((rd_T110 l0 x4_1).f0).length c160_0]] rfl eqT ?_; (with_reducible refine (laws_toRow.calls k1 _ _ ((rd_T110 l0 x4_1).f0) t161 _ ?side1 ?side2 A8.out).mono ?_); (case side1 => exact crT HR160_0.out HB.out); (case side2 => exact HC160_0.out); rintro e w11 ⟨v162, rfl, ho0, hb⟩; refine ⟨_, rfl, ?_⟩; replace HO_3 := asT (Kd.S_elder' (by (with_reducible repeat (first | apply Kd.S_alloc | apply Kd.S_drewN | apply Kd.S_drew)); exact HO_3.out) (Kd.R_base ho0) hb); have HO163 := asT (Kd.R_lower ho0 (below_size (hbT HB.out))); replace HB := hS HB hb; (try clear hb hb2 hk hi ho0); have p10 : 0 ≤ (x4_1 : Int) := of_decide_eq_true asmT; have q10 : (x4_1 : Int) < ((x3_1.length : Int) : Int) := of_decide_eq_true asmT; obtain ⟨go10, co10, eo10, gb10, gl10, cl10, HG10⟩ := Kd.S_form HO_3.out (by omega); (first | cases eo10 | (injection eo10 with ea_ en_ ec_; (first | subst ea_ | (injection ea_ with ea_; subst ea_)); subst ec_; clear en_)); have GB10 := Aside0.mk gb10; have GG10 := Aside0.mk HG10; clear gb10 gl10 HG10; obtain ⟨_, ce10, hcl10, hM10, hcc10, hfr10, _, _⟩ := Kd.S_elem HO_3.out z60 (x4_1 : Int) p10 q10; obtain ⟨ve10_0, rfl, ge10_0⟩ := k60_openM hM10; have hx10_0 := hcc10 0 _ rfl; have hf10_0 := hfr10 0; (try simp only [show (k60).sz = 1 from rfl, Nat.mul_one, Nat.add_zero] at hx10_0); (try simp only [show (k60).sz = 1 from rfl, Nat.mul_one, Nat.add_zero] at hf10_0); clear hcl10 hcc10 hfr10; (try clear hM10); replace p10 := eq_true p10; replace q10 := eq_true q10; obtain ⟨Ao12, co12, eo12⟩ := Kd.R_slice HO163.out; subst eo12; replace HO_3 := asT (Kd.S_mono (ok' := (fun k_ => some k_ ≠ (.slice Ao12 t161.length co12 : Value).ownBlock)) HO_3.out (fun k_ hk => hk.2)); have HX13 := asT (show Kd.S k60 60 w11 w.heap.size (fun k_ => ((fun _ => True)) k_ ∧ ¬ ((fun k_ => some k_ = (.slice Ao12 t161.length co12 : Value).ownBlock)) k_) (.slice (some ⟨go10, 0, none⟩) x3_1.length co10) x3_1 from (by (with_reducible repeat (first | apply Kd.S_alloc | apply Kd.S_drewN | apply Kd.S_drew)); exact Kd.S_mono HO_3.out (fun k_ hk => ⟨trivial, fun e_ => hk e_⟩))); obtain ⟨oki13, ce13, hcl13, hM13, hcc13, hfr13, hoki13, hH13⟩ := Kd.S_elem HX13.out z60 (x4_1 : Int) (of_decide_eq_true asmT) (by have h_ : (x4_1 : Int) < ((x3_1.length : Int) : Int) := of_decide_eq_true asmT; first | exact h_ | (have e_ := (Kd.S_reads' HO_3.out).1; omega) | simpa using h_); obtain ⟨ve13_0, rfl, ge13_0⟩ := k60_openM hM13; have HP13 := Kd.S_seg hH13 (of_decide_eq_true asmT) (by have h_ : (x4_1 : Int) < ((x3_1.length : Int) : Int) := of_decide_eq_true asmT; first | exact h_ | (have e_ := (Kd.S_reads' HO_3.out).1; omega) | simpa using h_) (seg := [.slice Ao12 t161.length co12]) (j := 0) (show 1 ≤ 1 from by decide) (x' := (⟨t161⟩ : S60)) (k60_mkM _ _ _ (⟨t161⟩ : S60) (Kd.R_mono (Kd.R_tight rfl (Kd.R_mono (ok' := fun k_ => ((fun _ => True)) k_ ∧ k_ ≠ go10) (Kd.R_apart' (HO163.out) (Kd.S_typed HO_3.out) (by decide)) (fun k_ hk => ⟨trivial, fun e_ => (hk.2) (by rw [e_]; rfl)⟩))) (fun _ h_ => Or.inr (h_)))) (fun _ hk => hk) (fun k_ hk_ => ((Kd.R_mono (ok' := fun k_ => ((fun _ => True)) k_ ∧ k_ ≠ go10) (Kd.R_apart' (HO163.out) (Kd.S_typed HO_3.out) (by decide)) (fun k_ hk => ⟨trivial, fun e_ => (hk.2) (by rw [e_]; rfl)⟩))).1 k_ hk_.symm); have hx13_0 := hcc13 0 _ rfl; (try simp only [show (k60).sz = 1 from rfl, Nat.mul_one, Nat.add_zero] at hx13_0); have hf13_0 := hfr13 0; (try simp only [show (k60).sz = 1 from rfl, Nat.mul_one, Nat.add_zero] at hf13_0); clear hcl13 hcc13 hfr13 hoki13 hH13; (try clear hM13); (try simp only [show (k60).sz = 1 from rfl, Nat.mul_one, Nat.add_zero] at HP13)) | ((with_reducible refine gate_store (t := 60) (p := 21) rfl ?_); refine store_event (t := 60) (p := 21) (v := ?vo_w14) (w1 := (w11.setCell ⟨go10, (x4_1 : Int).toNat, none⟩ (.slice Ao12 t161.length co12))) ?hg ?ho ?hn ?hr ?_; (case ho => rfl); (case hg => rfl); (case hn => rfl); (case hr => first | (go_simp; done) | (go_simp; rfl)); intro w14 hw; have hg : w11.grownBy w14 (some go10) := (by rw [hw]; exact HP13.2); have hp_ : Kd.S k60 60 w14 w.heap.size (fun _ => True) (.slice (some ⟨go10, 0, none⟩) x3_1.length co10) y164 := (by rw [hw, Ny164.out]; exact HP13.1); clear HP13; replace HO_3 := asT (hp_); replace HB := asT ((by rw [hw]; exact below_set (HB.out) GB10.out : Below w.heap.size w w14)); clear HO163 hg hw hp_))
        go_roundg k1
        case measure => have := HK1.out; omega
        case rel => exact ⟨(y164), (wrap64 (x4_1 + 1)), rdT, H', ⟨by have := HK1.out; omega⟩, ⟨by (with_reducible repeat (first | apply Kd.S_alloc | apply Kd.S_drewN | apply Kd.S_drew)); exact HO_3.out⟩, ⟨hbT HB.out⟩⟩
       ·rw [if_neg c9] at H
        exact absurd H (by simp)
      ·rw [if_neg c7] at H
       exact absurd H (by simp)
     ·rw [if_neg c6] at H
      have c6b0 : decide (x4_1 < (l0.length : Int)) = false := decide_eq_false c6
      clear c6
      obtain rfl := Option.some.inj H
      go_wp2
      go_ret
      exact ⟨_, rlT, by (with_reducible repeat (first | apply Kd.S_alloc | apply Kd.S_drewN | apply Kd.S_drew)); exact HO_3.out, hbT HB.out⟩
  ·rw [if_neg c3] at H
   exact absurd H (by simp)
 ·rw [if_neg c2] at H
  exact absurd H (by simp)

/-! ### impl_within: function 105 -/
def impl_within.f (a0 : Int) (a1 : Int) (a2 : Int) : Option (Bool) := if a1 ≤ a0 then (some (decide (a0 ≤ a2))) else (some false)
set_option maxHeartbeats 8000000 in
set_option maxRecDepth 100000 in
theorem impl_within.calls (a0 : Int) (a1 : Int) (a2 : Int) (r : Bool) (w : World) (h : impl_within.f a0 a1 a2 = some r) :
  Calls Try.prog 105 #[.int .i64 a0, .int .i64 a1, .int .i64 a2] w fun e w' => e = .returned (.bool r) ∧ Drawn0 w w' := by
 have H := h; unfold impl_within.f at H; clear h
 by_cases c4 : a1 ≤ a0
 ·rw [if_pos c4] at H
  have c4b0 : decide (a1 ≤ a0) = true := decide_eq_true c4
  clear c4
  obtain rfl := Option.some.inj H
  go_enter Try.func105, Try.ntmps105
  go_wp2
  go_ret
  exact ⟨rdT, drT⟩
 ·rw [if_neg c4] at H
  have c4b0 : decide (a1 ≤ a0) = false := decide_eq_false c4
  clear c4
  obtain rfl := Option.some.inj H
  go_enter Try.func105, Try.ntmps105
  go_wp2
  go_ret
  exact ⟨rdT, drT⟩

/-! ### impl_IsRow: function 147 -/
def impl_IsRow.l0 : Nat → Int → List Int → Int → Int → List Int → Option (Bool)
 | 0, _, _, _, _, _ => none
 | k + 1, x1, x8, x9, x10, x166000 => if x10 < x9 then (if 0 ≤ x10 then (if x10 < (x8.length : Int) then ((impl_within.f (rd x8 x10) (-1) 1).bind fun t167 => (if t167 = true then (impl_IsRow.l0 k x1 x8 x9 (wrap64 (x10 + 1)) x166000) else (some false))) else (none)) else (none)) else ((impl_within.f x1 1 5).bind fun t168 => (if t168 = true then (some ((x166000.length : Int) == x1)) else (some false)))
def impl_IsRow.f (k : Nat) (l0_0 : List Int) (a1 : Int) : Option (Bool) := impl_IsRow.l0 k a1 l0_0 (l0_0.length : Int) 0 l0_0
theorem impl_IsRow.mono_l : ∀ k, (∀ y0 y1 y2 y3 y4, LeO (impl_IsRow.l0 k y0 y1 y2 y3 y4) (impl_IsRow.l0 (k + 1) y0 y1 y2 y3 y4))
 | 0 => fun _ _ _ _ _ r h => by simp [impl_IsRow.l0] at h
 | k + 1 => by
  have ih0 := impl_IsRow.mono_l k
  ·intro y0 y1 y2 y3 y4
   unfold impl_IsRow.l0
   with_reducible repeat' first | exact ih0 _ _ _ _ _ | exact LeO.refl _ | exact LeO.none _ | refine LeO.ite ?_ ?_ | refine LeO.bind ?_ (fun _ => ?_)
theorem impl_IsRow.mono : ∀ a0 a1 k, LeO (impl_IsRow.f k a0 a1) (impl_IsRow.f (k + 1) a0 a1) := by
 intro a0 a1 k
 have ih0 := impl_IsRow.mono_l k
 unfold impl_IsRow.f
 with_reducible repeat' first | exact ih0 _ _ _ _ _ | exact LeO.refl _ | exact LeO.none _ | refine LeO.ite ?_ ?_ | refine LeO.bind ?_ (fun _ => ?_)
set_option maxHeartbeats 8000000 in
set_option maxRecDepth 100000 in
theorem impl_IsRow.calls (k : Nat) (A0_0 : Option Addr) (c0_0 : Nat) (l0_0 : List Int) (a1 : Int) (r : Bool) (w : World) (hr0_0 : Kd.C (Kd.int .i64) w A0_0 l0_0.length l0_0) (hc0_0 : l0_0.length ≤ c0_0) (h : impl_IsRow.f k l0_0 a1 = some r) :
  Calls Try.prog 147 #[.agg #[.slice A0_0 l0_0.length c0_0], .int .i64 a1] w fun e w' => e = .returned (.bool r) ∧ Below w.heap.size w w' := by
 have hu60 := Try.underlying60; have HR0_0 := Aside0.mk hr0_0; have HC0_0 := Aside0.mk hc0_0; clear hr0_0 hc0_0; have HB := asT (Below.refl w.heap.size w); have H := h; unfold impl_IsRow.f at H; clear h; have H' := Aside0.mk H; clear H
 go_enter Try.func147, Try.ntmps147
 go_wp2_with (first | ((with_reducible refine gate_dst (N := 2) rfl ?_); (try (refine gate_guard (by rfl) ?_; dsimp only)); refine boxT (N := 2) (cs := #[.slice A0_0 l0_0.length c0_0]) (t := 60) ?_; intro gb165 hg w3 hbox hb; have BK165 := asT hbox; have GW165 := asT (geT hg HB.out); have GE165 := GW165; replace HB := hS HB hb; clear hb hbox hg; obtain ⟨hcz4_0, hfz4_0⟩ := bx1 BK165.out))
 go_loopg [10] k (fun kq v10 w' => ∃ (x10_1 : Int), v10 = .int .i64 x10_1 ∧ Aside0 (impl_IsRow.l0 kq a1 l0_0 (l0_0.length : Int) x10_1 l0_0 = some r) ∧ Aside0 (kq ≤ k) ∧ Aside0 (w'.heap[gb165]? = some (.cells #[(.slice A0_0 l0_0.length c0_0)] 60 (0, 0))) ∧ Aside0 (Below w.heap.size w w'))
 case atStart => exact ⟨(0), rdT, H', ⟨Nat.le_refl _⟩, ⟨by (with_reducible repeat (first | refine blk_drewN ?_ _ | refine blk_drew ?_ | refine blk_alloc ?_ _)); exact BK165.out⟩, ⟨hbT HB.out⟩⟩
 case round =>
  clear H'; (try clear c1 p2 hcz4_0 hfz4_0); obtain ⟨x10_1, rfl, HA, HK1, BK165, HB⟩ := hrel
  cases gk with
  | zero => exact absurd HA.out (by simp [impl_IsRow.l0])
  | succ k1 =>
   have H := HA.out; clear HA
   simp only [impl_IsRow.l0] at H
   by_cases c5 : x10_1 < (l0_0.length : Int)
   ·rw [if_pos c5] at H
    have c5b0 : decide (x10_1 < (l0_0.length : Int)) = true := decide_eq_true c5
    clear c5
    by_cases c6 : 0 ≤ x10_1
    ·rw [if_pos c6] at H
     have c6b0 : decide (0 ≤ x10_1) = true := decide_eq_true c6
     clear c6
     by_cases c7 : x10_1 < (l0_0.length : Int)
     ·rw [if_pos c7] at H
      have c7b0 : decide (x10_1 < (l0_0.length : Int)) = true := decide_eq_true c7
      clear c7; obtain ⟨t167, A8, H⟩ := be H
      by_cases c9 : t167 = true
      ·subst c9
       rw [if_pos rfl] at H; have H' := Aside0.mk H; clear H
       have p166 : 0 ≤ (x10_1 : Int) := of_decide_eq_true asmT
       have q166 : x10_1 < (l0_0.length : Int) := of_decide_eq_true asmT
       obtain ⟨ad166, e166, hx166_0⟩ := Kd.at_int HR0_0.out x10_1 p166 q166
       cases e166
       replace hx166_0 := hbc HB.out hx166_0; replace p166 := eq_true p166; replace q166 := eq_true q166
       go_wp2_with (first | ((with_reducible refine gate_callee (f := 105) rfl ?_); refine goesL_ (some 15) rfl rfl Try.func105 (by kernel_rfl) rfl #[.int .i64 (rd l0_0 x10_1), .int .i64 (-1), .int .i64 1] rfl eqT ?_; (with_reducible refine (impl_within.calls (rd l0_0 x10_1) (-1) 1 true _ A8.out).mono ?_); rintro e w' ⟨rfl, ⟨nd, rfl⟩⟩; refine ⟨_, rfl, ?_⟩))
       go_roundg k1
       case measure => have := HK1.out; omega
       case rel => exact ⟨(wrap64 (x10_1 + 1)), rdT, H', ⟨by have := HK1.out; omega⟩, ⟨by (with_reducible repeat (first | refine blk_drewN ?_ _ | refine blk_drew ?_ | refine blk_alloc ?_ _)); exact BK165.out⟩, ⟨hbT HB.out⟩⟩
      ·replace c9 := Bool.eq_false_iff.mpr c9
       subst c9; rw [if_neg nF] at H; have H1 := H; clear H; have H := H1; clear H1
       obtain rfl := Option.some.inj H
       have p166 : 0 ≤ (x10_1 : Int) := of_decide_eq_true asmT
       have q166 : x10_1 < (l0_0.length : Int) := of_decide_eq_true asmT
       obtain ⟨ad166, e166, hx166_0⟩ := Kd.at_int HR0_0.out x10_1 p166 q166
       cases e166
       replace hx166_0 := hbc HB.out hx166_0; replace p166 := eq_true p166; replace q166 := eq_true q166
       go_wp2_with (first | ((with_reducible refine gate_callee (f := 105) rfl ?_); refine goesL_ (some 15) rfl rfl Try.func105 (by kernel_rfl) rfl #[.int .i64 (rd l0_0 x10_1), .int .i64 (-1), .int .i64 1] rfl eqT ?_; (with_reducible refine (impl_within.calls (rd l0_0 x10_1) (-1) 1 false _ A8.out).mono ?_); rintro e w' ⟨rfl, ⟨nd, rfl⟩⟩; refine ⟨_, rfl, ?_⟩))
       go_ret
       exact ⟨rlT, hbT HB.out⟩
     ·rw [if_neg c7] at H
      exact absurd H (by simp)
    ·rw [if_neg c6] at H
     exact absurd H (by simp)
   ·rw [if_neg c5] at H
    have c5b0 : decide (x10_1 < (l0_0.length : Int)) = false := decide_eq_false c5
    clear c5; obtain ⟨t168, A10, H⟩ := be H
    by_cases c11 : t168 = true
    ·subst c11
     rw [if_pos rfl] at H; have H1 := H; clear H; have H := H1; clear H1
     obtain rfl := Option.some.inj H
     go_wp2_with (first | ((with_reducible refine gate_callee (f := 105) rfl ?_); refine goesL_ (some 19) rfl rfl Try.func105 (by kernel_rfl) rfl #[.int .i64 a1, .int .i64 1, .int .i64 5] rfl eqT ?_; (with_reducible refine (impl_within.calls a1 1 5 true _ A10.out).mono ?_); rintro e w' ⟨rfl, ⟨nd, rfl⟩⟩; refine ⟨_, rfl, ?_⟩; obtain ⟨hcz12_0, hfz12_0⟩ := bx1 BK165.out))
     go_ret
     exact ⟨rlT, hbT HB.out⟩
    ·replace c11 := Bool.eq_false_iff.mpr c11
     subst c11; rw [if_neg nF] at H; have H1 := H; clear H; have H := H1; clear H1
     obtain rfl := Option.some.inj H
     go_wp2_with (first | ((with_reducible refine gate_callee (f := 105) rfl ?_); refine goesL_ (some 19) rfl rfl Try.func105 (by kernel_rfl) rfl #[.int .i64 a1, .int .i64 1, .int .i64 5] rfl eqT ?_; (with_reducible refine (impl_within.calls a1 1 5 false _ A10.out).mono ?_); rintro e w' ⟨rfl, ⟨nd, rfl⟩⟩; refine ⟨_, rfl, ?_⟩))
     go_ret
     exact ⟨rlT, hbT HB.out⟩

/-! ### impl_isAnyRow: function 141 -/
def impl_isAnyRow.f (k : Nat) (l0_0 : List Int) : Option (Bool) := (impl_IsRow.f k l0_0 (l0_0.length : Int)).bind fun t170 => (some t170)
theorem impl_isAnyRow.mono : ∀ a0 k, LeO (impl_isAnyRow.f k a0) (impl_isAnyRow.f (k + 1) a0) := by
 intro a0 k
 unfold impl_isAnyRow.f
 with_reducible repeat' first | exact impl_IsRow.mono _ _ _ | exact LeO.refl _ | exact LeO.none _ | refine LeO.ite ?_ ?_ | refine LeO.bind ?_ (fun _ => ?_)
set_option maxHeartbeats 8000000 in
set_option maxRecDepth 100000 in
theorem impl_isAnyRow.calls (k : Nat) (A0_0 : Option Addr) (c0_0 : Nat) (l0_0 : List Int) (r : Bool) (w : World) (hr0_0 : Kd.C (Kd.int .i64) w A0_0 l0_0.length l0_0) (hc0_0 : l0_0.length ≤ c0_0) (h : impl_isAnyRow.f k l0_0 = some r) :
  Calls Try.prog 141 #[.agg #[.slice A0_0 l0_0.length c0_0]] w fun e w' => e = .returned (.bool r) ∧ Below w.heap.size w w' := by
 have hu60 := Try.underlying60; have HR0_0 := Aside0.mk hr0_0; have HC0_0 := Aside0.mk hc0_0; clear hr0_0 hc0_0; have HB := asT (Below.refl w.heap.size w); have H := h; unfold impl_isAnyRow.f at H; clear h; obtain ⟨t170, A2, H⟩ := be H
 obtain rfl := Option.some.inj H
 go_enter Try.func141, Try.ntmps141
 go_wp2_with (first | ((with_reducible refine gate_dst (N := 1) rfl ?_); refine boxT (N := 1) (cs := #[.slice A0_0 l0_0.length c0_0]) (t := 60) ?_; intro gb169 hg w3 hbox hb; have BK169 := asT hbox; have GW169 := asT (geT hg HB.out); have GE169 := GW169; replace HB := hS HB hb; clear hb hbox hg; obtain ⟨hcz4_0, hfz4_0⟩ := bx1 BK169.out) | ((with_reducible refine gate_callee (f := 147) rfl ?_); refine goesL_ (some 7) rfl rfl Try.func147 (by kernel_rfl) rfl #[.agg #[.slice A0_0 l0_0.length c0_0], .int .i64 (l0_0.length : Int)] rfl eqT ?_; (with_reducible refine (impl_IsRow.calls k _ _ l0_0 (l0_0.length : Int) t170 _ ?side1 ?side2 A2.out).mono ?_); (case side1 => exact crT HR0_0.out HB.out); (case side2 => exact HC0_0.out); rintro e w5 ⟨rfl, hb⟩; refine ⟨_, rfl, ?_⟩; replace BK169 := bS BK169 hb; replace HB := hS HB hb; (try clear hb hb2 hk hi)))
 go_ret
 exact ⟨rlT, hbT HB.out⟩

/-! ### impl_FuseRows: function 116 -/
mutual
def impl_FuseRows.j0 : Nat → Bool → List Int → List Int → Option (List Int × Bool)
 | 0, _, _, _ => none
 | k + 1, x25, x172000, x173000 => if x25 = true then (some (([] : List Int), false)) else (impl_FuseRows.l0 k (x172000.length : Int) 0 x172000 x173000 ([] : List Int))
def impl_FuseRows.l0 : Nat → Int → Int → List Int → List Int → List Int → Option (List Int × Bool)
 | 0, _, _, _, _, _ => none
 | k + 1, x30, x31, x172000, x173000, x177000 => if x31 < x30 then (if 0 ≤ x31 then (if x31 < (x172000.length : Int) then (if x31 < (x173000.length : Int) then (if (mn (rd x172000 x31) (rd x173000 x31)) < 0 then (if x177000.length < 17592186044416 then (impl_FuseRows.l0 k x30 (wrap64 (x31 + 1)) x172000 x173000 (x177000 ++ [(-1)])) else (none)) else (if x177000.length < 17592186044416 then (impl_FuseRows.l0 k x30 (wrap64 (x31 + 1)) x172000 x173000 (x177000 ++ [mx (rd x172000 x31) (rd x173000 x31)])) else (none))) else (none)) else (none)) else (none)) else (some (x177000, true))
end
def impl_FuseRows.f (k : Nat) (l0_0 : List Int) (l1_0 : List Int) : Option (List Int × Bool) := (impl_isAnyRow.f k l0_0).bind fun t174 => (if t174 = true then ((impl_isAnyRow.f k l1_0).bind fun t175 => (if t175 = true then (impl_FuseRows.j0 k ((l0_0.length : Int) != (l1_0.length : Int)) l0_0 l1_0) else (impl_FuseRows.j0 k true l0_0 l1_0))) else (impl_FuseRows.j0 k true l0_0 l1_0))
theorem impl_FuseRows.mono_l : ∀ k, (∀ y0 y1 y2, LeO (impl_FuseRows.j0 k y0 y1 y2) (impl_FuseRows.j0 (k + 1) y0 y1 y2)) ∧ (∀ y0 y1 y2 y3 y4, LeO (impl_FuseRows.l0 k y0 y1 y2 y3 y4) (impl_FuseRows.l0 (k + 1) y0 y1 y2 y3 y4))
 | 0 => ⟨fun _ _ _ r h => by simp [impl_FuseRows.j0] at h, fun _ _ _ _ _ r h => by simp [impl_FuseRows.l0] at h⟩
 | k + 1 => by
  obtain ⟨ih0, ih1⟩ := impl_FuseRows.mono_l k; refine ⟨?_, ?_⟩
  ·intro y0 y1 y2
   unfold impl_FuseRows.j0
   with_reducible repeat' first | exact ih0 _ _ _ | exact ih1 _ _ _ _ _ | exact impl_isAnyRow.mono _ _ | exact LeO.refl _ | exact LeO.none _ | refine LeO.ite ?_ ?_ | refine LeO.bind ?_ (fun _ => ?_)
  ·intro y0 y1 y2 y3 y4
   unfold impl_FuseRows.l0
   with_reducible repeat' first | exact ih0 _ _ _ | exact ih1 _ _ _ _ _ | exact impl_isAnyRow.mono _ _ | exact LeO.refl _ | exact LeO.none _ | refine LeO.ite ?_ ?_ | refine LeO.bind ?_ (fun _ => ?_)
theorem impl_FuseRows.mono : ∀ a0 a1 k, LeO (impl_FuseRows.f k a0 a1) (impl_FuseRows.f (k + 1) a0 a1) := by
 intro a0 a1 k
 obtain ⟨ih0, ih1⟩ := impl_FuseRows.mono_l k
 unfold impl_FuseRows.f
 with_reducible repeat' first | exact ih0 _ _ _ | exact ih1 _ _ _ _ _ | exact impl_isAnyRow.mono _ _ | exact LeO.refl _ | exact LeO.none _ | refine LeO.ite ?_ ?_ | refine LeO.bind ?_ (fun _ => ?_)
set_option maxHeartbeats 8000000 in
set_option maxRecDepth 100000 in
theorem impl_FuseRows.calls (k : Nat) (A0_0 : Option Addr) (c0_0 : Nat) (l0_0 : List Int) (A1_0 : Option Addr) (c1_0 : Nat) (l1_0 : List Int) (r1 : List Int) (r2 : Bool) (w : World) (hr0_0 : Kd.C (Kd.int .i64) w A0_0 l0_0.length l0_0) (hc0_0 : l0_0.length ≤ c0_0) (hr1_0 : Kd.C (Kd.int .i64) w A1_0 l1_0.length l1_0) (hc1_0 : l1_0.length ≤ c1_0) (h : impl_FuseRows.f k l0_0 l1_0 = some (r1, r2)) :
  Calls Try.prog 116 #[.agg #[.slice A0_0 l0_0.length c0_0], .agg #[.slice A1_0 l1_0.length c1_0]] w fun e w' => ∃ v0_ : Value, e = .returned (.tuple #[.agg #[v0_], .bool r2]) ∧ Kd.R (Kd.int .i64) 3 w' w.heap.size (fun _ => True) v0_ r1 ∧ Below w.heap.size w w' := by
 have hu60 := Try.underlying60; have HR0_0 := Aside0.mk hr0_0; have HC0_0 := Aside0.mk hc0_0; clear hr0_0 hc0_0; have HR1_0 := Aside0.mk hr1_0; have HC1_0 := Aside0.mk hc1_0; clear hr1_0 hc1_0; have HB := asT (Below.refl w.heap.size w); have H := h; unfold impl_FuseRows.f at H; clear h; have HC3 := Aside0.mk H; clear H
 go_enter Try.func116, Try.ntmps116
 go_upto_region 1 with (first | ((with_reducible refine gate_dst (N := 2) rfl ?_); (try (refine gate_guard (by rfl) ?_; dsimp only)); refine boxT (N := 2) (cs := #[.slice A0_0 l0_0.length c0_0]) (t := 60) ?_; intro gb171 hg w4 hbox hb; have BK171 := asT hbox; have GW171 := asT (geT hg HB.out); have GE171 := GW171; replace HB := hS HB hb; clear hb hbox hg) | ((with_reducible refine gate_dst (N := 3) rfl ?_); (try (refine gate_guard (by rfl) ?_; dsimp only)); refine boxT (N := 3) (cs := #[.slice A1_0 l1_0.length c1_0]) (t := 60) ?_; intro gb172 hg w5 hbox hb; have BK172 := asT (hbox); have GW172 := asT (geT hg HB.out); have GE172 := asT (geT hg HB.out); replace HB := hS HB hb; have NB171_172 := asT ((by rw [hg]; exact Nat.ne_of_lt (blk_lt (bkT BK171.out)) : gb171 ≠ gb172)); have NB172_171 := asT ((by rw [hg]; exact Nat.ne_of_gt (blk_lt (bkT BK171.out)) : gb172 ≠ gb171)); replace BK171 := bS BK171 hb; clear hb hbox hg) | ((with_reducible refine gate_dst (N := 4) rfl ?_); (try (refine gate_guard (by rfl) ?_; dsimp only)); refine boxT (N := 4) (cs := #[.slice none 0 0]) (t := 60) ?_; intro gb173 hg w6 hbox hb; have BK173 := asT (hbox); have GW173 := asT (geT hg HB.out); have GE173 := asT (geT hg HB.out); replace HB := hS HB hb; have NB171_173 := asT ((by rw [hg]; exact Nat.ne_of_lt (blk_lt (bkT BK171.out)) : gb171 ≠ gb173)); have NB173_171 := asT ((by rw [hg]; exact Nat.ne_of_gt (blk_lt (bkT BK171.out)) : gb173 ≠ gb171)); replace BK171 := bS BK171 hb; have NB172_173 := asT ((by rw [hg]; exact Nat.ne_of_lt (blk_lt (bkT BK172.out)) : gb172 ≠ gb173)); have NB173_172 := asT ((by rw [hg]; exact Nat.ne_of_gt (blk_lt (bkT BK172.out)) : gb173 ≠ gb172)); replace BK172 := bS BK172 hb; clear hb hbox hg))
 repeat (go_quiet (first | ((with_reducible refine gate_dst (N := 2) rfl ?_); (try (refine gate_guard (by rfl) ?_; dsimp only)); refine boxT (N := 2) (cs := #[.slice A0_0 l0_0.length c0_0]) (t := 60) ?_; intro gb171 hg w4 hbox hb; have BK171 := asT hbox; have GW171 := asT (geT hg HB.out); have GE171 := GW171; replace HB := hS HB hb; clear hb hbox hg) | ((with_reducible refine gate_dst (N := 3) rfl ?_); (try (refine gate_guard (by rfl) ?_; dsimp only)); refine boxT (N := 3) (cs := #[.slice A1_0 l1_0.length c1_0]) (t := 60) ?_; intro gb172 hg w5 hbox hb; have BK172 := asT (hbox); have GW172 := asT (geT hg HB.out); have GE172 := asT (geT hg HB.out); replace HB := hS HB hb; have NB171_172 := asT ((by rw [hg]; exact Nat.ne_of_lt (blk_lt (bkT BK171.out)) : gb171 ≠ gb172)); have NB172_171 := asT ((by rw [hg]; exact Nat.ne_of_gt (blk_lt (bkT BK171.out)) : gb172 ≠ gb171)); replace BK171 := bS BK171 hb; clear hb hbox hg) | ((with_reducible refine gate_dst (N := 4) rfl ?_); (try (refine gate_guard (by rfl) ?_; dsimp only)); refine boxT (N := 4) (cs := #[.slice none 0 0]) (t := 60) ?_; intro gb173 hg w6 hbox hb; have BK173 := asT (hbox); have GW173 := asT (geT hg HB.out); have GE173 := asT (geT hg HB.out); replace HB := hS HB hb; have NB171_173 := asT ((by rw [hg]; exact Nat.ne_of_lt (blk_lt (bkT BK171.out)) : gb171 ≠ gb173)); have NB173_171 := asT ((by rw [hg]; exact Nat.ne_of_gt (blk_lt (bkT BK171.out)) : gb173 ≠ gb171)); replace BK171 := bS BK171 hb; have NB172_173 := asT ((by rw [hg]; exact Nat.ne_of_lt (blk_lt (bkT BK172.out)) : gb172 ≠ gb173)); have NB173_172 := asT ((by rw [hg]; exact Nat.ne_of_gt (blk_lt (bkT BK172.out)) : gb173 ≠ gb172)); replace BK172 := bS BK172 hb; clear hb hbox hg)); go_upto_region 1 with (first | ((with_reducible refine gate_dst (N := 2) rfl ?_); (try (refine gate_guard (by rfl) ?_; dsimp only)); refine boxT (N := 2) (cs := #[.slice A0_0 l0_0.length c0_0]) (t := 60) ?_; intro gb171 hg w4 hbox hb; have BK171 := asT hbox; have GW171 := asT (geT hg HB.out); have GE171 := GW171; replace HB := hS HB hb; clear hb hbox hg) | ((with_reducible refine gate_dst (N := 3) rfl ?_); (try (refine gate_guard (by rfl) ?_; dsimp only)); refine boxT (N := 3) (cs := #[.slice A1_0 l1_0.length c1_0]) (t := 60) ?_; intro gb172 hg w5 hbox hb; have BK172 := asT (hbox); have GW172 := asT (geT hg HB.out); have GE172 := asT (geT hg HB.out); replace HB := hS HB hb; have NB171_172 := asT ((by rw [hg]; exact Nat.ne_of_lt (blk_lt (bkT BK171.out)) : gb171 ≠ gb172)); have NB172_171 := asT ((by rw [hg]; exact Nat.ne_of_gt (blk_lt (bkT BK171.out)) : gb172 ≠ gb171)); replace BK171 := bS BK171 hb; clear hb hbox hg) | ((with_reducible refine gate_dst (N := 4) rfl ?_); (try (refine gate_guard (by rfl) ?_; dsimp only)); refine boxT (N := 4) (cs := #[.slice none 0 0]) (t := 60) ?_; intro gb173 hg w6 hbox hb; have BK173 := asT (hbox); have GW173 := asT (geT hg HB.out); have GE173 := asT (geT hg HB.out); replace HB := hS HB hb; have NB171_173 := asT ((by rw [hg]; exact Nat.ne_of_lt (blk_lt (bkT BK171.out)) : gb171 ≠ gb173)); have NB173_171 := asT ((by rw [hg]; exact Nat.ne_of_gt (blk_lt (bkT BK171.out)) : gb173 ≠ gb171)); replace BK171 := bS BK171 hb; have NB172_173 := asT ((by rw [hg]; exact Nat.ne_of_lt (blk_lt (bkT BK172.out)) : gb172 ≠ gb173)); have NB173_172 := asT ((by rw [hg]; exact Nat.ne_of_gt (blk_lt (bkT BK172.out)) : gb173 ≠ gb172)); replace BK172 := bS BK172 hb; clear hb hbox hg)))
 (try simp only [Act.put, sA, sZ, sS])
 go_cut [25] (fun v25 wc => ∃ (kq : Nat) (x25_2 : Bool), v25 = .bool x25_2 ∧ Aside0 (impl_FuseRows.j0 kq x25_2 l0_0 l1_0 = some (r1, r2)) ∧ Aside0 (kq ≤ k) ∧ Aside0 (wc.heap[gb171]? = some (.cells #[(.slice A0_0 l0_0.length c0_0)] 60 (0, 0))) ∧ Aside0 (wc.heap[gb172]? = some (.cells #[(.slice A1_0 l1_0.length c1_0)] 60 (0, 0))) ∧ Aside0 (wc.heap[gb173]? = some (.cells #[(.slice none 0 0)] 60 (0, 0))) ∧ Aside0 (Below w.heap.size w wc))
 case first =>
  have H := HC3.out; clear HC3; obtain ⟨t174, A7, H⟩ := be H
  by_cases c8 : t174 = true
  ·subst c8
   rw [if_pos rfl] at H; obtain ⟨t175, A9, H⟩ := be H
   by_cases c10 : t175 = true
   ·subst c10
    rw [if_pos rfl] at H; have H' := Aside0.mk H; clear H; have hnb11 := NB171_172.out; have hnc11 := NB172_171.out; have hnb12 := NB171_173.out; have hnc12 := NB173_171.out
    have hcz13_0 := bc0 BK171.out
    have hfz13_0 := blk_frozen BK171.out 0
    go_wp2_with (first | (go_at_call 141; (with_reducible refine (impl_isAnyRow.calls k _ _ l0_0 true _ ?side1 ?side2 A7.out).mono ?_); (case side1 => exact crT HR0_0.out HB.out); (case side2 => exact HC0_0.out); rintro e w14 ⟨rfl, hb⟩; replace BK171 := bS BK171 hb; replace BK172 := bS BK172 hb; replace BK173 := bS BK173 hb; replace HB := hS HB hb; (try clear hb hb2 hk hi); have hnb15 := NB172_173.out; have hnc15 := NB173_172.out; obtain ⟨hcz16_0, hfz16_0⟩ := bx1 BK172.out) | (go_at_call 141; (with_reducible refine (impl_isAnyRow.calls k _ _ l1_0 true _ ?side1 ?side2 A9.out).mono ?_); (case side1 => exact crT HR1_0.out HB.out); (case side2 => exact HC1_0.out); rintro e w17 ⟨rfl, hb⟩; replace BK171 := bS BK171 hb; replace BK172 := bS BK172 hb; replace BK173 := bS BK173 hb; replace HB := hS HB hb; (try clear hb hb2 hk hi); obtain ⟨hcz18_0, hfz18_0⟩ := bx1 BK171.out; obtain ⟨hcz19_0, hfz19_0⟩ := bx1 BK172.out))
    repeat (go_quiet (first | (go_at_call 141; (with_reducible refine (impl_isAnyRow.calls k _ _ l0_0 true _ ?side1 ?side2 A7.out).mono ?_); (case side1 => exact crT HR0_0.out HB.out); (case side2 => exact HC0_0.out); rintro e w14 ⟨rfl, hb⟩; replace BK171 := bS BK171 hb; replace BK172 := bS BK172 hb; replace BK173 := bS BK173 hb; replace HB := hS HB hb; (try clear hb hb2 hk hi); have hnb15 := NB172_173.out; have hnc15 := NB173_172.out; obtain ⟨hcz16_0, hfz16_0⟩ := bx1 BK172.out) | (go_at_call 141; (with_reducible refine (impl_isAnyRow.calls k _ _ l1_0 true _ ?side1 ?side2 A9.out).mono ?_); (case side1 => exact crT HR1_0.out HB.out); (case side2 => exact HC1_0.out); rintro e w17 ⟨rfl, hb⟩; replace BK171 := bS BK171 hb; replace BK172 := bS BK172 hb; replace BK173 := bS BK173 hb; replace HB := hS HB hb; (try clear hb hb2 hk hi); obtain ⟨hcz18_0, hfz18_0⟩ := bx1 BK171.out; obtain ⟨hcz19_0, hfz19_0⟩ := bx1 BK172.out)); try go_wp2_with (first | (go_at_call 141; (with_reducible refine (impl_isAnyRow.calls k _ _ l0_0 true _ ?side1 ?side2 A7.out).mono ?_); (case side1 => exact crT HR0_0.out HB.out); (case side2 => exact HC0_0.out); rintro e w14 ⟨rfl, hb⟩; replace BK171 := bS BK171 hb; replace BK172 := bS BK172 hb; replace BK173 := bS BK173 hb; replace HB := hS HB hb; (try clear hb hb2 hk hi); have hnb15 := NB172_173.out; have hnc15 := NB173_172.out; obtain ⟨hcz16_0, hfz16_0⟩ := bx1 BK172.out) | (go_at_call 141; (with_reducible refine (impl_isAnyRow.calls k _ _ l1_0 true _ ?side1 ?side2 A9.out).mono ?_); (case side1 => exact crT HR1_0.out HB.out); (case side2 => exact HC1_0.out); rintro e w17 ⟨rfl, hb⟩; replace BK171 := bS BK171 hb; replace BK172 := bS BK172 hb; replace BK173 := bS BK173 hb; replace HB := hS HB hb; (try clear hb hb2 hk hi); obtain ⟨hcz18_0, hfz18_0⟩ := bx1 BK171.out; obtain ⟨hcz19_0, hfz19_0⟩ := bx1 BK172.out)))
    go_meet
    case rel => exact ⟨_, (((l0_0.length : Int) != (l1_0.length : Int))), rdT, H', ⟨by first | omega | exact Nat.le_refl _⟩, ⟨by (with_reducible repeat (first | refine blk_drewN ?_ _ | refine blk_drew ?_ | refine blk_alloc ?_ _)); exact BK171.out⟩, ⟨by (with_reducible repeat (first | refine blk_drewN ?_ _ | refine blk_drew ?_ | refine blk_alloc ?_ _)); exact BK172.out⟩, ⟨by (with_reducible repeat (first | refine blk_drewN ?_ _ | refine blk_drew ?_ | refine blk_alloc ?_ _)); exact BK173.out⟩, ⟨hbT HB.out⟩⟩
   ·replace c10 := Bool.eq_false_iff.mpr c10
    subst c10; rw [if_neg nF] at H; have H' := Aside0.mk H; clear H; have hnb20 := NB171_172.out; have hnc20 := NB172_171.out; have hnb21 := NB171_173.out; have hnc21 := NB173_171.out
    have hcz22_0 := bc0 BK171.out
    have hfz22_0 := blk_frozen BK171.out 0
    go_wp2_with (first | (go_at_call 141; (with_reducible refine (impl_isAnyRow.calls k _ _ l0_0 true _ ?side1 ?side2 A7.out).mono ?_); (case side1 => exact crT HR0_0.out HB.out); (case side2 => exact HC0_0.out); rintro e w23 ⟨rfl, hb⟩; replace BK171 := bS BK171 hb; replace BK172 := bS BK172 hb; replace BK173 := bS BK173 hb; replace HB := hS HB hb; (try clear hb hb2 hk hi); have hnb24 := NB172_173.out; have hnc24 := NB173_172.out; obtain ⟨hcz25_0, hfz25_0⟩ := bx1 BK172.out) | (go_at_call 141; (with_reducible refine (impl_isAnyRow.calls k _ _ l1_0 false _ ?side1 ?side2 A9.out).mono ?_); (case side1 => exact crT HR1_0.out HB.out); (case side2 => exact HC1_0.out); rintro e w26 ⟨rfl, hb⟩; replace BK171 := bS BK171 hb; replace BK172 := bS BK172 hb; replace BK173 := bS BK173 hb; replace HB := hS HB hb; (try clear hb hb2 hk hi)))
    repeat (go_quiet (first | (go_at_call 141; (with_reducible refine (impl_isAnyRow.calls k _ _ l0_0 true _ ?side1 ?side2 A7.out).mono ?_); (case side1 => exact crT HR0_0.out HB.out); (case side2 => exact HC0_0.out); rintro e w23 ⟨rfl, hb⟩; replace BK171 := bS BK171 hb; replace BK172 := bS BK172 hb; replace BK173 := bS BK173 hb; replace HB := hS HB hb; (try clear hb hb2 hk hi); have hnb24 := NB172_173.out; have hnc24 := NB173_172.out; obtain ⟨hcz25_0, hfz25_0⟩ := bx1 BK172.out) | (go_at_call 141; (with_reducible refine (impl_isAnyRow.calls k _ _ l1_0 false _ ?side1 ?side2 A9.out).mono ?_); (case side1 => exact crT HR1_0.out HB.out); (case side2 => exact HC1_0.out); rintro e w26 ⟨rfl, hb⟩; replace BK171 := bS BK171 hb; replace BK172 := bS BK172 hb; replace BK173 := bS BK173 hb; replace HB := hS HB hb; (try clear hb hb2 hk hi))); try go_wp2_with (first | (go_at_call 141; (with_reducible refine (impl_isAnyRow.calls k _ _ l0_0 true _ ?side1 ?side2 A7.out).mono ?_); (case side1 => exact crT HR0_0.out HB.out); (case side2 => exact HC0_0.out); rintro e w23 ⟨rfl, hb⟩; replace BK171 := bS BK171 hb; replace BK172 := bS BK172 hb; replace BK173 := bS BK173 hb; replace HB := hS HB hb; (try clear hb hb2 hk hi); have hnb24 := NB172_173.out; have hnc24 := NB173_172.out; obtain ⟨hcz25_0, hfz25_0⟩ := bx1 BK172.out) | (go_at_call 141; (with_reducible refine (impl_isAnyRow.calls k _ _ l1_0 false _ ?side1 ?side2 A9.out).mono ?_); (case side1 => exact crT HR1_0.out HB.out); (case side2 => exact HC1_0.out); rintro e w26 ⟨rfl, hb⟩; replace BK171 := bS BK171 hb; replace BK172 := bS BK172 hb; replace BK173 := bS BK173 hb; replace HB := hS HB hb; (try clear hb hb2 hk hi))))
    go_meet
    case rel => exact ⟨_, (true), rdT, H', ⟨by first | omega | exact Nat.le_refl _⟩, ⟨by (with_reducible repeat (first | refine blk_drewN ?_ _ | refine blk_drew ?_ | refine blk_alloc ?_ _)); exact BK171.out⟩, ⟨by (with_reducible repeat (first | refine blk_drewN ?_ _ | refine blk_drew ?_ | refine blk_alloc ?_ _)); exact BK172.out⟩, ⟨by (with_reducible repeat (first | refine blk_drewN ?_ _ | refine blk_drew ?_ | refine blk_alloc ?_ _)); exact BK173.out⟩, ⟨hbT HB.out⟩⟩
  ·replace c8 := Bool.eq_false_iff.mpr c8
   subst c8; rw [if_neg nF] at H; have H' := Aside0.mk H; clear H; have hnb27 := NB171_172.out; have hnc27 := NB172_171.out; have hnb28 := NB171_173.out; have hnc28 := NB173_171.out
   have hcz29_0 := bc0 BK171.out
   have hfz29_0 := blk_frozen BK171.out 0
   go_wp2_with (first | (go_at_call 141; (with_reducible refine (impl_isAnyRow.calls k _ _ l0_0 false _ ?side1 ?side2 A7.out).mono ?_); (case side1 => exact crT HR0_0.out HB.out); (case side2 => exact HC0_0.out); rintro e w30 ⟨rfl, hb⟩; replace BK171 := bS BK171 hb; replace BK172 := bS BK172 hb; replace BK173 := bS BK173 hb; replace HB := hS HB hb; (try clear hb hb2 hk hi)))
   repeat (go_quiet (first | (go_at_call 141; (with_reducible refine (impl_isAnyRow.calls k _ _ l0_0 false _ ?side1 ?side2 A7.out).mono ?_); (case side1 => exact crT HR0_0.out HB.out); (case side2 => exact HC0_0.out); rintro e w30 ⟨rfl, hb⟩; replace BK171 := bS BK171 hb; replace BK172 := bS BK172 hb; replace BK173 := bS BK173 hb; replace HB := hS HB hb; (try clear hb hb2 hk hi))); try go_wp2_with (first | (go_at_call 141; (with_reducible refine (impl_isAnyRow.calls k _ _ l0_0 false _ ?side1 ?side2 A7.out).mono ?_); (case side1 => exact crT HR0_0.out HB.out); (case side2 => exact HC0_0.out); rintro e w30 ⟨rfl, hb⟩; replace BK171 := bS BK171 hb; replace BK172 := bS BK172 hb; replace BK173 := bS BK173 hb; replace HB := hS HB hb; (try clear hb hb2 hk hi))))
   go_meet
   case rel => exact ⟨_, (true), rdT, H', ⟨by first | omega | exact Nat.le_refl _⟩, ⟨by (with_reducible repeat (first | refine blk_drewN ?_ _ | refine blk_drew ?_ | refine blk_alloc ?_ _)); exact BK171.out⟩, ⟨by (with_reducible repeat (first | refine blk_drewN ?_ _ | refine blk_drew ?_ | refine blk_alloc ?_ _)); exact BK172.out⟩, ⟨by (with_reducible repeat (first | refine blk_drewN ?_ _ | refine blk_drew ?_ | refine blk_alloc ?_ _)); exact BK173.out⟩, ⟨hbT HB.out⟩⟩
 case rest =>
  clear HC3; (try clear c1 c2 p2 c8 c10 c11 c12 c15 c20 c21 c24 c27 c28 hcz13_0 hcz16_0 hcz18_0 hcz19_0 hcz22_0 hcz25_0 hcz29_0 hfz13_0 hfz16_0 hfz18_0 hfz19_0 hfz22_0 hfz25_0 hfz29_0); obtain ⟨kq, x25_2, rfl, HA, HJ2, BK171, BK172, BK173, HB⟩ := hcut
  cases kq with
  | zero => exact absurd HA.out (by simp [impl_FuseRows.j0])
  | succ kj2 =>
   have H := HA.out; clear HA
   simp only [impl_FuseRows.j0] at H
   by_cases c31 : x25_2 = true
   ·subst c31
    rw [if_pos rfl] at H; have H1 := H; clear H; have H := H1; clear H1
    simp only [Option.some.injEq, Prod.mk.injEq] at H
    obtain ⟨rfl, rfl⟩ := H; have hnb32 := NB173_171.out; have hnc32 := NB171_173.out; have hnb33 := NB173_172.out; have hnc33 := NB172_173.out
    have hcz34_0 := bc0 BK173.out
    have hfz34_0 := blk_frozen BK173.out 0
    go_wp2
    repeat (go_quiet (fail); try go_wp2)
    refine bodyPost_ret (results_ct rfl _ _ gb173 60 #[.slice none 0 0] (0, 0) _ rfl (by (with_reducible repeat (first | refine blk_drewN ?_ _ | refine blk_drew ?_ | refine blk_alloc ?_ _)); refine blk_put (cs := #[.slice none 0 0]) ?_ 0 _ rfl; (with_reducible repeat (first | refine blk_drewN ?_ _ | refine blk_drew ?_ | refine blk_alloc ?_ _)); exact BK173.out) Try.underlying60 rfl (by kernel_rfl)) rfl ?_
    exact ⟨_, rlT, by first | exact Kd.R_nil _ _ _ _ _ | exact Kd.N_nil _ _ _ _ _ | exact Kd.V_nil _ _ _ _ _ | exact Kd.Q_nil _ _ _ _ _ | exact Kd.S_nil _ _ _ _ _, hbT HB.out⟩
   ·replace c31 := Bool.eq_false_iff.mpr c31
    subst c31; rw [if_neg nF] at H; have H' := Aside0.mk H; clear H
    go_wp2_with (first | ((with_reducible refine gate_dst (N := 6) rfl ?_); (try (refine gate_guard (by rfl) ?_; dsimp only)); refine boxT (N := 6) (cs := #[.slice none 0 0]) (t := 60) ?_; intro gb176 hg w35 hbox hb; have BK176 := asT (hbox); have GW176 := asT (geT hg HB.out); have GE176 := asT (geT hg HB.out); replace HB := hS HB hb; have NB171_176 := asT ((by rw [hg]; exact Nat.ne_of_lt (blk_lt (bkT BK171.out)) : gb171 ≠ gb176)); have NB176_171 := asT ((by rw [hg]; exact Nat.ne_of_gt (blk_lt (bkT BK171.out)) : gb176 ≠ gb171)); replace BK171 := bS BK171 hb; have NB172_176 := asT ((by rw [hg]; exact Nat.ne_of_lt (blk_lt (bkT BK172.out)) : gb172 ≠ gb176)); have NB176_172 := asT ((by rw [hg]; exact Nat.ne_of_gt (blk_lt (bkT BK172.out)) : gb176 ≠ gb172)); replace BK172 := bS BK172 hb; have NB173_176 := asT ((by rw [hg]; exact Nat.ne_of_lt (blk_lt (bkT BK173.out)) : gb173 ≠ gb176)); have NB176_173 := asT ((by rw [hg]; exact Nat.ne_of_gt (blk_lt (bkT BK173.out)) : gb176 ≠ gb173)); replace BK173 := bS BK173 hb; clear hb hbox hg; have hnb36 := NB176_171.out; have hnc36 := NB171_176.out; have hnb37 := NB176_172.out; have hnc37 := NB172_176.out; have hnb38 := NB176_173.out; have hnc38 := NB173_176.out; obtain ⟨hcz39_0, hfz39_0⟩ := bx1 BK176.out; have hnb40 := NB171_172.out; have hnc40 := NB172_171.out; have hnb41 := NB171_173.out; have hnc41 := NB173_171.out; obtain ⟨hcz42_0, hfz42_0⟩ := bx1 BK171.out))
    repeat (go_quiet (first | ((with_reducible refine gate_dst (N := 6) rfl ?_); (try (refine gate_guard (by rfl) ?_; dsimp only)); refine boxT (N := 6) (cs := #[.slice none 0 0]) (t := 60) ?_; intro gb176 hg w35 hbox hb; have BK176 := asT (hbox); have GW176 := asT (geT hg HB.out); have GE176 := asT (geT hg HB.out); replace HB := hS HB hb; have NB171_176 := asT ((by rw [hg]; exact Nat.ne_of_lt (blk_lt (bkT BK171.out)) : gb171 ≠ gb176)); have NB176_171 := asT ((by rw [hg]; exact Nat.ne_of_gt (blk_lt (bkT BK171.out)) : gb176 ≠ gb171)); replace BK171 := bS BK171 hb; have NB172_176 := asT ((by rw [hg]; exact Nat.ne_of_lt (blk_lt (bkT BK172.out)) : gb172 ≠ gb176)); have NB176_172 := asT ((by rw [hg]; exact Nat.ne_of_gt (blk_lt (bkT BK172.out)) : gb176 ≠ gb172)); replace BK172 := bS BK172 hb; have NB173_176 := asT ((by rw [hg]; exact Nat.ne_of_lt (blk_lt (bkT BK173.out)) : gb173 ≠ gb176)); have NB176_173 := asT ((by rw [hg]; exact Nat.ne_of_gt (blk_lt (bkT BK173.out)) : gb176 ≠ gb173)); replace BK173 := bS BK173 hb; clear hb hbox hg; have hnb36 := NB176_171.out; have hnc36 := NB171_176.out; have hnb37 := NB176_172.out; have hnc37 := NB172_176.out; have hnb38 := NB176_173.out; have hnc38 := NB173_176.out; obtain ⟨hcz39_0, hfz39_0⟩ := bx1 BK176.out; have hnb40 := NB171_172.out; have hnc40 := NB172_171.out; have hnb41 := NB171_173.out; have hnc41 := NB173_171.out; obtain ⟨hcz42_0, hfz42_0⟩ := bx1 BK171.out)); try go_wp2_with (first | ((with_reducible refine gate_dst (N := 6) rfl ?_); (try (refine gate_guard (by rfl) ?_; dsimp only)); refine boxT (N := 6) (cs := #[.slice none 0 0]) (t := 60) ?_; intro gb176 hg w35 hbox hb; have BK176 := asT (hbox); have GW176 := asT (geT hg HB.out); have GE176 := asT (geT hg HB.out); replace HB := hS HB hb; have NB171_176 := asT ((by rw [hg]; exact Nat.ne_of_lt (blk_lt (bkT BK171.out)) : gb171 ≠ gb176)); have NB176_171 := asT ((by rw [hg]; exact Nat.ne_of_gt (blk_lt (bkT BK171.out)) : gb176 ≠ gb171)); replace BK171 := bS BK171 hb; have NB172_176 := asT ((by rw [hg]; exact Nat.ne_of_lt (blk_lt (bkT BK172.out)) : gb172 ≠ gb176)); have NB176_172 := asT ((by rw [hg]; exact Nat.ne_of_gt (blk_lt (bkT BK172.out)) : gb176 ≠ gb172)); replace BK172 := bS BK172 hb; have NB173_176 := asT ((by rw [hg]; exact Nat.ne_of_lt (blk_lt (bkT BK173.out)) : gb173 ≠ gb176)); have NB176_173 := asT ((by rw [hg]; exact Nat.ne_of_gt (blk_lt (bkT BK173.out)) : gb176 ≠ gb173)); replace BK173 := bS BK173 hb; clear hb hbox hg; have hnb36 := NB176_171.out; have hnc36 := NB171_176.out; have hnb37 := NB176_172.out; have hnc37 := NB172_176.out; have hnb38 := NB176_173.out; have hnc38 := NB173_176.out; obtain ⟨hcz39_0, hfz39_0⟩ := bx1 BK176.out; have hnb40 := NB171_172.out; have hnc40 := NB172_171.out; have hnb41 := NB171_173.out; have hnc41 := NB173_171.out; obtain ⟨hcz42_0, hfz42_0⟩ := bx1 BK171.out)))
    go_loopg [31] kj2 (fun kq v31 w' => ∃ (x31_2 : Int) (x177000_2 : List Int) (u177000 : Value), v31 = .int .i64 x31_2 ∧ Aside0 (impl_FuseRows.l0 kq (l0_0.length : Int) x31_2 l0_0 l1_0 x177000_2 = some (r1, r2)) ∧ Aside0 (kq ≤ kj2) ∧ Aside0 (Kd.R (Kd.int .i64) 3 w' w.heap.size (fun _ => True) u177000 x177000_2) ∧ Aside0 (w'.heap[gb171]? = some (.cells #[(.slice A0_0 l0_0.length c0_0)] 60 (0, 0))) ∧ Aside0 (w'.heap[gb172]? = some (.cells #[(.slice A1_0 l1_0.length c1_0)] 60 (0, 0))) ∧ Aside0 (w'.heap[gb173]? = some (.cells #[(.slice none 0 0)] 60 (0, 0))) ∧ Aside0 (w'.heap[gb176]? = some (.cells #[u177000] 60 (0, 0))) ∧ Aside0 (Below w.heap.size w w'))
    case atStart => exact ⟨(0), (([] : List Int)), (.slice none 0 0), rdT, H', ⟨Nat.le_refl _⟩, ⟨by first | exact Kd.R_nil _ _ _ _ _ | exact Kd.N_nil _ _ _ _ _ | exact Kd.V_nil _ _ _ _ _ | exact Kd.Q_nil _ _ _ _ _ | exact Kd.S_nil _ _ _ _ _⟩, ⟨by (with_reducible repeat (first | refine blk_drewN ?_ _ | refine blk_drew ?_ | refine blk_alloc ?_ _)); refine blk_far ?_ NB171_176.out _; (with_reducible repeat (first | refine blk_drewN ?_ _ | refine blk_drew ?_ | refine blk_alloc ?_ _)); exact BK171.out⟩, ⟨by (with_reducible repeat (first | refine blk_drewN ?_ _ | refine blk_drew ?_ | refine blk_alloc ?_ _)); refine blk_far ?_ NB172_176.out _; (with_reducible repeat (first | refine blk_drewN ?_ _ | refine blk_drew ?_ | refine blk_alloc ?_ _)); exact BK172.out⟩, ⟨by (with_reducible repeat (first | refine blk_drewN ?_ _ | refine blk_drew ?_ | refine blk_alloc ?_ _)); refine blk_far ?_ NB173_176.out _; (with_reducible repeat (first | refine blk_drewN ?_ _ | refine blk_drew ?_ | refine blk_alloc ?_ _)); exact BK173.out⟩, ⟨by (with_reducible repeat (first | refine blk_drewN ?_ _ | refine blk_drew ?_ | refine blk_alloc ?_ _)); refine blk_put (cs := #[.slice none 0 0]) ?_ 0 _ rfl; (with_reducible repeat (first | refine blk_drewN ?_ _ | refine blk_drew ?_ | refine blk_alloc ?_ _)); exact BK176.out⟩, ⟨hbT HB.out⟩⟩
    case round =>
     clear H'; (try clear c1 c2 p2 c3 c4 c8 c10 c11 c12 c15 c20 c21 c24 c27 c28 c31 c32 c33 c36 c37 c38 c40 c41 hcz13_0 hcz16_0 hcz18_0 hcz19_0 hcz22_0 hcz25_0 hcz29_0 hcz34_0 hcz39_0 hcz42_0 hfz13_0 hfz16_0 hfz18_0 hfz19_0 hfz22_0 hfz25_0 hfz29_0 hfz34_0 hfz39_0 hfz42_0 p2); obtain ⟨x31_2, x177000_2, u177000, rfl, HA, HK2, HO_177000, BK171, BK172, BK173, BK176, HB⟩ := hrel
     cases gk with
     | zero => exact absurd HA.out (by simp [impl_FuseRows.l0])
     | succ k2 =>
      have H := HA.out; clear HA
      simp only [impl_FuseRows.l0] at H
      by_cases c43 : x31_2 < (l0_0.length : Int)
      ·rw [if_pos c43] at H
       have c43b0 : decide (x31_2 < (l0_0.length : Int)) = true := decide_eq_true c43
       clear c43
       by_cases c44 : 0 ≤ x31_2
       ·rw [if_pos c44] at H
        have c44b0 : decide (0 ≤ x31_2) = true := decide_eq_true c44
        clear c44
        by_cases c45 : x31_2 < (l0_0.length : Int)
        ·rw [if_pos c45] at H
         have c45b0 : decide (x31_2 < (l0_0.length : Int)) = true := decide_eq_true c45
         clear c45
         by_cases c46 : x31_2 < (l1_0.length : Int)
         ·rw [if_pos c46] at H
          have c46b0 : decide (x31_2 < (l1_0.length : Int)) = true := decide_eq_true c46
          clear c46; obtain ⟨ji47, hji47⟩ : ∃ j_ : Int, (mx (rd l0_0 x31_2) (rd l1_0 x31_2)) = j_ := ⟨_, rfl⟩
          replace H : (if (mn (rd l0_0 x31_2) (rd l1_0 x31_2)) < 0 then (if x177000_2.length < 17592186044416 then (impl_FuseRows.l0 k2 (l0_0.length : Int) (wrap64 (x31_2 + 1)) l0_0 l1_0 (x177000_2 ++ [(-1)])) else (none)) else (if x177000_2.length < 17592186044416 then (impl_FuseRows.l0 k2 (l0_0.length : Int) (wrap64 (x31_2 + 1)) l0_0 l1_0 (x177000_2 ++ [ji47])) else (none))) = some (r1, r2) := by first | (rw [hji47] at H; exact H) | (simp only [hji47] at H ⊢; exact H)
          have hji47_ : (if (rd l0_0 x31_2) < (rd l1_0 x31_2) then (rd l1_0 x31_2) else (rd l0_0 x31_2)) = ji47 := hji47
          obtain ⟨ji48, hji48⟩ : ∃ j_ : Int, (mn (rd l0_0 x31_2) (rd l1_0 x31_2)) = j_ := ⟨_, rfl⟩
          replace H : (if (ji48) < 0 then (if x177000_2.length < 17592186044416 then (impl_FuseRows.l0 k2 (l0_0.length : Int) (wrap64 (x31_2 + 1)) l0_0 l1_0 (x177000_2 ++ [(-1)])) else (none)) else (if x177000_2.length < 17592186044416 then (impl_FuseRows.l0 k2 (l0_0.length : Int) (wrap64 (x31_2 + 1)) l0_0 l1_0 (x177000_2 ++ [ji47])) else (none))) = some (r1, r2) := by first | (rw [hji48] at H; exact H) | (simp only [hji48] at H ⊢; exact H)
          have hji48_ : (if (rd l1_0 x31_2) < (rd l0_0 x31_2) then (rd l1_0 x31_2) else (rd l0_0 x31_2)) = ji48 := hji48
          by_cases c49 : (ji48) < 0
          ·rw [if_pos c49] at H
           have c49b0 : decide ((ji48) < 0) = true := decide_eq_true c49
           clear c49
           by_cases c50 : x177000_2.length < 17592186044416
           ·rw [if_pos c50] at H
            have LMc50 := Aside0.mk c50; clear c50; obtain ⟨y181, hy181⟩ : ∃ y_ : List Int, y_ = (x177000_2 ++ [(-1)]) := ⟨_, rfl⟩
            replace H : (impl_FuseRows.l0 k2 (l0_0.length : Int) (wrap64 (x31_2 + 1)) l0_0 l1_0 y181) = some (r1, r2) := by first | (rw [hy181]; with_reducible exact H) | (have H2_ := (Option.bind_some _ _).symm.trans H; rw [hy181]; with_reducible exact H2_) | (have H2_ := (Option.bind_some _ _).symm.trans H; with_reducible exact H2_) | with_reducible exact H | (rw [hy181]; exact H) | exact H
            have Ny181 := Aside0.mk hy181; clear hy181; have H' := Aside0.mk H; clear H; have hnb51 := NB171_172.out; have hnc51 := NB172_171.out; have hnb52 := NB171_173.out; have hnc52 := NB173_171.out; have hnb53 := NB171_176.out; have hnc53 := NB176_171.out
            have hcz54_0 := bc0 BK171.out
            have hfz54_0 := blk_frozen BK171.out 0
            have p177 : 0 ≤ (x31_2 : Int) := of_decide_eq_true asmT
            have q177 : x31_2 < (l0_0.length : Int) := of_decide_eq_true asmT
            obtain ⟨ad177, e177, hx177_0⟩ := Kd.at_int HR0_0.out x31_2 p177 q177
            cases e177
            replace hx177_0 := hbc HB.out hx177_0; replace p177 := eq_true p177; replace q177 := eq_true q177; have hnb55 := NB172_173.out; have hnc55 := NB173_172.out; have hnb56 := NB172_176.out; have hnc56 := NB176_172.out
            have hcz57_0 := bc0 BK172.out
            have hfz57_0 := blk_frozen BK172.out 0
            have p178 : 0 ≤ (x31_2 : Int) := of_decide_eq_true asmT
            have q178 : x31_2 < (l1_0.length : Int) := of_decide_eq_true asmT
            obtain ⟨ad178, e178, hx178_0⟩ := Kd.at_int HR1_0.out x31_2 p178 q178
            cases e178
            replace hx178_0 := hbc HB.out hx178_0; replace p178 := eq_true p178; replace q178 := eq_true q178
            have p179 : 0 ≤ (x31_2 : Int) := of_decide_eq_true asmT
            have q179 : x31_2 < (l0_0.length : Int) := of_decide_eq_true asmT
            obtain ⟨ad179, e179, hx179_0⟩ := Kd.at_int HR0_0.out x31_2 p179 q179
            obtain rfl : ad177 = ad179 := (by injection e179)
            replace hx179_0 := hbc HB.out hx179_0; replace p179 := eq_true p179; replace q179 := eq_true q179
            have p180 : 0 ≤ (x31_2 : Int) := of_decide_eq_true asmT
            have q180 : x31_2 < (l1_0.length : Int) := of_decide_eq_true asmT
            obtain ⟨ad180, e180, hx180_0⟩ := Kd.at_int HR1_0.out x31_2 p180 q180
            obtain rfl : ad178 = ad180 := (by injection e180)
            replace hx180_0 := hbc HB.out hx180_0; replace p180 := eq_true p180; replace q180 := eq_true q180; have hnb58 := NB176_173.out; have hnc58 := NB173_176.out
            have hcz59_0 := bc0 BK176.out
            have hfz59_0 := blk_frozen BK176.out 0
            go_wp2_with (first | ((with_reducible refine gate_builtin (b := .append) (xs := #[.tmp 58, .tmp 60]) rfl ?_); (try (refine gate_guard (by rfl) ?_; dsimp only)); at_builtin; refine Kd.R_append (Kd.int .i64) (w0 := w) w.heap.size rfl (.tmp 58) (.tmp 60) 58 3 (.int .i64 0) 8 rfl Try.underlying58 info3 rfl (by decide) (by omega) u177000 x177000_2 (-1) [.int .i64 (-1)] (fun _ => True) (fun _ => False) rfl rfl ?aP (fun _ hk => hk.elim) ?aF ?aO ?aB ?aS ?aL ?_; (case aP => exact rfl); (case aB => exact (hbT HB.out)); (case aF => exact (fun _ _ => trivial)); (case aO => exact (roT HO_177000.out)); (case aS => exact (below_size (hbT HB.out))); (case aL => have := LMc50.out; omega); intro v182 w60 ho hb hg hat; rw [← Ny181.out] at ho; replace BK171 := asT (blk_grown (g := gb171) (o := .cells #[.slice (some ad177) l0_0.length c0_0] 60 (0, 0)) (bkT BK171.out) hg (Kd.R_ne HO_177000.out BK171.out (by decide))); replace BK172 := asT (blk_grown (g := gb172) (o := .cells #[.slice (some ad178) l1_0.length c1_0] 60 (0, 0)) (bkT BK172.out) hg (Kd.R_ne HO_177000.out BK172.out (by decide))); replace BK173 := asT (blk_grown (g := gb173) (o := .cells #[.slice none 0 0] 60 (0, 0)) (bkT BK173.out) hg (Kd.R_ne HO_177000.out BK173.out (by decide))); replace BK176 := asT (blk_grown (g := gb176) (o := .cells #[u177000] 60 (0, 0)) (bkT BK176.out) hg (Kd.R_ne HO_177000.out BK176.out (by decide))); replace HB := asT (hb); have HO183 := asT (ho); clear HO_177000 ho hb hg hat; obtain ⟨Ao61, co61, eo61⟩ := Kd.R_slice HO183.out; subst eo61; obtain ⟨hcz62_0, hfz62_0⟩ := bx1 BK176.out))
            repeat (go_quiet (first | ((with_reducible refine gate_builtin (b := .append) (xs := #[.tmp 58, .tmp 60]) rfl ?_); (try (refine gate_guard (by rfl) ?_; dsimp only)); at_builtin; refine Kd.R_append (Kd.int .i64) (w0 := w) w.heap.size rfl (.tmp 58) (.tmp 60) 58 3 (.int .i64 0) 8 rfl Try.underlying58 info3 rfl (by decide) (by omega) u177000 x177000_2 (-1) [.int .i64 (-1)] (fun _ => True) (fun _ => False) rfl rfl ?aP (fun _ hk => hk.elim) ?aF ?aO ?aB ?aS ?aL ?_; (case aP => exact rfl); (case aB => exact (hbT HB.out)); (case aF => exact (fun _ _ => trivial)); (case aO => exact (roT HO_177000.out)); (case aS => exact (below_size (hbT HB.out))); (case aL => have := LMc50.out; omega); intro v182 w60 ho hb hg hat; rw [← Ny181.out] at ho; replace BK171 := asT (blk_grown (g := gb171) (o := .cells #[.slice (some ad177) l0_0.length c0_0] 60 (0, 0)) (bkT BK171.out) hg (Kd.R_ne HO_177000.out BK171.out (by decide))); replace BK172 := asT (blk_grown (g := gb172) (o := .cells #[.slice (some ad178) l1_0.length c1_0] 60 (0, 0)) (bkT BK172.out) hg (Kd.R_ne HO_177000.out BK172.out (by decide))); replace BK173 := asT (blk_grown (g := gb173) (o := .cells #[.slice none 0 0] 60 (0, 0)) (bkT BK173.out) hg (Kd.R_ne HO_177000.out BK173.out (by decide))); replace BK176 := asT (blk_grown (g := gb176) (o := .cells #[u177000] 60 (0, 0)) (bkT BK176.out) hg (Kd.R_ne HO_177000.out BK176.out (by decide))); replace HB := asT (hb); have HO183 := asT (ho); clear HO_177000 ho hb hg hat; obtain ⟨Ao61, co61, eo61⟩ := Kd.R_slice HO183.out; subst eo61; obtain ⟨hcz62_0, hfz62_0⟩ := bx1 BK176.out)); try go_wp2_with (first | ((with_reducible refine gate_builtin (b := .append) (xs := #[.tmp 58, .tmp 60]) rfl ?_); (try (refine gate_guard (by rfl) ?_; dsimp only)); at_builtin; refine Kd.R_append (Kd.int .i64) (w0 := w) w.heap.size rfl (.tmp 58) (.tmp 60) 58 3 (.int .i64 0) 8 rfl Try.underlying58 info3 rfl (by decide) (by omega) u177000 x177000_2 (-1) [.int .i64 (-1)] (fun _ => True) (fun _ => False) rfl rfl ?aP (fun _ hk => hk.elim) ?aF ?aO ?aB ?aS ?aL ?_; (case aP => exact rfl); (case aB => exact (hbT HB.out)); (case aF => exact (fun _ _ => trivial)); (case aO => exact (roT HO_177000.out)); (case aS => exact (below_size (hbT HB.out))); (case aL => have := LMc50.out; omega); intro v182 w60 ho hb hg hat; rw [← Ny181.out] at ho; replace BK171 := asT (blk_grown (g := gb171) (o := .cells #[.slice (some ad177) l0_0.length c0_0] 60 (0, 0)) (bkT BK171.out) hg (Kd.R_ne HO_177000.out BK171.out (by decide))); replace BK172 := asT (blk_grown (g := gb172) (o := .cells #[.slice (some ad178) l1_0.length c1_0] 60 (0, 0)) (bkT BK172.out) hg (Kd.R_ne HO_177000.out BK172.out (by decide))); replace BK173 := asT (blk_grown (g := gb173) (o := .cells #[.slice none 0 0] 60 (0, 0)) (bkT BK173.out) hg (Kd.R_ne HO_177000.out BK173.out (by decide))); replace BK176 := asT (blk_grown (g := gb176) (o := .cells #[u177000] 60 (0, 0)) (bkT BK176.out) hg (Kd.R_ne HO_177000.out BK176.out (by decide))); replace HB := asT (hb); have HO183 := asT (ho); clear HO_177000 ho hb hg hat; obtain ⟨Ao61, co61, eo61⟩ := Kd.R_slice HO183.out; subst eo61; obtain ⟨hcz62_0, hfz62_0⟩ := bx1 BK176.out)))
            go_roundg k2
            case measure => have := HJ2.out; have := HK2.out; omega
            case rel => exact ⟨(wrap64 (x31_2 + 1)), (y181), (.slice Ao61 y181.length co61), rdT, H', ⟨by have := HJ2.out; have := HK2.out; omega⟩, ⟨by (with_reducible repeat (first | apply Kd.R_alloc | apply Kd.R_drewN | apply Kd.R_drew)); exact Kd.R_mono (Kd.R_far (p := ⟨gb176, 0, none⟩) (Kd.R_types HO183.out BK176.out (by decide)) (fun _ hk => hk.2) (.slice Ao61 y181.length co61)) (fun _ hk => trivial)⟩, ⟨by (with_reducible repeat (first | refine blk_drewN ?_ _ | refine blk_drew ?_ | refine blk_alloc ?_ _)); refine blk_far ?_ NB171_176.out _; (with_reducible repeat (first | refine blk_drewN ?_ _ | refine blk_drew ?_ | refine blk_alloc ?_ _)); exact BK171.out⟩, ⟨by (with_reducible repeat (first | refine blk_drewN ?_ _ | refine blk_drew ?_ | refine blk_alloc ?_ _)); refine blk_far ?_ NB172_176.out _; (with_reducible repeat (first | refine blk_drewN ?_ _ | refine blk_drew ?_ | refine blk_alloc ?_ _)); exact BK172.out⟩, ⟨by (with_reducible repeat (first | refine blk_drewN ?_ _ | refine blk_drew ?_ | refine blk_alloc ?_ _)); refine blk_far ?_ NB173_176.out _; (with_reducible repeat (first | refine blk_drewN ?_ _ | refine blk_drew ?_ | refine blk_alloc ?_ _)); exact BK173.out⟩, ⟨by (with_reducible repeat (first | refine blk_drewN ?_ _ | refine blk_drew ?_ | refine blk_alloc ?_ _)); refine blk_put (cs := #[u177000]) ?_ 0 _ rfl; (with_reducible repeat (first | refine blk_drewN ?_ _ | refine blk_drew ?_ | refine blk_alloc ?_ _)); exact BK176.out⟩, ⟨hbT HB.out⟩⟩
           ·rw [if_neg c50] at H
            exact absurd H (by simp)
          ·rw [if_neg c49] at H
           have c49b0 : decide ((ji48) < 0) = false := decide_eq_false c49
           clear c49
           by_cases c63 : x177000_2.length < 17592186044416
           ·rw [if_pos c63] at H
            have LMc63 := Aside0.mk c63; clear c63; obtain ⟨y184, hy184⟩ : ∃ y_ : List Int, y_ = (x177000_2 ++ [ji47]) := ⟨_, rfl⟩
            replace H : (impl_FuseRows.l0 k2 (l0_0.length : Int) (wrap64 (x31_2 + 1)) l0_0 l1_0 y184) = some (r1, r2) := by first | (rw [hy184]; with_reducible exact H) | (have H2_ := (Option.bind_some _ _).symm.trans H; rw [hy184]; with_reducible exact H2_) | (have H2_ := (Option.bind_some _ _).symm.trans H; with_reducible exact H2_) | with_reducible exact H | (rw [hy184]; exact H) | exact H
            have Ny184 := Aside0.mk hy184; clear hy184; have H' := Aside0.mk H; clear H; have hnb64 := NB171_172.out; have hnc64 := NB172_171.out; have hnb65 := NB171_173.out; have hnc65 := NB173_171.out; have hnb66 := NB171_176.out; have hnc66 := NB176_171.out
            have hcz67_0 := bc0 BK171.out
            have hfz67_0 := blk_frozen BK171.out 0
            have p177 : 0 ≤ (x31_2 : Int) := of_decide_eq_true asmT
            have q177 : x31_2 < (l0_0.length : Int) := of_decide_eq_true asmT
            obtain ⟨ad177, e177, hx177_0⟩ := Kd.at_int HR0_0.out x31_2 p177 q177
            cases e177
            replace hx177_0 := hbc HB.out hx177_0; replace p177 := eq_true p177; replace q177 := eq_true q177; have hnb68 := NB172_173.out; have hnc68 := NB173_172.out; have hnb69 := NB172_176.out; have hnc69 := NB176_172.out
            have hcz70_0 := bc0 BK172.out
            have hfz70_0 := blk_frozen BK172.out 0
            have p178 : 0 ≤ (x31_2 : Int) := of_decide_eq_true asmT
            have q178 : x31_2 < (l1_0.length : Int) := of_decide_eq_true asmT
            obtain ⟨ad178, e178, hx178_0⟩ := Kd.at_int HR1_0.out x31_2 p178 q178
            cases e178
            replace hx178_0 := hbc HB.out hx178_0; replace p178 := eq_true p178; replace q178 := eq_true q178
            have p179 : 0 ≤ (x31_2 : Int) := of_decide_eq_true asmT
            have q179 : x31_2 < (l0_0.length : Int) := of_decide_eq_true asmT
            obtain ⟨ad179, e179, hx179_0⟩ := Kd.at_int HR0_0.out x31_2 p179 q179
            obtain rfl : ad177 = ad179 := (by injection e179)
            replace hx179_0 := hbc HB.out hx179_0; replace p179 := eq_true p179; replace q179 := eq_true q179
            have p180 : 0 ≤ (x31_2 : Int) := of_decide_eq_true asmT
            have q180 : x31_2 < (l1_0.length : Int) := of_decide_eq_true asmT
            obtain ⟨ad180, e180, hx180_0⟩ := Kd.at_int HR1_0.out x31_2 p180 q180
            obtain rfl : ad178 = ad180 := (by injection e180)
            replace hx180_0 := hbc HB.out hx180_0; replace p180 := eq_true p180; replace q180 := eq_true q180; have hnb71 := NB176_173.out; have hnc71 := NB173_176.out
            have hcz72_0 := bc0 BK176.out
            have hfz72_0 := blk_frozen BK176.out 0
            go_wp2_with (first | ((with_reducible refine gate_builtin (b := .append) (xs := #[.tmp 58, .tmp 60]) rfl ?_); (try (refine gate_guard (by rfl) ?_; dsimp only)); at_builtin; refine Kd.R_append (Kd.int .i64) (w0 := w) w.heap.size rfl (.tmp 58) (.tmp 60) 58 3 (.int .i64 0) 8 rfl Try.underlying58 info3 rfl (by decide) (by omega) u177000 x177000_2 ji47 [.int .i64 ji47] (fun _ => True) (fun _ => False) rfl rfl ?aP (fun _ hk => hk.elim) ?aF ?aO ?aB ?aS ?aL ?_; (case aP => exact rfl); (case aB => exact (hbT HB.out)); (case aF => exact (fun _ _ => trivial)); (case aO => exact (roT HO_177000.out)); (case aS => exact (below_size (hbT HB.out))); (case aL => have := LMc63.out; omega); intro v185 w73 ho hb hg hat; rw [← Ny184.out] at ho; replace BK171 := asT (blk_grown (g := gb171) (o := .cells #[.slice (some ad177) l0_0.length c0_0] 60 (0, 0)) (bkT BK171.out) hg (Kd.R_ne HO_177000.out BK171.out (by decide))); replace BK172 := asT (blk_grown (g := gb172) (o := .cells #[.slice (some ad178) l1_0.length c1_0] 60 (0, 0)) (bkT BK172.out) hg (Kd.R_ne HO_177000.out BK172.out (by decide))); replace BK173 := asT (blk_grown (g := gb173) (o := .cells #[.slice none 0 0] 60 (0, 0)) (bkT BK173.out) hg (Kd.R_ne HO_177000.out BK173.out (by decide))); replace BK176 := asT (blk_grown (g := gb176) (o := .cells #[u177000] 60 (0, 0)) (bkT BK176.out) hg (Kd.R_ne HO_177000.out BK176.out (by decide))); replace HB := asT (hb); have HO186 := asT (ho); clear HO_177000 ho hb hg hat; obtain ⟨Ao74, co74, eo74⟩ := Kd.R_slice HO186.out; subst eo74; obtain ⟨hcz75_0, hfz75_0⟩ := bx1 BK176.out))
            repeat (go_quiet (first | ((with_reducible refine gate_builtin (b := .append) (xs := #[.tmp 58, .tmp 60]) rfl ?_); (try (refine gate_guard (by rfl) ?_; dsimp only)); at_builtin; refine Kd.R_append (Kd.int .i64) (w0 := w) w.heap.size rfl (.tmp 58) (.tmp 60) 58 3 (.int .i64 0) 8 rfl Try.underlying58 info3 rfl (by decide) (by omega) u177000 x177000_2 ji47 [.int .i64 ji47] (fun _ => True) (fun _ => False) rfl rfl ?aP (fun _ hk => hk.elim) ?aF ?aO ?aB ?aS ?aL ?_; (case aP => exact rfl); (case aB => exact (hbT HB.out)); (case aF => exact (fun _ _ => trivial)); (case aO => exact (roT HO_177000.out)); (case aS => exact (below_size (hbT HB.out))); (case aL => have := LMc63.out; omega); intro v185 w73 ho hb hg hat; rw [← Ny184.out] at ho; replace BK171 := asT (blk_grown (g := gb171) (o := .cells #[.slice (some ad177) l0_0.length c0_0] 60 (0, 0)) (bkT BK171.out) hg (Kd.R_ne HO_177000.out BK171.out (by decide))); replace BK172 := asT (blk_grown (g := gb172) (o := .cells #[.slice (some ad178) l1_0.length c1_0] 60 (0, 0)) (bkT BK172.out) hg (Kd.R_ne HO_177000.out BK172.out (by decide))); replace BK173 := asT (blk_grown (g := gb173) (o := .cells #[.slice none 0 0] 60 (0, 0)) (bkT BK173.out) hg (Kd.R_ne HO_177000.out BK173.out (by decide))); replace BK176 := asT (blk_grown (g := gb176) (o := .cells #[u177000] 60 (0, 0)) (bkT BK176.out) hg (Kd.R_ne HO_177000.out BK176.out (by decide))); replace HB := asT (hb); have HO186 := asT (ho); clear HO_177000 ho hb hg hat; obtain ⟨Ao74, co74, eo74⟩ := Kd.R_slice HO186.out; subst eo74; obtain ⟨hcz75_0, hfz75_0⟩ := bx1 BK176.out)); try go_wp2_with (first | ((with_reducible refine gate_builtin (b := .append) (xs := #[.tmp 58, .tmp 60]) rfl ?_); (try (refine gate_guard (by rfl) ?_; dsimp only)); at_builtin; refine Kd.R_append (Kd.int .i64) (w0 := w) w.heap.size rfl (.tmp 58) (.tmp 60) 58 3 (.int .i64 0) 8 rfl Try.underlying58 info3 rfl (by decide) (by omega) u177000 x177000_2 ji47 [.int .i64 ji47] (fun _ => True) (fun _ => False) rfl rfl ?aP (fun _ hk => hk.elim) ?aF ?aO ?aB ?aS ?aL ?_; (case aP => exact rfl); (case aB => exact (hbT HB.out)); (case aF => exact (fun _ _ => trivial)); (case aO => exact (roT HO_177000.out)); (case aS => exact (below_size (hbT HB.out))); (case aL => have := LMc63.out; omega); intro v185 w73 ho hb hg hat; rw [← Ny184.out] at ho; replace BK171 := asT (blk_grown (g := gb171) (o := .cells #[.slice (some ad177) l0_0.length c0_0] 60 (0, 0)) (bkT BK171.out) hg (Kd.R_ne HO_177000.out BK171.out (by decide))); replace BK172 := asT (blk_grown (g := gb172) (o := .cells #[.slice (some ad178) l1_0.length c1_0] 60 (0, 0)) (bkT BK172.out) hg (Kd.R_ne HO_177000.out BK172.out (by decide))); replace BK173 := asT (blk_grown (g := gb173) (o := .cells #[.slice none 0 0] 60 (0, 0)) (bkT BK173.out) hg (Kd.R_ne HO_177000.out BK173.out (by decide))); replace BK176 := asT (blk_grown (g := gb176) (o := .cells #[u177000] 60 (0, 0)) (bkT BK176.out) hg (Kd.R_ne HO_177000.out BK176.out (by decide))); replace HB := asT (hb); have HO186 := asT (ho); clear HO_177000 ho hb hg hat; obtain ⟨Ao74, co74, eo74⟩ := Kd.R_slice HO186.out; subst eo74; obtain ⟨hcz75_0, hfz75_0⟩ := bx1 BK176.out)))
            go_roundg k2
            case measure => have := HJ2.out; have := HK2.out; omega
            case rel => exact ⟨(wrap64 (x31_2 + 1)), (y184), (.slice Ao74 y184.length co74), rdT, H', ⟨by have := HJ2.out; have := HK2.out; omega⟩, ⟨by (with_reducible repeat (first | apply Kd.R_alloc | apply Kd.R_drewN | apply Kd.R_drew)); exact Kd.R_mono (Kd.R_far (p := ⟨gb176, 0, none⟩) (Kd.R_types HO186.out BK176.out (by decide)) (fun _ hk => hk.2) (.slice Ao74 y184.length co74)) (fun _ hk => trivial)⟩, ⟨by (with_reducible repeat (first | refine blk_drewN ?_ _ | refine blk_drew ?_ | refine blk_alloc ?_ _)); refine blk_far ?_ NB171_176.out _; (with_reducible repeat (first | refine blk_drewN ?_ _ | refine blk_drew ?_ | refine blk_alloc ?_ _)); exact BK171.out⟩, ⟨by (with_reducible repeat (first | refine blk_drewN ?_ _ | refine blk_drew ?_ | refine blk_alloc ?_ _)); refine blk_far ?_ NB172_176.out _; (with_reducible repeat (first | refine blk_drewN ?_ _ | refine blk_drew ?_ | refine blk_alloc ?_ _)); exact BK172.out⟩, ⟨by (with_reducible repeat (first | refine blk_drewN ?_ _ | refine blk_drew ?_ | refine blk_alloc ?_ _)); refine blk_far ?_ NB173_176.out _; (with_reducible repeat (first | refine blk_drewN ?_ _ | refine blk_drew ?_ | refine blk_alloc ?_ _)); exact BK173.out⟩, ⟨by (with_reducible repeat (first | refine blk_drewN ?_ _ | refine blk_drew ?_ | refine blk_alloc ?_ _)); refine blk_put (cs := #[u177000]) ?_ 0 _ rfl; (with_reducible repeat (first | refine blk_drewN ?_ _ | refine blk_drew ?_ | refine blk_alloc ?_ _)); exact BK176.out⟩, ⟨hbT HB.out⟩⟩
           ·rw [if_neg c63] at H
            exact absurd H (by simp)
         ·rw [if_neg c46] at H
          exact absurd H (by simp)
        ·rw [if_neg c45] at H
         exact absurd H (by simp)
       ·rw [if_neg c44] at H
        exact absurd H (by simp)
      ·rw [if_neg c43] at H
       have c43b0 : decide (x31_2 < (l0_0.length : Int)) = false := decide_eq_false c43
       clear c43
       simp only [Option.some.injEq, Prod.mk.injEq] at H
       obtain ⟨rfl, rfl⟩ := H; have hnb76 := NB176_171.out; have hnc76 := NB171_176.out; have hnb77 := NB176_172.out; have hnc77 := NB172_176.out; have hnb78 := NB176_173.out; have hnc78 := NB173_176.out
       have hcz79_0 := bc0 BK176.out
       have hfz79_0 := blk_frozen BK176.out 0; obtain ⟨Ao80, co80, eo80⟩ := Kd.R_slice HO_177000.out; subst eo80; have hnb81 := NB173_171.out; have hnc81 := NB171_173.out; have hnb82 := NB173_172.out; have hnc82 := NB172_173.out
       have hcz83_0 := bc0 BK173.out
       have hfz83_0 := blk_frozen BK173.out 0
       go_wp2
       repeat (go_quiet (fail); try go_wp2)
       refine bodyPost_ret (results_ct rfl _ _ gb173 60 #[.slice Ao80 x177000_2.length co80] (0, 0) _ rfl (by (with_reducible repeat (first | refine blk_drewN ?_ _ | refine blk_drew ?_ | refine blk_alloc ?_ _)); refine blk_put (cs := #[.slice none 0 0]) ?_ 0 _ rfl; (with_reducible repeat (first | refine blk_drewN ?_ _ | refine blk_drew ?_ | refine blk_alloc ?_ _)); exact BK173.out) Try.underlying60 rfl (by kernel_rfl)) rfl ?_
       exact ⟨_, rlT, by (with_reducible repeat (first | apply Kd.R_alloc | apply Kd.R_drewN | apply Kd.R_drew)); exact Kd.R_mono (Kd.R_far (p := ⟨gb173, 0, none⟩) (Kd.R_types HO_177000.out BK173.out (by decide)) (fun _ hk => hk.2) (.slice Ao80 x177000_2.length co80)) (fun _ hk => trivial), hbT HB.out⟩

/-! ### impl_FuseAll: function 58 -/
def impl_FuseAll.l0 : Nat → List (S60) → Int → Int → List Int → Option (List Int × Bool)
 | 0, _, _, _, _ => none
 | k + 1, x23, x24, x25, x196000 => if x25 < x24 then (if 0 ≤ x25 then (if x25 < (x23.length : Int) then ((impl_FuseRows.f k x196000 ((rd_T60 x23 x25).f0)).bind fun bt198 => (if bt198.2 = true then (impl_FuseAll.l0 k x23 x24 (wrap64 (x25 + 1)) bt198.1) else (some (([] : List Int), false)))) else (none)) else (none)) else (some (x196000, true))
def impl_FuseAll.f (k : Nat) (l0 : List (S60)) : Option (List Int × Bool) := (impl_within.f (l0.length : Int) 1 20).bind fun t188 => (if t188 = true then (if 0 < (l0.length : Int) then ((impl_FuseRows.f k ((rd_T60 l0 0).f0) ((rd_T60 l0 0).f0)).bind fun bt191 => (impl_FuseAll.l0 k l0 (l0.length : Int) 0 bt191.1)) else (none)) else (some (([] : List Int), false)))
theorem impl_FuseAll.mono_l : ∀ k, (∀ y0 y1 y2 y3, LeO (impl_FuseAll.l0 k y0 y1 y2 y3) (impl_FuseAll.l0 (k + 1) y0 y1 y2 y3))
 | 0 => fun _ _ _ _ r h => by simp [impl_FuseAll.l0] at h
 | k + 1 => by
  have ih0 := impl_FuseAll.mono_l k
  ·intro y0 y1 y2 y3
   unfold impl_FuseAll.l0
   with_reducible repeat' first | exact ih0 _ _ _ _ | exact impl_FuseRows.mono _ _ _ | exact LeO.refl _ | exact LeO.none _ | refine LeO.ite ?_ ?_ | refine LeO.bind ?_ (fun _ => ?_)
theorem impl_FuseAll.mono : ∀ a0 k, LeO (impl_FuseAll.f k a0) (impl_FuseAll.f (k + 1) a0) := by
 intro a0 k
 have ih0 := impl_FuseAll.mono_l k
 unfold impl_FuseAll.f
 with_reducible repeat' first | exact ih0 _ _ _ _ | exact impl_FuseRows.mono _ _ _ | exact LeO.refl _ | exact LeO.none _ | refine LeO.ite ?_ ?_ | refine LeO.bind ?_ (fun _ => ?_)
def impl_FuseAll.T3 : Bool × List (List Nat × List Nat) := (true, [([], []), ([0], [0]), ([1], [1]), ([], []), ([3], [3]), ([4], [4]), ([2, 5], [2, 5]), ([6], [6]), ([7], [7]), ([7], [7]), ([], []), ([10, 8, 6, 0, 1, 2, 3, 4, 5, 6, 7, 8, 10], [8, 10]), ([9, 11, 0, 1, 2, 3, 4, 5, 6, 7, 8, 9, 10, 11], [9])])
def impl_FuseAll.B3 : List Nat := [0, 1, 3, 0, 8, 24, 63, 127, 255, 255, 0, 1535, 4095]
theorem impl_FuseAll.tab3 : rtab .any (opsOf Try.f58 3) = impl_FuseAll.T3 := by kernel_rfl
theorem impl_FuseAll.bits3 : waitsOk impl_FuseAll.T3.2 impl_FuseAll.B3 = true := by kernel_rfl
set_option maxHeartbeats 8000000 in
set_option maxRecDepth 100000 in
theorem impl_FuseAll.calls (k : Nat) (A0 : Option Addr) (c0 : Nat) (l0 : List (S60)) (r1 : List Int) (r2 : Bool) (w : World) (hr0 : Kd.C k60 w A0 l0.length l0) (hc0 : l0.length ≤ c0) (h : impl_FuseAll.f k l0 = some (r1, r2)) :
  Calls Try.prog 58 #[.slice A0 l0.length c0] w fun e w' => ∃ v0_ : Value, e = .returned (.tuple #[.agg #[v0_], .bool r2]) ∧ Kd.R (Kd.int .i64) 3 w' w.heap.size (fun _ => True) v0_ r1 ∧ Below w.heap.size w w' := by
 have hu60 := Try.underlying60; have HR0 := Aside0.mk hr0; have HC0 := Aside0.mk hc0; clear hr0 hc0; have HB := asT (Below.refl w.heap.size w); have H := h; unfold impl_FuseAll.f at H; clear h; obtain ⟨t188, A2, H⟩ := be H
 by_cases c3 : t188 = true
 ·subst c3
  rw [if_pos rfl] at H; have H1 := H; clear H; have H := H1; clear H1
  by_cases c4 : 0 < (l0.length : Int)
  ·rw [if_pos c4] at H
   have c4b0 : decide (0 < (l0.length : Int)) = true := decide_eq_true c4
   have c4b1 : decide (0 < l0.length) = true := decide_eq_true (by omega)
   clear c4; replace H := Option.bind_eq_some_iff.mp H; obtain ⟨⟨t191, t194⟩, A50, H⟩ := H; replace H : (impl_FuseAll.l0 k l0 (l0.length : Int) 0 t191) = some (r1, r2) := H; have A5 := Aside0.mk A50; clear A50; have H' := Aside0.mk H; clear H
   go_enter Try.func58, Try.ntmps58
   try go_wp2_with (first | ((with_reducible refine gate_dst (N := 2) rfl ?_); refine boxT (N := 2) (cs := #[.slice none 0 0]) (t := 60) ?_; intro gb187 hg w6 hbox hb; have BK187 := asT hbox; have GW187 := asT (geT hg HB.out); have GE187 := GW187; replace HB := hS HB hb; clear hb hbox hg) | ((with_reducible refine gate_callee (f := 105) rfl ?_); refine goesL_ (some 10) rfl rfl Try.func105 (by kernel_rfl) rfl #[.int .i64 (l0.length : Int), .int .i64 1, .int .i64 20] rfl eqT ?_; (with_reducible refine (impl_within.calls (l0.length : Int) 1 20 true _ A2.out).mono ?_); rintro e w' ⟨rfl, ⟨nd, rfl⟩⟩; refine ⟨_, rfl, ?_⟩; (try (rw [drewN_self w6]; generalize hq_ : World.drewN w6 _ = w6; have n0_ : Aside0 (w6.heap[gb187]? = some (.cells #[.slice none 0 0] 60 (0, 0))) := ⟨by rw [← hq_]; exact (bkT BK187.out)⟩; have n1_ : Aside0 (Below w.heap.size w w6) := ⟨by rw [← hq_]; exact (hbT HB.out)⟩; clear BK187 HB hq_; have BK187 := n0_; have HB := n1_; clear n0_ n1_))))
   replace BK187 := asT (blk_drew BK187.out); replace HB := asT (below_drew1 HB.out)
   have p189 : 0 ≤ (0 : Int) := (by omega)
   have q189 : 0 < (l0.length : Int) := of_decide_eq_true asmT
   obtain ⟨ad189, A189_0, c189_0, e189, hx189_0, hl189_0, hi189_0⟩ := at_T60 HR0.out 0 p189 q189; have hw189_0 := hx189_0
   (try rw [show ((0 : Int)).toNat = 0 from rfl] at hw189_0)
   (try rw [show 0 * 1 = 0 from rfl] at hw189_0)
   (try rw [Addr.add_zero'] at hw189_0)
   cases e189
   have qi189 : (0 < l0.length) = True := eq_true (by omega)
   (try rw [show ((0 : Int)).toNat = 0 from rfl] at hx189_0)
   (try rw [Addr.add_zero'] at hx189_0)
   replace hx189_0 := hbc HB.out hx189_0; have HR189_0 := Aside0.mk hi189_0; have HC189_0 := Aside0.mk hl189_0; clear hi189_0 hl189_0; replace p189 := eq_true p189; replace q189 := eq_true q189
   have p190 : 0 ≤ (0 : Int) := (by omega)
   have q190 : 0 < (l0.length : Int) := of_decide_eq_true asmT
   obtain ⟨ad190, A190_0, c190_0, e190, hx190_0, hl190_0, hi190_0⟩ := at_T60 HR0.out 0 p190 q190; have hw190_0 := hx190_0
   (try rw [show ((0 : Int)).toNat = 0 from rfl] at hw190_0)
   (try rw [show 0 * 1 = 0 from rfl] at hw190_0)
   (try rw [Addr.add_zero'] at hw190_0)
   obtain rfl : ad189 = ad190 := (by injection e190)
   have qi190 : (0 < l0.length) = True := eq_true (by omega)
   (try rw [show ((0 : Int)).toNat = 0 from rfl] at hx190_0)
   (try rw [Addr.add_zero'] at hx190_0)
   replace hx190_0 := hbc HB.out hx190_0; have HR190_0 := Aside0.mk hi190_0; have HC190_0 := Aside0.mk hl190_0; clear hi190_0 hl190_0; replace p190 := eq_true p190; replace q190 := eq_true q190; have ea_ := Option.some.inj (hx189_0.symm.trans hx190_0)
   injection ea_ with ea_ en_ ec_
   subst ea_; subst ec_; clear en_
   refine start_ (n := 13) (S := fun w' => w'.cell? ad189 = some (.slice A189_0 ((rd_T60 l0 0).f0).length c189_0) ∧ w'.cell? ad189 = some (.slice A189_0 ((rd_T60 l0 0).f0).length c189_0)) (ds := []) (bA 13 0) (by kernel_rfl) rfl rfl ⟨(hbc HB.out hw189_0 :), (hbc HB.out hw190_0 :)⟩ (fun hHeld => ?_); refine with_tabW impl_FuseAll.tab3 impl_FuseAll.bits3 (fun HT_ HW_ => ?_)
   generalize w6.drew = w7 at BK187 HB HR189_0 HR190_0 hx189_0 hx190_0 hHeld ⊢
   refine pA 0 14 13 1 HT_.out ?_ rfl rfl; refine pA 1 15 13 3 HT_.out ?_ rfl rfl; refine pA 3 17 13 11 HT_.out ?_ rfl rfl; refine pA 4 18 13 27 HT_.out ?_ rfl rfl; refine tA 2 16 13 31 HT_.out HW_.out hHeld ?_ rfl rfl; refine tA 5 19 13 63 HT_.out HW_.out hHeld ?_ rfl rfl
   refine join_ (σ := Value × Nat) 2 (bA 13 2047) (fun s_ => [(20, .tuple #[.agg #[s_.1], .bool t194]), (4, .pointer (some ⟨s_.2, 0, none⟩)), (13, .tuple #[.agg #[s_.1], .bool t194]), (21, .agg #[s_.1]), (22, .bool t194)]) (fun s_ w' => (w'.cell? ad189 = some (.slice A189_0 ((rd_T60 l0 0).f0).length c189_0) ∧ w'.cell? ad189 = some (.slice A189_0 ((rd_T60 l0 0).f0).length c189_0)) ∧ (Kd.R (Kd.int .i64) 3 w' w.heap.size (fun _ => True) s_.1 t191) ∧ (w'.heap[gb187]? = some (.cells #[.slice none 0 0] 60 (0, 0))) ∧ (w'.heap[s_.2]? = some (.cells #[.slice none 0 0] 60 (0, 0))) ∧ (w.heap.size ≤ s_.2) ∧ (w.heap.size ≤ s_.2) ∧ (gb187 ≠ s_.2) ∧ (s_.2 ≠ gb187) ∧ (Below w.heap.size w w')) ?_ ?_
   rotate_left
   ·intro hCont
    refine two_ (i := 6) (j := 10) (Ni := some 20) (Nj := some 4) (bA 13 127) (bA 13 1087) rfl rfl rfl rfl (two_of HT_.out (by kernel_rfl)) (by decide) (by decide) (fun K hK => ?_) (fun K hK => ?_)
    ·skip
     refine goes_ Try.func116 (by kernel_rfl) rfl #[.agg #[.slice A189_0 ((rd_T60 l0 0).f0).length c189_0], .agg #[.slice A189_0 ((rd_T60 l0 0).f0).length c189_0]] (by rfl) rfl rfl eqT ?_
     (with_reducible refine (impl_FuseRows.calls k _ _ ((rd_T60 l0 0).f0) _ _ ((rd_T60 l0 0).f0) t191 t194 _ ?side1 ?side2 ?side3 ?side4 A5.out).mono ?_); (case side1 => exact crT HR189_0.out HB.out); (case side2 => exact HC189_0.out); (case side3 => exact crT HR190_0.out HB.out); (case side4 => exact HC190_0.out); rintro e w8 ⟨v192, rfl, ho0, hb⟩; refine ⟨_, rfl, ?_⟩; have HO193 := asT (Kd.R_lower ho0 (below_size (hbT HB.out))); replace BK187 := bS BK187 hb; replace HB := hS HB hb; (try clear hb hb2 hk hi ho0)
     refine hK.out _ _ ⟨(hbc HB.out hw189_0 :), (hbc HB.out hw190_0 :)⟩ (fun hHeld => ?_)
     clear hK K
     refine nB 20 ?_ rfl; refine pA 7 13 13 255 HT_.out ?_ rfl rfl; refine pA 8 21 13 511 HT_.out ?_ rfl rfl; refine pA 9 22 13 1023 HT_.out ?_ rfl rfl
     refine oA 10 4 13 2047 HT_.out (fun K hK => ?_) rfl rfl
     refine box_step ?hg (N := 4) ?hd (cs := #[.slice none 0 0]) (t := 60) ?hr ?_; (case hd => rfl); (case hg => rfl); (case hr => first | (go_simp; done) | (go_simp; rfl))
     intro gb195 hg w9 hbox hb
     replace HO193 := asT (Kd.R_below (roT HO193.out) hb); have BK195 := asT (hbox); have GW195 := asT (geT hg HB.out); have GE195 := asT (geT hg HB.out); replace HB := hS HB hb; have NB187_195 := asT ((by rw [hg]; exact Nat.ne_of_lt (blk_lt (bkT BK187.out)) : gb187 ≠ gb195)); have NB195_187 := asT ((by rw [hg]; exact Nat.ne_of_gt (blk_lt (bkT BK187.out)) : gb195 ≠ gb187)); replace BK187 := bS BK187 hb; clear hb hbox hg
     refine hK.out _ _ ⟨(hbc HB.out hw189_0 :), (hbc HB.out hw190_0 :)⟩ (fun hHeld => ?_)
     clear hK K
     refine nB 4 ?_ rfl
     exact norm_ (by simp only [putAll, Act.put, sA, sZ, sS]) (hCont (v192, gb195) _ ⟨hHeld, (roT HO193.out), (bkT BK187.out), (bkT BK195.out), GW195.out, GE195.out, NB187_195.out, NB195_187.out, (hbT HB.out)⟩)
    ·skip
     refine box_step ?hg (N := 4) ?hd (cs := #[.slice none 0 0]) (t := 60) ?hr ?_; (case hd => rfl); (case hg => rfl); (case hr => first | (go_simp; done) | (go_simp; rfl))
     intro gb195 hg w8 hbox hb
     have BK195 := asT (hbox); have GW195 := asT (geT hg HB.out); have GE195 := asT (geT hg HB.out); replace HB := hS HB hb; have NB187_195 := asT ((by rw [hg]; exact Nat.ne_of_lt (blk_lt (bkT BK187.out)) : gb187 ≠ gb195)); have NB195_187 := asT ((by rw [hg]; exact Nat.ne_of_gt (blk_lt (bkT BK187.out)) : gb195 ≠ gb187)); replace BK187 := bS BK187 hb; clear hb hbox hg
     refine hK.out _ _ ⟨(hbc HB.out hw189_0 :), (hbc HB.out hw190_0 :)⟩ (fun hHeld => ?_)
     clear hK K
     refine nB 4 ?_ rfl
     refine oA 6 20 13 1151 HT_.out (fun K hK => ?_) rfl rfl
     refine goes_ Try.func116 (by kernel_rfl) rfl #[.agg #[.slice A189_0 ((rd_T60 l0 0).f0).length c189_0], .agg #[.slice A189_0 ((rd_T60 l0 0).f0).length c189_0]] (by rfl) rfl rfl eqT ?_
     (with_reducible refine (impl_FuseRows.calls k _ _ ((rd_T60 l0 0).f0) _ _ ((rd_T60 l0 0).f0) t191 t194 _ ?side1 ?side2 ?side3 ?side4 A5.out).mono ?_); (case side1 => exact crT HR189_0.out HB.out); (case side2 => exact HC189_0.out); (case side3 => exact crT HR190_0.out HB.out); (case side4 => exact HC190_0.out); rintro e w9 ⟨v192, rfl, ho0, hb⟩; refine ⟨_, rfl, ?_⟩; have HO193 := asT (Kd.R_lower ho0 (below_size (hbT HB.out))); replace BK187 := bS BK187 hb; replace BK195 := bS BK195 hb; replace HB := hS HB hb; (try clear hb hb2 hk hi ho0)
     refine hK.out _ _ ⟨(hbc HB.out hw189_0 :), (hbc HB.out hw190_0 :)⟩ (fun hHeld => ?_)
     clear hK K
     refine nB 20 ?_ rfl; refine pA 7 13 13 1279 HT_.out ?_ rfl rfl; refine pA 8 21 13 1535 HT_.out ?_ rfl rfl; refine pA 9 22 13 2047 HT_.out ?_ rfl rfl
     exact norm_ (by simp only [putAll, Act.put, sA, sZ, sS]) (hCont (v192, gb195) _ ⟨hHeld, (roT HO193.out), (bkT BK187.out), (bkT BK195.out), GW195.out, GE195.out, NB187_195.out, NB195_187.out, (hbT HB.out)⟩)
   rintro ⟨v192, gb195⟩ w10 ⟨hS_, h0_, h1_, h2_, h3_, h4_, h5_, h6_, h7_⟩
   have n0_ : Aside0 (Kd.R (Kd.int .i64) 3 w10 w.heap.size (fun _ => True) v192 t191) := ⟨h0_⟩
   have n1_ : Aside0 (w10.heap[gb187]? = some (.cells #[.slice none 0 0] 60 (0, 0))) := ⟨h1_⟩
   have n2_ : Aside0 (w10.heap[gb195]? = some (.cells #[.slice none 0 0] 60 (0, 0))) := ⟨h2_⟩
   have n3_ : Aside0 (w.heap.size ≤ gb195) := ⟨h3_⟩
   have n4_ : Aside0 (w.heap.size ≤ gb195) := ⟨h4_⟩
   have n5_ : Aside0 (gb187 ≠ gb195) := ⟨h5_⟩
   have n6_ : Aside0 (gb195 ≠ gb187) := ⟨h6_⟩
   have n7_ : Aside0 (Below w.heap.size w w10) := ⟨h7_⟩
   clear BK187 HB h0_ h1_ h2_ h3_ h4_ h5_ h6_ h7_; have HO193 := n0_; have BK187 := n1_; have BK195 := n2_; have GW195 := n3_; have GE195 := n4_; have NB187_195 := n5_; have NB195_187 := n6_; have HB := n7_; clear n0_ n1_ n2_ n3_ n4_ n5_ n6_ n7_
   have hHeld : w10.cell? ad189 = some (.slice A189_0 ((rd_T60 l0 0).f0).length c189_0) ∧ w10.cell? ad189 = some (.slice A189_0 ((rd_T60 l0 0).f0).length c189_0) := hS_
   obtain ⟨Ao11, co11, eo11⟩ := Kd.R_slice HO193.out; (first | subst eo11 | (injection eo11 with f1_ f2_ f3_; have f4_ := f1_.symm; have f5_ := f3_.symm; clear f1_ f2_ f3_; subst f4_; subst f5_))
   refine norm_ (a' := ?_) ?_ ?_
   rotate_left
   ·simp only [putAll, Act.put, sA, sZ, sS]
    rfl
   refine one_ (i := 11) (N := none) (bA 13 4095) rfl rfl (one_of HT_.out (by kernel_rfl)) (by decide) (fun K hK => ?_)
   have hs12 : w10.cell? ⟨gb195, 0, none⟩ = some (.slice none 0 0) := (blk_cell BK195.out 0).trans rfl
   have hfs12 := blk_frozen BK195.out 0; have hns12_0 := NB187_195.out; have hms12_0 := NB195_187.out
   refine skip_ (w1 := ?_) (by rfl) rfl ?_ ?_
   rotate_left
   ·go_simp
    rfl
   refine hK.out _ _ ⟨((cell_far (p := ⟨gb195, _, none⟩) (by first | exact Nat.ne_of_lt (Nat.lt_of_lt_of_le (by have := World.block_lt_of_cell? _ _ hw189_0; first | rwa [add_block] at this | exact this) GW195.out) | (rw [add_block]; exact Nat.ne_of_lt (Nat.lt_of_lt_of_le (by have := World.block_lt_of_cell? _ _ hw189_0; first | rwa [add_block] at this | exact this) GW195.out)) | (show (Addr.add _ _).block ≠ _; rw [add_block]; exact Nat.ne_of_lt (Nat.lt_of_lt_of_le (by have := World.block_lt_of_cell? _ _ hw189_0; first | rwa [add_block] at this | exact this) GW195.out)) | (dsimp only; exact Nat.ne_of_lt (Nat.lt_of_lt_of_le (by have := World.block_lt_of_cell? _ _ hw189_0; first | rwa [add_block] at this | exact this) GW195.out))) _).trans (hHeld.1)), ((cell_far (p := ⟨gb195, _, none⟩) (by first | exact Nat.ne_of_lt (Nat.lt_of_lt_of_le (by have := World.block_lt_of_cell? _ _ hw190_0; first | rwa [add_block] at this | exact this) GW195.out) | (rw [add_block]; exact Nat.ne_of_lt (Nat.lt_of_lt_of_le (by have := World.block_lt_of_cell? _ _ hw190_0; first | rwa [add_block] at this | exact this) GW195.out)) | (show (Addr.add _ _).block ≠ _; rw [add_block]; exact Nat.ne_of_lt (Nat.lt_of_lt_of_le (by have := World.block_lt_of_cell? _ _ hw190_0; first | rwa [add_block] at this | exact this) GW195.out)) | (dsimp only; exact Nat.ne_of_lt (Nat.lt_of_lt_of_le (by have := World.block_lt_of_cell? _ _ hw190_0; first | rwa [add_block] at this | exact this) GW195.out))) _).trans (hHeld.2))⟩ (fun hHeld => ?_)
   clear hK K
   refine pA 12 5 13 8191 HT_.out ?_ rfl rfl
   refine done_ (done_of HT_.out (by kernel_rfl)) ?_
   try go_wp2
   go_loopg [25] k (fun kq v25 w' => ∃ (x25_1 : Int) (x196000_1 : List Int) (u196000 : Value), v25 = .int .i64 x25_1 ∧ Aside0 (impl_FuseAll.l0 kq l0 (l0.length : Int) x25_1 x196000_1 = some (r1, r2)) ∧ Aside0 (kq ≤ k) ∧ Aside0 (Kd.R (Kd.int .i64) 3 w' w.heap.size (fun _ => True) u196000 x196000_1) ∧ Aside0 (w'.heap[gb187]? = some (.cells #[(.slice none 0 0)] 60 (0, 0))) ∧ Aside0 (w'.heap[gb195]? = some (.cells #[u196000] 60 (0, 0))) ∧ Aside0 (Below w.heap.size w w'))
   case atStart => exact ⟨(0), (t191), (.slice Ao11 t191.length co11), rdT, H', ⟨Nat.le_refl _⟩, ⟨by (with_reducible repeat (first | apply Kd.R_alloc | apply Kd.R_drewN | apply Kd.R_drew)); exact Kd.R_mono (Kd.R_far (p := ⟨gb195, 0, none⟩) (Kd.R_types HO193.out BK195.out (by decide)) (fun _ hk => hk.2) (.slice Ao11 t191.length co11)) (fun _ hk => trivial)⟩, ⟨by (with_reducible repeat (first | refine blk_drewN ?_ _ | refine blk_drew ?_ | refine blk_alloc ?_ _)); refine blk_far ?_ NB187_195.out _; (with_reducible repeat (first | refine blk_drewN ?_ _ | refine blk_drew ?_ | refine blk_alloc ?_ _)); exact BK187.out⟩, ⟨by (with_reducible repeat (first | refine blk_drewN ?_ _ | refine blk_drew ?_ | refine blk_alloc ?_ _)); refine blk_put (cs := #[.slice none 0 0]) ?_ 0 _ rfl; (with_reducible repeat (first | refine blk_drewN ?_ _ | refine blk_drew ?_ | refine blk_alloc ?_ _)); exact BK195.out⟩, ⟨hbT HB.out⟩⟩
   case round =>
    clear H'; (try clear c1 p1 q1 hx1 qi1 p2 c3 c4 c4b0 c4b1 c5 c10 c11 hx189_0 hx190_0 p189 p190 q189 q190); obtain ⟨x25_1, x196000_1, u196000, rfl, HA, HK1, HO_196000, BK187, BK195, HB⟩ := hrel
    cases gk with
    | zero => exact absurd HA.out (by simp [impl_FuseAll.l0])
    | succ k1 =>
     have H := HA.out; clear HA
     simp only [impl_FuseAll.l0] at H
     by_cases c13 : x25_1 < (l0.length : Int)
     ·rw [if_pos c13] at H
      have c13b0 : decide (x25_1 < (l0.length : Int)) = true := decide_eq_true c13
      clear c13
      by_cases c14 : 0 ≤ x25_1
      ·rw [if_pos c14] at H
       have c14b0 : decide (0 ≤ x25_1) = true := decide_eq_true c14
       clear c14
       by_cases c15 : x25_1 < (l0.length : Int)
       ·rw [if_pos c15] at H
        have c15b0 : decide (x25_1 < (l0.length : Int)) = true := decide_eq_true c15
        clear c15; replace H := Option.bind_eq_some_iff.mp H; obtain ⟨⟨t198, t201⟩, A160, H⟩ := H; replace H : (if t201 = true then (impl_FuseAll.l0 k1 l0 (l0.length : Int) (wrap64 (x25_1 + 1)) t198) else (some (([] : List Int), false))) = some (r1, r2) := H; have A16 := Aside0.mk A160; clear A160
        by_cases c17 : t201 = true
        ·subst c17
         rw [if_pos rfl] at H; have H' := Aside0.mk H; clear H
         have p196 : 0 ≤ (x25_1 : Int) := of_decide_eq_true asmT
         have q196 : x25_1 < (l0.length : Int) := of_decide_eq_true asmT
         obtain ⟨ad196, A196_0, c196_0, e196, hx196_0, hl196_0, hi196_0⟩ := at_T60 HR0.out x25_1 p196 q196
         obtain rfl : ad189 = ad196 := (by injection e196)
         replace hx196_0 := hbc HB.out hx196_0; have HR196_0 := Aside0.mk hi196_0; have HC196_0 := Aside0.mk hl196_0; clear hi196_0 hl196_0; replace p196 := eq_true p196; replace q196 := eq_true q196
         go_wp2_with (first | ((with_reducible refine gate_dst (N := 7) rfl ?_); refine boxT (N := 7) (cs := #[.slice none 0 0]) (t := 60) ?_; intro gb197 hg w18 hbox hb; replace HO_196000 := asT (Kd.R_below (roT HO_196000.out) hb); have BK197 := asT (hbox); have GW197 := asT (geT hg HB.out); have GE197 := asT (geT hg HB.out); replace HB := hS HB hb; have NB187_197 := asT ((by rw [hg]; exact Nat.ne_of_lt (blk_lt (bkT BK187.out)) : gb187 ≠ gb197)); have NB197_187 := asT ((by rw [hg]; exact Nat.ne_of_gt (blk_lt (bkT BK187.out)) : gb197 ≠ gb187)); replace BK187 := bS BK187 hb; have NB195_197 := asT ((by rw [hg]; exact Nat.ne_of_lt (blk_lt (bkT BK195.out)) : gb195 ≠ gb197)); have NB197_195 := asT ((by rw [hg]; exact Nat.ne_of_gt (blk_lt (bkT BK195.out)) : gb197 ≠ gb195)); replace BK195 := bS BK195 hb; clear hb hbox hg; have hnb19 := NB197_187.out; have hnc19 := NB187_197.out; have hnb20 := NB197_195.out; have hnc20 := NB195_197.out; obtain ⟨hcz21_0, hfz21_0⟩ := bx1 BK197.out; have hnb22 := NB195_187.out; have hnc22 := NB187_195.out; obtain ⟨hcz23_0, hfz23_0⟩ := bx1 BK195.out; obtain ⟨Ao24, co24, eo24⟩ := Kd.R_slice HO_196000.out; subst eo24) | ((with_reducible refine gate_callee (f := 116) rfl ?_); refine goesL_ (some 32) rfl rfl Try.func116 (by kernel_rfl) rfl #[.agg #[.slice Ao24 x196000_1.length co24], .agg #[.slice A196_0 ((rd_T60 l0 x25_1).f0).length c196_0]] rfl eqT ?_; (with_reducible refine (impl_FuseRows.calls k1 _ _ x196000_1 _ _ ((rd_T60 l0 x25_1).f0) t198 true _ ?side1 ?side2 ?side3 ?side4 A16.out).mono ?_); (case side1 => refine (Kd.R_reads' (e := 3) (base := w.heap.size) (ok := fun k_ => True) (n := x196000_1.length) (c := co24) ?_).2.2; exact (by (with_reducible repeat (first | apply Kd.R_alloc | apply Kd.R_drewN | apply Kd.R_drew)); exact (Kd.R_mono (Kd.R_far (p := ⟨gb197, 0, none⟩) (Kd.R_types HO_196000.out BK197.out (by decide)) (fun _ hk => hk.2) (.slice A196_0 ((rd_T60 l0 x25_1).f0).length c196_0)) (fun _ h_ => h_.1)))); (case side2 => exact (Kd.R_reads' HO_196000.out).2.1); (case side3 => exact Kd.C_below HR196_0.out (hbT HB.out)); (case side4 => exact HC196_0.out); rintro e w25 ⟨v199, rfl, ho0, hb⟩; refine ⟨_, rfl, ?_⟩; have HO200 := asT (Kd.R_lower (Kd.R_new' ho0 (Kd.R_lt (by (with_reducible repeat (first | apply Kd.R_alloc | apply Kd.R_drewN | apply Kd.R_drew)); exact (Kd.R_mono (Kd.R_far (p := ⟨gb197, 0, none⟩) (Kd.R_types HO_196000.out BK197.out (by decide)) (fun _ hk => hk.2) (.slice A196_0 ((rd_T60 l0 x25_1).f0).length c196_0)) (fun _ h_ => h_.1))))) (below_size (hbT HB.out))); replace HO_196000 := asT (Kd.R_elder' (by (with_reducible repeat (first | apply Kd.R_alloc | apply Kd.R_drewN | apply Kd.R_drew)); exact (Kd.R_mono (Kd.R_far (p := ⟨gb197, 0, none⟩) (Kd.R_types HO_196000.out BK197.out (by decide)) (fun _ hk => hk.2) (.slice A196_0 ((rd_T60 l0 x25_1).f0).length c196_0)) (fun _ h_ => h_.1))) (Kd.R_base ho0) hb); replace BK187 := asT (blk_below (g := gb187) (o := .cells #[.slice none 0 0] 60 (0, 0)) (by (with_reducible repeat (first | refine blk_drewN ?_ _ | refine blk_drew ?_ | refine blk_alloc ?_ _)); refine blk_far ?_ NB187_197.out _; (with_reducible repeat (first | refine blk_drewN ?_ _ | refine blk_drew ?_ | refine blk_alloc ?_ _)); exact BK187.out) hb); replace BK195 := asT (blk_below (g := gb195) (o := .cells #[.slice Ao24 x196000_1.length co24] 60 (0, 0)) (by (with_reducible repeat (first | refine blk_drewN ?_ _ | refine blk_drew ?_ | refine blk_alloc ?_ _)); refine blk_far ?_ NB195_197.out _; (with_reducible repeat (first | refine blk_drewN ?_ _ | refine blk_drew ?_ | refine blk_alloc ?_ _)); exact BK195.out) hb); replace BK197 := asT (blk_below (g := gb197) (o := .cells #[.slice A196_0 ((rd_T60 l0 x25_1).f0).length c196_0] 60 (0, 0)) (by (with_reducible repeat (first | refine blk_drewN ?_ _ | refine blk_drew ?_ | refine blk_alloc ?_ _)); refine blk_put (cs := #[.slice none 0 0]) ?_ 0 _ rfl; (with_reducible repeat (first | refine blk_drewN ?_ _ | refine blk_drew ?_ | refine blk_alloc ?_ _)); exact BK197.out) hb); replace HB := hS HB hb; (try clear hb hb2 hk hi ho0); obtain ⟨Ao26, co26, eo26⟩ := Kd.R_slice HO200.out; subst eo26; obtain ⟨hcz27_0, hfz27_0⟩ := bx1 BK195.out))
         go_roundg k1
         case measure => have := HK1.out; omega
         case rel => exact ⟨(wrap64 (x25_1 + 1)), (t198), (.slice Ao26 t198.length co26), rdT, H', ⟨by have := HK1.out; omega⟩, ⟨by (with_reducible repeat (first | apply Kd.R_alloc | apply Kd.R_drewN | apply Kd.R_drew)); exact Kd.R_mono (Kd.R_far (p := ⟨gb195, 0, none⟩) (Kd.R_types HO200.out BK195.out (by decide)) (fun _ hk => hk.2) (.slice Ao26 t198.length co26)) (fun _ hk => trivial)⟩, ⟨by (with_reducible repeat (first | refine blk_drewN ?_ _ | refine blk_drew ?_ | refine blk_alloc ?_ _)); refine blk_far ?_ NB187_195.out _; (with_reducible repeat (first | refine blk_drewN ?_ _ | refine blk_drew ?_ | refine blk_alloc ?_ _)); exact BK187.out⟩, ⟨by (with_reducible repeat (first | refine blk_drewN ?_ _ | refine blk_drew ?_ | refine blk_alloc ?_ _)); refine blk_put (cs := #[.slice Ao24 x196000_1.length co24]) ?_ 0 _ rfl; (with_reducible repeat (first | refine blk_drewN ?_ _ | refine blk_drew ?_ | refine blk_alloc ?_ _)); exact BK195.out⟩, ⟨hbT HB.out⟩⟩
        ·replace c17 := Bool.eq_false_iff.mpr c17
         subst c17; rw [if_neg nF] at H; have H1 := H; clear H; have H := H1; clear H1
         simp only [Option.some.injEq, Prod.mk.injEq] at H
         obtain ⟨rfl, rfl⟩ := H
         have p196 : 0 ≤ (x25_1 : Int) := of_decide_eq_true asmT
         have q196 : x25_1 < (l0.length : Int) := of_decide_eq_true asmT
         obtain ⟨ad196, A196_0, c196_0, e196, hx196_0, hl196_0, hi196_0⟩ := at_T60 HR0.out x25_1 p196 q196
         obtain rfl : ad189 = ad196 := (by injection e196)
         replace hx196_0 := hbc HB.out hx196_0; have HR196_0 := Aside0.mk hi196_0; have HC196_0 := Aside0.mk hl196_0; clear hi196_0 hl196_0; replace p196 := eq_true p196; replace q196 := eq_true q196
         go_wp2_with (first | ((with_reducible refine gate_dst (N := 7) rfl ?_); refine boxT (N := 7) (cs := #[.slice none 0 0]) (t := 60) ?_; intro gb197 hg w28 hbox hb; replace HO_196000 := asT (Kd.R_below (roT HO_196000.out) hb); have BK197 := asT (hbox); have GW197 := asT (geT hg HB.out); have GE197 := asT (geT hg HB.out); replace HB := hS HB hb; have NB187_197 := asT ((by rw [hg]; exact Nat.ne_of_lt (blk_lt (bkT BK187.out)) : gb187 ≠ gb197)); have NB197_187 := asT ((by rw [hg]; exact Nat.ne_of_gt (blk_lt (bkT BK187.out)) : gb197 ≠ gb187)); replace BK187 := bS BK187 hb; have NB195_197 := asT ((by rw [hg]; exact Nat.ne_of_lt (blk_lt (bkT BK195.out)) : gb195 ≠ gb197)); have NB197_195 := asT ((by rw [hg]; exact Nat.ne_of_gt (blk_lt (bkT BK195.out)) : gb197 ≠ gb195)); replace BK195 := bS BK195 hb; clear hb hbox hg; have hnb29 := NB197_187.out; have hnc29 := NB187_197.out; have hnb30 := NB197_195.out; have hnc30 := NB195_197.out; obtain ⟨hcz31_0, hfz31_0⟩ := bx1 BK197.out; have hnb32 := NB195_187.out; have hnc32 := NB187_195.out; obtain ⟨hcz33_0, hfz33_0⟩ := bx1 BK195.out; obtain ⟨Ao34, co34, eo34⟩ := Kd.R_slice HO_196000.out; subst eo34) | ((with_reducible refine gate_callee (f := 116) rfl ?_); refine goesL_ (some 32) rfl rfl Try.func116 (by kernel_rfl) rfl #[.agg #[.slice Ao34 x196000_1.length co34], .agg #[.slice A196_0 ((rd_T60 l0 x25_1).f0).length c196_0]] rfl eqT ?_; (with_reducible refine (impl_FuseRows.calls k1 _ _ x196000_1 _ _ ((rd_T60 l0 x25_1).f0) t198 false _ ?side1 ?side2 ?side3 ?side4 A16.out).mono ?_); (case side1 => refine (Kd.R_reads' (e := 3) (base := w.heap.size) (ok := fun k_ => True) (n := x196000_1.length) (c := co34) ?_).2.2; exact (by (with_reducible repeat (first | apply Kd.R_alloc | apply Kd.R_drewN | apply Kd.R_drew)); exact (Kd.R_mono (Kd.R_far (p := ⟨gb197, 0, none⟩) (Kd.R_types HO_196000.out BK197.out (by decide)) (fun _ hk => hk.2) (.slice A196_0 ((rd_T60 l0 x25_1).f0).length c196_0)) (fun _ h_ => h_.1)))); (case side2 => exact (Kd.R_reads' HO_196000.out).2.1); (case side3 => exact Kd.C_below HR196_0.out (hbT HB.out)); (case side4 => exact HC196_0.out); rintro e w35 ⟨v199, rfl, ho0, hb⟩; refine ⟨_, rfl, ?_⟩; have HO200 := asT (Kd.R_lower (Kd.R_new' ho0 (Kd.R_lt (by (with_reducible repeat (first | apply Kd.R_alloc | apply Kd.R_drewN | apply Kd.R_drew)); exact (Kd.R_mono (Kd.R_far (p := ⟨gb197, 0, none⟩) (Kd.R_types HO_196000.out BK197.out (by decide)) (fun _ hk => hk.2) (.slice A196_0 ((rd_T60 l0 x25_1).f0).length c196_0)) (fun _ h_ => h_.1))))) (below_size (hbT HB.out))); replace HO_196000 := asT (Kd.R_elder' (by (with_reducible repeat (first | apply Kd.R_alloc | apply Kd.R_drewN | apply Kd.R_drew)); exact (Kd.R_mono (Kd.R_far (p := ⟨gb197, 0, none⟩) (Kd.R_types HO_196000.out BK197.out (by decide)) (fun _ hk => hk.2) (.slice A196_0 ((rd_T60 l0 x25_1).f0).length c196_0)) (fun _ h_ => h_.1))) (Kd.R_base ho0) hb); replace BK187 := asT (blk_below (g := gb187) (o := .cells #[.slice none 0 0] 60 (0, 0)) (by (with_reducible repeat (first | refine blk_drewN ?_ _ | refine blk_drew ?_ | refine blk_alloc ?_ _)); refine blk_far ?_ NB187_197.out _; (with_reducible repeat (first | refine blk_drewN ?_ _ | refine blk_drew ?_ | refine blk_alloc ?_ _)); exact BK187.out) hb); replace BK195 := asT (blk_below (g := gb195) (o := .cells #[.slice Ao34 x196000_1.length co34] 60 (0, 0)) (by (with_reducible repeat (first | refine blk_drewN ?_ _ | refine blk_drew ?_ | refine blk_alloc ?_ _)); refine blk_far ?_ NB195_197.out _; (with_reducible repeat (first | refine blk_drewN ?_ _ | refine blk_drew ?_ | refine blk_alloc ?_ _)); exact BK195.out) hb); replace BK197 := asT (blk_below (g := gb197) (o := .cells #[.slice A196_0 ((rd_T60 l0 x25_1).f0).length c196_0] 60 (0, 0)) (by (with_reducible repeat (first | refine blk_drewN ?_ _ | refine blk_drew ?_ | refine blk_alloc ?_ _)); refine blk_put (cs := #[.slice none 0 0]) ?_ 0 _ rfl; (with_reducible repeat (first | refine blk_drewN ?_ _ | refine blk_drew ?_ | refine blk_alloc ?_ _)); exact BK197.out) hb); replace HB := hS HB hb; (try clear hb hb2 hk hi ho0); obtain ⟨Ao36, co36, eo36⟩ := Kd.R_slice HO200.out; subst eo36; obtain ⟨hcz37_0, hfz37_0⟩ := bx1 BK195.out; obtain ⟨hcz38_0, hfz38_0⟩ := bx1 BK187.out))
         refine bodyPost_ret (results_ct rfl _ _ gb187 60 #[.slice none 0 0] (0, 0) _ rfl (by (with_reducible repeat (first | refine blk_drewN ?_ _ | refine blk_drew ?_ | refine blk_alloc ?_ _)); refine blk_put (cs := #[.slice none 0 0]) ?_ 0 _ rfl; (with_reducible repeat (first | refine blk_drewN ?_ _ | refine blk_drew ?_ | refine blk_alloc ?_ _)); refine blk_far ?_ NB187_195.out _; (with_reducible repeat (first | refine blk_drewN ?_ _ | refine blk_drew ?_ | refine blk_alloc ?_ _)); exact BK187.out) Try.underlying60 rfl (by kernel_rfl)) rfl ?_
         exact ⟨_, rlT, by first | exact Kd.R_nil _ _ _ _ _ | exact Kd.N_nil _ _ _ _ _ | exact Kd.V_nil _ _ _ _ _ | exact Kd.Q_nil _ _ _ _ _ | exact Kd.S_nil _ _ _ _ _, hbT HB.out⟩
       ·rw [if_neg c15] at H
        exact absurd H (by simp)
      ·rw [if_neg c14] at H
       exact absurd H (by simp)
     ·rw [if_neg c13] at H
      have c13b0 : decide (x25_1 < (l0.length : Int)) = false := decide_eq_false c13
      clear c13
      simp only [Option.some.injEq, Prod.mk.injEq] at H
      obtain ⟨rfl, rfl⟩ := H; have hnb39 := NB195_187.out; have hnc39 := NB187_195.out
      have hcz40_0 := bc0 BK195.out
      have hfz40_0 := blk_frozen BK195.out 0; obtain ⟨Ao41, co41, eo41⟩ := Kd.R_slice HO_196000.out; subst eo41
      have hcz42_0 := bc0 BK187.out
      have hfz42_0 := blk_frozen BK187.out 0
      go_wp2
      refine bodyPost_ret (results_ct rfl _ _ gb187 60 #[.slice Ao41 x196000_1.length co41] (0, 0) _ rfl (by (with_reducible repeat (first | refine blk_drewN ?_ _ | refine blk_drew ?_ | refine blk_alloc ?_ _)); refine blk_put (cs := #[.slice none 0 0]) ?_ 0 _ rfl; (with_reducible repeat (first | refine blk_drewN ?_ _ | refine blk_drew ?_ | refine blk_alloc ?_ _)); exact BK187.out) Try.underlying60 rfl (by kernel_rfl)) rfl ?_
      exact ⟨_, rlT, by (with_reducible repeat (first | apply Kd.R_alloc | apply Kd.R_drewN | apply Kd.R_drew)); exact Kd.R_mono (Kd.R_far (p := ⟨gb187, 0, none⟩) (Kd.R_types HO_196000.out BK187.out (by decide)) (fun _ hk => hk.2) (.slice Ao41 x196000_1.length co41)) (fun _ hk => trivial), hbT HB.out⟩
  ·rw [if_neg c4] at H
   exact absurd H (by simp)
 ·replace c3 := Bool.eq_false_iff.mpr c3
  subst c3; rw [if_neg nF] at H; have H1 := H; clear H; have H := H1; clear H1
  simp only [Option.some.injEq, Prod.mk.injEq] at H
  obtain ⟨rfl, rfl⟩ := H
  go_enter Try.func58, Try.ntmps58
  go_wp2_with (first | ((with_reducible refine gate_dst (N := 2) rfl ?_); refine boxT (N := 2) (cs := #[.slice none 0 0]) (t := 60) ?_; intro gb187 hg w43 hbox hb; have BK187 := asT hbox; have GW187 := asT (geT hg HB.out); have GE187 := GW187; replace HB := hS HB hb; clear hb hbox hg) | ((with_reducible refine gate_callee (f := 105) rfl ?_); refine goesL_ (some 10) rfl rfl Try.func105 (by kernel_rfl) rfl #[.int .i64 (l0.length : Int), .int .i64 1, .int .i64 20] rfl eqT ?_; (with_reducible refine (impl_within.calls (l0.length : Int) 1 20 false _ A2.out).mono ?_); rintro e w' ⟨rfl, ⟨nd, rfl⟩⟩; refine ⟨_, rfl, ?_⟩; (try (rw [drewN_self w43]; generalize hq_ : World.drewN w43 _ = w43; have n0_ : Aside0 (w43.heap[gb187]? = some (.cells #[.slice none 0 0] 60 (0, 0))) := ⟨by rw [← hq_]; exact (bkT BK187.out)⟩; have n1_ : Aside0 (Below w.heap.size w w43) := ⟨by rw [← hq_]; exact (hbT HB.out)⟩; clear BK187 HB hq_; have BK187 := n0_; have HB := n1_; clear n0_ n1_)); obtain ⟨hcz44_0, hfz44_0⟩ := bx1 BK187.out))
  refine bodyPost_ret (results_ct rfl _ _ gb187 60 #[.slice none 0 0] (0, 0) _ rfl (by (with_reducible repeat (first | refine blk_drewN ?_ _ | refine blk_drew ?_ | refine blk_alloc ?_ _)); refine blk_put (cs := #[.slice none 0 0]) ?_ 0 _ rfl; (with_reducible repeat (first | refine blk_drewN ?_ _ | refine blk_drew ?_ | refine blk_alloc ?_ _)); exact BK187.out) Try.underlying60 rfl (by kernel_rfl)) rfl ?_
  exact ⟨_, rlT, by first | exact Kd.R_nil _ _ _ _ _ | exact Kd.N_nil _ _ _ _ _ | exact Kd.V_nil _ _ _ _ _ | exact Kd.Q_nil _ _ _ _ _ | exact Kd.S_nil _ _ _ _ _, hbT HB.out⟩

/-! ### laws_eqIntS: function 109 -/
def laws_eqIntS.l0 : Nat → List Int → List Int → Int → Option (Bool)
 | 0, _, _, _ => none
 | k + 1, x0, x1, x5 => if x5 < (x0.length : Int) then (if 0 ≤ x5 then (if x5 < (x1.length : Int) then (if (rd x0 x5) = (rd x1 x5) then (laws_eqIntS.l0 k x0 x1 (wrap64 (x5 + 1))) else (some false)) else (none)) else (none)) else (some true)
def laws_eqIntS.f (k : Nat) (l0 : List Int) (l1 : List Int) : Option (Bool) := if (l0.length : Int) = (l1.length : Int) then (laws_eqIntS.l0 k l0 l1 0) else (some false)
theorem laws_eqIntS.mono_l : ∀ k, (∀ y0 y1 y2, LeO (laws_eqIntS.l0 k y0 y1 y2) (laws_eqIntS.l0 (k + 1) y0 y1 y2))
 | 0 => fun _ _ _ r h => by simp [laws_eqIntS.l0] at h
 | k + 1 => by
  have ih0 := laws_eqIntS.mono_l k
  ·intro y0 y1 y2
   unfold laws_eqIntS.l0
   with_reducible repeat' first | exact ih0 _ _ _ | exact LeO.refl _ | exact LeO.none _ | refine LeO.ite ?_ ?_ | refine LeO.bind ?_ (fun _ => ?_)
theorem laws_eqIntS.mono : ∀ a0 a1 k, LeO (laws_eqIntS.f k a0 a1) (laws_eqIntS.f (k + 1) a0 a1) := by
 intro a0 a1 k
 have ih0 := laws_eqIntS.mono_l k
 unfold laws_eqIntS.f
 with_reducible repeat' first | exact ih0 _ _ _ | exact LeO.refl _ | exact LeO.none _ | refine LeO.ite ?_ ?_ | refine LeO.bind ?_ (fun _ => ?_)
set_option maxHeartbeats 8000000 in
set_option maxRecDepth 100000 in
theorem laws_eqIntS.calls (k : Nat) (A0 : Option Addr) (c0 : Nat) (l0 : List Int) (A1 : Option Addr) (c1 : Nat) (l1 : List Int) (r : Bool) (w : World) (hr0 : Kd.C (Kd.int .i64) w A0 l0.length l0) (hc0 : l0.length ≤ c0) (hr1 : Kd.C (Kd.int .i64) w A1 l1.length l1) (hc1 : l1.length ≤ c1) (h : laws_eqIntS.f k l0 l1 = some r) :
  Calls Try.prog 109 #[.slice A0 l0.length c0, .slice A1 l1.length c1] w fun e w' => e = .returned (.bool r) ∧ Drawn0 w w' := by
 have HR0 := Aside0.mk hr0; have HC0 := Aside0.mk hc0; clear hr0 hc0; have HR1 := Aside0.mk hr1; have HC1 := Aside0.mk hc1; clear hr1 hc1; have H := h; unfold laws_eqIntS.f at H; clear h
 by_cases c3 : (l0.length : Int) = (l1.length : Int)
 ·rw [if_pos c3] at H
  have c3b0 : ((l0.length : Int) == (l1.length : Int)) = true := beq_iff_eq.mpr c3
  have c3b1 : ((l0.length : Int) != (l1.length : Int)) = false := bne_eq_false_iff_eq.mpr c3
  have c3b2 : (l0.length == l1.length) = true := by first | simpa using c3 | (simp at c3 ⊢; omega)
  clear c3; have H' := Aside0.mk H; clear H
  go_enter Try.func109, Try.ntmps109
  go_wp2
  repeat (go_quiet (fail); try go_wp2)
  go_loopg [5] k (fun kq v5 w' => ∃ (x5_1 : Int), v5 = .int .i64 x5_1 ∧ Aside0 (laws_eqIntS.l0 kq l0 l1 x5_1 = some r) ∧ Aside0 (kq ≤ k) ∧ Drawn0 w w')
  case atStart => exact ⟨(0), rdT, H', ⟨Nat.le_refl _⟩, drT⟩
  case round =>
   clear H'; (try clear c1 p2 c3 c3b0 c3b1 c3b2); obtain ⟨x5_1, rfl, HA, HK1, ⟨m1, rfl⟩⟩ := hrel
   cases gk with
   | zero => exact absurd HA.out (by simp [laws_eqIntS.l0])
   | succ k1 =>
    have H := HA.out; clear HA
    simp only [laws_eqIntS.l0] at H
    by_cases c4 : x5_1 < (l0.length : Int)
    ·rw [if_pos c4] at H
     have c4b0 : decide (x5_1 < (l0.length : Int)) = true := decide_eq_true c4
     clear c4
     by_cases c5 : 0 ≤ x5_1
     ·rw [if_pos c5] at H
      have c5b0 : decide (0 ≤ x5_1) = true := decide_eq_true c5
      clear c5
      by_cases c6 : x5_1 < (l1.length : Int)
      ·rw [if_pos c6] at H
       have c6b0 : decide (x5_1 < (l1.length : Int)) = true := decide_eq_true c6
       clear c6
       by_cases c7 : (rd l0 x5_1) = (rd l1 x5_1)
       ·rw [if_pos c7] at H
        have c7b0 : ((rd l0 x5_1) == (rd l1 x5_1)) = true := beq_iff_eq.mpr c7
        have c7b1 : ((rd l0 x5_1) != (rd l1 x5_1)) = false := bne_eq_false_iff_eq.mpr c7
        clear c7; have H' := Aside0.mk H; clear H
        have p202 : 0 ≤ (x5_1 : Int) := of_decide_eq_true asmT
        have q202 : x5_1 < (l0.length : Int) := of_decide_eq_true asmT
        obtain ⟨ad202, e202, hx202_0⟩ := Kd.at_int HR0.out x5_1 p202 q202
        cases e202
        replace p202 := eq_true p202; replace q202 := eq_true q202
        have p203 : 0 ≤ (x5_1 : Int) := of_decide_eq_true asmT
        have q203 : x5_1 < (l1.length : Int) := of_decide_eq_true asmT
        obtain ⟨ad203, e203, hx203_0⟩ := Kd.at_int HR1.out x5_1 p203 q203
        cases e203
        replace p203 := eq_true p203; replace q203 := eq_true q203
        go_wp2
        repeat (go_quiet (fail); try go_wp2)
        go_roundg k1
        case measure => have := HK1.out; omega
        case rel => exact ⟨(wrap64 (x5_1 + 1)), rdT, H', ⟨by have := HK1.out; omega⟩, drT⟩
       ·rw [if_neg c7] at H
        have c7b0 : ((rd l0 x5_1) == (rd l1 x5_1)) = false := beq_eq_false_iff_ne.mpr c7
        have c7b1 : ((rd l0 x5_1) != (rd l1 x5_1)) = true := bne_iff_ne.mpr c7
        obtain rfl := Option.some.inj H
        have p202 : 0 ≤ (x5_1 : Int) := of_decide_eq_true asmT
        have q202 : x5_1 < (l0.length : Int) := of_decide_eq_true asmT
        obtain ⟨ad202, e202, hx202_0⟩ := Kd.at_int HR0.out x5_1 p202 q202
        cases e202
        replace p202 := eq_true p202; replace q202 := eq_true q202
        have p203 : 0 ≤ (x5_1 : Int) := of_decide_eq_true asmT
        have q203 : x5_1 < (l1.length : Int) := of_decide_eq_true asmT
        obtain ⟨ad203, e203, hx203_0⟩ := Kd.at_int HR1.out x5_1 p203 q203
        cases e203
        replace p203 := eq_true p203; replace q203 := eq_true q203
        go_wp2
        repeat (go_quiet (fail); try go_wp2)
        go_ret
        exact ⟨rdT, drT⟩
      ·rw [if_neg c6] at H
       exact absurd H (by simp)
     ·rw [if_neg c5] at H
      exact absurd H (by simp)
    ·rw [if_neg c4] at H
     have c4b0 : decide (x5_1 < (l0.length : Int)) = false := decide_eq_false c4
     clear c4
     obtain rfl := Option.some.inj H
     go_wp2
     repeat (go_quiet (fail); try go_wp2)
     go_ret
     exact ⟨rdT, drT⟩
 ·rw [if_neg c3] at H
  have c3b0 : ((l0.length : Int) == (l1.length : Int)) = false := beq_eq_false_iff_ne.mpr c3
  have c3b1 : ((l0.length : Int) != (l1.length : Int)) = true := bne_iff_ne.mpr c3
  have c3b2 : (l0.length == l1.length) = false := by first | simpa using c3 | (simp at c3 ⊢; omega)
  obtain rfl := Option.some.inj H
  go_enter Try.func109, Try.ntmps109
  go_wp2
  repeat (go_quiet (fail); try go_wp2)
  go_ret
  exact ⟨rdT, drT⟩

/-! ### laws_eqRow: function 59 -/
def laws_eqRow.f (k : Nat) (l0_0 : List Int) (l1_0 : List Int) : Option (Bool) := (laws_eqIntS.f k l0_0 l1_0).bind fun t206 => (if t206 = true then (some true) else (some false))
theorem laws_eqRow.mono : ∀ a0 a1 k, LeO (laws_eqRow.f k a0 a1) (laws_eqRow.f (k + 1) a0 a1) := by
 intro a0 a1 k
 unfold laws_eqRow.f
 with_reducible repeat' first | exact laws_eqIntS.mono _ _ _ | exact LeO.refl _ | exact LeO.none _ | refine LeO.ite ?_ ?_ | refine LeO.bind ?_ (fun _ => ?_)
set_option maxHeartbeats 8000000 in
set_option maxRecDepth 100000 in
theorem laws_eqRow.calls (k : Nat) (A0_0 : Option Addr) (c0_0 : Nat) (l0_0 : List Int) (A1_0 : Option Addr) (c1_0 : Nat) (l1_0 : List Int) (r : Bool) (w : World) (hr0_0 : Kd.C (Kd.int .i64) w A0_0 l0_0.length l0_0) (hc0_0 : l0_0.length ≤ c0_0) (hr1_0 : Kd.C (Kd.int .i64) w A1_0 l1_0.length l1_0) (hc1_0 : l1_0.length ≤ c1_0) (h : laws_eqRow.f k l0_0 l1_0 = some r) :
  Calls Try.prog 59 #[.agg #[.slice A0_0 l0_0.length c0_0], .agg #[.slice A1_0 l1_0.length c1_0]] w fun e w' => e = .returned (.bool r) ∧ Below w.heap.size w w' := by
 have hu60 := Try.underlying60; have HR0_0 := Aside0.mk hr0_0; have HC0_0 := Aside0.mk hc0_0; clear hr0_0 hc0_0; have HR1_0 := Aside0.mk hr1_0; have HC1_0 := Aside0.mk hc1_0; clear hr1_0 hc1_0; have HB := asT (Below.refl w.heap.size w); have H := h; unfold laws_eqRow.f at H; clear h; obtain ⟨t206, A3, H⟩ := be H
 by_cases c4 : t206 = true
 ·subst c4
  rw [if_pos rfl] at H; have H1 := H; clear H; have H := H1; clear H1
  obtain rfl := Option.some.inj H
  go_enter Try.func59, Try.ntmps59
  go_wp2_with (first | ((with_reducible refine gate_dst (N := 2) rfl ?_); refine boxT (N := 2) (cs := #[.slice A0_0 l0_0.length c0_0]) (t := 60) ?_; intro gb204 hg w5 hbox hb; have BK204 := asT hbox; have GW204 := asT (geT hg HB.out); have GE204 := GW204; replace HB := hS HB hb; clear hb hbox hg) | ((with_reducible refine gate_dst (N := 3) rfl ?_); refine boxT (N := 3) (cs := #[.slice A1_0 l1_0.length c1_0]) (t := 60) ?_; intro gb205 hg w6 hbox hb; have BK205 := asT (hbox); have GW205 := asT (geT hg HB.out); have GE205 := asT (geT hg HB.out); replace HB := hS HB hb; have NB204_205 := asT ((by rw [hg]; exact Nat.ne_of_lt (blk_lt (bkT BK204.out)) : gb204 ≠ gb205)); have NB205_204 := asT ((by rw [hg]; exact Nat.ne_of_gt (blk_lt (bkT BK204.out)) : gb205 ≠ gb204)); replace BK204 := bS BK204 hb; clear hb hbox hg; have hnb7 := NB204_205.out; have hnc7 := NB205_204.out; obtain ⟨hcz8_0, hfz8_0⟩ := bx1 BK204.out; obtain ⟨hcz9_0, hfz9_0⟩ := bx1 BK205.out) | ((with_reducible refine gate_callee (f := 109) rfl ?_); refine goesL_ (some 9) rfl rfl Try.func109 (by kernel_rfl) rfl #[.slice A0_0 l0_0.length c0_0, .slice A1_0 l1_0.length c1_0] rfl eqT ?_; (with_reducible refine (laws_eqIntS.calls k _ _ l0_0 _ _ l1_0 true _ ?side1 ?side2 ?side3 ?side4 A3.out).mono ?_); (case side1 => exact crT HR0_0.out HB.out); (case side2 => exact HC0_0.out); (case side3 => exact crT HR1_0.out HB.out); (case side4 => exact HC1_0.out); rintro e w' ⟨rfl, ⟨nd, rfl⟩⟩; refine ⟨_, rfl, ?_⟩))
  go_ret
  exact ⟨rlT, hbT HB.out⟩
 ·replace c4 := Bool.eq_false_iff.mpr c4
  subst c4; rw [if_neg nF] at H; have H1 := H; clear H; have H := H1; clear H1
  obtain rfl := Option.some.inj H
  go_enter Try.func59, Try.ntmps59
  go_wp2_with (first | ((with_reducible refine gate_dst (N := 2) rfl ?_); refine boxT (N := 2) (cs := #[.slice A0_0 l0_0.length c0_0]) (t := 60) ?_; intro gb204 hg w10 hbox hb; have BK204 := asT hbox; have GW204 := asT (geT hg HB.out); have GE204 := GW204; replace HB := hS HB hb; clear hb hbox hg) | ((with_reducible refine gate_dst (N := 3) rfl ?_); refine boxT (N := 3) (cs := #[.slice A1_0 l1_0.length c1_0]) (t := 60) ?_; intro gb205 hg w11 hbox hb; have BK205 := asT (hbox); have GW205 := asT (geT hg HB.out); have GE205 := asT (geT hg HB.out); replace HB := hS HB hb; have NB204_205 := asT ((by rw [hg]; exact Nat.ne_of_lt (blk_lt (bkT BK204.out)) : gb204 ≠ gb205)); have NB205_204 := asT ((by rw [hg]; exact Nat.ne_of_gt (blk_lt (bkT BK204.out)) : gb205 ≠ gb204)); replace BK204 := bS BK204 hb; clear hb hbox hg; have hnb12 := NB204_205.out; have hnc12 := NB205_204.out; obtain ⟨hcz13_0, hfz13_0⟩ := bx1 BK204.out; obtain ⟨hcz14_0, hfz14_0⟩ := bx1 BK205.out) | ((with_reducible refine gate_callee (f := 109) rfl ?_); refine goesL_ (some 9) rfl rfl Try.func109 (by kernel_rfl) rfl #[.slice A0_0 l0_0.length c0_0, .slice A1_0 l1_0.length c1_0] rfl eqT ?_; (with_reducible refine (laws_eqIntS.calls k _ _ l0_0 _ _ l1_0 false _ ?side1 ?side2 ?side3 ?side4 A3.out).mono ?_); (case side1 => exact crT HR0_0.out HB.out); (case side2 => exact HC0_0.out); (case side3 => exact crT HR1_0.out HB.out); (case side4 => exact HC1_0.out); rintro e w' ⟨rfl, ⟨nd, rfl⟩⟩; refine ⟨_, rfl, ?_⟩))
  go_ret
  exact ⟨rlT, hbT HB.out⟩

end Go.Proofs.Ytmfhaplhgaehhaa.PFnExactFuseAll
