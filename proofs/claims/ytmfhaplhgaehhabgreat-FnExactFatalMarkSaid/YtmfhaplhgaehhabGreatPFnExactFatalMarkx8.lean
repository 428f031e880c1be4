-- Made by gen.py (a program of this session) out of the translation; Lean checks it.
import Derived.Test.YtmfhaplhgaehhabGreatPFnExactFatalMarkx0
import Derived.Test.YtmfhaplhgaehhabGreatPFnExactFatalMarkx7
namespace Go.Proofs.YtmfhaplhgaehhabGreat.PFnExactFatalMark
open Go.RowKit Go.Proofs.YtmfhaplhgaehhabGreatB Go.Proofs.YtmfhaplhgaehhabGreatW.PrintWords Go.Proofs.YtmfhaplhgaehhabGreatW.PrintLast Go.Proofs.YtmfhaplhgaehhabGreatW.PrintMore
attribute [local go_sem] max2_int min2_int max_two min_two max_three min_three max_four min_four   -- for this text's walks alone
set_option linter.unusedVariables false
set_option linter.unusedSimpArgs false
mutual
def spec_FatalMark.j0 : Nat → List Int → Int → List Int → Bool → ByteArray → List ByteArray → List (S77) → List (List Int) → Option (Int)
 | 0, _, _, _, _, _, _, _, _ => none
 | k + 1, x1, x2, x7, x25, x347000, x347001, x347002, x347003 => if x25 = true then (some (-1)) else (spec_FatalMark.l0 k x1 x2 x7 0 x347000 x347001 x347002 x347003)
def spec_FatalMark.l0 : Nat → List Int → Int → List Int → Int → ByteArray → List ByteArray → List (S77) → List (List Int) → Option (Int)
 | 0, _, _, _, _, _, _, _, _ => none
 | k + 1, x1, x2, x7, x8, x347000, x347001, x347002, x347003 => if x8 < (x1.length : Int) then (if 0 ≤ x2 then (if x2 < (x347003.length : Int) then (if 0 ≤ x8 then (if 0 ≤ (rd x1 x8) then (if (rd x1 x8) < ((rd_L6 x347003 x2).length : Int) then (if 0 < (x7.length : Int) then (if 0 ≤ (rd x7 0) then (if (rd x7 0) < (x347003.length : Int) then (if (rd x1 x8) < ((rd_L6 x347003 (rd x7 0)).length : Int) then (if (rd (rd_L6 x347003 x2) (rd x1 x8)) > (rd (rd_L6 x347003 (rd x7 0)) (rd x1 x8)) then (some x8) else (spec_FatalMark.l0 k x1 x2 x7 (wrap64 (x8 + 1)) x347000 x347001 x347002 x347003)) else (none)) else (none)) else (none)) else (none)) else (none)) else (none)) else (none)) else (none)) else (none)) else (some (-1))
end
def spec_FatalMark.f (k : Nat) (a0_0 : ByteArray) (l0_1 : List ByteArray) (l0_2 : List (S77)) (l0_3 : List (List Int)) (l1 : List Int) (a2 : Int) : Option (Int) := (spec_WinnersOf.f k a0_0 l0_1 l0_2 l0_3 l1).bind fun t347 => (if (t347.length : Int) = 0 then (spec_FatalMark.j0 k l1 a2 t347 true a0_0 l0_1 l0_2 l0_3) else (if a2 < 0 then (spec_FatalMark.j0 k l1 a2 t347 true a0_0 l0_1 l0_2 l0_3) else (spec_FatalMark.j0 k l1 a2 t347 (decide (a2 ≥ (l0_2.length : Int))) a0_0 l0_1 l0_2 l0_3)))
theorem spec_FatalMark.mono_l : ∀ k, (∀ y0 y1 y2 y3 y4 y5 y6 y7, LeO (spec_FatalMark.j0 k y0 y1 y2 y3 y4 y5 y6 y7) (spec_FatalMark.j0 (k + 1) y0 y1 y2 y3 y4 y5 y6 y7)) ∧ (∀ y0 y1 y2 y3 y4 y5 y6 y7, LeO (spec_FatalMark.l0 k y0 y1 y2 y3 y4 y5 y6 y7) (spec_FatalMark.l0 (k + 1) y0 y1 y2 y3 y4 y5 y6 y7))
 | 0 => ⟨fun _ _ _ _ _ _ _ _ r h => by simp [spec_FatalMark.j0] at h, fun _ _ _ _ _ _ _ _ r h => by simp [spec_FatalMark.l0] at h⟩
 | k + 1 => by
  obtain ⟨ih0, ih1⟩ := spec_FatalMark.mono_l k; refine ⟨?_, ?_⟩
  ·intro y0 y1 y2 y3 y4 y5 y6 y7
   unfold spec_FatalMark.j0
   with_reducible repeat' first | exact ih0 _ _ _ _ _ _ _ _ | exact ih1 _ _ _ _ _ _ _ _ | exact spec_WinnersOf.mono _ _ _ _ _ _ | exact LeO.refl _ | exact LeO.none _ | refine LeO.ite ?_ ?_ | refine LeO.bind ?_ (fun _ => ?_)
  ·intro y0 y1 y2 y3 y4 y5 y6 y7
   unfold spec_FatalMark.l0
   with_reducible repeat' first | exact ih0 _ _ _ _ _ _ _ _ | exact ih1 _ _ _ _ _ _ _ _ | exact spec_WinnersOf.mono _ _ _ _ _ _ | exact LeO.refl _ | exact LeO.none _ | refine LeO.ite ?_ ?_ | refine LeO.bind ?_ (fun _ => ?_)
theorem spec_FatalMark.mono : ∀ a0 a1 a2 a3 a4 a5 k, LeO (spec_FatalMark.f k a0 a1 a2 a3 a4 a5) (spec_FatalMark.f (k + 1) a0 a1 a2 a3 a4 a5) := by
 intro a0 a1 a2 a3 a4 a5 k
 obtain ⟨ih0, ih1⟩ := spec_FatalMark.mono_l k
 unfold spec_FatalMark.f
 with_reducible repeat' first | exact ih0 _ _ _ _ _ _ _ _ | exact ih1 _ _ _ _ _ _ _ _ | exact spec_WinnersOf.mono _ _ _ _ _ _ | exact LeO.refl _ | exact LeO.none _ | refine LeO.ite ?_ ?_ | refine LeO.bind ?_ (fun _ => ?_)
set_option maxHeartbeats 8000000 in
set_option maxRecDepth 100000 in
theorem spec_FatalMark.calls (k : Nat) (a0_0 : ByteArray) (A0_1 : Option Addr) (c0_1 : Nat) (l0_1 : List ByteArray) (A0_2 : Option Addr) (c0_2 : Nat) (l0_2 : List (S77)) (A0_3 : Option Addr) (c0_3 : Nat) (l0_3 : List (List Int)) (A1 : Option Addr) (c1 : Nat) (l1 : List Int) (a2 : Int) (r : Int) (w : World) (hr0_1 : Kd.C Kd.string w A0_1 l0_1.length l0_1) (hc0_1 : l0_1.length ≤ c0_1) (hr0_2 : Kd.C k77 w A0_2 l0_2.length l0_2) (hc0_2 : l0_2.length ≤ c0_2) (hr0_3 : Kd.C (Kd.slice 3 (Kd.int .i64)) w A0_3 l0_3.length l0_3) (hc0_3 : l0_3.length ≤ c0_3) (hr1 : Kd.C (Kd.int .i64) w A1 l1.length l1) (hc1 : l1.length ≤ c1) (h : spec_FatalMark.f k a0_0 l0_1 l0_2 l0_3 l1 a2 = some r) :
  Calls Tryz.prog 22 #[.agg #[.string a0_0, .slice A0_1 l0_1.length c0_1, .slice A0_2 l0_2.length c0_2, .slice A0_3 l0_3.length c0_3], .slice A1 l1.length c1, .int .i64 a2] w fun e w' => e = .returned (.int .i64 r) ∧ Below w.heap.size w w' := by
 have hu32 := Tryz.underlying32; have HR0_1 := Aside0.mk hr0_1; have HC0_1 := Aside0.mk hc0_1; clear hr0_1 hc0_1; have HR0_2 := Aside0.mk hr0_2; have HC0_2 := Aside0.mk hc0_2; clear hr0_2 hc0_2; have HR0_3 := Aside0.mk hr0_3; have HC0_3 := Aside0.mk hc0_3; clear hr0_3 hc0_3; have HR1 := Aside0.mk hr1; have HC1 := Aside0.mk hc1; clear hr1 hc1; have HB := asT (Below.refl w.heap.size w); have H := h; unfold spec_FatalMark.f at H; clear h; obtain ⟨t347, A4, H⟩ := be H; have HC5 := Aside0.mk H; clear H
 go_enter Tryz.func22, Tryz.ntmps22
 go_upto_region 2 with (first | ((with_reducible refine gate_dst (N := 3) rfl ?_); (try (refine gate_guard (by rfl) ?_; dsimp only)); refine boxT (N := 3) (cs := #[.string a0_0, .slice A0_1 l0_1.length c0_1, .slice A0_2 l0_2.length c0_2, .slice A0_3 l0_3.length c0_3]) (t := 32) ?_; intro gb346 hg w6 hbox hb; have BK346 := asT hbox; have GW346 := asT (geT hg HB.out); have GE346 := GW346; replace HB := hS HB hb; clear hb hbox hg; obtain ⟨hcz7_0, hcz7_1, hcz7_2, hcz7_3, hfz7_0, hfz7_1, hfz7_2, hfz7_3⟩ := bx4 BK346.out) | (go_at_call 25; (with_reducible refine (spec_WinnersOf.calls k a0_0 _ _ l0_1 _ _ l0_2 _ _ l0_3 _ _ l1 t347 _ ?side1 ?side2 ?side3 ?side4 ?side5 ?side6 ?side7 ?side8 A4.out).mono ?_); (case side1 => exact crT HR0_1.out HB.out); (case side2 => exact HC0_1.out); (case side3 => exact crT HR0_2.out HB.out); (case side4 => exact HC0_2.out); (case side5 => exact crT HR0_3.out HB.out); (case side6 => exact HC0_3.out); (case side7 => exact crT HR1.out HB.out); (case side8 => exact HC1.out); rintro e w8 ⟨v348, rfl, ho0, hb⟩; have HO349 := asT (Kd.R_lower ho0 (below_size (hbT HB.out))); replace BK346 := bS BK346 hb; replace HB := hS HB hb; (try clear hb hb2 hk hi ho0)))
 repeat (go_quiet (first | ((with_reducible refine gate_dst (N := 3) rfl ?_); (try (refine gate_guard (by rfl) ?_; dsimp only)); refine boxT (N := 3) (cs := #[.string a0_0, .slice A0_1 l0_1.length c0_1, .slice A0_2 l0_2.length c0_2, .slice A0_3 l0_3.length c0_3]) (t := 32) ?_; intro gb346 hg w6 hbox hb; have BK346 := asT hbox; have GW346 := asT (geT hg HB.out); have GE346 := GW346; replace HB := hS HB hb; clear hb hbox hg; obtain ⟨hcz7_0, hcz7_1, hcz7_2, hcz7_3, hfz7_0, hfz7_1, hfz7_2, hfz7_3⟩ := bx4 BK346.out) | (go_at_call 25; (with_reducible refine (spec_WinnersOf.calls k a0_0 _ _ l0_1 _ _ l0_2 _ _ l0_3 _ _ l1 t347 _ ?side1 ?side2 ?side3 ?side4 ?side5 ?side6 ?side7 ?side8 A4.out).mono ?_); (case side1 => exact crT HR0_1.out HB.out); (case side2 => exact HC0_1.out); (case side3 => exact crT HR0_2.out HB.out); (case side4 => exact HC0_2.out); (case side5 => exact crT HR0_3.out HB.out); (case side6 => exact HC0_3.out); (case side7 => exact crT HR1.out HB.out); (case side8 => exact HC1.out); rintro e w8 ⟨v348, rfl, ho0, hb⟩; have HO349 := asT (Kd.R_lower ho0 (below_size (hbT HB.out))); replace BK346 := bS BK346 hb; replace HB := hS HB hb; (try clear hb hb2 hk hi ho0))); go_upto_region 2 with (first | ((with_reducible refine gate_dst (N := 3) rfl ?_); (try (refine gate_guard (by rfl) ?_; dsimp only)); refine boxT (N := 3) (cs := #[.string a0_0, .slice A0_1 l0_1.length c0_1, .slice A0_2 l0_2.length c0_2, .slice A0_3 l0_3.length c0_3]) (t := 32) ?_; intro gb346 hg w6 hbox hb; have BK346 := asT hbox; have GW346 := asT (geT hg HB.out); have GE346 := GW346; replace HB := hS HB hb; clear hb hbox hg; obtain ⟨hcz7_0, hcz7_1, hcz7_2, hcz7_3, hfz7_0, hfz7_1, hfz7_2, hfz7_3⟩ := bx4 BK346.out) | (go_at_call 25; (with_reducible refine (spec_WinnersOf.calls k a0_0 _ _ l0_1 _ _ l0_2 _ _ l0_3 _ _ l1 t347 _ ?side1 ?side2 ?side3 ?side4 ?side5 ?side6 ?side7 ?side8 A4.out).mono ?_); (case side1 => exact crT HR0_1.out HB.out); (case side2 => exact HC0_1.out); (case side3 => exact crT HR0_2.out HB.out); (case side4 => exact HC0_2.out); (case side5 => exact crT HR0_3.out HB.out); (case side6 => exact HC0_3.out); (case side7 => exact crT HR1.out HB.out); (case side8 => exact HC1.out); rintro e w8 ⟨v348, rfl, ho0, hb⟩; have HO349 := asT (Kd.R_lower ho0 (below_size (hbT HB.out))); replace BK346 := bS BK346 hb; replace HB := hS HB hb; (try clear hb hb2 hk hi ho0))))
 (try simp only [Act.put, sA, sZ, sS])
 go_cut [25] (fun v25 wc => ∃ (kq : Nat) (x25_4 : Bool), v25 = .bool x25_4 ∧ Aside0 (spec_FatalMark.j0 kq l1 a2 t347 x25_4 a0_0 l0_1 l0_2 l0_3 = some r) ∧ Aside0 (kq ≤ k) ∧ Aside0 (Kd.R (Kd.int .i64) 3 wc w.heap.size (fun _ => True) v348 t347) ∧ Aside0 (wc.heap[gb346]? = some (.cells #[.string a0_0, (.slice A0_1 l0_1.length c0_1), (.slice A0_2 l0_2.length c0_2), (.slice A0_3 l0_3.length c0_3)] 32 (0, 0))) ∧ Aside0 (Below w.heap.size w wc))
 case first =>
  have H := HC5.out; clear HC5
  by_cases c9 : (t347.length : Int) = 0
  ·rw [if_pos c9] at H
   have c9b0 : ((t347.length : Int) == 0) = true := beq_iff_eq.mpr c9
   have c9b1 : ((t347.length : Int) != 0) = false := bne_eq_false_iff_eq.mpr c9
   clear c9
   (first | rw [c9b0] | (simp only [i64_w, i32_w]; rw [c9b0]) | skip)
   have H' := Aside0.mk H; clear H; obtain ⟨Ao10, co10, eo10⟩ := Kd.R_slice HO349.out; subst eo10
   go_wp2
   repeat (go_quiet (fail); try go_wp2)
   go_meet
   case rel => exact ⟨_, (true), rdT, H', ⟨by first | omega | exact Nat.le_refl _⟩, ⟨by (with_reducible repeat (first | apply Kd.R_alloc | apply Kd.R_drewN | apply Kd.R_drew)); exact HO349.out⟩, ⟨by (with_reducible repeat (first | refine blk_drewN ?_ _ | refine blk_drew ?_ | refine blk_alloc ?_ _)); exact BK346.out⟩, ⟨hbT HB.out⟩⟩
  ·rw [if_neg c9] at H
   have c9b0 : ((t347.length : Int) == 0) = false := beq_eq_false_iff_ne.mpr c9
   have c9b1 : ((t347.length : Int) != 0) = true := bne_iff_ne.mpr c9
   have c9b2 : ¬ (t347 = []) := fun h_ => c9 (by rw [h_]; rfl)
   (first | rw [c9b0] | (simp only [i64_w, i32_w]; rw [c9b0]) | skip)
   by_cases c11 : a2 < 0
   ·rw [if_pos c11] at H
    have c11b0 : decide (a2 < 0) = true := decide_eq_true c11
    clear c11; have H' := Aside0.mk H; clear H; obtain ⟨Ao12, co12, eo12⟩ := Kd.R_slice HO349.out; subst eo12
    go_wp2
    repeat (go_quiet (fail); try go_wp2)
    go_meet
    case rel => exact ⟨_, (true), rdT, H', ⟨by first | omega | exact Nat.le_refl _⟩, ⟨by (with_reducible repeat (first | apply Kd.R_alloc | apply Kd.R_drewN | apply Kd.R_drew)); exact HO349.out⟩, ⟨by (with_reducible repeat (first | refine blk_drewN ?_ _ | refine blk_drew ?_ | refine blk_alloc ?_ _)); exact BK346.out⟩, ⟨hbT HB.out⟩⟩
   ·rw [if_neg c11] at H
    have c11b0 : decide (a2 < 0) = false := decide_eq_false c11
    clear c11; have H' := Aside0.mk H; clear H; obtain ⟨Ao13, co13, eo13⟩ := Kd.R_slice HO349.out; subst eo13
    have hcz14_0 := bc0 BK346.out
    have hcz14_1 := bc1 BK346.out
    have hcz14_2 := bc2 BK346.out
    have hcz14_3 := bc3 BK346.out
    have hfz14_0 := blk_frozen BK346.out 0; have hfz14_1 := blk_frozen BK346.out 1; have hfz14_2 := blk_frozen BK346.out 2; have hfz14_3 := blk_frozen BK346.out 3
    go_wp2
    repeat (go_quiet (fail); try go_wp2)
    go_meet
    case rel => exact ⟨_, (decide (a2 ≥ (l0_2.length : Int))), rdT, H', ⟨by first | omega | exact Nat.le_refl _⟩, ⟨by (with_reducible repeat (first | apply Kd.R_alloc | apply Kd.R_drewN | apply Kd.R_drew)); exact HO349.out⟩, ⟨by (with_reducible repeat (first | refine blk_drewN ?_ _ | refine blk_drew ?_ | refine blk_alloc ?_ _)); exact BK346.out⟩, ⟨hbT HB.out⟩⟩
 case rest =>
  clear HC5; (try clear c1 c2 p2 c9 c9b0 c9b1 c9b2 c11 c11b0 hcz14_0 hcz14_1 hcz14_2 hcz14_3 hcz7_0 hcz7_1 hcz7_2 hcz7_3 hfz14_0 hfz14_1 hfz14_2 hfz14_3 hfz7_0 hfz7_1 hfz7_2 hfz7_3); obtain ⟨kq, x25_4, rfl, HA, HJ4, HO_7, BK346, HB⟩ := hcut
  cases kq with
  | zero => exact absurd HA.out (by simp [spec_FatalMark.j0])
  | succ kj4 =>
   have H := HA.out; clear HA
   simp only [spec_FatalMark.j0] at H
   by_cases c15 : x25_4 = true
   ·subst c15
    rw [if_pos rfl] at H; have H1 := H; clear H; have H := H1; clear H1
    obtain rfl := Option.some.inj H
    go_wp2
    repeat (go_quiet (fail); try go_wp2)
    go_ret
    exact ⟨rlT, hbT HB.out⟩
   ·replace c15 := Bool.eq_false_iff.mpr c15
    subst c15; rw [if_neg nF] at H; have H' := Aside0.mk H; clear H
    go_wp2
    repeat (go_quiet (fail); try go_wp2)
    go_loopg [8] kj4 (fun kq v8 w' => ∃ (x8_2 : Int), v8 = .int .i64 x8_2 ∧ Aside0 (spec_FatalMark.l0 kq l1 a2 t347 x8_2 a0_0 l0_1 l0_2 l0_3 = some r) ∧ Aside0 (kq ≤ kj4) ∧ Aside0 (Kd.R (Kd.int .i64) 3 w' w.heap.size (fun _ => True) v348 t347) ∧ Aside0 (w'.heap[gb346]? = some (.cells #[.string a0_0, (.slice A0_1 l0_1.length c0_1), (.slice A0_2 l0_2.length c0_2), (.slice A0_3 l0_3.length c0_3)] 32 (0, 0))) ∧ Aside0 (Below w.heap.size w w'))
    case atStart => exact ⟨(0), rdT, H', ⟨Nat.le_refl _⟩, ⟨by (with_reducible repeat (first | apply Kd.R_alloc | apply Kd.R_drewN | apply Kd.R_drew)); exact HO_7.out⟩, ⟨by (with_reducible repeat (first | refine blk_drewN ?_ _ | refine blk_drew ?_ | refine blk_alloc ?_ _)); exact BK346.out⟩, ⟨hbT HB.out⟩⟩
    case round =>
     clear H'; (try clear c1 c2 p2 c9 c9b0 c9b1 c9b2 c11 c11b0 c15 hcz14_0 hcz14_1 hcz14_2 hcz14_3 hcz7_0 hcz7_1 hcz7_2 hcz7_3 hfz14_0 hfz14_1 hfz14_2 hfz14_3 hfz7_0 hfz7_1 hfz7_2 hfz7_3 p2); obtain ⟨x8_2, rfl, HA, HK2, HO_7, BK346, HB⟩ := hrel
     cases gk with
     | zero => exact absurd HA.out (by simp [spec_FatalMark.l0])
     | succ k2 =>
      have H := HA.out; clear HA
      simp only [spec_FatalMark.l0] at H
      by_cases c16 : x8_2 < (l1.length : Int)
      ·rw [if_pos c16] at H
       have c16b0 : decide (x8_2 < (l1.length : Int)) = true := decide_eq_true c16
       clear c16
       by_cases c17 : 0 ≤ a2
       ·rw [if_pos c17] at H
        have c17b0 : decide (0 ≤ a2) = true := decide_eq_true c17
        clear c17
        by_cases c18 : a2 < (l0_3.length : Int)
        ·rw [if_pos c18] at H
         have c18b0 : decide (a2 < (l0_3.length : Int)) = true := decide_eq_true c18
         clear c18
         by_cases c19 : 0 ≤ x8_2
         ·rw [if_pos c19] at H
          have c19b0 : decide (0 ≤ x8_2) = true := decide_eq_true c19
          clear c19
          by_cases c20 : 0 ≤ (rd l1 x8_2)
          ·rw [if_pos c20] at H
           have c20b0 : decide (0 ≤ (rd l1 x8_2)) = true := decide_eq_true c20
           clear c20
           by_cases c21 : (rd l1 x8_2) < ((rd_L6 l0_3 a2).length : Int)
           ·rw [if_pos c21] at H
            have c21b0 : decide ((rd l1 x8_2) < ((rd_L6 l0_3 a2).length : Int)) = true := decide_eq_true c21
            clear c21
            by_cases c22 : 0 < (t347.length : Int)
            ·rw [if_pos c22] at H
             have c22b0 : decide (0 < (t347.length : Int)) = true := decide_eq_true c22
             have c22b1 : decide (0 < t347.length) = true := decide_eq_true (by omega)
             clear c22
             by_cases c23 : 0 ≤ (rd t347 0)
             ·rw [if_pos c23] at H
              have c23b0 : decide (0 ≤ (rd t347 0)) = true := decide_eq_true c23
              clear c23
              by_cases c24 : (rd t347 0) < (l0_3.length : Int)
              ·rw [if_pos c24] at H
               have c24b0 : decide ((rd t347 0) < (l0_3.length : Int)) = true := decide_eq_true c24
               clear c24
               by_cases c25 : (rd l1 x8_2) < ((rd_L6 l0_3 (rd t347 0)).length : Int)
               ·rw [if_pos c25] at H
                have c25b0 : decide ((rd l1 x8_2) < ((rd_L6 l0_3 (rd t347 0)).length : Int)) = true := decide_eq_true c25
                clear c25
                by_cases c26 : (rd (rd_L6 l0_3 a2) (rd l1 x8_2)) > (rd (rd_L6 l0_3 (rd t347 0)) (rd l1 x8_2))
                ·rw [if_pos c26] at H
                 have c26b0 : decide ((rd (rd_L6 l0_3 (rd t347 0)) (rd l1 x8_2)) < (rd (rd_L6 l0_3 a2) (rd l1 x8_2))) = true := decide_eq_true c26
                 clear c26
                 obtain rfl := Option.some.inj H
                 have hcz27_0 := bc0 BK346.out
                 have hcz27_1 := bc1 BK346.out
                 have hcz27_2 := bc2 BK346.out
                 have hcz27_3 := bc3 BK346.out
                 have hfz27_0 := blk_frozen BK346.out 0; have hfz27_1 := blk_frozen BK346.out 1; have hfz27_2 := blk_frozen BK346.out 2; have hfz27_3 := blk_frozen BK346.out 3
                 have p350 : 0 ≤ (a2 : Int) := of_decide_eq_true asmT
                 have q350 : a2 < (l0_3.length : Int) := of_decide_eq_true asmT
                 obtain ⟨ad350, A350_0, c350_0, e350, hx350_0, hl350_0, hi350_0⟩ := at_L6 HR0_3.out a2 p350 q350
                 cases e350
                 replace hx350_0 := hbc HB.out hx350_0; have HR350_0 := Aside0.mk hi350_0; have HC350_0 := Aside0.mk hl350_0; clear hi350_0 hl350_0; replace p350 := eq_true p350; replace q350 := eq_true q350
                 have p351 : 0 ≤ (x8_2 : Int) := of_decide_eq_true asmT
                 have q351 : x8_2 < (l1.length : Int) := of_decide_eq_true asmT
                 obtain ⟨ad351, e351, hx351_0⟩ := Kd.at_int HR1.out x8_2 p351 q351
                 cases e351
                 replace hx351_0 := hbc HB.out hx351_0; replace p351 := eq_true p351; replace q351 := eq_true q351
                 have p352 : 0 ≤ ((rd l1 x8_2) : Int) := of_decide_eq_true asmT
                 have q352 : (rd l1 x8_2) < ((rd_L6 l0_3 a2).length : Int) := of_decide_eq_true asmT
                 obtain ⟨ad352, e352, hx352_0⟩ := Kd.at_int HR350_0.out (rd l1 x8_2) p352 q352
                 cases e352
                 replace hx352_0 := hbc HB.out hx352_0; replace p352 := eq_true p352; replace q352 := eq_true q352; obtain ⟨Ao28, co28, eo28⟩ := Kd.R_slice HO_7.out; subst eo28
                 have p353 : 0 ≤ (0 : Int) := (by omega)
                 have q353 : 0 < (t347.length : Int) := of_decide_eq_true asmT
                 obtain ⟨ad353, e353, hx353_0⟩ := Kd.at_int (Kd.R_reads' HO_7.out).2.2 0 p353 q353
                 cases e353
                 have qi353 : (0 < t347.length) = True := eq_true (by omega)
                 (try rw [show ((0 : Int)).toNat = 0 from rfl] at hx353_0)
                 (try rw [Addr.add_zero'] at hx353_0)
                 replace p353 := eq_true p353; replace q353 := eq_true q353
                 have p354 : 0 ≤ ((rd t347 0) : Int) := of_decide_eq_true asmT
                 have q354 : (rd t347 0) < (l0_3.length : Int) := of_decide_eq_true asmT
                 obtain ⟨ad354, A354_0, c354_0, e354, hx354_0, hl354_0, hi354_0⟩ := at_L6 HR0_3.out (rd t347 0) p354 q354
                 obtain rfl : ad350 = ad354 := (by injection e354)
                 replace hx354_0 := hbc HB.out hx354_0; have HR354_0 := Aside0.mk hi354_0; have HC354_0 := Aside0.mk hl354_0; clear hi354_0 hl354_0; replace p354 := eq_true p354; replace q354 := eq_true q354
                 have p355 : 0 ≤ (x8_2 : Int) := of_decide_eq_true asmT
                 have q355 : x8_2 < (l1.length : Int) := of_decide_eq_true asmT
                 obtain ⟨ad355, e355, hx355_0⟩ := Kd.at_int HR1.out x8_2 p355 q355
                 obtain rfl : ad351 = ad355 := (by injection e355)
                 replace hx355_0 := hbc HB.out hx355_0; replace p355 := eq_true p355; replace q355 := eq_true q355
                 have p356 : 0 ≤ ((rd l1 x8_2) : Int) := of_decide_eq_true asmT
                 have q356 : (rd l1 x8_2) < ((rd_L6 l0_3 (rd t347 0)).length : Int) := of_decide_eq_true asmT
                 obtain ⟨ad356, e356, hx356_0⟩ := Kd.at_int HR354_0.out (rd l1 x8_2) p356 q356
                 cases e356
                 replace hx356_0 := hbc HB.out hx356_0; replace p356 := eq_true p356; replace q356 := eq_true q356
                 go_wp2
                 repeat (go_quiet (fail); try go_wp2)
                 go_ret
                 exact ⟨rlT, hbT HB.out⟩
                ·rw [if_neg c26] at H
                 have c26b0 : decide ((rd (rd_L6 l0_3 (rd t347 0)) (rd l1 x8_2)) < (rd (rd_L6 l0_3 a2) (rd l1 x8_2))) = false := decide_eq_false c26
                 clear c26; have H' := Aside0.mk H; clear H
                 have hcz29_0 := bc0 BK346.out
                 have hcz29_1 := bc1 BK346.out
                 have hcz29_2 := bc2 BK346.out
                 have hcz29_3 := bc3 BK346.out
                 have hfz29_0 := blk_frozen BK346.out 0; have hfz29_1 := blk_frozen BK346.out 1; have hfz29_2 := blk_frozen BK346.out 2; have hfz29_3 := blk_frozen BK346.out 3
                 have p350 : 0 ≤ (a2 : Int) := of_decide_eq_true asmT
                 have q350 : a2 < (l0_3.length : Int) := of_decide_eq_true asmT
                 obtain ⟨ad350, A350_0, c350_0, e350, hx350_0, hl350_0, hi350_0⟩ := at_L6 HR0_3.out a2 p350 q350
                 cases e350
                 replace hx350_0 := hbc HB.out hx350_0; have HR350_0 := Aside0.mk hi350_0; have HC350_0 := Aside0.mk hl350_0; clear hi350_0 hl350_0; replace p350 := eq_true p350; replace q350 := eq_true q350
                 have p351 : 0 ≤ (x8_2 : Int) := of_decide_eq_true asmT
                 have q351 : x8_2 < (l1.length : Int) := of_decide_eq_true asmT
                 obtain ⟨ad351, e351, hx351_0⟩ := Kd.at_int HR1.out x8_2 p351 q351
                 cases e351
                 replace hx351_0 := hbc HB.out hx351_0; replace p351 := eq_true p351; replace q351 := eq_true q351
                 have p352 : 0 ≤ ((rd l1 x8_2) : Int) := of_decide_eq_true asmT
                 have q352 : (rd l1 x8_2) < ((rd_L6 l0_3 a2).length : Int) := of_decide_eq_true asmT
                 obtain ⟨ad352, e352, hx352_0⟩ := Kd.at_int HR350_0.out (rd l1 x8_2) p352 q352
                 cases e352
                 replace hx352_0 := hbc HB.out hx352_0; replace p352 := eq_true p352; replace q352 := eq_true q352; obtain ⟨Ao30, co30, eo30⟩ := Kd.R_slice HO_7.out; subst eo30
                 have p353 : 0 ≤ (0 : Int) := (by omega)
                 have q353 : 0 < (t347.length : Int) := of_decide_eq_true asmT
                 obtain ⟨ad353, e353, hx353_0⟩ := Kd.at_int (Kd.R_reads' HO_7.out).2.2 0 p353 q353
                 cases e353
                 have qi353 : (0 < t347.length) = True := eq_true (by omega)
                 (try rw [show ((0 : Int)).toNat = 0 from rfl] at hx353_0)
                 (try rw [Addr.add_zero'] at hx353_0)
                 replace p353 := eq_true p353; replace q353 := eq_true q353
                 have p354 : 0 ≤ ((rd t347 0) : Int) := of_decide_eq_true asmT
                 have q354 : (rd t347 0) < (l0_3.length : Int) := of_decide_eq_true asmT
                 obtain ⟨ad354, A354_0, c354_0, e354, hx354_0, hl354_0, hi354_0⟩ := at_L6 HR0_3.out (rd t347 0) p354 q354
                 obtain rfl : ad350 = ad354 := (by injection e354)
                 replace hx354_0 := hbc HB.out hx354_0; have HR354_0 := Aside0.mk hi354_0; have HC354_0 := Aside0.mk hl354_0; clear hi354_0 hl354_0; replace p354 := eq_true p354; replace q354 := eq_true q354
                 have p355 : 0 ≤ (x8_2 : Int) := of_decide_eq_true asmT
                 have q355 : x8_2 < (l1.length : Int) := of_decide_eq_true asmT
                 obtain ⟨ad355, e355, hx355_0⟩ := Kd.at_int HR1.out x8_2 p355 q355
                 obtain rfl : ad351 = ad355 := (by injection e355)
                 replace hx355_0 := hbc HB.out hx355_0; replace p355 := eq_true p355; replace q355 := eq_true q355
                 have p356 : 0 ≤ ((rd l1 x8_2) : Int) := of_decide_eq_true asmT
                 have q356 : (rd l1 x8_2) < ((rd_L6 l0_3 (rd t347 0)).length : Int) := of_decide_eq_true asmT
                 obtain ⟨ad356, e356, hx356_0⟩ := Kd.at_int HR354_0.out (rd l1 x8_2) p356 q356
                 cases e356
                 replace hx356_0 := hbc HB.out hx356_0; replace p356 := eq_true p356; replace q356 := eq_true q356
                 go_wp2
                 repeat (go_quiet (fail); try go_wp2)
                 go_roundg k2
                 case measure => have := HJ4.out; have := HK2.out; omega
                 case rel => exact ⟨(wrap64 (x8_2 + 1)), rdT, H', ⟨by have := HJ4.out; have := HK2.out; omega⟩, ⟨by (with_reducible repeat (first | apply Kd.R_alloc | apply Kd.R_drewN | apply Kd.R_drew)); exact HO_7.out⟩, ⟨by (with_reducible repeat (first | refine blk_drewN ?_ _ | refine blk_drew ?_ | refine blk_alloc ?_ _)); exact BK346.out⟩, ⟨hbT HB.out⟩⟩
               ·rw [if_neg c25] at H
                exact absurd H (by simp)
              ·rw [if_neg c24] at H
               exact absurd H (by simp)
             ·rw [if_neg c23] at H
              exact absurd H (by simp)
            ·rw [if_neg c22] at H
             exact absurd H (by simp)
           ·rw [if_neg c21] at H
            exact absurd H (by simp)
          ·rw [if_neg c20] at H
           exact absurd H (by simp)
         ·rw [if_neg c19] at H
          exact absurd H (by simp)
        ·rw [if_neg c18] at H
         exact absurd H (by simp)
       ·rw [if_neg c17] at H
        exact absurd H (by simp)
      ·rw [if_neg c16] at H
       have c16b0 : decide (x8_2 < (l1.length : Int)) = false := decide_eq_false c16
       clear c16
       obtain rfl := Option.some.inj H
       go_wp2
       repeat (go_quiet (fail); try go_wp2)
       go_ret
       exact ⟨rlT, hbT HB.out⟩
def slices_Equal_int_int.l0 : Nat → List Int → List Int → Int → Int → Option (Bool)
 | 0, _, _, _, _ => none
 | k + 1, x0, x1, x12, x13 => if x13 < x12 then (if 0 ≤ x13 then (if x13 < (x0.length : Int) then (if x13 < (x1.length : Int) then (if (rd x0 x13) = (rd x1 x13) then (slices_Equal_int_int.l0 k x0 x1 x12 (wrap64 (x13 + 1))) else (some false)) else (none)) else (none)) else (none)) else (some true)
def slices_Equal_int_int.f (k : Nat) (l0 : List Int) (l1 : List Int) : Option (Bool) := if (l0.length : Int) = (l1.length : Int) then (slices_Equal_int_int.l0 k l0 l1 (l0.length : Int) 0) else (some false)
theorem slices_Equal_int_int.mono_l : ∀ k, (∀ y0 y1 y2 y3, LeO (slices_Equal_int_int.l0 k y0 y1 y2 y3) (slices_Equal_int_int.l0 (k + 1) y0 y1 y2 y3))
 | 0 => fun _ _ _ _ r h => by simp [slices_Equal_int_int.l0] at h
 | k + 1 => by
  have ih0 := slices_Equal_int_int.mono_l k
  ·intro y0 y1 y2 y3
   unfold slices_Equal_int_int.l0
   with_reducible repeat' first | exact ih0 _ _ _ _ | exact LeO.refl _ | exact LeO.none _ | refine LeO.ite ?_ ?_ | refine LeO.bind ?_ (fun _ => ?_)
theorem slices_Equal_int_int.mono : ∀ a0 a1 k, LeO (slices_Equal_int_int.f k a0 a1) (slices_Equal_int_int.f (k + 1) a0 a1) := by
 intro a0 a1 k
 have ih0 := slices_Equal_int_int.mono_l k
 unfold slices_Equal_int_int.f
 with_reducible repeat' first | exact ih0 _ _ _ _ | exact LeO.refl _ | exact LeO.none _ | refine LeO.ite ?_ ?_ | refine LeO.bind ?_ (fun _ => ?_)
set_option maxHeartbeats 8000000 in
set_option maxRecDepth 100000 in
theorem slices_Equal_int_int.calls (k : Nat) (A0 : Option Addr) (c0 : Nat) (l0 : List Int) (A1 : Option Addr) (c1 : Nat) (l1 : List Int) (r : Bool) (w : World) (hr0 : Kd.C (Kd.int .i64) w A0 l0.length l0) (hc0 : l0.length ≤ c0) (hr1 : Kd.C (Kd.int .i64) w A1 l1.length l1) (hc1 : l1.length ≤ c1) (h : slices_Equal_int_int.f k l0 l1 = some r) :
  Calls Tryz.prog 43 #[.slice A0 l0.length c0, .slice A1 l1.length c1] w fun e w' => e = .returned (.bool r) ∧ Drawn0 w w' := by
 have HR0 := Aside0.mk hr0; have HC0 := Aside0.mk hc0; clear hr0 hc0; have HR1 := Aside0.mk hr1; have HC1 := Aside0.mk hc1; clear hr1 hc1; have H := h; unfold slices_Equal_int_int.f at H; clear h
 by_cases c3 : (l0.length : Int) = (l1.length : Int)
 ·rw [if_pos c3] at H
  have c3b0 : ((l0.length : Int) == (l1.length : Int)) = true := beq_iff_eq.mpr c3
  have c3b1 : ((l0.length : Int) != (l1.length : Int)) = false := bne_eq_false_iff_eq.mpr c3
  have c3b2 : (l0.length == l1.length) = true := by first | simpa using c3 | (simp at c3 ⊢; omega)
  clear c3; have H' := Aside0.mk H; clear H
  go_enter Tryz.func43, Tryz.ntmps43
  go_wp2
  repeat (go_quiet (fail); try go_wp2)
  go_loopg [13] k (fun kq v13 w' => ∃ (x13_1 : Int), v13 = .int .i64 x13_1 ∧ Aside0 (slices_Equal_int_int.l0 kq l0 l1 (l0.length : Int) x13_1 = some r) ∧ Aside0 (kq ≤ k) ∧ Drawn0 w w')
  case atStart => exact ⟨(0), rdT, H', ⟨Nat.le_refl _⟩, drT⟩
  case round =>
   clear H'; (try clear c1 p2 c3 c3b0 c3b1 c3b2); obtain ⟨x13_1, rfl, HA, HK1, ⟨m1, rfl⟩⟩ := hrel
   cases gk with
   | zero => exact absurd HA.out (by simp [slices_Equal_int_int.l0])
   | succ k1 =>
    have H := HA.out; clear HA
    simp only [slices_Equal_int_int.l0] at H
    by_cases c4 : x13_1 < (l0.length : Int)
    ·rw [if_pos c4] at H
     have c4b0 : decide (x13_1 < (l0.length : Int)) = true := decide_eq_true c4
     clear c4
     by_cases c5 : 0 ≤ x13_1
     ·rw [if_pos c5] at H
      have c5b0 : decide (0 ≤ x13_1) = true := decide_eq_true c5
      clear c5
      by_cases c6 : x13_1 < (l0.length : Int)
      ·rw [if_pos c6] at H
       have c6b0 : decide (x13_1 < (l0.length : Int)) = true := decide_eq_true c6
       clear c6
       by_cases c7 : x13_1 < (l1.length : Int)
       ·rw [if_pos c7] at H
        have c7b0 : decide (x13_1 < (l1.length : Int)) = true := decide_eq_true c7
        clear c7
        by_cases c8 : (rd l0 x13_1) = (rd l1 x13_1)
        ·rw [if_pos c8] at H
         have c8b0 : ((rd l0 x13_1) == (rd l1 x13_1)) = true := beq_iff_eq.mpr c8
         have c8b1 : ((rd l0 x13_1) != (rd l1 x13_1)) = false := bne_eq_false_iff_eq.mpr c8
         clear c8; have H' := Aside0.mk H; clear H
         have p357 : 0 ≤ (x13_1 : Int) := of_decide_eq_true asmT
         have q357 : x13_1 < (l0.length : Int) := of_decide_eq_true asmT
         obtain ⟨ad357, e357, hx357_0⟩ := Kd.at_int HR0.out x13_1 p357 q357
         cases e357
         replace p357 := eq_true p357; replace q357 := eq_true q357
         have p358 : 0 ≤ (x13_1 : Int) := of_decide_eq_true asmT
         have q358 : x13_1 < (l1.length : Int) := of_decide_eq_true asmT
         obtain ⟨ad358, e358, hx358_0⟩ := Kd.at_int HR1.out x13_1 p358 q358
         cases e358
         replace p358 := eq_true p358; replace q358 := eq_true q358
         go_wp2
         repeat (go_quiet (fail); try go_wp2)
         go_roundg k1
         case measure => have := HK1.out; omega
         case rel => exact ⟨(wrap64 (x13_1 + 1)), rdT, H', ⟨by have := HK1.out; omega⟩, drT⟩
        ·rw [if_neg c8] at H
         have c8b0 : ((rd l0 x13_1) == (rd l1 x13_1)) = false := beq_eq_false_iff_ne.mpr c8
         have c8b1 : ((rd l0 x13_1) != (rd l1 x13_1)) = true := bne_iff_ne.mpr c8
         obtain rfl := Option.some.inj H
         have p357 : 0 ≤ (x13_1 : Int) := of_decide_eq_true asmT
         have q357 : x13_1 < (l0.length : Int) := of_decide_eq_true asmT
         obtain ⟨ad357, e357, hx357_0⟩ := Kd.at_int HR0.out x13_1 p357 q357
         cases e357
         replace p357 := eq_true p357; replace q357 := eq_true q357
         have p358 : 0 ≤ (x13_1 : Int) := of_decide_eq_true asmT
         have q358 : x13_1 < (l1.length : Int) := of_decide_eq_true asmT
         obtain ⟨ad358, e358, hx358_0⟩ := Kd.at_int HR1.out x13_1 p358 q358
         cases e358
         replace p358 := eq_true p358; replace q358 := eq_true q358
         go_wp2
         repeat (go_quiet (fail); try go_wp2)
         go_ret
         exact ⟨rdT, drT⟩
       ·rw [if_neg c7] at H
        exact absurd H (by simp)
      ·rw [if_neg c6] at H
       exact absurd H (by simp)
     ·rw [if_neg c5] at H
      exact absurd H (by simp)
    ·rw [if_neg c4] at H
     have c4b0 : decide (x13_1 < (l0.length : Int)) = false := decide_eq_false c4
     clear c4
     obtain rfl := Option.some.inj H
     go_wp2
     repeat (go_quiet (fail); try go_wp2)
     go_ret
     exact ⟨rdT, drT⟩
 ·rw [if_neg c3] at H
  have c3b0 : ((l0.length : Int) == (l1.length : Int)) = false := beq_eq_false_iff_ne.mpr c3
  have c3b1 : ((l0.length : Int) != (l1.length : Int)) = true := bne_iff_ne.mpr c3
  have c3b2 : (l0.length == l1.length) = false := by first | simpa using c3 | (simp at c3 ⊢; omega)
  obtain rfl := Option.some.inj H
  go_enter Tryz.func43, Tryz.ntmps43
  go_wp2
  repeat (go_quiet (fail); try go_wp2)
  go_ret
  exact ⟨rdT, drT⟩
def impl_within.f (a0 : Int) (a1 : Int) (a2 : Int) : Option (Bool) := if a1 ≤ a0 then (some (decide (a0 ≤ a2))) else (some false)
set_option maxHeartbeats 8000000 in
set_option maxRecDepth 100000 in
theorem impl_within.calls (a0 : Int) (a1 : Int) (a2 : Int) (r : Bool) (w : World) (h : impl_within.f a0 a1 a2 = some r) :
  Calls Tryz.prog 54 #[.int .i64 a0, .int .i64 a1, .int .i64 a2] w fun e w' => e = .returned (.bool r) ∧ Drawn0 w w' := by
 have H := h; unfold impl_within.f at H; clear h
 by_cases c4 : a1 ≤ a0
 ·rw [if_pos c4] at H
  have c4b0 : decide (a1 ≤ a0) = true := decide_eq_true c4
  clear c4
  obtain rfl := Option.some.inj H
  go_enter Tryz.func54, Tryz.ntmps54
  go_wp2
  go_ret
  exact ⟨rdT, drT⟩
 ·rw [if_neg c4] at H
  have c4b0 : decide (a1 ≤ a0) = false := decide_eq_false c4
  clear c4
  obtain rfl := Option.some.inj H
  go_enter Tryz.func54, Tryz.ntmps54
  go_wp2
  go_ret
  exact ⟨rdT, drT⟩
def slices_Index_string_string.l0 : Nat → List ByteArray → ByteArray → Int → Int → Option (Int)
 | 0, _, _, _, _ => none
 | k + 1, x0, x1, x7, x8 => if x8 < x7 then (if 0 ≤ x8 then (if x8 < (x0.length : Int) then (if x1.toList = (rdOf ByteArray.empty x0 x8).toList then (some x8) else (slices_Index_string_string.l0 k x0 x1 x7 (wrap64 (x8 + 1)))) else (none)) else (none)) else (some (-1))
def slices_Index_string_string.f (k : Nat) (l0 : List ByteArray) (a1 : ByteArray) : Option (Int) := slices_Index_string_string.l0 k l0 a1 (l0.length : Int) 0
theorem slices_Index_string_string.mono_l : ∀ k, (∀ y0 y1 y2 y3, LeO (slices_Index_string_string.l0 k y0 y1 y2 y3) (slices_Index_string_string.l0 (k + 1) y0 y1 y2 y3))
 | 0 => fun _ _ _ _ r h => by simp [slices_Index_string_string.l0] at h
 | k + 1 => by
  have ih0 := slices_Index_string_string.mono_l k
  ·intro y0 y1 y2 y3
   unfold slices_Index_string_string.l0
   with_reducible repeat' first | exact ih0 _ _ _ _ | exact LeO.refl _ | exact LeO.none _ | refine LeO.ite ?_ ?_ | refine LeO.bind ?_ (fun _ => ?_)
theorem slices_Index_string_string.mono : ∀ a0 a1 k, LeO (slices_Index_string_string.f k a0 a1) (slices_Index_string_string.f (k + 1) a0 a1) := by
 intro a0 a1 k
 have ih0 := slices_Index_string_string.mono_l k
 unfold slices_Index_string_string.f
 with_reducible repeat' first | exact ih0 _ _ _ _ | exact LeO.refl _ | exact LeO.none _ | refine LeO.ite ?_ ?_ | refine LeO.bind ?_ (fun _ => ?_)
set_option maxHeartbeats 8000000 in
set_option maxRecDepth 100000 in
theorem slices_Index_string_string.calls (k : Nat) (A0 : Option Addr) (c0 : Nat) (l0 : List ByteArray) (a1 : ByteArray) (r : Int) (w : World) (hr0 : Kd.C Kd.string w A0 l0.length l0) (hc0 : l0.length ≤ c0) (h : slices_Index_string_string.f k l0 a1 = some r) :
  Calls Tryz.prog 126 #[.slice A0 l0.length c0, .string a1] w fun e w' => e = .returned (.int .i64 r) ∧ Drawn0 w w' := by
 have HR0 := Aside0.mk hr0; have HC0 := Aside0.mk hc0; clear hr0 hc0; have H := h; unfold slices_Index_string_string.f at H; clear h; have H' := Aside0.mk H; clear H
 go_enter Tryz.func126, Tryz.ntmps126
 go_wp2
 go_loopg [8] k (fun kq v8 w' => ∃ (x8_1 : Int), v8 = .int .i64 x8_1 ∧ Aside0 (slices_Index_string_string.l0 kq l0 a1 (l0.length : Int) x8_1 = some r) ∧ Aside0 (kq ≤ k) ∧ Drawn0 w w')
 case atStart => exact ⟨(0), rdT, H', ⟨Nat.le_refl _⟩, drT⟩
 case round =>
  clear H'; (try clear c1 p2); obtain ⟨x8_1, rfl, HA, HK1, ⟨m1, rfl⟩⟩ := hrel
  cases gk with
  | zero => exact absurd HA.out (by simp [slices_Index_string_string.l0])
  | succ k1 =>
   have H := HA.out; clear HA
   simp only [slices_Index_string_string.l0] at H
   by_cases c3 : x8_1 < (l0.length : Int)
   ·rw [if_pos c3] at H
    have c3b0 : decide (x8_1 < (l0.length : Int)) = true := decide_eq_true c3
    clear c3
    by_cases c4 : 0 ≤ x8_1
    ·rw [if_pos c4] at H
     have c4b0 : decide (0 ≤ x8_1) = true := decide_eq_true c4
     clear c4
     by_cases c5 : x8_1 < (l0.length : Int)
     ·rw [if_pos c5] at H
      have c5b0 : decide (x8_1 < (l0.length : Int)) = true := decide_eq_true c5
      clear c5
      by_cases c6 : a1.toList = (rdOf ByteArray.empty l0 x8_1).toList
      ·rw [if_pos c6] at H
       have c6b0 : (a1.toList == (rdOf ByteArray.empty l0 x8_1).toList) = true := beq_iff_eq.mpr c6
       have c6b1 : (a1.toList != (rdOf ByteArray.empty l0 x8_1).toList) = false := bne_eq_false_iff_eq.mpr c6
       clear c6
       obtain rfl := Option.some.inj H
       have p359 : 0 ≤ (x8_1 : Int) := of_decide_eq_true asmT
       have q359 : x8_1 < (l0.length : Int) := of_decide_eq_true asmT
       obtain ⟨ad359, e359, hx359_0⟩ := Kd.at_string HR0.out x8_1 p359 q359
       cases e359
       replace p359 := eq_true p359; replace q359 := eq_true q359
       go_wp2
       go_ret
       exact ⟨rdT, drT⟩
      ·rw [if_neg c6] at H
       have c6b0 : (a1.toList == (rdOf ByteArray.empty l0 x8_1).toList) = false := beq_eq_false_iff_ne.mpr c6
       have c6b1 : (a1.toList != (rdOf ByteArray.empty l0 x8_1).toList) = true := bne_iff_ne.mpr c6
       have H' := Aside0.mk H; clear H
       have p359 : 0 ≤ (x8_1 : Int) := of_decide_eq_true asmT
       have q359 : x8_1 < (l0.length : Int) := of_decide_eq_true asmT
       obtain ⟨ad359, e359, hx359_0⟩ := Kd.at_string HR0.out x8_1 p359 q359
       cases e359
       replace p359 := eq_true p359; replace q359 := eq_true q359
       go_wp2
       go_roundg k1
       case measure => have := HK1.out; omega
       case rel => exact ⟨(wrap64 (x8_1 + 1)), rdT, H', ⟨by have := HK1.out; omega⟩, drT⟩
     ·rw [if_neg c5] at H
      exact absurd H (by simp)
    ·rw [if_neg c4] at H
     exact absurd H (by simp)
   ·rw [if_neg c3] at H
    have c3b0 : decide (x8_1 < (l0.length : Int)) = false := decide_eq_false c3
    clear c3
    obtain rfl := Option.some.inj H
    go_wp2
    go_ret
    exact ⟨rdT, drT⟩
def slices_Contains_string_string.f (k : Nat) (l0 : List ByteArray) (a1 : ByteArray) : Option (Bool) := (slices_Index_string_string.f k l0 a1).bind fun t360 => (some (decide (t360 ≥ 0)))
theorem slices_Contains_string_string.mono : ∀ a0 a1 k, LeO (slices_Contains_string_string.f k a0 a1) (slices_Contains_string_string.f (k + 1) a0 a1) := by
 intro a0 a1 k
 unfold slices_Contains_string_string.f
 with_reducible repeat' first | exact slices_Index_string_string.mono _ _ _ | exact LeO.refl _ | exact LeO.none _ | refine LeO.ite ?_ ?_ | refine LeO.bind ?_ (fun _ => ?_)
set_option maxHeartbeats 8000000 in
set_option maxRecDepth 100000 in
theorem slices_Contains_string_string.calls (k : Nat) (A0 : Option Addr) (c0 : Nat) (l0 : List ByteArray) (a1 : ByteArray) (r : Bool) (w : World) (hr0 : Kd.C Kd.string w A0 l0.length l0) (hc0 : l0.length ≤ c0) (h : slices_Contains_string_string.f k l0 a1 = some r) :
  Calls Tryz.prog 100 #[.slice A0 l0.length c0, .string a1] w fun e w' => e = .returned (.bool r) ∧ Drawn0 w w' := by
 have HR0 := Aside0.mk hr0; have HC0 := Aside0.mk hc0; clear hr0 hc0; have H := h; unfold slices_Contains_string_string.f at H; clear h; obtain ⟨t360, A3, H⟩ := be H
 obtain rfl := Option.some.inj H
 go_enter Tryz.func100, Tryz.ntmps100
 go_wp2_with (first | ((with_reducible refine gate_callee (f := 126) rfl ?_); refine goesL_ (some 7) rfl rfl Tryz.func126 (by kernel_rfl) rfl #[.slice A0 l0.length c0, .string a1] rfl eqT ?_; (with_reducible refine (slices_Index_string_string.calls k _ _ l0 a1 t360 _ ?side1 ?side2 A3.out).mono ?_); (case side1 => repeat (first | exact HR0.out | (with_reducible refine Kd.C_alloc ?_ _) | (with_reducible refine Kd.C_drewN ?_ _) | (with_reducible refine Kd.C_drew ?_))); (case side2 => exact HC0.out); rintro e w' ⟨rfl, ⟨nd, rfl⟩⟩; refine ⟨_, rfl, ?_⟩))
 go_ret
 exact ⟨rdT, drT⟩
def impl_ConstraintNames.f  : Option (List ByteArray) := some (([(⟨#[111, 110, 115, 101, 116]⟩ : ByteArray), (⟨#[110, 111, 99, 111, 100, 97]⟩ : ByteArray), (⟨#[99, 108, 117, 115, 116, 101, 114]⟩ : ByteArray), (⟨#[118, 111, 105, 99, 101]⟩ : ByteArray), (⟨#[102, 105, 110, 97, 108]⟩ : ByteArray), (⟨#[110, 97, 115, 97, 108]⟩ : ByteArray), (⟨#[109, 97, 120]⟩ : ByteArray), (⟨#[100, 101, 112]⟩ : ByteArray), (⟨#[105, 100, 101, 110, 116]⟩ : ByteArray), (⟨#[99, 111, 110, 116, 105, 103]⟩ : ByteArray)] : List ByteArray))
set_option maxHeartbeats 8000000 in
set_option maxRecDepth 100000 in
theorem impl_ConstraintNames.calls  (r : List ByteArray) (w : World) (h : impl_ConstraintNames.f  = some r) :
  Calls Tryz.prog 101 #[] w fun e w' => ∃ v0_ : Value, e = .returned (v0_) ∧ Kd.R Kd.string 9 w' w.heap.size (fun _ => True) v0_ r ∧ Below w.heap.size w w' := by
 have HB := asT (Below.refl w.heap.size w); have H := h; unfold impl_ConstraintNames.f at H; clear h; obtain ⟨y361, hy361⟩ : ∃ y_ : List ByteArray, y_ = (([(⟨#[111, 110, 115, 101, 116]⟩ : ByteArray), (⟨#[110, 111, 99, 111, 100, 97]⟩ : ByteArray), (⟨#[99, 108, 117, 115, 116, 101, 114]⟩ : ByteArray), (⟨#[118, 111, 105, 99, 101]⟩ : ByteArray), (⟨#[102, 105, 110, 97, 108]⟩ : ByteArray), (⟨#[110, 97, 115, 97, 108]⟩ : ByteArray), (⟨#[109, 97, 120]⟩ : ByteArray), (⟨#[100, 101, 112]⟩ : ByteArray), (⟨#[105, 100, 101, 110, 116]⟩ : ByteArray), (⟨#[99, 111, 110, 116, 105, 103]⟩ : ByteArray)] : List ByteArray)) := ⟨_, rfl⟩
 replace H : (some y361) = some r := by first | (rw [hy361]; with_reducible exact H) | (have H2_ := (Option.bind_some _ _).symm.trans H; rw [hy361]; with_reducible exact H2_) | (have H2_ := (Option.bind_some _ _).symm.trans H; with_reducible exact H2_) | with_reducible exact H | (rw [hy361]; exact H) | exact H
 have Ny361 := Aside0.mk hy361; clear hy361
 obtain rfl := Option.some.inj H
 go_enter Tryz.func101, Tryz.ntmps101
 go_wp2_with (first | ((with_reducible refine gate_dst (N := 1) rfl ?_); refine Kd.R_lit Kd.string _ 9 ?hg (N := 1) ?hd (xs := ([(⟨#[111, 110, 115, 101, 116]⟩ : ByteArray), (⟨#[110, 111, 99, 111, 100, 97]⟩ : ByteArray), (⟨#[99, 108, 117, 115, 116, 101, 114]⟩ : ByteArray), (⟨#[118, 111, 105, 99, 101]⟩ : ByteArray), (⟨#[102, 105, 110, 97, 108]⟩ : ByteArray), (⟨#[110, 97, 115, 97, 108]⟩ : ByteArray), (⟨#[109, 97, 120]⟩ : ByteArray), (⟨#[100, 101, 112]⟩ : ByteArray), (⟨#[105, 100, 101, 110, 116]⟩ : ByteArray), (⟨#[99, 111, 110, 116, 105, 103]⟩ : ByteArray)] : List ByteArray)) (inner := [.string (⟨#[111, 110, 115, 101, 116]⟩ : ByteArray), .string (⟨#[110, 111, 99, 111, 100, 97]⟩ : ByteArray), .string (⟨#[99, 108, 117, 115, 116, 101, 114]⟩ : ByteArray), .string (⟨#[118, 111, 105, 99, 101]⟩ : ByteArray), .string (⟨#[102, 105, 110, 97, 108]⟩ : ByteArray), .string (⟨#[110, 97, 115, 97, 108]⟩ : ByteArray), .string (⟨#[109, 97, 120]⟩ : ByteArray), .string (⟨#[100, 101, 112]⟩ : ByteArray), .string (⟨#[105, 100, 101, 110, 116]⟩ : ByteArray), .string (⟨#[99, 111, 110, 116, 105, 103]⟩ : ByteArray)]) (ok := fun _ => True) (okp := fun _ => True) ?hr ?hp (fun _ hk => hk) trivial (Below.refl _ _) (Nat.le_refl _) (by simp) ?_; (case hd => rfl); (case hg => rfl); (case hr => first | (go_simp; done) | (go_simp; rfl)); (case hp => exact (Reps.one (show Kd.M Kd.string _ _ _ (⟨#[111, 110, 115, 101, 116]⟩ : ByteArray) [.string (⟨#[111, 110, 115, 101, 116]⟩ : ByteArray)] from rfl) (Reps.one (show Kd.M Kd.string _ _ _ (⟨#[110, 111, 99, 111, 100, 97]⟩ : ByteArray) [.string (⟨#[110, 111, 99, 111, 100, 97]⟩ : ByteArray)] from rfl) (Reps.one (show Kd.M Kd.string _ _ _ (⟨#[99, 108, 117, 115, 116, 101, 114]⟩ : ByteArray) [.string (⟨#[99, 108, 117, 115, 116, 101, 114]⟩ : ByteArray)] from rfl) (Reps.one (show Kd.M Kd.string _ _ _ (⟨#[118, 111, 105, 99, 101]⟩ : ByteArray) [.string (⟨#[118, 111, 105, 99, 101]⟩ : ByteArray)] from rfl) (Reps.one (show Kd.M Kd.string _ _ _ (⟨#[102, 105, 110, 97, 108]⟩ : ByteArray) [.string (⟨#[102, 105, 110, 97, 108]⟩ : ByteArray)] from rfl) (Reps.one (show Kd.M Kd.string _ _ _ (⟨#[110, 97, 115, 97, 108]⟩ : ByteArray) [.string (⟨#[110, 97, 115, 97, 108]⟩ : ByteArray)] from rfl) (Reps.one (show Kd.M Kd.string _ _ _ (⟨#[109, 97, 120]⟩ : ByteArray) [.string (⟨#[109, 97, 120]⟩ : ByteArray)] from rfl) (Reps.one (show Kd.M Kd.string _ _ _ (⟨#[100, 101, 112]⟩ : ByteArray) [.string (⟨#[100, 101, 112]⟩ : ByteArray)] from rfl) (Reps.one (show Kd.M Kd.string _ _ _ (⟨#[105, 100, 101, 110, 116]⟩ : ByteArray) [.string (⟨#[105, 100, 101, 110, 116]⟩ : ByteArray)] from rfl) (Reps.one (show Kd.M Kd.string _ _ _ (⟨#[99, 111, 110, 116, 105, 103]⟩ : ByteArray) [.string (⟨#[99, 111, 110, 116, 105, 103]⟩ : ByteArray)] from rfl) (Reps.none _ _)))))))))))); intro v362 w1 ho2 hb hg_ hnew_; clear hg_ hnew_; (first | rw [← Ny361.out] at ho2 | (simp only [Int.reduceToNat] at ho2; rw [← Ny361.out] at ho2)); have HO363 := asT (Kd.R_lower ho2 (below_size (hbT HB.out))); replace HB := hS HB hb; clear hb ho2))
 go_ret
 exact ⟨_, rlT, by (with_reducible repeat (first | apply Kd.R_alloc | apply Kd.R_drewN | apply Kd.R_drew)); exact HO363.out, hbT HB.out⟩
def impl_AreConstraints.l0 : Nat → List ByteArray → List ByteArray → Int → Int → Option (Bool)
 | 0, _, _, _, _ => none
 | k + 1, x0, x5, x6, x7 => if x7 < x6 then (if 0 ≤ x7 then (if x7 < (x5.length : Int) then ((impl_ConstraintNames.f).bind fun t366 => ((slices_Contains_string_string.f k t366 (rdOf ByteArray.empty x5 x7)).bind fun t369 => (if t369 = true then (if x7 ≤ (x0.length : Int) then ((slices_Contains_string_string.f k (x0.take (x7 : Int).toNat) (rdOf ByteArray.empty x5 x7)).bind fun t371 => (if t371 = true then (some false) else (impl_AreConstraints.l0 k x0 x5 x6 (wrap64 (x7 + 1))))) else (none)) else (some false)))) else (none)) else (none)) else ((impl_within.f (x0.length : Int) 1 5).bind fun t364 => (some t364))
def impl_AreConstraints.f (k : Nat) (l0 : List ByteArray) : Option (Bool) := impl_AreConstraints.l0 k l0 l0 (l0.length : Int) 0
theorem impl_AreConstraints.mono_l : ∀ k, (∀ y0 y1 y2 y3, LeO (impl_AreConstraints.l0 k y0 y1 y2 y3) (impl_AreConstraints.l0 (k + 1) y0 y1 y2 y3))
 | 0 => fun _ _ _ _ r h => by simp [impl_AreConstraints.l0] at h
 | k + 1 => by
  have ih0 := impl_AreConstraints.mono_l k
  ·intro y0 y1 y2 y3
   unfold impl_AreConstraints.l0
   with_reducible repeat' first | exact ih0 _ _ _ _ | exact slices_Contains_string_string.mono _ _ _ | exact LeO.refl _ | exact LeO.none _ | refine LeO.ite ?_ ?_ | refine LeO.bind ?_ (fun _ => ?_)
theorem impl_AreConstraints.mono : ∀ a0 k, LeO (impl_AreConstraints.f k a0) (impl_AreConstraints.f (k + 1) a0) := by
 intro a0 k
 have ih0 := impl_AreConstraints.mono_l k
 unfold impl_AreConstraints.f
 with_reducible repeat' first | exact ih0 _ _ _ _ | exact slices_Contains_string_string.mono _ _ _ | exact LeO.refl _ | exact LeO.none _ | refine LeO.ite ?_ ?_ | refine LeO.bind ?_ (fun _ => ?_)
set_option maxHeartbeats 8000000 in
set_option maxRecDepth 100000 in
theorem impl_AreConstraints.calls (k : Nat) (A0 : Option Addr) (c0 : Nat) (l0 : List ByteArray) (r : Bool) (w : World) (hr0 : Kd.C Kd.string w A0 l0.length l0) (hc0 : l0.length ≤ c0) (h : impl_AreConstraints.f k l0 = some r) :
  Calls Tryz.prog 73 #[.slice A0 l0.length c0] w fun e w' => e = .returned (.bool r) ∧ Below w.heap.size w w' := by
 have HR0 := Aside0.mk hr0; have HC0 := Aside0.mk hc0; clear hr0 hc0; have HB := asT (Below.refl w.heap.size w); have H := h; unfold impl_AreConstraints.f at H; clear h; have H' := Aside0.mk H; clear H
 go_enter Tryz.func73, Tryz.ntmps73
 go_wp2
 go_loopg [7] k (fun kq v7 w' => ∃ (x7_1 : Int), v7 = .int .i64 x7_1 ∧ Aside0 (impl_AreConstraints.l0 kq l0 l0 (l0.length : Int) x7_1 = some r) ∧ Aside0 (kq ≤ k) ∧ Aside0 (Below w.heap.size w w'))
 case atStart => exact ⟨(0), rdT, H', ⟨Nat.le_refl _⟩, ⟨hbT HB.out⟩⟩
 case round =>
  clear H'; obtain ⟨x7_1, rfl, HA, HK1, HB⟩ := hrel
  cases gk with
  | zero => exact absurd HA.out (by simp [impl_AreConstraints.l0])
  | succ k1 =>
   have H := HA.out; clear HA
   simp only [impl_AreConstraints.l0] at H
   by_cases c2 : x7_1 < (l0.length : Int)
   ·rw [if_pos c2] at H
    have c2b0 : decide (x7_1 < (l0.length : Int)) = true := decide_eq_true c2
    clear c2
    by_cases c3 : 0 ≤ x7_1
    ·rw [if_pos c3] at H
     have c3b0 : decide (0 ≤ x7_1) = true := decide_eq_true c3
     clear c3
     by_cases c4 : x7_1 < (l0.length : Int)
     ·rw [if_pos c4] at H
      have c4b0 : decide (x7_1 < (l0.length : Int)) = true := decide_eq_true c4
      clear c4; obtain ⟨t366, A5, H⟩ := be H; obtain ⟨t369, A6, H⟩ := be H
      by_cases c7 : t369 = true
      ·subst c7
       rw [if_pos rfl] at H; have c8b0 := eq_true (of_decide_eq_true asmT : 0 ≤ x7_1)
       by_cases c9 : x7_1 ≤ (l0.length : Int)
       ·rw [if_pos c9] at H
        have c9b0 := eq_true c9
        have c9b1 : decide (x7_1 ≤ (l0.length : Int)) = true := decide_eq_true c9
        clear c9; obtain ⟨t371, A10, H⟩ := be H
        by_cases c11 : t371 = true
        ·subst c11
         rw [if_pos rfl] at H; have H1 := H; clear H; have H := H1; clear H1
         obtain rfl := Option.some.inj H
         have p365 : 0 ≤ (x7_1 : Int) := of_decide_eq_true asmT
         have q365 : x7_1 < (l0.length : Int) := of_decide_eq_true asmT
         obtain ⟨ad365, e365, hx365_0⟩ := Kd.at_string HR0.out x7_1 p365 q365
         cases e365
         replace hx365_0 := hbc HB.out hx365_0; replace p365 := eq_true p365; replace q365 := eq_true q365
         go_wp2_with (first | ((with_reducible refine gate_callee (f := 101) rfl ?_); refine goesL_ (some 12) rfl rfl Tryz.func101 (by kernel_rfl) rfl #[] rfl eqT ?_; (with_reducible refine (impl_ConstraintNames.calls  t366 _ A5.out).mono ?_); rintro e w12 ⟨v367, rfl, ho0, hb⟩; refine ⟨_, rfl, ?_⟩; have HO368 := asT (Kd.R_lower ho0 (below_size (hbT HB.out))); replace HB := hS HB hb; (try clear hb hb2 hk hi ho0); obtain ⟨Ao13, co13, eo13⟩ := Kd.R_slice HO368.out; subst eo13) | ((with_reducible refine gate_callee (f := 100) rfl ?_); refine goesL_ (some 14) rfl rfl Tryz.func100 (by kernel_rfl) rfl #[.slice Ao13 t366.length co13, .string (rdOf ByteArray.empty l0 x7_1)] rfl eqT ?_; (with_reducible refine (slices_Contains_string_string.calls k1 _ _ t366 (rdOf ByteArray.empty l0 x7_1) true _ ?side1 ?side2 A6.out).mono ?_); (case side1 => repeat (first | exact (Kd.R_reads' HO368.out).2.2 | (with_reducible refine Kd.C_alloc ?_ _) | (with_reducible refine Kd.C_drewN ?_ _) | (with_reducible refine Kd.C_drew ?_))); (case side2 => exact (Kd.R_reads' HO368.out).2.1); rintro e w' ⟨rfl, ⟨nd, rfl⟩⟩; refine ⟨_, rfl, ?_⟩; obtain ⟨i014, hi014, _, hsz14, _⟩ := info_parts info9; obtain ⟨hcut14, hA14, hC14⟩ := print_take_of (P := Tryz.prog) Value.string (⟨#[]⟩ : ByteArray) 22 9 .i64 Tryz.underlying22 hi014 hsz14 (some ad365) c0 l0 x7_1 (of_decide_eq_true asmT) (of_decide_eq_true asmT) HC0.out; have HR370 := asT (Kd.C_of_reads (h1 := fun _ => rfl) (hA14 _ (Kd.reads_of_C HR0.out))); have HC370 := Aside0.mk hC14; clear hA14 hC14 hi014 hsz14) | (go_at_call 100; refine calls_of_args (args' := #[.slice _ (l0.take (x7_1 : Int).toNat).length _, .string (rdOf ByteArray.empty l0 x7_1)]) (by first | (rw [show (l0.take (x7_1 : Int).toNat).length = x7_1.toNat from (by rw [List.length_take]; have h_ : (x7_1 : Int) ≤ (l0.length : Int) := of_decide_eq_true asmT; omega)] <;> rfl) | rfl) ?_; (with_reducible refine (slices_Contains_string_string.calls k1 _ _ (l0.take (x7_1 : Int).toNat) (rdOf ByteArray.empty l0 x7_1) true _ ?side1 ?side2 A10.out).mono ?_); (case side1 => exact crT HR370.out (hbT HB.out)); (case side2 => exact HC370.out); rintro e w' ⟨rfl, ⟨nd, rfl⟩⟩))
         go_ret
         exact ⟨rlT, hbT HB.out⟩
        ·replace c11 := Bool.eq_false_iff.mpr c11
         subst c11; rw [if_neg nF] at H; have H' := Aside0.mk H; clear H
         have p365 : 0 ≤ (x7_1 : Int) := of_decide_eq_true asmT
         have q365 : x7_1 < (l0.length : Int) := of_decide_eq_true asmT
         obtain ⟨ad365, e365, hx365_0⟩ := Kd.at_string HR0.out x7_1 p365 q365
         cases e365
         replace hx365_0 := hbc HB.out hx365_0; replace p365 := eq_true p365; replace q365 := eq_true q365
         go_wp2_with (first | ((with_reducible refine gate_callee (f := 101) rfl ?_); refine goesL_ (some 12) rfl rfl Tryz.func101 (by kernel_rfl) rfl #[] rfl eqT ?_; (with_reducible refine (impl_ConstraintNames.calls  t366 _ A5.out).mono ?_); rintro e w15 ⟨v367, rfl, ho0, hb⟩; refine ⟨_, rfl, ?_⟩; have HO368 := asT (Kd.R_lower ho0 (below_size (hbT HB.out))); replace HB := hS HB hb; (try clear hb hb2 hk hi ho0); obtain ⟨Ao16, co16, eo16⟩ := Kd.R_slice HO368.out; subst eo16) | ((with_reducible refine gate_callee (f := 100) rfl ?_); refine goesL_ (some 14) rfl rfl Tryz.func100 (by kernel_rfl) rfl #[.slice Ao16 t366.length co16, .string (rdOf ByteArray.empty l0 x7_1)] rfl eqT ?_; (with_reducible refine (slices_Contains_string_string.calls k1 _ _ t366 (rdOf ByteArray.empty l0 x7_1) true _ ?side1 ?side2 A6.out).mono ?_); (case side1 => repeat (first | exact (Kd.R_reads' HO368.out).2.2 | (with_reducible refine Kd.C_alloc ?_ _) | (with_reducible refine Kd.C_drewN ?_ _) | (with_reducible refine Kd.C_drew ?_))); (case side2 => exact (Kd.R_reads' HO368.out).2.1); rintro e w' ⟨rfl, ⟨nd, rfl⟩⟩; refine ⟨_, rfl, ?_⟩; obtain ⟨i017, hi017, _, hsz17, _⟩ := info_parts info9; obtain ⟨hcut17, hA17, hC17⟩ := print_take_of (P := Tryz.prog) Value.string (⟨#[]⟩ : ByteArray) 22 9 .i64 Tryz.underlying22 hi017 hsz17 (some ad365) c0 l0 x7_1 (of_decide_eq_true asmT) (of_decide_eq_true asmT) HC0.out; have HR370 := asT (Kd.C_of_reads (h1 := fun _ => rfl) (hA17 _ (Kd.reads_of_C HR0.out))); have HC370 := Aside0.mk hC17; clear hA17 hC17 hi017 hsz17) | (go_at_call 100; refine calls_of_args (args' := #[.slice _ (l0.take (x7_1 : Int).toNat).length _, .string (rdOf ByteArray.empty l0 x7_1)]) (by first | (rw [show (l0.take (x7_1 : Int).toNat).length = x7_1.toNat from (by rw [List.length_take]; have h_ : (x7_1 : Int) ≤ (l0.length : Int) := of_decide_eq_true asmT; omega)] <;> rfl) | rfl) ?_; (with_reducible refine (slices_Contains_string_string.calls k1 _ _ (l0.take (x7_1 : Int).toNat) (rdOf ByteArray.empty l0 x7_1) false _ ?side1 ?side2 A10.out).mono ?_); (case side1 => exact crT HR370.out (hbT HB.out)); (case side2 => exact HC370.out); rintro e w' ⟨rfl, ⟨nd, rfl⟩⟩))
         go_roundg k1
         case measure => have := HK1.out; omega
         case rel => exact ⟨(wrap64 (x7_1 + 1)), rdT, H', ⟨by have := HK1.out; omega⟩, ⟨hbT HB.out⟩⟩
       ·rw [if_neg c9] at H
        exact absurd H (by simp)
      ·replace c7 := Bool.eq_false_iff.mpr c7
       subst c7; rw [if_neg nF] at H; have H1 := H; clear H; have H := H1; clear H1
       obtain rfl := Option.some.inj H
       have p365 : 0 ≤ (x7_1 : Int) := of_decide_eq_true asmT
       have q365 : x7_1 < (l0.length : Int) := of_decide_eq_true asmT
       obtain ⟨ad365, e365, hx365_0⟩ := Kd.at_string HR0.out x7_1 p365 q365
       cases e365
       replace hx365_0 := hbc HB.out hx365_0; replace p365 := eq_true p365; replace q365 := eq_true q365
       go_wp2_with (first | ((with_reducible refine gate_callee (f := 101) rfl ?_); refine goesL_ (some 12) rfl rfl Tryz.func101 (by kernel_rfl) rfl #[] rfl eqT ?_; (with_reducible refine (impl_ConstraintNames.calls  t366 _ A5.out).mono ?_); rintro e w18 ⟨v367, rfl, ho0, hb⟩; refine ⟨_, rfl, ?_⟩; have HO368 := asT (Kd.R_lower ho0 (below_size (hbT HB.out))); replace HB := hS HB hb; (try clear hb hb2 hk hi ho0); obtain ⟨Ao19, co19, eo19⟩ := Kd.R_slice HO368.out; subst eo19) | ((with_reducible refine gate_callee (f := 100) rfl ?_); refine goesL_ (some 14) rfl rfl Tryz.func100 (by kernel_rfl) rfl #[.slice Ao19 t366.length co19, .string (rdOf ByteArray.empty l0 x7_1)] rfl eqT ?_; (with_reducible refine (slices_Contains_string_string.calls k1 _ _ t366 (rdOf ByteArray.empty l0 x7_1) false _ ?side1 ?side2 A6.out).mono ?_); (case side1 => repeat (first | exact (Kd.R_reads' HO368.out).2.2 | (with_reducible refine Kd.C_alloc ?_ _) | (with_reducible refine Kd.C_drewN ?_ _) | (with_reducible refine Kd.C_drew ?_))); (case side2 => exact (Kd.R_reads' HO368.out).2.1); rintro e w' ⟨rfl, ⟨nd, rfl⟩⟩; refine ⟨_, rfl, ?_⟩))
       go_ret
       exact ⟨rlT, hbT HB.out⟩
     ·rw [if_neg c4] at H
      exact absurd H (by simp)
    ·rw [if_neg c3] at H
     exact absurd H (by simp)
   ·rw [if_neg c2] at H
    have c2b0 : decide (x7_1 < (l0.length : Int)) = false := decide_eq_false c2
    clear c2; obtain ⟨t364, A20, H⟩ := be H
    obtain rfl := Option.some.inj H
    go_wp2_with (first | ((with_reducible refine gate_callee (f := 54) rfl ?_); refine goesL_ (some 26) rfl rfl Tryz.func54 (by kernel_rfl) rfl #[.int .i64 (l0.length : Int), .int .i64 1, .int .i64 5] rfl eqT ?_; (with_reducible refine (impl_within.calls (l0.length : Int) 1 5 t364 _ A20.out).mono ?_); rintro e w' ⟨rfl, ⟨nd, rfl⟩⟩; refine ⟨_, rfl, ?_⟩))
    go_ret
    exact ⟨rlT, hbT HB.out⟩
set_option maxRecDepth 100000 in
theorem stringslite_IndexByte.calls (s : ByteArray) (c : Int) (w : World) :
    Calls Tryz.prog 179 #[.string s, .int .u8 c] w fun e w' => e = .returned (.int .i64 (Lib.indexByte s.data.toList c.toNat.toUInt8)) ∧ w' = w := by
  go_enter Tryz.func179, Tryz.ntmps179
  go_wp2
  rw [run_callFunc_extern Tryz.func187 (by kernel_rfl) (by kernel_rfl) (by kernel_rfl) (e := Extern.BytealgIndexByte.indexByte) (by kernel_rfl), Lib.run_indexByteString]
  simp only [Result.andThen]
  rw [Oper.upon_value]
  go_wp2
  go_ret
  exact ⟨rfl, rfl⟩
def strings_IndexByte.f (a0 : ByteArray) (a1 : Int) : Option (Int) := some (Lib.indexByte a0.data.toList a1.toNat.toUInt8)
set_option maxRecDepth 100000 in
theorem strings_IndexByte.calls (a0 : ByteArray) (a1 : Int) (r : Int) (w : World) (h : strings_IndexByte.f a0 a1 = some r) :
    Calls Tryz.prog 151 #[.string a0, .int .u8 a1] w fun e w' => e = .returned (.int .i64 r) ∧ Drawn0 w w' := by
  obtain rfl := Option.some.inj h
  go_enter Tryz.func151, Tryz.ntmps151
  go_wp2_with (go_at_call 179; refine (stringslite_IndexByte.calls _ _ _).mono ?_; rintro e w' ⟨rfl, rfl⟩)
  go_ret
  exact ⟨rfl, Drawn0.refl _⟩
def impl_IsSound.f (a0 : Int) : Option (Bool) := (strings_IndexByte.f (⟨#[112, 116, 98, 100, 110, 97, 105]⟩ : ByteArray) a0).bind fun t372 => (some (decide (t372 ≥ 0)))
set_option maxHeartbeats 8000000 in
set_option maxRecDepth 100000 in
theorem impl_IsSound.calls (a0 : Int) (r : Bool) (w : World) (h : impl_IsSound.f a0 = some r) :
  Calls Tryz.prog 127 #[.int .u8 a0] w fun e w' => e = .returned (.bool r) ∧ Drawn0 w w' := by
 have H := h; unfold impl_IsSound.f at H; clear h; obtain ⟨t372, A2, H⟩ := be H
 obtain rfl := Option.some.inj H
 go_enter Tryz.func127, Tryz.ntmps127
 go_wp2_with (first | ((with_reducible refine gate_callee (f := 151) rfl ?_); refine goesL_ (some 4) rfl rfl Tryz.func151 (by kernel_rfl) rfl #[.string (⟨#[112, 116, 98, 100, 110, 97, 105]⟩ : ByteArray), .int .u8 a0] rfl eqT ?_; (with_reducible refine (strings_IndexByte.calls (⟨#[112, 116, 98, 100, 110, 97, 105]⟩ : ByteArray) a0 t372 _ A2.out).mono ?_); rintro e w' ⟨rfl, ⟨nd, rfl⟩⟩; refine ⟨_, rfl, ?_⟩))
 go_ret
 exact ⟨rdT, drT⟩
def impl_areSounds.l0 : Nat → ByteArray → Int → Int → Option (Bool)
 | 0, _, _, _ => none
 | k + 1, x0, x5, x6 => if x6 < x5 then (if 0 ≤ x6 then (if x6 < (x0.size : Int) then ((impl_IsSound.f (bt x0 x6)).bind fun t373 => (if t373 = true then (impl_areSounds.l0 k x0 x5 (wrap64 (x6 + 1))) else (some false))) else (none)) else (none)) else ((impl_within.f (x0.size : Int) 1 20).bind fun t374 => (some t374))
def impl_areSounds.f (k : Nat) (a0 : ByteArray) : Option (Bool) := impl_areSounds.l0 k a0 (a0.size : Int) 0
theorem impl_areSounds.mono_l : ∀ k, (∀ y0 y1 y2, LeO (impl_areSounds.l0 k y0 y1 y2) (impl_areSounds.l0 (k + 1) y0 y1 y2))
 | 0 => fun _ _ _ r h => by simp [impl_areSounds.l0] at h
 | k + 1 => by
  have ih0 := impl_areSounds.mono_l k
  ·intro y0 y1 y2
   unfold impl_areSounds.l0
   with_reducible repeat' first | exact ih0 _ _ _ | exact LeO.refl _ | exact LeO.none _ | refine LeO.ite ?_ ?_ | refine LeO.bind ?_ (fun _ => ?_)
theorem impl_areSounds.mono : ∀ a0 k, LeO (impl_areSounds.f k a0) (impl_areSounds.f (k + 1) a0) := by
 intro a0 k
 have ih0 := impl_areSounds.mono_l k
 unfold impl_areSounds.f
 with_reducible repeat' first | exact ih0 _ _ _ | exact LeO.refl _ | exact LeO.none _ | refine LeO.ite ?_ ?_ | refine LeO.bind ?_ (fun _ => ?_)
set_option maxHeartbeats 8000000 in
set_option maxRecDepth 100000 in
theorem impl_areSounds.calls (k : Nat) (a0 : ByteArray) (r : Bool) (w : World) (h : impl_areSounds.f k a0 = some r) :
  Calls Tryz.prog 102 #[.string a0] w fun e w' => e = .returned (.bool r) ∧ Drawn0 w w' := by
 have H := h; unfold impl_areSounds.f at H; clear h; have H' := Aside0.mk H; clear H
 go_enter Tryz.func102, Tryz.ntmps102
 go_wp2
 go_loopg [6] k (fun kq v6 w' => ∃ (x6_1 : Int), v6 = .int .i64 x6_1 ∧ Aside0 (impl_areSounds.l0 kq a0 (a0.size : Int) x6_1 = some r) ∧ Aside0 (kq ≤ k) ∧ Drawn0 w w')
 case atStart => exact ⟨(0), rdT, H', ⟨Nat.le_refl _⟩, drT⟩
 case round =>
  clear H'; (try clear c1); obtain ⟨x6_1, rfl, HA, HK1, ⟨m1, rfl⟩⟩ := hrel
  cases gk with
  | zero => exact absurd HA.out (by simp [impl_areSounds.l0])
  | succ k1 =>
   have H := HA.out; clear HA
   simp only [impl_areSounds.l0] at H
   by_cases c2 : x6_1 < (a0.size : Int)
   ·rw [if_pos c2] at H
    have c2b0 : decide (x6_1 < (a0.size : Int)) = true := decide_eq_true c2
    clear c2
    by_cases c3 : 0 ≤ x6_1
    ·rw [if_pos c3] at H
     have c3b0 : decide (0 ≤ x6_1) = true := decide_eq_true c3
     clear c3
     by_cases c4 : x6_1 < (a0.size : Int)
     ·rw [if_pos c4] at H
      have c4b0 : decide (x6_1 < (a0.size : Int)) = true := decide_eq_true c4
      clear c4; obtain ⟨t373, A6, H⟩ := be H
      by_cases c7 : t373 = true
      ·subst c7
       rw [if_pos rfl] at H; have H' := Aside0.mk H; clear H
       have p5 : 0 ≤ (x6_1 : Int) := of_decide_eq_true asmT
       have q5 : x6_1 < (a0.size : Int) := of_decide_eq_true asmT
       have hx5 := bt_at a0 x6_1; replace p5 := eq_true p5; replace q5 := eq_true q5
       go_wp2_with (first | ((with_reducible refine gate_callee (f := 127) rfl ?_); refine goesL_ (some 12) rfl rfl Tryz.func127 (by kernel_rfl) rfl #[.int .u8 (bt a0 x6_1)] rfl eqT ?_; (with_reducible refine (impl_IsSound.calls (bt a0 x6_1) true _ A6.out).mono ?_); rintro e w' ⟨rfl, ⟨nd, rfl⟩⟩; refine ⟨_, rfl, ?_⟩))
       go_roundg k1
       case measure => have := HK1.out; omega
       case rel => exact ⟨(wrap64 (x6_1 + 1)), rdT, H', ⟨by have := HK1.out; omega⟩, drT⟩
      ·replace c7 := Bool.eq_false_iff.mpr c7
       subst c7; rw [if_neg nF] at H; have H1 := H; clear H; have H := H1; clear H1
       obtain rfl := Option.some.inj H
       have p5 : 0 ≤ (x6_1 : Int) := of_decide_eq_true asmT
       have q5 : x6_1 < (a0.size : Int) := of_decide_eq_true asmT
       have hx5 := bt_at a0 x6_1; replace p5 := eq_true p5; replace q5 := eq_true q5
       go_wp2_with (first | ((with_reducible refine gate_callee (f := 127) rfl ?_); refine goesL_ (some 12) rfl rfl Tryz.func127 (by kernel_rfl) rfl #[.int .u8 (bt a0 x6_1)] rfl eqT ?_; (with_reducible refine (impl_IsSound.calls (bt a0 x6_1) false _ A6.out).mono ?_); rintro e w' ⟨rfl, ⟨nd, rfl⟩⟩; refine ⟨_, rfl, ?_⟩))
       go_ret
       exact ⟨rdT, drT⟩
     ·rw [if_neg c4] at H
      exact absurd H (by simp)
    ·rw [if_neg c3] at H
     exact absurd H (by simp)
   ·rw [if_neg c2] at H
    have c2b0 : decide (x6_1 < (a0.size : Int)) = false := decide_eq_false c2
    clear c2; obtain ⟨t374, A8, H⟩ := be H
    obtain rfl := Option.some.inj H
    go_wp2_with (first | ((with_reducible refine gate_callee (f := 54) rfl ?_); refine goesL_ (some 17) rfl rfl Tryz.func54 (by kernel_rfl) rfl #[.int .i64 (a0.size : Int), .int .i64 1, .int .i64 20] rfl eqT ?_; (with_reducible refine (impl_within.calls (a0.size : Int) 1 20 t374 _ A8.out).mono ?_); rintro e w' ⟨rfl, ⟨nd, rfl⟩⟩; refine ⟨_, rfl, ?_⟩))
    go_ret
    exact ⟨rdT, drT⟩
def impl_IsForm.f (k : Nat) (a0 : ByteArray) : Option (Bool) := if a0.toList = ([] : List UInt8) then (some true) else (if (a0.size : Int) ≤ 8 then ((impl_areSounds.f k a0).bind fun t375 => (some t375)) else (some false))
theorem impl_IsForm.mono : ∀ a0 k, LeO (impl_IsForm.f k a0) (impl_IsForm.f (k + 1) a0) := by
 intro a0 k
 unfold impl_IsForm.f
 with_reducible repeat' first | exact impl_areSounds.mono _ _ | exact LeO.refl _ | exact LeO.none _ | refine LeO.ite ?_ ?_ | refine LeO.bind ?_ (fun _ => ?_)
set_option maxHeartbeats 8000000 in
set_option maxRecDepth 100000 in
theorem impl_IsForm.calls (k : Nat) (a0 : ByteArray) (r : Bool) (w : World) (h : impl_IsForm.f k a0 = some r) :
  Calls Tryz.prog 74 #[.string a0] w fun e w' => e = .returned (.bool r) ∧ Drawn0 w w' := by
 have H := h; unfold impl_IsForm.f at H; clear h
 by_cases c2 : a0.toList = ([] : List UInt8)
 ·rw [if_pos c2] at H
  have c2b0 : (a0.toList == ([] : List UInt8)) = true := beq_iff_eq.mpr c2
  have c2b1 : (a0.toList != ([] : List UInt8)) = false := bne_eq_false_iff_eq.mpr c2
  clear c2
  obtain rfl := Option.some.inj H
  go_enter Tryz.func74, Tryz.ntmps74
  go_wp2
  go_ret
  exact ⟨rdT, drT⟩
 ·rw [if_neg c2] at H
  have c2b0 : (a0.toList == ([] : List UInt8)) = false := beq_eq_false_iff_ne.mpr c2
  have c2b1 : (a0.toList != ([] : List UInt8)) = true := bne_iff_ne.mpr c2
  by_cases c3 : (a0.size : Int) ≤ 8
  ·rw [if_pos c3] at H
   have c3b0 : decide ((a0.size : Int) ≤ 8) = true := decide_eq_true c3
   have c3b1 : decide (a0.size ≤ 8) = true := decide_eq_true (by omega)
   clear c3; obtain ⟨t375, A4, H⟩ := be H
   obtain rfl := Option.some.inj H
   go_enter Tryz.func74, Tryz.ntmps74
   go_wp2_with (first | (go_at_call 102; (with_reducible refine (impl_areSounds.calls k a0 t375 _ A4.out).mono ?_); rintro e w' ⟨rfl, ⟨nd, rfl⟩⟩))
   go_ret
   exact ⟨rdT, drT⟩
  ·rw [if_neg c3] at H
   have c3b0 : decide ((a0.size : Int) ≤ 8) = false := decide_eq_false c3
   have c3b1 : decide (a0.size ≤ 8) = false := decide_eq_false (by omega)
   clear c3
   obtain rfl := Option.some.inj H
   go_enter Tryz.func74, Tryz.ntmps74
   go_wp2
   go_ret
   exact ⟨rdT, drT⟩
def impl_SwapVoice.f (a0 : Int) : Option (Int × Bool) := (strings_IndexByte.f (⟨#[112, 116, 98, 100]⟩ : ByteArray) a0).bind fun t376 => (if t376 < 0 then (some (a0, false)) else (if 0 ≤ t376 then (if t376 < 4 then (some (bt (⟨#[98, 100, 112, 116]⟩ : ByteArray) t376, true)) else (none)) else (none)))
set_option maxHeartbeats 8000000 in
set_option maxRecDepth 100000 in
theorem impl_SwapVoice.calls (a0 : Int) (r1 : Int) (r2 : Bool) (w : World) (h : impl_SwapVoice.f a0 = some (r1, r2)) :
  Calls Tryz.prog 128 #[.int .u8 a0] w fun e w' => e = .returned (.tuple #[.int .u8 r1, .bool r2]) ∧ Drawn0 w w' := by
 have H := h; unfold impl_SwapVoice.f at H; clear h; obtain ⟨t376, A2, H⟩ := be H
 by_cases c3 : t376 < 0
 ·rw [if_pos c3] at H
  have c3b0 : decide (t376 < 0) = true := decide_eq_true c3
  clear c3
  simp only [Option.some.injEq, Prod.mk.injEq] at H
  obtain ⟨rfl, rfl⟩ := H
  go_enter Tryz.func128, Tryz.ntmps128
  go_wp2_with (first | ((with_reducible refine gate_callee (f := 151) rfl ?_); refine goesL_ (some 6) rfl rfl Tryz.func151 (by kernel_rfl) rfl #[.string (⟨#[112, 116, 98, 100]⟩ : ByteArray), .int .u8 a0] rfl eqT ?_; (with_reducible refine (strings_IndexByte.calls (⟨#[112, 116, 98, 100]⟩ : ByteArray) a0 t376 _ A2.out).mono ?_); rintro e w' ⟨rfl, ⟨nd, rfl⟩⟩; refine ⟨_, rfl, ?_⟩))
  go_ret2
  exact ⟨rdT, drT⟩
 ·rw [if_neg c3] at H
  have c3b0 : decide (t376 < 0) = false := decide_eq_false c3
  clear c3
  by_cases c4 : 0 ≤ t376
  ·rw [if_pos c4] at H
   have c4b0 : decide (0 ≤ t376) = true := decide_eq_true c4
   clear c4
   by_cases c5 : t376 < 4
   ·rw [if_pos c5] at H
    have c5b0 : decide (t376 < 4) = true := decide_eq_true c5
    clear c5
    simp only [Option.some.injEq, Prod.mk.injEq] at H
    obtain ⟨rfl, rfl⟩ := H
    go_enter Tryz.func128, Tryz.ntmps128
    go_wp2_with (first | ((with_reducible refine gate_callee (f := 151) rfl ?_); refine goesL_ (some 6) rfl rfl Tryz.func151 (by kernel_rfl) rfl #[.string (⟨#[112, 116, 98, 100]⟩ : ByteArray), .int .u8 a0] rfl eqT ?_; (with_reducible refine (strings_IndexByte.calls (⟨#[112, 116, 98, 100]⟩ : ByteArray) a0 t376 _ A2.out).mono ?_); rintro e w' ⟨rfl, ⟨nd, rfl⟩⟩; refine ⟨_, rfl, ?_⟩; have p6 : 0 ≤ (t376 : Int) := of_decide_eq_true asmT; have q6 : t376 < (4 : Int) := of_decide_eq_true asmT; have hx6 := bt_at (⟨#[98, 100, 112, 116]⟩ : ByteArray) t376; replace p6 := eq_true p6; replace q6 := eq_true q6))
    go_ret2
    exact ⟨rdT, drT⟩
   ·rw [if_neg c5] at H
    exact absurd H (by simp)
  ·rw [if_neg c4] at H
   exact absurd H (by simp)
def impl_isLink.f (a0_0 : Int) (a0_1 : Int) : Option (Bool) := if a0_0 = 0 then ((impl_IsSound.f a0_1).bind fun t378 => (some t378)) else ((impl_IsSound.f a0_0).bind fun t379 => (if t379 = true then (if a0_1 = 0 then (some true) else (if a0_1 = a0_0 then (some true) else ((impl_SwapVoice.f a0_0).bind fun bt380 => (if bt380.2 = true then (some (bt380.1 == a0_1)) else (some false))))) else (some false)))
set_option maxHeartbeats 8000000 in
set_option maxRecDepth 100000 in
theorem impl_isLink.calls (a0_0 : Int) (a0_1 : Int) (r : Bool) (w : World) (h : impl_isLink.f a0_0 a0_1 = some r) :
  Calls Tryz.prog 103 #[.agg #[.int .u8 a0_0, .int .u8 a0_1]] w fun e w' => e = .returned (.bool r) ∧ Below w.heap.size w w' := by
 have hu103 := Tryz.underlying103; have HB := asT (Below.refl w.heap.size w); have H := h; unfold impl_isLink.f at H; clear h
 by_cases c2 : a0_0 = 0
 ·rw [if_pos c2] at H
  have c2b0 : (a0_0 == 0) = true := beq_iff_eq.mpr c2
  have c2b1 : (a0_0 != 0) = false := bne_eq_false_iff_eq.mpr c2
  clear c2; obtain ⟨t378, A3, H⟩ := be H
  obtain rfl := Option.some.inj H
  go_enter Tryz.func103, Tryz.ntmps103
  go_wp2_with (first | ((with_reducible refine gate_dst (N := 1) rfl ?_); refine boxT (N := 1) (cs := #[.int .u8 a0_0, .int .u8 a0_1]) (t := 103) ?_; intro gb377 hg w4 hbox hb; have BK377 := asT hbox; have GW377 := asT (geT hg HB.out); have GE377 := GW377; replace HB := hS HB hb; clear hb hbox hg; obtain ⟨hcz5_0, hcz5_1, hfz5_0, hfz5_1⟩ := bx2 BK377.out) | ((with_reducible refine gate_callee (f := 127) rfl ?_); refine goesL_ (some 11) rfl rfl Tryz.func127 (by kernel_rfl) rfl #[.int .u8 a0_1] rfl eqT ?_; (with_reducible refine (impl_IsSound.calls a0_1 t378 _ A3.out).mono ?_); rintro e w' ⟨rfl, ⟨nd, rfl⟩⟩; refine ⟨_, rfl, ?_⟩))
  go_ret
  exact ⟨rlT, hbT HB.out⟩
 ·rw [if_neg c2] at H
  have c2b0 : (a0_0 == 0) = false := beq_eq_false_iff_ne.mpr c2
  have c2b1 : (a0_0 != 0) = true := bne_iff_ne.mpr c2
  obtain ⟨t379, A6, H⟩ := be H
  by_cases c7 : t379 = true
  ·subst c7
   rw [if_pos rfl] at H; have H1 := H; clear H; have H := H1; clear H1
   by_cases c8 : a0_1 = 0
   ·rw [if_pos c8] at H
    have c8b0 : (a0_1 == 0) = true := beq_iff_eq.mpr c8
    have c8b1 : (a0_1 != 0) = false := bne_eq_false_iff_eq.mpr c8
    clear c8
    obtain rfl := Option.some.inj H
    go_enter Tryz.func103, Tryz.ntmps103
    go_wp2_with (first | ((with_reducible refine gate_dst (N := 1) rfl ?_); refine boxT (N := 1) (cs := #[.int .u8 a0_0, .int .u8 a0_1]) (t := 103) ?_; intro gb377 hg w9 hbox hb; have BK377 := asT hbox; have GW377 := asT (geT hg HB.out); have GE377 := GW377; replace HB := hS HB hb; clear hb hbox hg; obtain ⟨hcz10_0, hcz10_1, hfz10_0, hfz10_1⟩ := bx2 BK377.out) | ((with_reducible refine gate_callee (f := 127) rfl ?_); refine goesL_ (some 15) rfl rfl Tryz.func127 (by kernel_rfl) rfl #[.int .u8 a0_0] rfl eqT ?_; (with_reducible refine (impl_IsSound.calls a0_0 true _ A6.out).mono ?_); rintro e w' ⟨rfl, ⟨nd, rfl⟩⟩; refine ⟨_, rfl, ?_⟩))
    go_ret
    exact ⟨rlT, hbT HB.out⟩
   ·rw [if_neg c8] at H
    have c8b0 : (a0_1 == 0) = false := beq_eq_false_iff_ne.mpr c8
    have c8b1 : (a0_1 != 0) = true := bne_iff_ne.mpr c8
    by_cases c11 : a0_1 = a0_0
    ·rw [if_pos c11] at H
     have c11b0 : (a0_1 == a0_0) = true := beq_iff_eq.mpr c11
     have c11b1 : (a0_1 != a0_0) = false := bne_eq_false_iff_eq.mpr c11
     clear c11
     obtain rfl := Option.some.inj H
     go_enter Tryz.func103, Tryz.ntmps103
     go_wp2_with (first | ((with_reducible refine gate_dst (N := 1) rfl ?_); refine boxT (N := 1) (cs := #[.int .u8 a0_0, .int .u8 a0_1]) (t := 103) ?_; intro gb377 hg w12 hbox hb; have BK377 := asT hbox; have GW377 := asT (geT hg HB.out); have GE377 := GW377; replace HB := hS HB hb; clear hb hbox hg; obtain ⟨hcz13_0, hcz13_1, hfz13_0, hfz13_1⟩ := bx2 BK377.out) | ((with_reducible refine gate_callee (f := 127) rfl ?_); refine goesL_ (some 15) rfl rfl Tryz.func127 (by kernel_rfl) rfl #[.int .u8 a0_0] rfl eqT ?_; (with_reducible refine (impl_IsSound.calls a0_0 true _ A6.out).mono ?_); rintro e w' ⟨rfl, ⟨nd, rfl⟩⟩; refine ⟨_, rfl, ?_⟩))
     go_ret
     exact ⟨rlT, hbT HB.out⟩
    ·rw [if_neg c11] at H
     have c11b0 : (a0_1 == a0_0) = false := beq_eq_false_iff_ne.mpr c11
     have c11b1 : (a0_1 != a0_0) = true := bne_iff_ne.mpr c11
     replace H := Option.bind_eq_some_iff.mp H; obtain ⟨⟨t380, t381⟩, A140, H⟩ := H; replace H : (if t381 = true then (some (t380 == a0_1)) else (some false)) = some r := H; have A14 := Aside0.mk A140; clear A140
     by_cases c15 : t381 = true
     ·subst c15
      rw [if_pos rfl] at H; have H1 := H; clear H; have H := H1; clear H1
      obtain rfl := Option.some.inj H
      go_enter Tryz.func103, Tryz.ntmps103
      go_wp2_with (first | ((with_reducible refine gate_dst (N := 1) rfl ?_); refine boxT (N := 1) (cs := #[.int .u8 a0_0, .int .u8 a0_1]) (t := 103) ?_; intro gb377 hg w16 hbox hb; have BK377 := asT hbox; have GW377 := asT (geT hg HB.out); have GE377 := GW377; replace HB := hS HB hb; clear hb hbox hg; obtain ⟨hcz17_0, hcz17_1, hfz17_0, hfz17_1⟩ := bx2 BK377.out) | ((with_reducible refine gate_callee (f := 127) rfl ?_); refine goesL_ (some 15) rfl rfl Tryz.func127 (by kernel_rfl) rfl #[.int .u8 a0_0] rfl eqT ?_; (with_reducible refine (impl_IsSound.calls a0_0 true _ A6.out).mono ?_); rintro e w' ⟨rfl, ⟨nd, rfl⟩⟩; refine ⟨_, rfl, ?_⟩) | ((with_reducible refine gate_callee (f := 128) rfl ?_); refine goesL_ (some 31) rfl rfl Tryz.func128 (by kernel_rfl) rfl #[.int .u8 a0_0] rfl eqT ?_; (with_reducible refine (impl_SwapVoice.calls a0_0 t380 true _ A14.out).mono ?_); rintro e w' ⟨rfl, ⟨nd, rfl⟩⟩; refine ⟨_, rfl, ?_⟩))
      go_ret
      exact ⟨rlT, hbT HB.out⟩
     ·replace c15 := Bool.eq_false_iff.mpr c15
      subst c15; rw [if_neg nF] at H; have H1 := H; clear H; have H := H1; clear H1
      obtain rfl := Option.some.inj H
      go_enter Tryz.func103, Tryz.ntmps103
      go_wp2_with (first | ((with_reducible refine gate_dst (N := 1) rfl ?_); refine boxT (N := 1) (cs := #[.int .u8 a0_0, .int .u8 a0_1]) (t := 103) ?_; intro gb377 hg w18 hbox hb; have BK377 := asT hbox; have GW377 := asT (geT hg HB.out); have GE377 := GW377; replace HB := hS HB hb; clear hb hbox hg; obtain ⟨hcz19_0, hcz19_1, hfz19_0, hfz19_1⟩ := bx2 BK377.out) | ((with_reducible refine gate_callee (f := 127) rfl ?_); refine goesL_ (some 15) rfl rfl Tryz.func127 (by kernel_rfl) rfl #[.int .u8 a0_0] rfl eqT ?_; (with_reducible refine (impl_IsSound.calls a0_0 true _ A6.out).mono ?_); rintro e w' ⟨rfl, ⟨nd, rfl⟩⟩; refine ⟨_, rfl, ?_⟩) | ((with_reducible refine gate_callee (f := 128) rfl ?_); refine goesL_ (some 31) rfl rfl Tryz.func128 (by kernel_rfl) rfl #[.int .u8 a0_0] rfl eqT ?_; (with_reducible refine (impl_SwapVoice.calls a0_0 t380 false _ A14.out).mono ?_); rintro e w' ⟨rfl, ⟨nd, rfl⟩⟩; refine ⟨_, rfl, ?_⟩))
      go_ret
      exact ⟨rlT, hbT HB.out⟩
  ·replace c7 := Bool.eq_false_iff.mpr c7
   subst c7; rw [if_neg nF] at H; have H1 := H; clear H; have H := H1; clear H1
   obtain rfl := Option.some.inj H
   go_enter Tryz.func103, Tryz.ntmps103
   go_wp2_with (first | ((with_reducible refine gate_dst (N := 1) rfl ?_); refine boxT (N := 1) (cs := #[.int .u8 a0_0, .int .u8 a0_1]) (t := 103) ?_; intro gb377 hg w20 hbox hb; have BK377 := asT hbox; have GW377 := asT (geT hg HB.out); have GE377 := GW377; replace HB := hS HB hb; clear hb hbox hg; obtain ⟨hcz21_0, hcz21_1, hfz21_0, hfz21_1⟩ := bx2 BK377.out) | ((with_reducible refine gate_callee (f := 127) rfl ?_); refine goesL_ (some 15) rfl rfl Tryz.func127 (by kernel_rfl) rfl #[.int .u8 a0_0] rfl eqT ?_; (with_reducible refine (impl_IsSound.calls a0_0 false _ A6.out).mono ?_); rintro e w' ⟨rfl, ⟨nd, rfl⟩⟩; refine ⟨_, rfl, ?_⟩))
   go_ret
   exact ⟨rlT, hbT HB.out⟩
end Go.Proofs.YtmfhaplhgaehhabGreat.PFnExactFatalMark
