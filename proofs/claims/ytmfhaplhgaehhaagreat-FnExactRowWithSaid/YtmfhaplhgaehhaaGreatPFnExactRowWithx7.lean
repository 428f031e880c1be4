-- Made by gen.py (a program of this session) out of the translation; Lean checks it.
import Derived.Test.YtmfhaplhgaehhaaGreatPFnExactRowWithx0
import Derived.Test.YtmfhaplhgaehhaaGreatPFnExactRowWithx6
namespace Go.Proofs.YtmfhaplhgaehhaaGreat.PFnExactRowWith
open Go.RowKit Go.Proofs.YtmfhaplhgaehhaaGreatB Go.Proofs.YtmfhaplhgaehhaaGreatW.PrintWords Go.Proofs.YtmfhaplhgaehhaaGreatW.PrintLast Go.Proofs.YtmfhaplhgaehhaaGreatW.PrintMore
attribute [local go_sem] max2_int min2_int max_two min_two max_three min_three max_four min_four   -- for this text's walks alone
set_option linter.unusedVariables false
set_option linter.unusedSimpArgs false

/-! ### impl_isLink: function 81 -/
def impl_isLink.f (a0_0 : Int) (a0_1 : Int) : Option (Bool) := if a0_0 = 0 then ((impl_IsSound.f a0_1).bind fun t337 => (some t337)) else ((impl_IsSound.f a0_0).bind fun t338 => (if t338 = true then (if a0_1 = 0 then (some true) else (if a0_1 = a0_0 then (some true) else ((impl_SwapVoice.f a0_0).bind fun bt339 => (if bt339.2 = true then (some (bt339.1 == a0_1)) else (some false))))) else (some false)))
set_option maxHeartbeats 8000000 in
set_option maxRecDepth 100000 in
theorem impl_isLink.calls (a0_0 : Int) (a0_1 : Int) (r : Bool) (w : World) (h : impl_isLink.f a0_0 a0_1 = some r) :
  Calls Tryz.prog 81 #[.agg #[.int .u8 a0_0, .int .u8 a0_1]] w fun e w' => e = .returned (.bool r) ∧ Below w.heap.size w w' := by
 have hu70 := Tryz.underlying70; have HB := asT (Below.refl w.heap.size w); have H := h; unfold impl_isLink.f at H; clear h
 by_cases c2 : a0_0 = 0
 ·rw [if_pos c2] at H
  have c2b0 : (a0_0 == 0) = true := beq_iff_eq.mpr c2
  have c2b1 : (a0_0 != 0) = false := bne_eq_false_iff_eq.mpr c2
  clear c2; obtain ⟨t337, A3, H⟩ := be H
  obtain rfl := Option.some.inj H
  go_enter Tryz.func81, Tryz.ntmps81
  go_wp2_with (first | ((with_reducible refine gate_dst (N := 1) rfl ?_); refine boxT (N := 1) (cs := #[.int .u8 a0_0, .int .u8 a0_1]) (t := 70) ?_; intro gb336 hg w4 hbox hb; have BK336 := asT hbox; have GW336 := asT (geT hg HB.out); have GE336 := GW336; replace HB := hS HB hb; clear hb hbox hg; obtain ⟨hcz5_0, hcz5_1, hfz5_0, hfz5_1⟩ := bx2 BK336.out) | ((with_reducible refine gate_callee (f := 95) rfl ?_); refine goesL_ (some 11) rfl rfl Tryz.func95 (by kernel_rfl) rfl #[.int .u8 a0_1] rfl eqT ?_; (with_reducible refine (impl_IsSound.calls a0_1 t337 _ A3.out).mono ?_); rintro e w' ⟨rfl, ⟨nd, rfl⟩⟩; refine ⟨_, rfl, ?_⟩))
  go_ret
  exact ⟨rlT, hbT HB.out⟩
 ·rw [if_neg c2] at H
  have c2b0 : (a0_0 == 0) = false := beq_eq_false_iff_ne.mpr c2
  have c2b1 : (a0_0 != 0) = true := bne_iff_ne.mpr c2
  obtain ⟨t338, A6, H⟩ := be H
  by_cases c7 : t338 = true
  ·subst c7
   rw [if_pos rfl] at H; have H1 := H; clear H; have H := H1; clear H1
   by_cases c8 : a0_1 = 0
   ·rw [if_pos c8] at H
    have c8b0 : (a0_1 == 0) = true := beq_iff_eq.mpr c8
    have c8b1 : (a0_1 != 0) = false := bne_eq_false_iff_eq.mpr c8
    clear c8
    obtain rfl := Option.some.inj H
    go_enter Tryz.func81, Tryz.ntmps81
    go_wp2_with (first | ((with_reducible refine gate_dst (N := 1) rfl ?_); refine boxT (N := 1) (cs := #[.int .u8 a0_0, .int .u8 a0_1]) (t := 70) ?_; intro gb336 hg w9 hbox hb; have BK336 := asT hbox; have GW336 := asT (geT hg HB.out); have GE336 := GW336; replace HB := hS HB hb; clear hb hbox hg; obtain ⟨hcz10_0, hcz10_1, hfz10_0, hfz10_1⟩ := bx2 BK336.out) | ((with_reducible refine gate_callee (f := 95) rfl ?_); refine goesL_ (some 15) rfl rfl Tryz.func95 (by kernel_rfl) rfl #[.int .u8 a0_0] rfl eqT ?_; (with_reducible refine (impl_IsSound.calls a0_0 true _ A6.out).mono ?_); rintro e w' ⟨rfl, ⟨nd, rfl⟩⟩; refine ⟨_, rfl, ?_⟩))
    go_ret
    exact ⟨rlT, hbT HB.out⟩
   ·rw [if_neg c8] at H
    have c8b0 : (a0_1 == 0) = false := beq_eq_false_iff_ne.mpr c8
    have c8b1 : (a0_1 != 0) = true := bne_iff_ne.mpr c8
    by_cases c11 : a0_1 = a0_0
    ·rw [if_pos c11] at H
     have c11b0 : (a0_1 == a0_0) = true := beq_iff_eq.mpr c11
     have c11b1 : (a0_1 != a0_0) = false := bne_eq_false_iff_eq.mpr c11
     clear c11
     obtain rfl := Option.some.inj H
     go_enter Tryz.func81, Tryz.ntmps81
     go_wp2_with (first | ((with_reducible refine gate_dst (N := 1) rfl ?_); refine boxT (N := 1) (cs := #[.int .u8 a0_0, .int .u8 a0_1]) (t := 70) ?_; intro gb336 hg w12 hbox hb; have BK336 := asT hbox; have GW336 := asT (geT hg HB.out); have GE336 := GW336; replace HB := hS HB hb; clear hb hbox hg; obtain ⟨hcz13_0, hcz13_1, hfz13_0, hfz13_1⟩ := bx2 BK336.out) | ((with_reducible refine gate_callee (f := 95) rfl ?_); refine goesL_ (some 15) rfl rfl Tryz.func95 (by kernel_rfl) rfl #[.int .u8 a0_0] rfl eqT ?_; (with_reducible refine (impl_IsSound.calls a0_0 true _ A6.out).mono ?_); rintro e w' ⟨rfl, ⟨nd, rfl⟩⟩; refine ⟨_, rfl, ?_⟩))
     go_ret
     exact ⟨rlT, hbT HB.out⟩
    ·rw [if_neg c11] at H
     have c11b0 : (a0_1 == a0_0) = false := beq_eq_false_iff_ne.mpr c11
     have c11b1 : (a0_1 != a0_0) = true := bne_iff_ne.mpr c11
     replace H := Option.bind_eq_some_iff.mp H; obtain ⟨⟨t339, t340⟩, A140, H⟩ := H; replace H : (if t340 = true then (some (t339 == a0_1)) else (some false)) = some r := H; have A14 := Aside0.mk A140; clear A140
     by_cases c15 : t340 = true
     ·subst c15
      rw [if_pos rfl] at H; have H1 := H; clear H; have H := H1; clear H1
      obtain rfl := Option.some.inj H
      go_enter Tryz.func81, Tryz.ntmps81
      go_wp2_with (first | ((with_reducible refine gate_dst (N := 1) rfl ?_); refine boxT (N := 1) (cs := #[.int .u8 a0_0, .int .u8 a0_1]) (t := 70) ?_; intro gb336 hg w16 hbox hb; have BK336 := asT hbox; have GW336 := asT (geT hg HB.out); have GE336 := GW336; replace HB := hS HB hb; clear hb hbox hg; obtain ⟨hcz17_0, hcz17_1, hfz17_0, hfz17_1⟩ := bx2 BK336.out) | ((with_reducible refine gate_callee (f := 95) rfl ?_); refine goesL_ (some 15) rfl rfl Tryz.func95 (by kernel_rfl) rfl #[.int .u8 a0_0] rfl eqT ?_; (with_reducible refine (impl_IsSound.calls a0_0 true _ A6.out).mono ?_); rintro e w' ⟨rfl, ⟨nd, rfl⟩⟩; refine ⟨_, rfl, ?_⟩) | ((with_reducible refine gate_callee (f := 98) rfl ?_); refine goesL_ (some 31) rfl rfl Tryz.func98 (by kernel_rfl) rfl #[.int .u8 a0_0] rfl eqT ?_; (with_reducible refine (impl_SwapVoice.calls a0_0 t339 true _ A14.out).mono ?_); rintro e w' ⟨rfl, ⟨nd, rfl⟩⟩; refine ⟨_, rfl, ?_⟩))
      go_ret
      exact ⟨rlT, hbT HB.out⟩
     ·replace c15 := Bool.eq_false_iff.mpr c15
      subst c15; rw [if_neg nF] at H; have H1 := H; clear H; have H := H1; clear H1
      obtain rfl := Option.some.inj H
      go_enter Tryz.func81, Tryz.ntmps81
      go_wp2_with (first | ((with_reducible refine gate_dst (N := 1) rfl ?_); refine boxT (N := 1) (cs := #[.int .u8 a0_0, .int .u8 a0_1]) (t := 70) ?_; intro gb336 hg w18 hbox hb; have BK336 := asT hbox; have GW336 := asT (geT hg HB.out); have GE336 := GW336; replace HB := hS HB hb; clear hb hbox hg; obtain ⟨hcz19_0, hcz19_1, hfz19_0, hfz19_1⟩ := bx2 BK336.out) | ((with_reducible refine gate_callee (f := 95) rfl ?_); refine goesL_ (some 15) rfl rfl Tryz.func95 (by kernel_rfl) rfl #[.int .u8 a0_0] rfl eqT ?_; (with_reducible refine (impl_IsSound.calls a0_0 true _ A6.out).mono ?_); rintro e w' ⟨rfl, ⟨nd, rfl⟩⟩; refine ⟨_, rfl, ?_⟩) | ((with_reducible refine gate_callee (f := 98) rfl ?_); refine goesL_ (some 31) rfl rfl Tryz.func98 (by kernel_rfl) rfl #[.int .u8 a0_0] rfl eqT ?_; (with_reducible refine (impl_SwapVoice.calls a0_0 t339 false _ A14.out).mono ?_); rintro e w' ⟨rfl, ⟨nd, rfl⟩⟩; refine ⟨_, rfl, ?_⟩))
      go_ret
      exact ⟨rlT, hbT HB.out⟩
  ·replace c7 := Bool.eq_false_iff.mpr c7
   subst c7; rw [if_neg nF] at H; have H1 := H; clear H; have H := H1; clear H1
   obtain rfl := Option.some.inj H
   go_enter Tryz.func81, Tryz.ntmps81
   go_wp2_with (first | ((with_reducible refine gate_dst (N := 1) rfl ?_); refine boxT (N := 1) (cs := #[.int .u8 a0_0, .int .u8 a0_1]) (t := 70) ?_; intro gb336 hg w20 hbox hb; have BK336 := asT hbox; have GW336 := asT (geT hg HB.out); have GE336 := GW336; replace HB := hS HB hb; clear hb hbox hg; obtain ⟨hcz21_0, hcz21_1, hfz21_0, hfz21_1⟩ := bx2 BK336.out) | ((with_reducible refine gate_callee (f := 95) rfl ?_); refine goesL_ (some 15) rfl rfl Tryz.func95 (by kernel_rfl) rfl #[.int .u8 a0_0] rfl eqT ?_; (with_reducible refine (impl_IsSound.calls a0_0 false _ A6.out).mono ?_); rintro e w' ⟨rfl, ⟨nd, rfl⟩⟩; refine ⟨_, rfl, ?_⟩))
   go_ret
   exact ⟨rlT, hbT HB.out⟩

/-! ### impl_IsCandidate: function 55 -/
def impl_IsCandidate.l0 : Nat → List (S70) → Int → Int → List (S70) → Option (Bool)
 | 0, _, _, _, _ => none
 | k + 1, x6, x7, x8, x342000 => if x8 < x7 then (if 0 ≤ x8 then (if x8 < (x6.length : Int) then ((impl_isLink.f ((rd_T70 x6 x8).f0) ((rd_T70 x6 x8).f1)).bind fun t344 => (if t344 = true then (impl_IsCandidate.l0 k x6 x7 (wrap64 (x8 + 1)) x342000) else (some false))) else (none)) else (none)) else (if (x342000.length : Int) ≤ 16 then ((impl_sounds.f k x342000 false).bind fun t345 => ((impl_IsForm.f k t345).bind fun t346 => (if t346 = true then ((impl_sounds.f k x342000 true).bind fun t347 => ((impl_IsForm.f k t347).bind fun t348 => (some t348))) else (some false)))) else (some false))
def impl_IsCandidate.f (k : Nat) (l0_0 : List (S70)) : Option (Bool) := impl_IsCandidate.l0 k l0_0 (l0_0.length : Int) 0 l0_0
theorem impl_IsCandidate.mono_l : ∀ k, (∀ y0 y1 y2 y3, LeO (impl_IsCandidate.l0 k y0 y1 y2 y3) (impl_IsCandidate.l0 (k + 1) y0 y1 y2 y3))
 | 0 => fun _ _ _ _ r h => by simp [impl_IsCandidate.l0] at h
 | k + 1 => by
  have ih0 := impl_IsCandidate.mono_l k
  ·intro y0 y1 y2 y3
   unfold impl_IsCandidate.l0
   with_reducible repeat' first | exact ih0 _ _ _ _ | exact impl_IsForm.mono _ _ | exact impl_sounds.mono _ _ _ | exact LeO.refl _ | exact LeO.none _ | refine LeO.ite ?_ ?_ | refine LeO.bind ?_ (fun _ => ?_)
theorem impl_IsCandidate.mono : ∀ a0 k, LeO (impl_IsCandidate.f k a0) (impl_IsCandidate.f (k + 1) a0) := by
 intro a0 k
 have ih0 := impl_IsCandidate.mono_l k
 unfold impl_IsCandidate.f
 with_reducible repeat' first | exact ih0 _ _ _ _ | exact impl_IsForm.mono _ _ | exact impl_sounds.mono _ _ _ | exact LeO.refl _ | exact LeO.none _ | refine LeO.ite ?_ ?_ | refine LeO.bind ?_ (fun _ => ?_)
set_option maxHeartbeats 8000000 in
set_option maxRecDepth 100000 in
theorem impl_IsCandidate.calls (k : Nat) (A0_0 : Option Addr) (c0_0 : Nat) (l0_0 : List (S70)) (r : Bool) (w : World) (hr0_0 : Kd.C k70 w A0_0 l0_0.length l0_0) (hc0_0 : l0_0.length ≤ c0_0) (h : impl_IsCandidate.f k l0_0 = some r) :
  Calls Tryz.prog 55 #[.agg #[.slice A0_0 l0_0.length c0_0]] w fun e w' => e = .returned (.bool r) ∧ Below w.heap.size w w' := by
 have hu48 := Tryz.underlying48; have hu70 := Tryz.underlying70; have HR0_0 := Aside0.mk hr0_0; have HC0_0 := Aside0.mk hc0_0; clear hr0_0 hc0_0; have HB := asT (Below.refl w.heap.size w); have H := h; unfold impl_IsCandidate.f at H; clear h; have H' := Aside0.mk H; clear H
 go_enter Tryz.func55, Tryz.ntmps55
 go_wp2_with (first | ((with_reducible refine gate_dst (N := 1) rfl ?_); refine boxT (N := 1) (cs := #[.slice A0_0 l0_0.length c0_0]) (t := 48) ?_; intro gb341 hg w2 hbox hb; have BK341 := asT hbox; have GW341 := asT (geT hg HB.out); have GE341 := GW341; replace HB := hS HB hb; clear hb hbox hg; obtain ⟨hcz3_0, hfz3_0⟩ := bx1 BK341.out))
 go_loopg [8] k (fun kq v8 w' => ∃ (x8_1 : Int), v8 = .int .i64 x8_1 ∧ Aside0 (impl_IsCandidate.l0 kq l0_0 (l0_0.length : Int) x8_1 l0_0 = some r) ∧ Aside0 (kq ≤ k) ∧ Aside0 (w'.heap[gb341]? = some (.cells #[(.slice A0_0 l0_0.length c0_0)] 48 (0, 0))) ∧ Aside0 (Below w.heap.size w w'))
 case atStart => exact ⟨(0), rdT, H', ⟨Nat.le_refl _⟩, ⟨by (with_reducible repeat (first | refine blk_drewN ?_ _ | refine blk_drew ?_ | refine blk_alloc ?_ _)); exact BK341.out⟩, ⟨hbT HB.out⟩⟩
 case round =>
  clear H'; (try clear p2 hcz3_0 hfz3_0); obtain ⟨x8_1, rfl, HA, HK1, BK341, HB⟩ := hrel
  cases gk with
  | zero => exact absurd HA.out (by simp [impl_IsCandidate.l0])
  | succ k1 =>
   have H := HA.out; clear HA
   simp only [impl_IsCandidate.l0] at H
   by_cases c4 : x8_1 < (l0_0.length : Int)
   ·rw [if_pos c4] at H
    have c4b0 : decide (x8_1 < (l0_0.length : Int)) = true := decide_eq_true c4
    clear c4
    by_cases c5 : 0 ≤ x8_1
    ·rw [if_pos c5] at H
     have c5b0 : decide (0 ≤ x8_1) = true := decide_eq_true c5
     clear c5
     by_cases c6 : x8_1 < (l0_0.length : Int)
     ·rw [if_pos c6] at H
      have c6b0 : decide (x8_1 < (l0_0.length : Int)) = true := decide_eq_true c6
      clear c6; obtain ⟨t344, A7, H⟩ := be H
      by_cases c8 : t344 = true
      ·subst c8
       rw [if_pos rfl] at H; have H' := Aside0.mk H; clear H
       have p342 : 0 ≤ (x8_1 : Int) := of_decide_eq_true asmT
       have q342 : x8_1 < (l0_0.length : Int) := of_decide_eq_true asmT
       obtain ⟨ad342, e342, hx342_0, hx342_1⟩ := at_T70 HR0_0.out x8_1 p342 q342
       cases e342
       replace hx342_0 := hbc HB.out hx342_0; replace hx342_1 := hbc HB.out hx342_1; replace p342 := eq_true p342; replace q342 := eq_true q342
       go_wp2_with (first | ((with_reducible refine gate_dst (N := 4) rfl ?_); refine boxT (N := 4) (cs := #[.int .u8 0, .int .u8 0]) (t := 70) ?_; intro gb343 hg w9 hbox hb; have BK343 := asT (hbox); have GW343 := asT (geT hg HB.out); have GE343 := asT (geT hg HB.out); replace HB := hS HB hb; have NB341_343 := asT ((by rw [hg]; exact Nat.ne_of_lt (blk_lt (g := gb341) (o := .cells #[.slice (some ad342) l0_0.length c0_0] 48 (0, 0)) (bkT BK341.out)) : gb341 ≠ gb343)); have NB343_341 := asT ((by rw [hg]; exact Nat.ne_of_gt (blk_lt (g := gb341) (o := .cells #[.slice (some ad342) l0_0.length c0_0] 48 (0, 0)) (bkT BK341.out)) : gb343 ≠ gb341)); replace BK341 := bS BK341 hb; clear hb hbox hg; have hnb10 := NB343_341.out; have hnc10 := NB341_343.out; obtain ⟨hcz11_0, hcz11_1, hfz11_0, hfz11_1⟩ := bx2 BK343.out) | ((with_reducible refine gate_callee (f := 81) rfl ?_); refine goesL_ (some 13) rfl rfl Tryz.func81 (by kernel_rfl) rfl #[.agg #[.int .u8 ((rd_T70 l0_0 x8_1).f0), .int .u8 ((rd_T70 l0_0 x8_1).f1)]] rfl eqT ?_; (with_reducible refine (impl_isLink.calls ((rd_T70 l0_0 x8_1).f0) ((rd_T70 l0_0 x8_1).f1) true _ A7.out).mono ?_); rintro e w12 ⟨rfl, hb⟩; refine ⟨_, rfl, ?_⟩; replace BK341 := asT (blk_below (g := gb341) (o := .cells #[.slice (some ad342) l0_0.length c0_0] 48 (0, 0)) (by (with_reducible repeat (first | refine blk_drewN ?_ _ | refine blk_drew ?_ | refine blk_alloc ?_ _)); refine blk_far ?_ NB341_343.out _; (with_reducible repeat (first | refine blk_drewN ?_ _ | refine blk_drew ?_ | refine blk_alloc ?_ _)); refine blk_far ?_ NB341_343.out _; (with_reducible repeat (first | refine blk_drewN ?_ _ | refine blk_drew ?_ | refine blk_alloc ?_ _)); exact BK341.out) hb); replace BK343 := asT (blk_below (g := gb343) (o := .cells #[.int .u8 ((rd_T70 l0_0 x8_1).f0), .int .u8 ((rd_T70 l0_0 x8_1).f1)] 70 (0, 0)) (by (with_reducible repeat (first | refine blk_drewN ?_ _ | refine blk_drew ?_ | refine blk_alloc ?_ _)); refine blk_put (cs := #[.int .u8 ((rd_T70 l0_0 x8_1).f0), .int .u8 0]) ?_ 1 _ rfl; (with_reducible repeat (first | refine blk_drewN ?_ _ | refine blk_drew ?_ | refine blk_alloc ?_ _)); refine blk_put (cs := #[.int .u8 0, .int .u8 0]) ?_ 0 _ rfl; (with_reducible repeat (first | refine blk_drewN ?_ _ | refine blk_drew ?_ | refine blk_alloc ?_ _)); exact BK343.out) hb); replace HB := hS HB hb; (try clear hb hb2 hk hi)))
       go_roundg k1
       case measure => have := HK1.out; omega
       case rel => exact ⟨(wrap64 (x8_1 + 1)), rdT, H', ⟨by have := HK1.out; omega⟩, ⟨by (with_reducible repeat (first | refine blk_drewN ?_ _ | refine blk_drew ?_ | refine blk_alloc ?_ _)); exact BK341.out⟩, ⟨hbT HB.out⟩⟩
      ·replace c8 := Bool.eq_false_iff.mpr c8
       subst c8; rw [if_neg nF] at H; have H1 := H; clear H; have H := H1; clear H1
       obtain rfl := Option.some.inj H
       have p342 : 0 ≤ (x8_1 : Int) := of_decide_eq_true asmT
       have q342 : x8_1 < (l0_0.length : Int) := of_decide_eq_true asmT
       obtain ⟨ad342, e342, hx342_0, hx342_1⟩ := at_T70 HR0_0.out x8_1 p342 q342
       cases e342
       replace hx342_0 := hbc HB.out hx342_0; replace hx342_1 := hbc HB.out hx342_1; replace p342 := eq_true p342; replace q342 := eq_true q342
       go_wp2_with (first | ((with_reducible refine gate_dst (N := 4) rfl ?_); refine boxT (N := 4) (cs := #[.int .u8 0, .int .u8 0]) (t := 70) ?_; intro gb343 hg w13 hbox hb; have BK343 := asT (hbox); have GW343 := asT (geT hg HB.out); have GE343 := asT (geT hg HB.out); replace HB := hS HB hb; have NB341_343 := asT ((by rw [hg]; exact Nat.ne_of_lt (blk_lt (g := gb341) (o := .cells #[.slice (some ad342) l0_0.length c0_0] 48 (0, 0)) (bkT BK341.out)) : gb341 ≠ gb343)); have NB343_341 := asT ((by rw [hg]; exact Nat.ne_of_gt (blk_lt (g := gb341) (o := .cells #[.slice (some ad342) l0_0.length c0_0] 48 (0, 0)) (bkT BK341.out)) : gb343 ≠ gb341)); replace BK341 := bS BK341 hb; clear hb hbox hg; have hnb14 := NB343_341.out; have hnc14 := NB341_343.out; obtain ⟨hcz15_0, hcz15_1, hfz15_0, hfz15_1⟩ := bx2 BK343.out) | ((with_reducible refine gate_callee (f := 81) rfl ?_); refine goesL_ (some 13) rfl rfl Tryz.func81 (by kernel_rfl) rfl #[.agg #[.int .u8 ((rd_T70 l0_0 x8_1).f0), .int .u8 ((rd_T70 l0_0 x8_1).f1)]] rfl eqT ?_; (with_reducible refine (impl_isLink.calls ((rd_T70 l0_0 x8_1).f0) ((rd_T70 l0_0 x8_1).f1) false _ A7.out).mono ?_); rintro e w16 ⟨rfl, hb⟩; refine ⟨_, rfl, ?_⟩; replace BK341 := asT (blk_below (g := gb341) (o := .cells #[.slice (some ad342) l0_0.length c0_0] 48 (0, 0)) (by (with_reducible repeat (first | refine blk_drewN ?_ _ | refine blk_drew ?_ | refine blk_alloc ?_ _)); refine blk_far ?_ NB341_343.out _; (with_reducible repeat (first | refine blk_drewN ?_ _ | refine blk_drew ?_ | refine blk_alloc ?_ _)); refine blk_far ?_ NB341_343.out _; (with_reducible repeat (first | refine blk_drewN ?_ _ | refine blk_drew ?_ | refine blk_alloc ?_ _)); exact BK341.out) hb); replace BK343 := asT (blk_below (g := gb343) (o := .cells #[.int .u8 ((rd_T70 l0_0 x8_1).f0), .int .u8 ((rd_T70 l0_0 x8_1).f1)] 70 (0, 0)) (by (with_reducible repeat (first | refine blk_drewN ?_ _ | refine blk_drew ?_ | refine blk_alloc ?_ _)); refine blk_put (cs := #[.int .u8 ((rd_T70 l0_0 x8_1).f0), .int .u8 0]) ?_ 1 _ rfl; (with_reducible repeat (first | refine blk_drewN ?_ _ | refine blk_drew ?_ | refine blk_alloc ?_ _)); refine blk_put (cs := #[.int .u8 0, .int .u8 0]) ?_ 0 _ rfl; (with_reducible repeat (first | refine blk_drewN ?_ _ | refine blk_drew ?_ | refine blk_alloc ?_ _)); exact BK343.out) hb); replace HB := hS HB hb; (try clear hb hb2 hk hi)))
       go_ret
       exact ⟨rlT, hbT HB.out⟩
     ·rw [if_neg c6] at H
      exact absurd H (by simp)
    ·rw [if_neg c5] at H
     exact absurd H (by simp)
   ·rw [if_neg c4] at H
    have c4b0 : decide (x8_1 < (l0_0.length : Int)) = false := decide_eq_false c4
    clear c4
    by_cases c17 : (l0_0.length : Int) ≤ 16
    ·rw [if_pos c17] at H
     have c17b0 : decide ((l0_0.length : Int) ≤ 16) = true := decide_eq_true c17
     have c17b1 : decide (l0_0.length ≤ 16) = true := decide_eq_true (by omega)
     clear c17; obtain ⟨t345, A18, H⟩ := be H; obtain ⟨t346, A19, H⟩ := be H
     by_cases c20 : t346 = true
     ·subst c20
      rw [if_pos rfl] at H; obtain ⟨t347, A21, H⟩ := be H; obtain ⟨t348, A22, H⟩ := be H
      obtain rfl := Option.some.inj H
      have hcz23_0 := bc0 BK341.out
      have hfz23_0 := blk_frozen BK341.out 0
      go_wp2_with (first | (go_at_call 58; (with_reducible refine (impl_sounds.calls k1 _ _ l0_0 false t345 _ ?side1 ?side2 A18.out).mono ?_); (case side1 => exact crT HR0_0.out HB.out); (case side2 => exact HC0_0.out); rintro e w24 ⟨rfl, hb⟩; replace BK341 := bS BK341 hb; replace HB := hS HB hb; (try clear hb hb2 hk hi)) | (go_at_call 35; (with_reducible refine (impl_IsForm.calls k1 t345 true _ A19.out).mono ?_); rintro e w' ⟨rfl, ⟨nd, rfl⟩⟩; obtain ⟨hcz25_0, hfz25_0⟩ := bx1 BK341.out) | (go_at_call 58; (with_reducible refine (impl_sounds.calls k1 _ _ l0_0 true t347 _ ?side1 ?side2 A21.out).mono ?_); (case side1 => exact crT HR0_0.out (hbT HB.out)); (case side2 => exact HC0_0.out); rintro e w26 ⟨rfl, hb⟩; replace BK341 := bS BK341 hb; replace HB := hS HB hb; (try clear hb hb2 hk hi)) | (go_at_call 35; (with_reducible refine (impl_IsForm.calls k1 t347 t348 _ A22.out).mono ?_); rintro e w' ⟨rfl, ⟨nd, rfl⟩⟩))
      go_ret
      exact ⟨rlT, hbT HB.out⟩
     ·replace c20 := Bool.eq_false_iff.mpr c20
      subst c20; rw [if_neg nF] at H; have H1 := H; clear H; have H := H1; clear H1
      obtain rfl := Option.some.inj H
      have hcz27_0 := bc0 BK341.out
      have hfz27_0 := blk_frozen BK341.out 0
      go_wp2_with (first | (go_at_call 58; (with_reducible refine (impl_sounds.calls k1 _ _ l0_0 false t345 _ ?side1 ?side2 A18.out).mono ?_); (case side1 => exact crT HR0_0.out HB.out); (case side2 => exact HC0_0.out); rintro e w28 ⟨rfl, hb⟩; replace BK341 := bS BK341 hb; replace HB := hS HB hb; (try clear hb hb2 hk hi)) | (go_at_call 35; (with_reducible refine (impl_IsForm.calls k1 t345 false _ A19.out).mono ?_); rintro e w' ⟨rfl, ⟨nd, rfl⟩⟩))
      go_ret
      exact ⟨rlT, hbT HB.out⟩
    ·rw [if_neg c17] at H
     have c17b0 : decide ((l0_0.length : Int) ≤ 16) = false := decide_eq_false c17
     have c17b1 : decide (l0_0.length ≤ 16) = false := decide_eq_false (by omega)
     clear c17
     obtain rfl := Option.some.inj H
     have hcz29_0 := bc0 BK341.out
     have hfz29_0 := blk_frozen BK341.out 0
     go_wp2
     go_ret
     exact ⟨rlT, hbT HB.out⟩

/-! ### impl_OutputOf: function 26 -/
def impl_OutputOf.f (k : Nat) (l0_0 : List (S70)) : Option (ByteArray) := (impl_IsCandidate.f k l0_0).bind fun t350 => (if t350 = true then ((impl_sounds.f k l0_0 true).bind fun t351 => (some t351)) else (some (⟨#[]⟩ : ByteArray)))
theorem impl_OutputOf.mono : ∀ a0 k, LeO (impl_OutputOf.f k a0) (impl_OutputOf.f (k + 1) a0) := by
 intro a0 k
 unfold impl_OutputOf.f
 with_reducible repeat' first | exact impl_IsCandidate.mono _ _ | exact impl_sounds.mono _ _ _ | exact LeO.refl _ | exact LeO.none _ | refine LeO.ite ?_ ?_ | refine LeO.bind ?_ (fun _ => ?_)
set_option maxHeartbeats 8000000 in
set_option maxRecDepth 100000 in
theorem impl_OutputOf.calls (k : Nat) (A0_0 : Option Addr) (c0_0 : Nat) (l0_0 : List (S70)) (r : ByteArray) (w : World) (hr0_0 : Kd.C k70 w A0_0 l0_0.length l0_0) (hc0_0 : l0_0.length ≤ c0_0) (h : impl_OutputOf.f k l0_0 = some r) :
  Calls Tryz.prog 26 #[.agg #[.slice A0_0 l0_0.length c0_0]] w fun e w' => e = .returned (.string r) ∧ Below w.heap.size w w' := by
 have hu48 := Tryz.underlying48; have HR0_0 := Aside0.mk hr0_0; have HC0_0 := Aside0.mk hc0_0; clear hr0_0 hc0_0; have HB := asT (Below.refl w.heap.size w); have H := h; unfold impl_OutputOf.f at H; clear h; obtain ⟨t350, A2, H⟩ := be H
 by_cases c3 : t350 = true
 ·subst c3
  rw [if_pos rfl] at H; obtain ⟨t351, A4, H⟩ := be H
  obtain rfl := Option.some.inj H
  go_enter Tryz.func26, Tryz.ntmps26
  go_wp2_with (first | ((with_reducible refine gate_dst (N := 1) rfl ?_); refine boxT (N := 1) (cs := #[.slice A0_0 l0_0.length c0_0]) (t := 48) ?_; intro gb349 hg w5 hbox hb; have BK349 := asT hbox; have GW349 := asT (geT hg HB.out); have GE349 := GW349; replace HB := hS HB hb; clear hb hbox hg; obtain ⟨hcz6_0, hfz6_0⟩ := bx1 BK349.out) | ((with_reducible refine gate_callee (f := 55) rfl ?_); refine goesL_ (some 4) rfl rfl Tryz.func55 (by kernel_rfl) rfl #[.agg #[.slice A0_0 l0_0.length c0_0]] rfl eqT ?_; (with_reducible refine (impl_IsCandidate.calls k _ _ l0_0 true _ ?side1 ?side2 A2.out).mono ?_); (case side1 => exact crT HR0_0.out HB.out); (case side2 => exact HC0_0.out); rintro e w7 ⟨rfl, hb⟩; refine ⟨_, rfl, ?_⟩; replace BK349 := bS BK349 hb; replace HB := hS HB hb; (try clear hb hb2 hk hi); obtain ⟨hcz8_0, hfz8_0⟩ := bx1 BK349.out) | ((with_reducible refine gate_callee (f := 58) rfl ?_); refine goesL_ (some 7) rfl rfl Tryz.func58 (by kernel_rfl) rfl #[.agg #[.slice A0_0 l0_0.length c0_0], .bool true] rfl eqT ?_; (with_reducible refine (impl_sounds.calls k _ _ l0_0 true t351 _ ?side1 ?side2 A4.out).mono ?_); (case side1 => exact crT HR0_0.out HB.out); (case side2 => exact HC0_0.out); rintro e w9 ⟨rfl, hb⟩; refine ⟨_, rfl, ?_⟩; replace BK349 := bS BK349 hb; replace HB := hS HB hb; (try clear hb hb2 hk hi)))
  go_ret
  exact ⟨rlT, hbT HB.out⟩
 ·replace c3 := Bool.eq_false_iff.mpr c3
  subst c3; rw [if_neg nF] at H; have H1 := H; clear H; have H := H1; clear H1
  obtain rfl := Option.some.inj H
  go_enter Tryz.func26, Tryz.ntmps26
  go_wp2_with (first | ((with_reducible refine gate_dst (N := 1) rfl ?_); refine boxT (N := 1) (cs := #[.slice A0_0 l0_0.length c0_0]) (t := 48) ?_; intro gb349 hg w10 hbox hb; have BK349 := asT hbox; have GW349 := asT (geT hg HB.out); have GE349 := GW349; replace HB := hS HB hb; clear hb hbox hg; obtain ⟨hcz11_0, hfz11_0⟩ := bx1 BK349.out) | ((with_reducible refine gate_callee (f := 55) rfl ?_); refine goesL_ (some 4) rfl rfl Tryz.func55 (by kernel_rfl) rfl #[.agg #[.slice A0_0 l0_0.length c0_0]] rfl eqT ?_; (with_reducible refine (impl_IsCandidate.calls k _ _ l0_0 false _ ?side1 ?side2 A2.out).mono ?_); (case side1 => exact crT HR0_0.out HB.out); (case side2 => exact HC0_0.out); rintro e w12 ⟨rfl, hb⟩; refine ⟨_, rfl, ?_⟩; replace BK349 := bS BK349 hb; replace HB := hS HB hb; (try clear hb hb2 hk hi)))
  go_ret
  exact ⟨rlT, hbT HB.out⟩

/-! ### impl_HasFeature: function 128 -/
def impl_HasFeature.f (a0 : Int) (a1 : Int) : Option (Bool) := (impl_within.f a1 0 4).bind fun t352 => (if t352 = true then ((some (([(⟨#[97, 105]⟩ : ByteArray), (⟨#[98, 100, 110, 97, 105]⟩ : ByteArray), (⟨#[110]⟩ : ByteArray), (⟨#[112, 98]⟩ : ByteArray), (⟨#[105]⟩ : ByteArray)] : List ByteArray) : List ByteArray)).bind fun y353 => (if 0 ≤ a1 then (if a1 < (y353.length : Int) then ((strings_IndexByte.f (rdOf ByteArray.empty y353 a1) a0).bind fun t357 => (some (decide (t357 ≥ 0)))) else (none)) else (none))) else (some false))
set_option maxHeartbeats 8000000 in
set_option maxRecDepth 100000 in
theorem impl_HasFeature.calls (a0 : Int) (a1 : Int) (r : Bool) (w : World) (h : impl_HasFeature.f a0 a1 = some r) :
  Calls Tryz.prog 128 #[.int .u8 a0, .int .i64 a1] w fun e w' => e = .returned (.bool r) ∧ Below w.heap.size w w' := by
 have HB := asT (Below.refl w.heap.size w); have H := h; unfold impl_HasFeature.f at H; clear h; obtain ⟨t352, A3, H⟩ := be H
 by_cases c4 : t352 = true
 ·subst c4
  rw [if_pos rfl] at H; obtain ⟨y353, hy353⟩ : ∃ y_ : List ByteArray, y_ = (([(⟨#[97, 105]⟩ : ByteArray), (⟨#[98, 100, 110, 97, 105]⟩ : ByteArray), (⟨#[110]⟩ : ByteArray), (⟨#[112, 98]⟩ : ByteArray), (⟨#[105]⟩ : ByteArray)] : List ByteArray)) := ⟨_, rfl⟩
  replace H : (if 0 ≤ a1 then (if a1 < (y353.length : Int) then ((strings_IndexByte.f (rdOf ByteArray.empty y353 a1) a0).bind fun t357 => (some (decide (t357 ≥ 0)))) else (none)) else (none)) = some r := by first | (rw [hy353]; with_reducible exact H) | (have H2_ := (Option.bind_some _ _).symm.trans H; rw [hy353]; with_reducible exact H2_) | (have H2_ := (Option.bind_some _ _).symm.trans H; with_reducible exact H2_) | with_reducible exact H | (rw [hy353]; exact H) | exact H
  have Ny353 := Aside0.mk hy353; clear hy353
  by_cases c5 : 0 ≤ a1
  ·rw [if_pos c5] at H
   have c5b0 : decide (0 ≤ a1) = true := decide_eq_true c5
   clear c5
   by_cases c6 : a1 < (y353.length : Int)
   ·rw [if_pos c6] at H
    have c6b0 : decide (a1 < (y353.length : Int)) = true := decide_eq_true c6
    clear c6; obtain ⟨t357, A7, H⟩ := be H
    obtain rfl := Option.some.inj H
    go_enter Tryz.func128, Tryz.ntmps128
    go_wp2_with (first | ((with_reducible refine gate_callee (f := 54) rfl ?_); refine goesL_ (some 6) rfl rfl Tryz.func54 (by kernel_rfl) rfl #[.int .i64 a1, .int .i64 0, .int .i64 4] rfl eqT ?_; (with_reducible refine (impl_within.calls a1 0 4 true _ A3.out).mono ?_); rintro e w' ⟨rfl, ⟨nd, rfl⟩⟩; refine ⟨_, rfl, ?_⟩) | ((with_reducible refine gate_dst (N := 8) rfl ?_); refine Kd.R_lit Kd.string _ 9 ?hg (N := 8) ?hd (xs := ([(⟨#[97, 105]⟩ : ByteArray), (⟨#[98, 100, 110, 97, 105]⟩ : ByteArray), (⟨#[110]⟩ : ByteArray), (⟨#[112, 98]⟩ : ByteArray), (⟨#[105]⟩ : ByteArray)] : List ByteArray)) (inner := [.string (⟨#[97, 105]⟩ : ByteArray), .string (⟨#[98, 100, 110, 97, 105]⟩ : ByteArray), .string (⟨#[110]⟩ : ByteArray), .string (⟨#[112, 98]⟩ : ByteArray), .string (⟨#[105]⟩ : ByteArray)]) (ok := fun _ => True) (okp := fun _ => True) ?hr ?hp (fun _ hk => hk) trivial (Below.refl _ _) (Nat.le_refl _) (by simp) ?_; (case hd => rfl); (case hg => rfl); (case hr => first | (go_simp; done) | (go_simp; rfl)); (case hp => exact (Reps.one (show Kd.M Kd.string _ _ _ (⟨#[97, 105]⟩ : ByteArray) [.string (⟨#[97, 105]⟩ : ByteArray)] from rfl) (Reps.one (show Kd.M Kd.string _ _ _ (⟨#[98, 100, 110, 97, 105]⟩ : ByteArray) [.string (⟨#[98, 100, 110, 97, 105]⟩ : ByteArray)] from rfl) (Reps.one (show Kd.M Kd.string _ _ _ (⟨#[110]⟩ : ByteArray) [.string (⟨#[110]⟩ : ByteArray)] from rfl) (Reps.one (show Kd.M Kd.string _ _ _ (⟨#[112, 98]⟩ : ByteArray) [.string (⟨#[112, 98]⟩ : ByteArray)] from rfl) (Reps.one (show Kd.M Kd.string _ _ _ (⟨#[105]⟩ : ByteArray) [.string (⟨#[105]⟩ : ByteArray)] from rfl) (Reps.none _ _))))))); intro v354 w8 ho9 hb hg_ hnew_; clear hg_ hnew_; (first | rw [← Ny353.out] at ho9 | (simp only [Int.reduceToNat] at ho9; rw [← Ny353.out] at ho9)); have HO355 := asT (Kd.R_lower ho9 (below_size (hbT HB.out))); replace HB := hS HB hb; clear hb ho9; obtain ⟨Ao10, co10, eo10⟩ := Kd.R_slice HO355.out; subst eo10; have p356 : 0 ≤ (a1 : Int) := of_decide_eq_true asmT; have q356 : a1 < (y353.length : Int) := of_decide_eq_true asmT; obtain ⟨ad356, e356, hx356_0⟩ := Kd.at_string (Kd.R_reads' HO355.out).2.2 a1 p356 q356; cases e356; replace p356 := eq_true p356; replace q356 := eq_true q356) | ((with_reducible refine gate_callee (f := 117) rfl ?_); refine goesL_ (some 13) rfl rfl Tryz.func117 (by kernel_rfl) rfl #[.string (rdOf ByteArray.empty y353 a1), .int .u8 a0] rfl eqT ?_; (with_reducible refine (strings_IndexByte.calls (rdOf ByteArray.empty y353 a1) a0 t357 _ A7.out).mono ?_); rintro e w' ⟨rfl, ⟨nd, rfl⟩⟩; refine ⟨_, rfl, ?_⟩))
    go_ret
    exact ⟨rlT, hbT HB.out⟩
   ·rw [if_neg c6] at H
    exact absurd H (by simp)
  ·rw [if_neg c5] at H
   exact absurd H (by simp)
 ·replace c4 := Bool.eq_false_iff.mpr c4
  subst c4; rw [if_neg nF] at H; have H1 := H; clear H; have H := H1; clear H1
  obtain rfl := Option.some.inj H
  go_enter Tryz.func128, Tryz.ntmps128
  go_wp2_with (first | ((with_reducible refine gate_callee (f := 54) rfl ?_); refine goesL_ (some 6) rfl rfl Tryz.func54 (by kernel_rfl) rfl #[.int .i64 a1, .int .i64 0, .int .i64 4] rfl eqT ?_; (with_reducible refine (impl_within.calls a1 0 4 false _ A3.out).mono ?_); rintro e w' ⟨rfl, ⟨nd, rfl⟩⟩; refine ⟨_, rfl, ?_⟩))
  go_ret
  exact ⟨rlT, hbT HB.out⟩

/-! ### impl_isVowel: function 120 -/
def impl_isVowel.f (a0 : Int) : Option (Bool) := (impl_HasFeature.f a0 0).bind fun t358 => (some t358)
set_option maxHeartbeats 8000000 in
set_option maxRecDepth 100000 in
theorem impl_isVowel.calls (a0 : Int) (r : Bool) (w : World) (h : impl_isVowel.f a0 = some r) :
  Calls Tryz.prog 120 #[.int .u8 a0] w fun e w' => e = .returned (.bool r) ∧ Below w.heap.size w w' := by
 have HB := asT (Below.refl w.heap.size w); have H := h; unfold impl_isVowel.f at H; clear h; obtain ⟨t358, A2, H⟩ := be H
 obtain rfl := Option.some.inj H
 go_enter Tryz.func120, Tryz.ntmps120
 go_wp2_with (first | ((with_reducible refine gate_callee (f := 128) rfl ?_); refine goesL_ (some 4) rfl rfl Tryz.func128 (by kernel_rfl) rfl #[.int .u8 a0, .int .i64 0] rfl eqT ?_; (with_reducible refine (impl_HasFeature.calls a0 0 t358 _ A2.out).mono ?_); rintro e w3 ⟨rfl, hb⟩; refine ⟨_, rfl, ?_⟩; replace HB := hS HB hb; (try clear hb hb2 hk hi)))
 go_ret
 exact ⟨rlT, hbT HB.out⟩

/-! ### impl_isConsonant: function 121 -/
def impl_isConsonant.f (a0 : Int) : Option (Bool) := (impl_IsSound.f a0).bind fun t359 => (if t359 = true then ((impl_isVowel.f a0).bind fun t360 => (some (!t360))) else (some false))
set_option maxHeartbeats 8000000 in
set_option maxRecDepth 100000 in
theorem impl_isConsonant.calls (a0 : Int) (r : Bool) (w : World) (h : impl_isConsonant.f a0 = some r) :
  Calls Tryz.prog 121 #[.int .u8 a0] w fun e w' => e = .returned (.bool r) ∧ Below w.heap.size w w' := by
 have HB := asT (Below.refl w.heap.size w); have H := h; unfold impl_isConsonant.f at H; clear h; obtain ⟨t359, A2, H⟩ := be H
 by_cases c3 : t359 = true
 ·subst c3
  rw [if_pos rfl] at H; obtain ⟨t360, A4, H⟩ := be H
  obtain rfl := Option.some.inj H
  go_enter Tryz.func121, Tryz.ntmps121
  go_wp2_with (first | ((with_reducible refine gate_callee (f := 95) rfl ?_); refine goesL_ (some 4) rfl rfl Tryz.func95 (by kernel_rfl) rfl #[.int .u8 a0] rfl eqT ?_; (with_reducible refine (impl_IsSound.calls a0 true _ A2.out).mono ?_); rintro e w' ⟨rfl, ⟨nd, rfl⟩⟩; refine ⟨_, rfl, ?_⟩) | (go_at_call 120; (with_reducible refine (impl_isVowel.calls a0 t360 _ A4.out).mono ?_); rintro e w5 ⟨rfl, hb⟩; replace HB := hS HB hb; (try clear hb hb2 hk hi)))
  go_ret
  exact ⟨rlT, hbT HB.out⟩
 ·replace c3 := Bool.eq_false_iff.mpr c3
  subst c3; rw [if_neg nF] at H; have H1 := H; clear H; have H := H1; clear H1
  obtain rfl := Option.some.inj H
  go_enter Tryz.func121, Tryz.ntmps121
  go_wp2_with (first | ((with_reducible refine gate_callee (f := 95) rfl ?_); refine goesL_ (some 4) rfl rfl Tryz.func95 (by kernel_rfl) rfl #[.int .u8 a0] rfl eqT ?_; (with_reducible refine (impl_IsSound.calls a0 false _ A2.out).mono ?_); rintro e w' ⟨rfl, ⟨nd, rfl⟩⟩; refine ⟨_, rfl, ?_⟩))
  go_ret
  exact ⟨rlT, hbT HB.out⟩

/-! ### impl_CountOnsetless_1: function 119 -/
def impl_CountOnsetless_1.f (a0 : Int) (a1 : Int) (a2 : Int) : Option (Bool) := (impl_isVowel.f a1).bind fun t361 => (if t361 = true then ((impl_isConsonant.f a0).bind fun t362 => (some (!t362))) else (some false))
set_option maxHeartbeats 8000000 in
set_option maxRecDepth 100000 in
theorem impl_CountOnsetless_1.calls (a0 : Int) (a1 : Int) (a2 : Int) (r : Bool) (w : World) (h : impl_CountOnsetless_1.f a0 a1 a2 = some r) :
  Calls Tryz.prog 119 #[.int .u8 a0, .int .u8 a1, .int .u8 a2] w fun e w' => e = .returned (.bool r) ∧ Below w.heap.size w w' := by
 have HB := asT (Below.refl w.heap.size w); have H := h; unfold impl_CountOnsetless_1.f at H; clear h; obtain ⟨t361, A4, H⟩ := be H
 by_cases c5 : t361 = true
 ·subst c5
  rw [if_pos rfl] at H; obtain ⟨t362, A6, H⟩ := be H
  obtain rfl := Option.some.inj H
  go_enter Tryz.func119, Tryz.ntmps119
  go_wp2_with (first | ((with_reducible refine gate_callee (f := 120) rfl ?_); refine goesL_ (some 8) rfl rfl Tryz.func120 (by kernel_rfl) rfl #[.int .u8 a1] rfl eqT ?_; (with_reducible refine (impl_isVowel.calls a1 true _ A4.out).mono ?_); rintro e w7 ⟨rfl, hb⟩; refine ⟨_, rfl, ?_⟩; replace HB := hS HB hb; (try clear hb hb2 hk hi)) | (go_at_call 121; (with_reducible refine (impl_isConsonant.calls a0 t362 _ A6.out).mono ?_); rintro e w8 ⟨rfl, hb⟩; replace HB := hS HB hb; (try clear hb hb2 hk hi)))
  go_ret
  exact ⟨rlT, hbT HB.out⟩
 ·replace c5 := Bool.eq_false_iff.mpr c5
  subst c5; rw [if_neg nF] at H; have H1 := H; clear H; have H := H1; clear H1
  obtain rfl := Option.some.inj H
  go_enter Tryz.func119, Tryz.ntmps119
  go_wp2_with (first | ((with_reducible refine gate_callee (f := 120) rfl ?_); refine goesL_ (some 8) rfl rfl Tryz.func120 (by kernel_rfl) rfl #[.int .u8 a1] rfl eqT ?_; (with_reducible refine (impl_isVowel.calls a1 false _ A4.out).mono ?_); rintro e w9 ⟨rfl, hb⟩; refine ⟨_, rfl, ?_⟩; replace HB := hS HB hb; (try clear hb hb2 hk hi)))
  go_ret
  exact ⟨rlT, hbT HB.out⟩

/-! ### impl_places_G: one text for all that is handed to it -/
mutual
def impl_places_G.l0 (PF : Int → Int → Int → Option (Bool)) : Nat → ByteArray → Int → Int → Int → Option (Int)
 | 0, _, _, _, _ => none
 | k + 1, x0, x5, x10, x11 => if x11 < x10 then (if x11 > 0 then (if 0 ≤ (wrap64 (x11 - 1)) then (if (wrap64 (x11 - 1)) < (x0.size : Int) then (impl_places_G.j1 PF k x0 x5 x11 (bt x0 (wrap64 (x11 - 1))) 0 x10 x11) else (none)) else (none)) else (impl_places_G.j1 PF k x0 x5 x11 0 0 x10 x11)) else (some x5)
def impl_places_G.j1 (PF : Int → Int → Int → Option (Bool)) : Nat → ByteArray → Int → Int → Int → Int → Int → Int → Option (Int)
 | 0, _, _, _, _, _, _, _ => none
 | k + 1, x0, x5, x6, x7, x8, x10, x11 => if (wrap64 (x6 + 1)) < (x0.size : Int) then (if 0 ≤ (wrap64 (x6 + 1)) then (impl_places_G.j2 PF k x0 x5 x6 x7 (bt x0 (wrap64 (x6 + 1))) x10 x11) else (none)) else (impl_places_G.j2 PF k x0 x5 x6 x7 x8 x10 x11)
def impl_places_G.j2 (PF : Int → Int → Int → Option (Bool)) : Nat → ByteArray → Int → Int → Int → Int → Int → Int → Option (Int)
 | 0, _, _, _, _, _, _, _ => none
 | k + 1, x0, x5, x6, x7, x8, x10, x11 => (impl_IsForm.f k x0).bind fun t363 => (if t363 = true then (if 0 ≤ x6 then (if x6 < (x0.size : Int) then ((PF x7 (bt x0 x6) x8).bind fun t364 => (if t364 = true then (impl_places_G.l0 PF k x0 (wrap64 (x5 + 1)) x10 (wrap64 (x11 + 1))) else (impl_places_G.l0 PF k x0 x5 x10 (wrap64 (x11 + 1))))) else (none)) else (none)) else (impl_places_G.l0 PF k x0 x5 x10 (wrap64 (x11 + 1))))
end
def impl_places_G.f (PF : Int → Int → Int → Option (Bool)) (k : Nat) (a0 : ByteArray) (a1 : Unit) : Option (Int) := impl_places_G.l0 PF k a0 0 (a0.size : Int) 0
theorem impl_places_G.mono_l (PF : Int → Int → Int → Option (Bool)) : ∀ k, (∀ y0 y1 y2 y3, LeO (impl_places_G.l0 PF k y0 y1 y2 y3) (impl_places_G.l0 PF (k + 1) y0 y1 y2 y3)) ∧ (∀ y0 y1 y2 y3 y4 y5 y6, LeO (impl_places_G.j1 PF k y0 y1 y2 y3 y4 y5 y6) (impl_places_G.j1 PF (k + 1) y0 y1 y2 y3 y4 y5 y6)) ∧ (∀ y0 y1 y2 y3 y4 y5 y6, LeO (impl_places_G.j2 PF k y0 y1 y2 y3 y4 y5 y6) (impl_places_G.j2 PF (k + 1) y0 y1 y2 y3 y4 y5 y6))
 | 0 => ⟨fun _ _ _ _ r h => by simp [impl_places_G.l0] at h, fun _ _ _ _ _ _ _ r h => by simp [impl_places_G.j1] at h, fun _ _ _ _ _ _ _ r h => by simp [impl_places_G.j2] at h⟩
 | k + 1 => by
  obtain ⟨ih0, ih1, ih2⟩ := impl_places_G.mono_l PF k; refine ⟨?_, ?_, ?_⟩
  ·intro y0 y1 y2 y3
   unfold impl_places_G.l0
   with_reducible repeat' first | exact ih0 _ _ _ _ | exact ih1 _ _ _ _ _ _ _ | exact ih2 _ _ _ _ _ _ _ | exact impl_IsForm.mono _ _ | exact LeO.refl _ | exact LeO.none _ | refine LeO.ite ?_ ?_ | refine LeO.bind ?_ (fun _ => ?_)
  ·intro y0 y1 y2 y3 y4 y5 y6
   unfold impl_places_G.j1
   with_reducible repeat' first | exact ih0 _ _ _ _ | exact ih1 _ _ _ _ _ _ _ | exact ih2 _ _ _ _ _ _ _ | exact impl_IsForm.mono _ _ | exact LeO.refl _ | exact LeO.none _ | refine LeO.ite ?_ ?_ | refine LeO.bind ?_ (fun _ => ?_)
  ·intro y0 y1 y2 y3 y4 y5 y6
   unfold impl_places_G.j2
   with_reducible repeat' first | exact ih0 _ _ _ _ | exact ih1 _ _ _ _ _ _ _ | exact ih2 _ _ _ _ _ _ _ | exact impl_IsForm.mono _ _ | exact LeO.refl _ | exact LeO.none _ | refine LeO.ite ?_ ?_ | refine LeO.bind ?_ (fun _ => ?_)
theorem impl_places_G.mono (PF : Int → Int → Int → Option (Bool)) : ∀ a0 a1 k, LeO (impl_places_G.f PF k a0 a1) (impl_places_G.f PF (k + 1) a0 a1) := by
 intro a0 a1 k
 obtain ⟨ih0, ih1, ih2⟩ := impl_places_G.mono_l PF k
 unfold impl_places_G.f
 with_reducible repeat' first | exact ih0 _ _ _ _ | exact ih1 _ _ _ _ _ _ _ | exact ih2 _ _ _ _ _ _ _ | exact impl_IsForm.mono _ _ | exact LeO.refl _ | exact LeO.none _ | refine LeO.ite ?_ ?_ | refine LeO.bind ?_ (fun _ => ?_)
set_option maxHeartbeats 8000000 in
set_option maxRecDepth 100000 in
theorem impl_places_G.calls (PF : Int → Int → Int → Option (Bool)) (F : FuncId) (fn : Func) (hfF : Tryz.prog.funcs[F]? = some fn) (hnF : (fn.name == "runtime.NumGoroutine") = false) (hbF : fn.body.isSome = true) (HF : ∀ (a0 a1 a2 : Int) (r : Bool) (w : World), PF a0 a1 a2 = some r → Calls Tryz.prog F #[.int .u8 a0, .int .u8 a1, .int .u8 a2] w fun e w' => e = .returned (.bool r) ∧ Below w.heap.size w w') (k : Nat) (a0 : ByteArray) (a1 : Unit) (r : Int) (w : World) (h : impl_places_G.f PF k a0 a1 = some r) :
  Calls Tryz.prog 118 #[.string a0, .func (.func F) #[] #[]] w fun e w' => e = .returned (.int .i64 r) ∧ Below w.heap.size w w' := by
 have HB := asT (Below.refl w.heap.size w); have H := h; unfold impl_places_G.f at H; clear h; have H' := Aside0.mk H; clear H
 go_enter Tryz.func118, Tryz.ntmps118
 go_wp2
 go_loopg [5, 11] k (fun kq v5 v11 w' => ∃ (x5_1 : Int) (x11_1 : Int), v5 = .int .i64 x5_1 ∧ v11 = .int .i64 x11_1 ∧ Aside0 (impl_places_G.l0 PF kq a0 x5_1 (a0.size : Int) x11_1 = some r) ∧ Aside0 (kq ≤ k) ∧ Aside0 (Below w.heap.size w w'))
 case atStart => exact ⟨(0), (0), rdT, rdT, H', ⟨Nat.le_refl _⟩, ⟨hbT HB.out⟩⟩
 case round =>
  clear H'; (try clear c1 p2); obtain ⟨x5_1, x11_1, rfl, rfl, HA, HK1, HB⟩ := hrel
  cases gk with
  | zero => exact absurd HA.out (by simp [impl_places_G.l0])
  | succ k1 =>
   have H := HA.out; clear HA
   simp only [impl_places_G.l0] at H
   by_cases c3 : x11_1 < (a0.size : Int)
   ·rw [if_pos c3] at H
    have c3b0 : decide (x11_1 < (a0.size : Int)) = true := decide_eq_true c3
    clear c3; have HC4 := Aside0.mk H; clear H
    go_upto_if 15 with (fail)
    go_cut [7] (fun v7 wc => ∃ (kq : Nat) (x7_3 : Int), v7 = .int .u8 x7_3 ∧ Aside0 (impl_places_G.j1 PF kq a0 x5_1 x11_1 x7_3 0 (a0.size : Int) x11_1 = some r) ∧ Aside0 (kq ≤ k1) ∧ Aside0 (Below w.heap.size w wc))
    case first =>
     have H := HC4.out; clear HC4
     by_cases c5 : x11_1 > 0
     ·rw [if_pos c5] at H
      have c5b0 : decide (0 < x11_1) = true := decide_eq_true c5
      clear c5
      (first | rw [c5b0] | (simp only [i64_w, i32_w]; rw [c5b0]) | skip)
      obtain ⟨ji6, hji6⟩ : ∃ j_ : Int, (wrap64 (x11_1 - 1)) = j_ := ⟨_, rfl⟩
      replace H : (if 0 ≤ (ji6) then (if (ji6) < (a0.size : Int) then (impl_places_G.j1 PF k1 a0 x5_1 x11_1 (bt a0 (ji6)) 0 (a0.size : Int) x11_1) else (none)) else (none)) = some r := by first | (rw [hji6] at H; exact H) | (simp only [hji6] at H ⊢; exact H)
      have hji6w : (IntKind.i64.wrap (x11_1 - 1)) = ji6 := (i64_w _).trans hji6
      by_cases c7 : 0 ≤ (ji6)
      ·rw [if_pos c7] at H
       have c7b0 : decide (0 ≤ (ji6)) = true := decide_eq_true c7
       clear c7
       by_cases c8 : (ji6) < (a0.size : Int)
       ·rw [if_pos c8] at H
        have c8b0 : decide ((ji6) < (a0.size : Int)) = true := decide_eq_true c8
        clear c8; have H' := Aside0.mk H; clear H
        have p9 : 0 ≤ ((ji6) : Int) := of_decide_eq_true asmT
        have q9 : (ji6) < (a0.size : Int) := of_decide_eq_true asmT
        have hx9 := bt_at a0 (ji6); replace p9 := eq_true p9; replace q9 := eq_true q9
        go_wp2
        go_meet
        case rel => exact ⟨_, (bt a0 (ji6)), (by first | rfl | (simp; done) | (simp only [← hji6] <;> (first | rfl | simp)) | (simp [*]; done)), H', ⟨by have := HK1.out; first | omega | exact Nat.le_refl _⟩, ⟨hbT HB.out⟩⟩
       ·rw [if_neg c8] at H
        exact absurd H (by simp)
      ·rw [if_neg c7] at H
       exact absurd H (by simp)
     ·rw [if_neg c5] at H
      have c5b0 : decide (0 < x11_1) = false := decide_eq_false c5
      clear c5
      (first | rw [c5b0] | (simp only [i64_w, i32_w]; rw [c5b0]) | skip)
      have H' := Aside0.mk H; clear H
      go_wp2
      go_meet
      case rel => exact ⟨_, (0), rdT, H', ⟨by have := HK1.out; first | omega | exact Nat.le_refl _⟩, ⟨hbT HB.out⟩⟩
    case rest =>
     clear HC4; (try clear c1 p2 c3 c3b0 c5 c5b0 p6 c7 c7b0 c8 c8b0 p9 q9 hx9 p2 p9 q9); obtain ⟨kq, x7_3, rfl, HA, HJ3, HB⟩ := hcut
     cases kq with
     | zero => exact absurd HA.out (by simp [impl_places_G.j1])
     | succ kj3 =>
      have H := HA.out; clear HA
      simp only [impl_places_G.j1] at H
      have HC10 := Aside0.mk H; clear H
      go_upto_if 24 with (fail)
      go_cut [8] (fun v8 wc => ∃ (kq : Nat) (x8_9 : Int), v8 = .int .u8 x8_9 ∧ Aside0 (impl_places_G.j2 PF kq a0 x5_1 x11_1 x7_3 x8_9 (a0.size : Int) x11_1 = some r) ∧ Aside0 (kq ≤ kj3) ∧ Aside0 (Below w.heap.size w wc))
      case first =>
       have H := HC10.out; clear HC10
       by_cases c11 : (wrap64 (x11_1 + 1)) < (a0.size : Int)
       ·rw [if_pos c11] at H
        have c11b0 : decide ((wrap64 (x11_1 + 1)) < (a0.size : Int)) = true := decide_eq_true c11
        clear c11
        (first | rw [c11b0] | (simp only [i64_w, i32_w]; rw [c11b0]) | skip)
        obtain ⟨ji12, hji12⟩ : ∃ j_ : Int, (wrap64 (x11_1 + 1)) = j_ := ⟨_, rfl⟩
        replace H : (if 0 ≤ (ji12) then (impl_places_G.j2 PF kj3 a0 x5_1 x11_1 x7_3 (bt a0 (ji12)) (a0.size : Int) x11_1) else (none)) = some r := by first | (rw [hji12] at H; exact H) | (simp only [hji12] at H ⊢; exact H)
        (try rw [hji12] at c11b0)
        have hji12w : (IntKind.i64.wrap (x11_1 + 1)) = ji12 := (i64_w _).trans hji12
        by_cases c13 : 0 ≤ (ji12)
        ·rw [if_pos c13] at H
         have c13b0 : decide (0 ≤ (ji12)) = true := decide_eq_true c13
         clear c13; have H' := Aside0.mk H; clear H
         have p14 : 0 ≤ ((ji12) : Int) := of_decide_eq_true asmT
         have q14 : (ji12) < (a0.size : Int) := of_decide_eq_true asmT
         have hx14 := bt_at a0 (ji12); replace p14 := eq_true p14; replace q14 := eq_true q14
         go_wp2
         go_meet
         case rel => exact ⟨_, (bt a0 (ji12)), (by first | rfl | (simp; done) | (simp only [← hji12] <;> (first | rfl | simp)) | (simp [*]; done)), H', ⟨by have := HK1.out; have := HJ3.out; first | omega | exact Nat.le_refl _⟩, ⟨hbT HB.out⟩⟩
        ·rw [if_neg c13] at H
         exact absurd H (by simp)
       ·rw [if_neg c11] at H
        have c11b0 : decide ((wrap64 (x11_1 + 1)) < (a0.size : Int)) = false := decide_eq_false c11
        clear c11
        (first | rw [c11b0] | (simp only [i64_w, i32_w]; rw [c11b0]) | skip)
        have H' := Aside0.mk H; clear H
        go_wp2
        go_meet
        case rel => exact ⟨_, (0), rdT, H', ⟨by have := HK1.out; have := HJ3.out; first | omega | exact Nat.le_refl _⟩, ⟨hbT HB.out⟩⟩
      case rest =>
       clear HC10; (try clear c1 p1 q1 hx1 p2 c3 c3b0 c5 c5b0 p6 c7 c7b0 c8 c8b0 p9 q9 hx9 c11 c11b0 c13 c13b0 p14 q14 hx14 p14 p2 p6 p9 q14 q9); obtain ⟨kq, x8_9, rfl, HA, HJ9, HB⟩ := hcut
       cases kq with
       | zero => exact absurd HA.out (by simp [impl_places_G.j2])
       | succ kj9 =>
        have H := HA.out; clear HA
        simp only [impl_places_G.j2] at H
        obtain ⟨t363, A15, H⟩ := be H
        by_cases c16 : t363 = true
        ·subst c16
         rw [if_pos rfl] at H; have H1 := H; clear H; have H := H1; clear H1
         by_cases c17 : 0 ≤ x11_1
         ·rw [if_pos c17] at H
          have c17b0 : decide (0 ≤ x11_1) = true := decide_eq_true c17
          clear c17
          by_cases c18 : x11_1 < (a0.size : Int)
          ·rw [if_pos c18] at H
           have c18b0 : decide (x11_1 < (a0.size : Int)) = true := decide_eq_true c18
           clear c18; obtain ⟨t364, A20, H⟩ := be H
           by_cases c21 : t364 = true
           ·subst c21
            rw [if_pos rfl] at H; have H' := Aside0.mk H; clear H
            go_wp2_with (first | ((with_reducible refine gate_callee (f := 35) rfl ?_); refine goesL_ (some 30) rfl rfl Tryz.func35 (by kernel_rfl) rfl #[.string a0] rfl eqT ?_; (with_reducible refine (impl_IsForm.calls kj9 a0 true _ A15.out).mono ?_); rintro e w' ⟨rfl, ⟨nd, rfl⟩⟩; refine ⟨_, rfl, ?_⟩; have p19 : 0 ≤ (x11_1 : Int) := of_decide_eq_true asmT; have q19 : x11_1 < (a0.size : Int) := of_decide_eq_true asmT; have hx19 := bt_at a0 x11_1; replace p19 := eq_true p19; replace q19 := eq_true q19) | (rw [enters_ hfF hnF hbF]; go_simp) | ((with_reducible refine (HF x7_3 (bt a0 x11_1) x8_9 true _ A20.out).mono ?_); rintro e w22 ⟨rfl, hb⟩; replace HB := hS HB hb; (try clear hb hb2 hk hi)))
            go_roundg kj9
            case measure => have := HK1.out; have := HJ3.out; have := HJ9.out; omega
            case rel => exact ⟨(wrap64 (x5_1 + 1)), (wrap64 (x11_1 + 1)), rdT, rdT, H', ⟨by have := HK1.out; have := HJ3.out; have := HJ9.out; omega⟩, ⟨hbT HB.out⟩⟩
           ·replace c21 := Bool.eq_false_iff.mpr c21
            subst c21; rw [if_neg nF] at H; have H' := Aside0.mk H; clear H
            go_wp2_with (first | ((with_reducible refine gate_callee (f := 35) rfl ?_); refine goesL_ (some 30) rfl rfl Tryz.func35 (by kernel_rfl) rfl #[.string a0] rfl eqT ?_; (with_reducible refine (impl_IsForm.calls kj9 a0 true _ A15.out).mono ?_); rintro e w' ⟨rfl, ⟨nd, rfl⟩⟩; refine ⟨_, rfl, ?_⟩; have p19 : 0 ≤ (x11_1 : Int) := of_decide_eq_true asmT; have q19 : x11_1 < (a0.size : Int) := of_decide_eq_true asmT; have hx19 := bt_at a0 x11_1; replace p19 := eq_true p19; replace q19 := eq_true q19) | (rw [enters_ hfF hnF hbF]; go_simp) | ((with_reducible refine (HF x7_3 (bt a0 x11_1) x8_9 false _ A20.out).mono ?_); rintro e w23 ⟨rfl, hb⟩; replace HB := hS HB hb; (try clear hb hb2 hk hi)))
            go_roundg kj9
            case measure => have := HK1.out; have := HJ3.out; have := HJ9.out; omega
            case rel => exact ⟨(x5_1), (wrap64 (x11_1 + 1)), rdT, rdT, H', ⟨by have := HK1.out; have := HJ3.out; have := HJ9.out; omega⟩, ⟨hbT HB.out⟩⟩
          ·rw [if_neg c18] at H
           exact absurd H (by simp)
         ·rw [if_neg c17] at H
          exact absurd H (by simp)
        ·replace c16 := Bool.eq_false_iff.mpr c16
         subst c16; rw [if_neg nF] at H; have H' := Aside0.mk H; clear H
         go_wp2_with (first | ((with_reducible refine gate_callee (f := 35) rfl ?_); refine goesL_ (some 30) rfl rfl Tryz.func35 (by kernel_rfl) rfl #[.string a0] rfl eqT ?_; (with_reducible refine (impl_IsForm.calls kj9 a0 false _ A15.out).mono ?_); rintro e w' ⟨rfl, ⟨nd, rfl⟩⟩; refine ⟨_, rfl, ?_⟩))
         go_roundg kj9
         case measure => have := HK1.out; have := HJ3.out; have := HJ9.out; omega
         case rel => exact ⟨(x5_1), (wrap64 (x11_1 + 1)), rdT, rdT, H', ⟨by have := HK1.out; have := HJ3.out; have := HJ9.out; omega⟩, ⟨hbT HB.out⟩⟩
   ·rw [if_neg c3] at H
    have c3b0 : decide (x11_1 < (a0.size : Int)) = false := decide_eq_false c3
    clear c3
    obtain rfl := Option.some.inj H
    go_wp2
    go_ret
    exact ⟨rlT, hbT HB.out⟩

/-! ### impl_places_at_CountOnsetless_1: an instance -/
def impl_places_at_CountOnsetless_1.f (k : Nat) (a0 : ByteArray) (a1 : Unit) : Option (Int) := impl_places_G.f impl_CountOnsetless_1.f k a0 a1
theorem impl_places_at_CountOnsetless_1.mono : ∀ a0 a1 k, LeO (impl_places_at_CountOnsetless_1.f k a0 a1) (impl_places_at_CountOnsetless_1.f (k + 1) a0 a1) := fun a0 a1 k => impl_places_G.mono impl_CountOnsetless_1.f a0 a1 k
theorem impl_places_at_CountOnsetless_1.calls (k : Nat) (a0 : ByteArray) (a1 : Unit) (r : Int) (w : World) (h : impl_places_at_CountOnsetless_1.f k a0 a1 = some r) :
  Calls Tryz.prog 118 #[.string a0, .func (.func 119) #[] #[]] w fun e w' => e = .returned (.int .i64 r) ∧ Below w.heap.size w w' := impl_places_G.calls impl_CountOnsetless_1.f 119 _ Tryz.func119 (by kernel_rfl) rfl (fun a0 a1 a2 r w h => impl_CountOnsetless_1.calls a0 a1 a2 r w h) k a0 a1 r w h

/-! ### impl_CountOnsetless: function 100 -/
def impl_CountOnsetless.f (k : Nat) (a0 : ByteArray) : Option (Int) := (impl_places_at_CountOnsetless_1.f k a0 ()).bind fun t365 => (some t365)
theorem impl_CountOnsetless.mono : ∀ a0 k, LeO (impl_CountOnsetless.f k a0) (impl_CountOnsetless.f (k + 1) a0) := by
 intro a0 k
 unfold impl_CountOnsetless.f
 with_reducible repeat' first | exact impl_places_at_CountOnsetless_1.mono _ _ _ | exact LeO.refl _ | exact LeO.none _ | refine LeO.ite ?_ ?_ | refine LeO.bind ?_ (fun _ => ?_)
set_option maxHeartbeats 8000000 in
set_option maxRecDepth 100000 in
theorem impl_CountOnsetless.calls (k : Nat) (a0 : ByteArray) (r : Int) (w : World) (h : impl_CountOnsetless.f k a0 = some r) :
  Calls Tryz.prog 100 #[.string a0] w fun e w' => e = .returned (.int .i64 r) ∧ Below w.heap.size w w' := by
 have HB := asT (Below.refl w.heap.size w); have H := h; unfold impl_CountOnsetless.f at H; clear h; obtain ⟨t365, A2, H⟩ := be H
 obtain rfl := Option.some.inj H
 go_enter Tryz.func100, Tryz.ntmps100
 go_wp2_with (first | ((with_reducible refine gate_callee (f := 118) rfl ?_); refine goesL_ (some 4) rfl rfl Tryz.func118 (by kernel_rfl) rfl #[.string a0, .func (.func 119) #[] #[]] rfl eqT ?_; (with_reducible refine (impl_places_at_CountOnsetless_1.calls k a0 () t365 _ A2.out).mono ?_); rintro e w3 ⟨rfl, hb⟩; refine ⟨_, rfl, ?_⟩; replace HB := hS HB hb; (try clear hb hb2 hk hi)))
 go_ret
 exact ⟨rlT, hbT HB.out⟩

/-! ### impl_CountCodas_1: function 122 -/
def impl_CountCodas_1.f (a0 : Int) (a1 : Int) (a2 : Int) : Option (Bool) := (impl_isConsonant.f a1).bind fun t366 => (if t366 = true then ((impl_isVowel.f a2).bind fun t367 => (some (!t367))) else (some false))
set_option maxHeartbeats 8000000 in
set_option maxRecDepth 100000 in
theorem impl_CountCodas_1.calls (a0 : Int) (a1 : Int) (a2 : Int) (r : Bool) (w : World) (h : impl_CountCodas_1.f a0 a1 a2 = some r) :
  Calls Tryz.prog 122 #[.int .u8 a0, .int .u8 a1, .int .u8 a2] w fun e w' => e = .returned (.bool r) ∧ Below w.heap.size w w' := by
 have HB := asT (Below.refl w.heap.size w); have H := h; unfold impl_CountCodas_1.f at H; clear h; obtain ⟨t366, A4, H⟩ := be H
 by_cases c5 : t366 = true
 ·subst c5
  rw [if_pos rfl] at H; obtain ⟨t367, A6, H⟩ := be H
  obtain rfl := Option.some.inj H
  go_enter Tryz.func122, Tryz.ntmps122
  go_wp2_with (first | ((with_reducible refine gate_callee (f := 121) rfl ?_); refine goesL_ (some 8) rfl rfl Tryz.func121 (by kernel_rfl) rfl #[.int .u8 a1] rfl eqT ?_; (with_reducible refine (impl_isConsonant.calls a1 true _ A4.out).mono ?_); rintro e w7 ⟨rfl, hb⟩; refine ⟨_, rfl, ?_⟩; replace HB := hS HB hb; (try clear hb hb2 hk hi)) | (go_at_call 120; (with_reducible refine (impl_isVowel.calls a2 t367 _ A6.out).mono ?_); rintro e w8 ⟨rfl, hb⟩; replace HB := hS HB hb; (try clear hb hb2 hk hi)))
  go_ret
  exact ⟨rlT, hbT HB.out⟩
 ·replace c5 := Bool.eq_false_iff.mpr c5
  subst c5; rw [if_neg nF] at H; have H1 := H; clear H; have H := H1; clear H1
  obtain rfl := Option.some.inj H
  go_enter Tryz.func122, Tryz.ntmps122
  go_wp2_with (first | ((with_reducible refine gate_callee (f := 121) rfl ?_); refine goesL_ (some 8) rfl rfl Tryz.func121 (by kernel_rfl) rfl #[.int .u8 a1] rfl eqT ?_; (with_reducible refine (impl_isConsonant.calls a1 false _ A4.out).mono ?_); rintro e w9 ⟨rfl, hb⟩; refine ⟨_, rfl, ?_⟩; replace HB := hS HB hb; (try clear hb hb2 hk hi)))
  go_ret
  exact ⟨rlT, hbT HB.out⟩

/-! ### impl_places_at_CountCodas_1: an instance -/
def impl_places_at_CountCodas_1.f (k : Nat) (a0 : ByteArray) (a1 : Unit) : Option (Int) := impl_places_G.f impl_CountCodas_1.f k a0 a1
theorem impl_places_at_CountCodas_1.mono : ∀ a0 a1 k, LeO (impl_places_at_CountCodas_1.f k a0 a1) (impl_places_at_CountCodas_1.f (k + 1) a0 a1) := fun a0 a1 k => impl_places_G.mono impl_CountCodas_1.f a0 a1 k
theorem impl_places_at_CountCodas_1.calls (k : Nat) (a0 : ByteArray) (a1 : Unit) (r : Int) (w : World) (h : impl_places_at_CountCodas_1.f k a0 a1 = some r) :
  Calls Tryz.prog 118 #[.string a0, .func (.func 122) #[] #[]] w fun e w' => e = .returned (.int .i64 r) ∧ Below w.heap.size w w' := impl_places_G.calls impl_CountCodas_1.f 122 _ Tryz.func122 (by kernel_rfl) rfl (fun a0 a1 a2 r w h => impl_CountCodas_1.calls a0 a1 a2 r w h) k a0 a1 r w h

/-! ### impl_CountCodas: function 101 -/
def impl_CountCodas.f (k : Nat) (a0 : ByteArray) : Option (Int) := (impl_places_at_CountCodas_1.f k a0 ()).bind fun t370 => (some t370)
theorem impl_CountCodas.mono : ∀ a0 k, LeO (impl_CountCodas.f k a0) (impl_CountCodas.f (k + 1) a0) := by
 intro a0 k
 unfold impl_CountCodas.f
 with_reducible repeat' first | exact impl_places_at_CountCodas_1.mono _ _ _ | exact LeO.refl _ | exact LeO.none _ | refine LeO.ite ?_ ?_ | refine LeO.bind ?_ (fun _ => ?_)
set_option maxHeartbeats 8000000 in
set_option maxRecDepth 100000 in
theorem impl_CountCodas.calls (k : Nat) (a0 : ByteArray) (r : Int) (w : World) (h : impl_CountCodas.f k a0 = some r) :
  Calls Tryz.prog 101 #[.string a0] w fun e w' => e = .returned (.int .i64 r) ∧ Below w.heap.size w w' := by
 have HB := asT (Below.refl w.heap.size w); have H := h; unfold impl_CountCodas.f at H; clear h; obtain ⟨t370, A2, H⟩ := be H
 obtain rfl := Option.some.inj H
 go_enter Tryz.func101, Tryz.ntmps101
 go_wp2_with (first | ((with_reducible refine gate_callee (f := 118) rfl ?_); refine goesL_ (some 4) rfl rfl Tryz.func118 (by kernel_rfl) rfl #[.string a0, .func (.func 122) #[] #[]] rfl eqT ?_; (with_reducible refine (impl_places_at_CountCodas_1.calls k a0 () t370 _ A2.out).mono ?_); rintro e w3 ⟨rfl, hb⟩; refine ⟨_, rfl, ?_⟩; replace HB := hS HB hb; (try clear hb hb2 hk hi)))
 go_ret
 exact ⟨rlT, hbT HB.out⟩

/-! ### impl_CountClusters_1: function 123 -/
def impl_CountClusters_1.f (a0 : Int) (a1 : Int) (a2 : Int) : Option (Bool) := (impl_isConsonant.f a0).bind fun t371 => (if t371 = true then ((impl_isConsonant.f a1).bind fun t372 => (some t372)) else (some false))
set_option maxHeartbeats 8000000 in
set_option maxRecDepth 100000 in
theorem impl_CountClusters_1.calls (a0 : Int) (a1 : Int) (a2 : Int) (r : Bool) (w : World) (h : impl_CountClusters_1.f a0 a1 a2 = some r) :
  Calls Tryz.prog 123 #[.int .u8 a0, .int .u8 a1, .int .u8 a2] w fun e w' => e = .returned (.bool r) ∧ Below w.heap.size w w' := by
 have HB := asT (Below.refl w.heap.size w); have H := h; unfold impl_CountClusters_1.f at H; clear h; obtain ⟨t371, A4, H⟩ := be H
 by_cases c5 : t371 = true
 ·subst c5
  rw [if_pos rfl] at H; obtain ⟨t372, A6, H⟩ := be H
  obtain rfl := Option.some.inj H
  go_enter Tryz.func123, Tryz.ntmps123
  go_wp2_with (first | ((with_reducible refine gate_callee (f := 121) rfl ?_); refine goesL_ (some 8) rfl rfl Tryz.func121 (by kernel_rfl) rfl #[.int .u8 a0] rfl eqT ?_; (with_reducible refine (impl_isConsonant.calls a0 true _ A4.out).mono ?_); rintro e w7 ⟨rfl, hb⟩; refine ⟨_, rfl, ?_⟩; replace HB := hS HB hb; (try clear hb hb2 hk hi)) | (go_at_call 121; (with_reducible refine (impl_isConsonant.calls a1 t372 _ A6.out).mono ?_); rintro e w8 ⟨rfl, hb⟩; replace HB := hS HB hb; (try clear hb hb2 hk hi)))
  go_ret
  exact ⟨rlT, hbT HB.out⟩
 ·replace c5 := Bool.eq_false_iff.mpr c5
  subst c5; rw [if_neg nF] at H; have H1 := H; clear H; have H := H1; clear H1
  obtain rfl := Option.some.inj H
  go_enter Tryz.func123, Tryz.ntmps123
  go_wp2_with (first | ((with_reducible refine gate_callee (f := 121) rfl ?_); refine goesL_ (some 8) rfl rfl Tryz.func121 (by kernel_rfl) rfl #[.int .u8 a0] rfl eqT ?_; (with_reducible refine (impl_isConsonant.calls a0 false _ A4.out).mono ?_); rintro e w9 ⟨rfl, hb⟩; refine ⟨_, rfl, ?_⟩; replace HB := hS HB hb; (try clear hb hb2 hk hi)))
  go_ret
  exact ⟨rlT, hbT HB.out⟩

/-! ### impl_places_at_CountClusters_1: an instance -/
def impl_places_at_CountClusters_1.f (k : Nat) (a0 : ByteArray) (a1 : Unit) : Option (Int) := impl_places_G.f impl_CountClusters_1.f k a0 a1
theorem impl_places_at_CountClusters_1.mono : ∀ a0 a1 k, LeO (impl_places_at_CountClusters_1.f k a0 a1) (impl_places_at_CountClusters_1.f (k + 1) a0 a1) := fun a0 a1 k => impl_places_G.mono impl_CountClusters_1.f a0 a1 k
theorem impl_places_at_CountClusters_1.calls (k : Nat) (a0 : ByteArray) (a1 : Unit) (r : Int) (w : World) (h : impl_places_at_CountClusters_1.f k a0 a1 = some r) :
  Calls Tryz.prog 118 #[.string a0, .func (.func 123) #[] #[]] w fun e w' => e = .returned (.int .i64 r) ∧ Below w.heap.size w w' := impl_places_G.calls impl_CountClusters_1.f 123 _ Tryz.func123 (by kernel_rfl) rfl (fun a0 a1 a2 r w h => impl_CountClusters_1.calls a0 a1 a2 r w h) k a0 a1 r w h

/-! ### impl_CountClusters: function 102 -/
def impl_CountClusters.f (k : Nat) (a0 : ByteArray) : Option (Int) := (impl_places_at_CountClusters_1.f k a0 ()).bind fun t375 => (some t375)
theorem impl_CountClusters.mono : ∀ a0 k, LeO (impl_CountClusters.f k a0) (impl_CountClusters.f (k + 1) a0) := by
 intro a0 k
 unfold impl_CountClusters.f
 with_reducible repeat' first | exact impl_places_at_CountClusters_1.mono _ _ _ | exact LeO.refl _ | exact LeO.none _ | refine LeO.ite ?_ ?_ | refine LeO.bind ?_ (fun _ => ?_)
set_option maxHeartbeats 8000000 in
set_option maxRecDepth 100000 in
theorem impl_CountClusters.calls (k : Nat) (a0 : ByteArray) (r : Int) (w : World) (h : impl_CountClusters.f k a0 = some r) :
  Calls Tryz.prog 102 #[.string a0] w fun e w' => e = .returned (.int .i64 r) ∧ Below w.heap.size w w' := by
 have HB := asT (Below.refl w.heap.size w); have H := h; unfold impl_CountClusters.f at H; clear h; obtain ⟨t375, A2, H⟩ := be H
 obtain rfl := Option.some.inj H
 go_enter Tryz.func102, Tryz.ntmps102
 go_wp2_with (first | ((with_reducible refine gate_callee (f := 118) rfl ?_); refine goesL_ (some 4) rfl rfl Tryz.func118 (by kernel_rfl) rfl #[.string a0, .func (.func 123) #[] #[]] rfl eqT ?_; (with_reducible refine (impl_places_at_CountClusters_1.calls k a0 () t375 _ A2.out).mono ?_); rintro e w3 ⟨rfl, hb⟩; refine ⟨_, rfl, ?_⟩; replace HB := hS HB hb; (try clear hb hb2 hk hi)))
 go_ret
 exact ⟨rlT, hbT HB.out⟩

/-! ### impl_IsObstruent: function 135 -/
def impl_IsObstruent.f (a0 : Int) : Option (Bool) := (strings_IndexByte.f (⟨#[112, 116, 98, 100]⟩ : ByteArray) a0).bind fun t376 => (some (decide (t376 ≥ 0)))
set_option maxHeartbeats 8000000 in
set_option maxRecDepth 100000 in
theorem impl_IsObstruent.calls (a0 : Int) (r : Bool) (w : World) (h : impl_IsObstruent.f a0 = some r) :
  Calls Tryz.prog 135 #[.int .u8 a0] w fun e w' => e = .returned (.bool r) ∧ Drawn0 w w' := by
 have H := h; unfold impl_IsObstruent.f at H; clear h; obtain ⟨t376, A2, H⟩ := be H
 obtain rfl := Option.some.inj H
 go_enter Tryz.func135, Tryz.ntmps135
 go_wp2_with (first | ((with_reducible refine gate_callee (f := 117) rfl ?_); refine goesL_ (some 4) rfl rfl Tryz.func117 (by kernel_rfl) rfl #[.string (⟨#[112, 116, 98, 100]⟩ : ByteArray), .int .u8 a0] rfl eqT ?_; (with_reducible refine (strings_IndexByte.calls (⟨#[112, 116, 98, 100]⟩ : ByteArray) a0 t376 _ A2.out).mono ?_); rintro e w' ⟨rfl, ⟨nd, rfl⟩⟩; refine ⟨_, rfl, ?_⟩))
 go_ret
 exact ⟨rdT, drT⟩

/-! ### impl_isVoiced: function 125 -/
def impl_isVoiced.f (a0 : Int) : Option (Bool) := (impl_IsObstruent.f a0).bind fun t377 => (if t377 = true then ((impl_HasFeature.f a0 1).bind fun t378 => (some t378)) else (some false))
set_option maxHeartbeats 8000000 in
set_option maxRecDepth 100000 in
theorem impl_isVoiced.calls (a0 : Int) (r : Bool) (w : World) (h : impl_isVoiced.f a0 = some r) :
  Calls Tryz.prog 125 #[.int .u8 a0] w fun e w' => e = .returned (.bool r) ∧ Below w.heap.size w w' := by
 have HB := asT (Below.refl w.heap.size w); have H := h; unfold impl_isVoiced.f at H; clear h; obtain ⟨t377, A2, H⟩ := be H
 by_cases c3 : t377 = true
 ·subst c3
  rw [if_pos rfl] at H; obtain ⟨t378, A4, H⟩ := be H
  obtain rfl := Option.some.inj H
  go_enter Tryz.func125, Tryz.ntmps125
  go_wp2_with (first | ((with_reducible refine gate_callee (f := 135) rfl ?_); refine goesL_ (some 4) rfl rfl Tryz.func135 (by kernel_rfl) rfl #[.int .u8 a0] rfl eqT ?_; (with_reducible refine (impl_IsObstruent.calls a0 true _ A2.out).mono ?_); rintro e w' ⟨rfl, ⟨nd, rfl⟩⟩; refine ⟨_, rfl, ?_⟩) | (go_at_call 128; (with_reducible refine (impl_HasFeature.calls a0 1 t378 _ A4.out).mono ?_); rintro e w5 ⟨rfl, hb⟩; replace HB := hS HB hb; (try clear hb hb2 hk hi)))
  go_ret
  exact ⟨rlT, hbT HB.out⟩
 ·replace c3 := Bool.eq_false_iff.mpr c3
  subst c3; rw [if_neg nF] at H; have H1 := H; clear H; have H := H1; clear H1
  obtain rfl := Option.some.inj H
  go_enter Tryz.func125, Tryz.ntmps125
  go_wp2_with (first | ((with_reducible refine gate_callee (f := 135) rfl ?_); refine goesL_ (some 4) rfl rfl Tryz.func135 (by kernel_rfl) rfl #[.int .u8 a0] rfl eqT ?_; (with_reducible refine (impl_IsObstruent.calls a0 false _ A2.out).mono ?_); rintro e w' ⟨rfl, ⟨nd, rfl⟩⟩; refine ⟨_, rfl, ?_⟩))
  go_ret
  exact ⟨rlT, hbT HB.out⟩

/-! ### impl_CountVoiced_1: function 124 -/
def impl_CountVoiced_1.f (a0 : Int) (a1 : Int) (a2 : Int) : Option (Bool) := (impl_isVoiced.f a1).bind fun t379 => (some t379)
set_option maxHeartbeats 8000000 in
set_option maxRecDepth 100000 in
theorem impl_CountVoiced_1.calls (a0 : Int) (a1 : Int) (a2 : Int) (r : Bool) (w : World) (h : impl_CountVoiced_1.f a0 a1 a2 = some r) :
  Calls Tryz.prog 124 #[.int .u8 a0, .int .u8 a1, .int .u8 a2] w fun e w' => e = .returned (.bool r) ∧ Below w.heap.size w w' := by
 have HB := asT (Below.refl w.heap.size w); have H := h; unfold impl_CountVoiced_1.f at H; clear h; obtain ⟨t379, A4, H⟩ := be H
 obtain rfl := Option.some.inj H
 go_enter Tryz.func124, Tryz.ntmps124
 go_wp2_with (first | ((with_reducible refine gate_callee (f := 125) rfl ?_); refine goesL_ (some 8) rfl rfl Tryz.func125 (by kernel_rfl) rfl #[.int .u8 a1] rfl eqT ?_; (with_reducible refine (impl_isVoiced.calls a1 t379 _ A4.out).mono ?_); rintro e w5 ⟨rfl, hb⟩; refine ⟨_, rfl, ?_⟩; replace HB := hS HB hb; (try clear hb hb2 hk hi)))
 go_ret
 exact ⟨rlT, hbT HB.out⟩

/-! ### impl_places_at_CountVoiced_1: an instance -/
def impl_places_at_CountVoiced_1.f (k : Nat) (a0 : ByteArray) (a1 : Unit) : Option (Int) := impl_places_G.f impl_CountVoiced_1.f k a0 a1
theorem impl_places_at_CountVoiced_1.mono : ∀ a0 a1 k, LeO (impl_places_at_CountVoiced_1.f k a0 a1) (impl_places_at_CountVoiced_1.f (k + 1) a0 a1) := fun a0 a1 k => impl_places_G.mono impl_CountVoiced_1.f a0 a1 k
theorem impl_places_at_CountVoiced_1.calls (k : Nat) (a0 : ByteArray) (a1 : Unit) (r : Int) (w : World) (h : impl_places_at_CountVoiced_1.f k a0 a1 = some r) :
  Calls Tryz.prog 118 #[.string a0, .func (.func 124) #[] #[]] w fun e w' => e = .returned (.int .i64 r) ∧ Below w.heap.size w w' := impl_places_G.calls impl_CountVoiced_1.f 124 _ Tryz.func124 (by kernel_rfl) rfl (fun a0 a1 a2 r w h => impl_CountVoiced_1.calls a0 a1 a2 r w h) k a0 a1 r w h

/-! ### impl_CountVoiced: function 103 -/
def impl_CountVoiced.f (k : Nat) (a0 : ByteArray) : Option (Int) := (impl_places_at_CountVoiced_1.f k a0 ()).bind fun t382 => (some t382)
theorem impl_CountVoiced.mono : ∀ a0 k, LeO (impl_CountVoiced.f k a0) (impl_CountVoiced.f (k + 1) a0) := by
 intro a0 k
 unfold impl_CountVoiced.f
 with_reducible repeat' first | exact impl_places_at_CountVoiced_1.mono _ _ _ | exact LeO.refl _ | exact LeO.none _ | refine LeO.ite ?_ ?_ | refine LeO.bind ?_ (fun _ => ?_)
set_option maxHeartbeats 8000000 in
set_option maxRecDepth 100000 in
theorem impl_CountVoiced.calls (k : Nat) (a0 : ByteArray) (r : Int) (w : World) (h : impl_CountVoiced.f k a0 = some r) :
  Calls Tryz.prog 103 #[.string a0] w fun e w' => e = .returned (.int .i64 r) ∧ Below w.heap.size w w' := by
 have HB := asT (Below.refl w.heap.size w); have H := h; unfold impl_CountVoiced.f at H; clear h; obtain ⟨t382, A2, H⟩ := be H
 obtain rfl := Option.some.inj H
 go_enter Tryz.func103, Tryz.ntmps103
 go_wp2_with (first | ((with_reducible refine gate_callee (f := 118) rfl ?_); refine goesL_ (some 4) rfl rfl Tryz.func118 (by kernel_rfl) rfl #[.string a0, .func (.func 124) #[] #[]] rfl eqT ?_; (with_reducible refine (impl_places_at_CountVoiced_1.calls k a0 () t382 _ A2.out).mono ?_); rintro e w3 ⟨rfl, hb⟩; refine ⟨_, rfl, ?_⟩; replace HB := hS HB hb; (try clear hb hb2 hk hi)))
 go_ret
 exact ⟨rlT, hbT HB.out⟩

/-! ### impl_CountFinalVoiced_1: function 126 -/
def impl_CountFinalVoiced_1.f (a0 : Int) (a1 : Int) (a2 : Int) : Option (Bool) := (impl_isVoiced.f a1).bind fun t383 => (if t383 = true then (some (a2 == 0)) else (some false))
set_option maxHeartbeats 8000000 in
set_option maxRecDepth 100000 in
theorem impl_CountFinalVoiced_1.calls (a0 : Int) (a1 : Int) (a2 : Int) (r : Bool) (w : World) (h : impl_CountFinalVoiced_1.f a0 a1 a2 = some r) :
  Calls Tryz.prog 126 #[.int .u8 a0, .int .u8 a1, .int .u8 a2] w fun e w' => e = .returned (.bool r) ∧ Below w.heap.size w w' := by
 have HB := asT (Below.refl w.heap.size w); have H := h; unfold impl_CountFinalVoiced_1.f at H; clear h; obtain ⟨t383, A4, H⟩ := be H
 by_cases c5 : t383 = true
 ·subst c5
  rw [if_pos rfl] at H; have H1 := H; clear H; have H := H1; clear H1
  obtain rfl := Option.some.inj H
  go_enter Tryz.func126, Tryz.ntmps126
  go_wp2_with (first | ((with_reducible refine gate_callee (f := 125) rfl ?_); refine goesL_ (some 8) rfl rfl Tryz.func125 (by kernel_rfl) rfl #[.int .u8 a1] rfl eqT ?_; (with_reducible refine (impl_isVoiced.calls a1 true _ A4.out).mono ?_); rintro e w6 ⟨rfl, hb⟩; refine ⟨_, rfl, ?_⟩; replace HB := hS HB hb; (try clear hb hb2 hk hi)))
  go_ret
  exact ⟨rlT, hbT HB.out⟩
 ·replace c5 := Bool.eq_false_iff.mpr c5
  subst c5; rw [if_neg nF] at H; have H1 := H; clear H; have H := H1; clear H1
  obtain rfl := Option.some.inj H
  go_enter Tryz.func126, Tryz.ntmps126
  go_wp2_with (first | ((with_reducible refine gate_callee (f := 125) rfl ?_); refine goesL_ (some 8) rfl rfl Tryz.func125 (by kernel_rfl) rfl #[.int .u8 a1] rfl eqT ?_; (with_reducible refine (impl_isVoiced.calls a1 false _ A4.out).mono ?_); rintro e w7 ⟨rfl, hb⟩; refine ⟨_, rfl, ?_⟩; replace HB := hS HB hb; (try clear hb hb2 hk hi)))
  go_ret
  exact ⟨rlT, hbT HB.out⟩

/-! ### impl_places_at_CountFinalVoiced_1: an instance -/
def impl_places_at_CountFinalVoiced_1.f (k : Nat) (a0 : ByteArray) (a1 : Unit) : Option (Int) := impl_places_G.f impl_CountFinalVoiced_1.f k a0 a1
theorem impl_places_at_CountFinalVoiced_1.mono : ∀ a0 a1 k, LeO (impl_places_at_CountFinalVoiced_1.f k a0 a1) (impl_places_at_CountFinalVoiced_1.f (k + 1) a0 a1) := fun a0 a1 k => impl_places_G.mono impl_CountFinalVoiced_1.f a0 a1 k
theorem impl_places_at_CountFinalVoiced_1.calls (k : Nat) (a0 : ByteArray) (a1 : Unit) (r : Int) (w : World) (h : impl_places_at_CountFinalVoiced_1.f k a0 a1 = some r) :
  Calls Tryz.prog 118 #[.string a0, .func (.func 126) #[] #[]] w fun e w' => e = .returned (.int .i64 r) ∧ Below w.heap.size w w' := impl_places_G.calls impl_CountFinalVoiced_1.f 126 _ Tryz.func126 (by kernel_rfl) rfl (fun a0 a1 a2 r w h => impl_CountFinalVoiced_1.calls a0 a1 a2 r w h) k a0 a1 r w h

/-! ### impl_CountFinalVoiced: function 104 -/
def impl_CountFinalVoiced.f (k : Nat) (a0 : ByteArray) : Option (Int) := (impl_places_at_CountFinalVoiced_1.f k a0 ()).bind fun t386 => (some t386)
theorem impl_CountFinalVoiced.mono : ∀ a0 k, LeO (impl_CountFinalVoiced.f k a0) (impl_CountFinalVoiced.f (k + 1) a0) := by
 intro a0 k
 unfold impl_CountFinalVoiced.f
 with_reducible repeat' first | exact impl_places_at_CountFinalVoiced_1.mono _ _ _ | exact LeO.refl _ | exact LeO.none _ | refine LeO.ite ?_ ?_ | refine LeO.bind ?_ (fun _ => ?_)
set_option maxHeartbeats 8000000 in
set_option maxRecDepth 100000 in
theorem impl_CountFinalVoiced.calls (k : Nat) (a0 : ByteArray) (r : Int) (w : World) (h : impl_CountFinalVoiced.f k a0 = some r) :
  Calls Tryz.prog 104 #[.string a0] w fun e w' => e = .returned (.int .i64 r) ∧ Below w.heap.size w w' := by
 have HB := asT (Below.refl w.heap.size w); have H := h; unfold impl_CountFinalVoiced.f at H; clear h; obtain ⟨t386, A2, H⟩ := be H
 obtain rfl := Option.some.inj H
 go_enter Tryz.func104, Tryz.ntmps104
 go_wp2_with (first | ((with_reducible refine gate_callee (f := 118) rfl ?_); refine goesL_ (some 4) rfl rfl Tryz.func118 (by kernel_rfl) rfl #[.string a0, .func (.func 126) #[] #[]] rfl eqT ?_; (with_reducible refine (impl_places_at_CountFinalVoiced_1.calls k a0 () t386 _ A2.out).mono ?_); rintro e w3 ⟨rfl, hb⟩; refine ⟨_, rfl, ?_⟩; replace HB := hS HB hb; (try clear hb hb2 hk hi)))
 go_ret
 exact ⟨rlT, hbT HB.out⟩

/-! ### impl_isVoiceless: function 129 -/
def impl_isVoiceless.f (a0 : Int) : Option (Bool) := (impl_IsObstruent.f a0).bind fun t387 => (if t387 = true then ((impl_HasFeature.f a0 1).bind fun t388 => (some (!t388))) else (some false))
set_option maxHeartbeats 8000000 in
set_option maxRecDepth 100000 in
theorem impl_isVoiceless.calls (a0 : Int) (r : Bool) (w : World) (h : impl_isVoiceless.f a0 = some r) :
  Calls Tryz.prog 129 #[.int .u8 a0] w fun e w' => e = .returned (.bool r) ∧ Below w.heap.size w w' := by
 have HB := asT (Below.refl w.heap.size w); have H := h; unfold impl_isVoiceless.f at H; clear h; obtain ⟨t387, A2, H⟩ := be H
 by_cases c3 : t387 = true
 ·subst c3
  rw [if_pos rfl] at H; obtain ⟨t388, A4, H⟩ := be H
  obtain rfl := Option.some.inj H
  go_enter Tryz.func129, Tryz.ntmps129
  go_wp2_with (first | ((with_reducible refine gate_callee (f := 135) rfl ?_); refine goesL_ (some 4) rfl rfl Tryz.func135 (by kernel_rfl) rfl #[.int .u8 a0] rfl eqT ?_; (with_reducible refine (impl_IsObstruent.calls a0 true _ A2.out).mono ?_); rintro e w' ⟨rfl, ⟨nd, rfl⟩⟩; refine ⟨_, rfl, ?_⟩) | (go_at_call 128; (with_reducible refine (impl_HasFeature.calls a0 1 t388 _ A4.out).mono ?_); rintro e w5 ⟨rfl, hb⟩; replace HB := hS HB hb; (try clear hb hb2 hk hi)))
  go_ret
  exact ⟨rlT, hbT HB.out⟩
 ·replace c3 := Bool.eq_false_iff.mpr c3
  subst c3; rw [if_neg nF] at H; have H1 := H; clear H; have H := H1; clear H1
  obtain rfl := Option.some.inj H
  go_enter Tryz.func129, Tryz.ntmps129
  go_wp2_with (first | ((with_reducible refine gate_callee (f := 135) rfl ?_); refine goesL_ (some 4) rfl rfl Tryz.func135 (by kernel_rfl) rfl #[.int .u8 a0] rfl eqT ?_; (with_reducible refine (impl_IsObstruent.calls a0 false _ A2.out).mono ?_); rintro e w' ⟨rfl, ⟨nd, rfl⟩⟩; refine ⟨_, rfl, ?_⟩))
  go_ret
  exact ⟨rlT, hbT HB.out⟩

/-! ### impl_CountNasalVoiceless_1: function 127 -/
def impl_CountNasalVoiceless_1.f (a0 : Int) (a1 : Int) (a2 : Int) : Option (Bool) := (impl_HasFeature.f a0 2).bind fun t389 => (if t389 = true then ((impl_isVoiceless.f a1).bind fun t390 => (some t390)) else (some false))
set_option maxHeartbeats 8000000 in
set_option maxRecDepth 100000 in
theorem impl_CountNasalVoiceless_1.calls (a0 : Int) (a1 : Int) (a2 : Int) (r : Bool) (w : World) (h : impl_CountNasalVoiceless_1.f a0 a1 a2 = some r) :
  Calls Tryz.prog 127 #[.int .u8 a0, .int .u8 a1, .int .u8 a2] w fun e w' => e = .returned (.bool r) ∧ Below w.heap.size w w' := by
 have HB := asT (Below.refl w.heap.size w); have H := h; unfold impl_CountNasalVoiceless_1.f at H; clear h; obtain ⟨t389, A4, H⟩ := be H
 by_cases c5 : t389 = true
 ·subst c5
  rw [if_pos rfl] at H; obtain ⟨t390, A6, H⟩ := be H
  obtain rfl := Option.some.inj H
  go_enter Tryz.func127, Tryz.ntmps127
  go_wp2_with (first | ((with_reducible refine gate_callee (f := 128) rfl ?_); refine goesL_ (some 8) rfl rfl Tryz.func128 (by kernel_rfl) rfl #[.int .u8 a0, .int .i64 2] rfl eqT ?_; (with_reducible refine (impl_HasFeature.calls a0 2 true _ A4.out).mono ?_); rintro e w7 ⟨rfl, hb⟩; refine ⟨_, rfl, ?_⟩; replace HB := hS HB hb; (try clear hb hb2 hk hi)) | (go_at_call 129; (with_reducible refine (impl_isVoiceless.calls a1 t390 _ A6.out).mono ?_); rintro e w8 ⟨rfl, hb⟩; replace HB := hS HB hb; (try clear hb hb2 hk hi)))
  go_ret
  exact ⟨rlT, hbT HB.out⟩
 ·replace c5 := Bool.eq_false_iff.mpr c5
  subst c5; rw [if_neg nF] at H; have H1 := H; clear H; have H := H1; clear H1
  obtain rfl := Option.some.inj H
  go_enter Tryz.func127, Tryz.ntmps127
  go_wp2_with (first | ((with_reducible refine gate_callee (f := 128) rfl ?_); refine goesL_ (some 8) rfl rfl Tryz.func128 (by kernel_rfl) rfl #[.int .u8 a0, .int .i64 2] rfl eqT ?_; (with_reducible refine (impl_HasFeature.calls a0 2 false _ A4.out).mono ?_); rintro e w9 ⟨rfl, hb⟩; refine ⟨_, rfl, ?_⟩; replace HB := hS HB hb; (try clear hb hb2 hk hi)))
  go_ret
  exact ⟨rlT, hbT HB.out⟩

/-! ### impl_places_at_CountNasalVoiceless_1: an instance -/
def impl_places_at_CountNasalVoiceless_1.f (k : Nat) (a0 : ByteArray) (a1 : Unit) : Option (Int) := impl_places_G.f impl_CountNasalVoiceless_1.f k a0 a1
theorem impl_places_at_CountNasalVoiceless_1.mono : ∀ a0 a1 k, LeO (impl_places_at_CountNasalVoiceless_1.f k a0 a1) (impl_places_at_CountNasalVoiceless_1.f (k + 1) a0 a1) := fun a0 a1 k => impl_places_G.mono impl_CountNasalVoiceless_1.f a0 a1 k
theorem impl_places_at_CountNasalVoiceless_1.calls (k : Nat) (a0 : ByteArray) (a1 : Unit) (r : Int) (w : World) (h : impl_places_at_CountNasalVoiceless_1.f k a0 a1 = some r) :
  Calls Tryz.prog 118 #[.string a0, .func (.func 127) #[] #[]] w fun e w' => e = .returned (.int .i64 r) ∧ Below w.heap.size w w' := impl_places_G.calls impl_CountNasalVoiceless_1.f 127 _ Tryz.func127 (by kernel_rfl) rfl (fun a0 a1 a2 r w h => impl_CountNasalVoiceless_1.calls a0 a1 a2 r w h) k a0 a1 r w h

/-! ### impl_CountNasalVoiceless: function 105 -/
def impl_CountNasalVoiceless.f (k : Nat) (a0 : ByteArray) : Option (Int) := (impl_places_at_CountNasalVoiceless_1.f k a0 ()).bind fun t393 => (some t393)
theorem impl_CountNasalVoiceless.mono : ∀ a0 k, LeO (impl_CountNasalVoiceless.f k a0) (impl_CountNasalVoiceless.f (k + 1) a0) := by
 intro a0 k
 unfold impl_CountNasalVoiceless.f
 with_reducible repeat' first | exact impl_places_at_CountNasalVoiceless_1.mono _ _ _ | exact LeO.refl _ | exact LeO.none _ | refine LeO.ite ?_ ?_ | refine LeO.bind ?_ (fun _ => ?_)
set_option maxHeartbeats 8000000 in
set_option maxRecDepth 100000 in
theorem impl_CountNasalVoiceless.calls (k : Nat) (a0 : ByteArray) (r : Int) (w : World) (h : impl_CountNasalVoiceless.f k a0 = some r) :
  Calls Tryz.prog 105 #[.string a0] w fun e w' => e = .returned (.int .i64 r) ∧ Below w.heap.size w w' := by
 have HB := asT (Below.refl w.heap.size w); have H := h; unfold impl_CountNasalVoiceless.f at H; clear h; obtain ⟨t393, A2, H⟩ := be H
 obtain rfl := Option.some.inj H
 go_enter Tryz.func105, Tryz.ntmps105
 go_wp2_with (first | ((with_reducible refine gate_callee (f := 118) rfl ?_); refine goesL_ (some 4) rfl rfl Tryz.func118 (by kernel_rfl) rfl #[.string a0, .func (.func 127) #[] #[]] rfl eqT ?_; (with_reducible refine (impl_places_at_CountNasalVoiceless_1.calls k a0 () t393 _ A2.out).mono ?_); rintro e w3 ⟨rfl, hb⟩; refine ⟨_, rfl, ?_⟩; replace HB := hS HB hb; (try clear hb hb2 hk hi)))
 go_ret
 exact ⟨rlT, hbT HB.out⟩

/-! ### impl_CountDeleted_1: function 131 -/
def impl_CountDeleted_1.f (a0_0 : Int) (a0_1 : Int) : Option (Bool) := some (a0_1 == 0)
set_option maxHeartbeats 8000000 in
set_option maxRecDepth 100000 in
theorem impl_CountDeleted_1.calls (a0_0 : Int) (a0_1 : Int) (r : Bool) (w : World) (h : impl_CountDeleted_1.f a0_0 a0_1 = some r) :
  Calls Tryz.prog 131 #[.agg #[.int .u8 a0_0, .int .u8 a0_1]] w fun e w' => e = .returned (.bool r) ∧ Below w.heap.size w w' := by
 have hu70 := Tryz.underlying70; have HB := asT (Below.refl w.heap.size w); have H := h; unfold impl_CountDeleted_1.f at H; clear h
 obtain rfl := Option.some.inj H
 go_enter Tryz.func131, Tryz.ntmps131
 go_wp2_with (first | ((with_reducible refine gate_dst (N := 1) rfl ?_); refine boxT (N := 1) (cs := #[.int .u8 a0_0, .int .u8 a0_1]) (t := 70) ?_; intro gb394 hg w2 hbox hb; have BK394 := asT hbox; have GW394 := asT (geT hg HB.out); have GE394 := GW394; replace HB := hS HB hb; clear hb hbox hg; obtain ⟨hcz3_0, hcz3_1, hfz3_0, hfz3_1⟩ := bx2 BK394.out))
 go_ret
 exact ⟨rlT, hbT HB.out⟩

/-! ### impl_links_G: one text for all that is handed to it -/
def impl_links_G.l0 (PF : Int → Int → Option (Bool)) : Nat → Int → List (S70) → Int → Int → List (S70) → Option (Int)
 | 0, _, _, _, _, _ => none
 | k + 1, x5, x9, x10, x11, x396000 => if x11 < x10 then (if 0 ≤ x11 then (if x11 < (x9.length : Int) then ((impl_IsCandidate.f k x396000).bind fun t398 => (if t398 = true then ((PF ((rd_T70 x9 x11).f0) ((rd_T70 x9 x11).f1)).bind fun t399 => (if t399 = true then (impl_links_G.l0 PF k (wrap64 (x5 + 1)) x9 x10 (wrap64 (x11 + 1)) x396000) else (impl_links_G.l0 PF k x5 x9 x10 (wrap64 (x11 + 1)) x396000))) else (impl_links_G.l0 PF k x5 x9 x10 (wrap64 (x11 + 1)) x396000))) else (none)) else (none)) else (some x5)
def impl_links_G.f (PF : Int → Int → Option (Bool)) (k : Nat) (l0_0 : List (S70)) (a1 : Unit) : Option (Int) := impl_links_G.l0 PF k 0 l0_0 (l0_0.length : Int) 0 l0_0
theorem impl_links_G.mono_l (PF : Int → Int → Option (Bool)) : ∀ k, (∀ y0 y1 y2 y3 y4, LeO (impl_links_G.l0 PF k y0 y1 y2 y3 y4) (impl_links_G.l0 PF (k + 1) y0 y1 y2 y3 y4))
 | 0 => fun _ _ _ _ _ r h => by simp [impl_links_G.l0] at h
 | k + 1 => by
  have ih0 := impl_links_G.mono_l PF k
  ·intro y0 y1 y2 y3 y4
   unfold impl_links_G.l0
   with_reducible repeat' first | exact ih0 _ _ _ _ _ | exact impl_IsCandidate.mono _ _ | exact LeO.refl _ | exact LeO.none _ | refine LeO.ite ?_ ?_ | refine LeO.bind ?_ (fun _ => ?_)
theorem impl_links_G.mono (PF : Int → Int → Option (Bool)) : ∀ a0 a1 k, LeO (impl_links_G.f PF k a0 a1) (impl_links_G.f PF (k + 1) a0 a1) := by
 intro a0 a1 k
 have ih0 := impl_links_G.mono_l PF k
 unfold impl_links_G.f
 with_reducible repeat' first | exact ih0 _ _ _ _ _ | exact impl_IsCandidate.mono _ _ | exact LeO.refl _ | exact LeO.none _ | refine LeO.ite ?_ ?_ | refine LeO.bind ?_ (fun _ => ?_)
set_option maxHeartbeats 8000000 in
set_option maxRecDepth 100000 in
theorem impl_links_G.calls (PF : Int → Int → Option (Bool)) (F : FuncId) (fn : Func) (hfF : Tryz.prog.funcs[F]? = some fn) (hnF : (fn.name == "runtime.NumGoroutine") = false) (hbF : fn.body.isSome = true) (HF : ∀ (a0_0 a0_1 : Int) (r : Bool) (w : World), PF a0_0 a0_1 = some r → Calls Tryz.prog F #[.agg #[.int .u8 a0_0, .int .u8 a0_1]] w fun e w' => e = .returned (.bool r) ∧ Below w.heap.size w w') (k : Nat) (A0_0 : Option Addr) (c0_0 : Nat) (l0_0 : List (S70)) (a1 : Unit) (r : Int) (w : World) (hr0_0 : Kd.C k70 w A0_0 l0_0.length l0_0) (hc0_0 : l0_0.length ≤ c0_0) (h : impl_links_G.f PF k l0_0 a1 = some r) :
  Calls Tryz.prog 130 #[.agg #[.slice A0_0 l0_0.length c0_0], .func (.func F) #[] #[]] w fun e w' => e = .returned (.int .i64 r) ∧ Below w.heap.size w w' := by
 have hu48 := Tryz.underlying48; have hu70 := Tryz.underlying70; have HR0_0 := Aside0.mk hr0_0; have HC0_0 := Aside0.mk hc0_0; clear hr0_0 hc0_0; have HB := asT (Below.refl w.heap.size w); have H := h; unfold impl_links_G.f at H; clear h; have H' := Aside0.mk H; clear H
 go_enter Tryz.func130, Tryz.ntmps130
 go_wp2_with (first | ((with_reducible refine gate_dst (N := 2) rfl ?_); refine boxT (N := 2) (cs := #[.slice A0_0 l0_0.length c0_0]) (t := 48) ?_; intro gb395 hg w3 hbox hb; have BK395 := asT hbox; have GW395 := asT (geT hg HB.out); have GE395 := GW395; replace HB := hS HB hb; clear hb hbox hg; obtain ⟨hcz4_0, hfz4_0⟩ := bx1 BK395.out))
 go_loopg [5, 11] k (fun kq v5 v11 w' => ∃ (x5_1 : Int) (x11_1 : Int), v5 = .int .i64 x5_1 ∧ v11 = .int .i64 x11_1 ∧ Aside0 (impl_links_G.l0 PF kq x5_1 l0_0 (l0_0.length : Int) x11_1 l0_0 = some r) ∧ Aside0 (kq ≤ k) ∧ Aside0 (w'.heap[gb395]? = some (.cells #[(.slice A0_0 l0_0.length c0_0)] 48 (0, 0))) ∧ Aside0 (Below w.heap.size w w'))
 case atStart => exact ⟨(0), (0), rdT, rdT, H', ⟨Nat.le_refl _⟩, ⟨by (with_reducible repeat (first | refine blk_drewN ?_ _ | refine blk_drew ?_ | refine blk_alloc ?_ _)); exact BK395.out⟩, ⟨hbT HB.out⟩⟩
 case round =>
  clear H'; (try clear c1 p2 hcz4_0 hfz4_0); obtain ⟨x5_1, x11_1, rfl, rfl, HA, HK1, BK395, HB⟩ := hrel
  cases gk with
  | zero => exact absurd HA.out (by simp [impl_links_G.l0])
  | succ k1 =>
   have H := HA.out; clear HA
   simp only [impl_links_G.l0] at H
   by_cases c5 : x11_1 < (l0_0.length : Int)
   ·rw [if_pos c5] at H
    have c5b0 : decide (x11_1 < (l0_0.length : Int)) = true := decide_eq_true c5
    clear c5
    by_cases c6 : 0 ≤ x11_1
    ·rw [if_pos c6] at H
     have c6b0 : decide (0 ≤ x11_1) = true := decide_eq_true c6
     clear c6
     by_cases c7 : x11_1 < (l0_0.length : Int)
     ·rw [if_pos c7] at H
      have c7b0 : decide (x11_1 < (l0_0.length : Int)) = true := decide_eq_true c7
      clear c7; obtain ⟨t398, A8, H⟩ := be H
      by_cases c9 : t398 = true
      ·subst c9
       rw [if_pos rfl] at H; obtain ⟨t399, A10, H⟩ := be H
       by_cases c11 : t399 = true
       ·subst c11
        rw [if_pos rfl] at H; have H' := Aside0.mk H; clear H
        have p396 : 0 ≤ (x11_1 : Int) := of_decide_eq_true asmT
        have q396 : x11_1 < (l0_0.length : Int) := of_decide_eq_true asmT
        obtain ⟨ad396, e396, hx396_0, hx396_1⟩ := at_T70 HR0_0.out x11_1 p396 q396
        cases e396
        replace hx396_0 := hbc HB.out hx396_0; replace hx396_1 := hbc HB.out hx396_1; replace p396 := eq_true p396; replace q396 := eq_true q396
        go_wp2_with (first | ((with_reducible refine gate_dst (N := 7) rfl ?_); refine boxT (N := 7) (cs := #[.int .u8 0, .int .u8 0]) (t := 70) ?_; intro gb397 hg w12 hbox hb; have BK397 := asT (hbox); have GW397 := asT (geT hg HB.out); have GE397 := asT (geT hg HB.out); replace HB := hS HB hb; have NB395_397 := asT ((by rw [hg]; exact Nat.ne_of_lt (blk_lt (g := gb395) (o := .cells #[.slice (some ad396) l0_0.length c0_0] 48 (0, 0)) (bkT BK395.out)) : gb395 ≠ gb397)); have NB397_395 := asT ((by rw [hg]; exact Nat.ne_of_gt (blk_lt (g := gb395) (o := .cells #[.slice (some ad396) l0_0.length c0_0] 48 (0, 0)) (bkT BK395.out)) : gb397 ≠ gb395)); replace BK395 := bS BK395 hb; clear hb hbox hg; have hnb13 := NB397_395.out; have hnc13 := NB395_397.out; obtain ⟨hcz14_0, hcz14_1, hfz14_0, hfz14_1⟩ := bx2 BK397.out; obtain ⟨hcz15_0, hfz15_0⟩ := bx1 BK395.out) | ((with_reducible refine gate_callee (f := 55) rfl ?_); refine goesL_ (some 16) rfl rfl Tryz.func55 (by kernel_rfl) rfl #[.agg #[.slice (some ad396) l0_0.length c0_0]] rfl eqT ?_; (with_reducible refine (impl_IsCandidate.calls k1 _ _ l0_0 true _ ?side1 ?side2 A8.out).mono ?_); (case side1 => exact Kd.C_below HR0_0.out (hbT HB.out)); (case side2 => exact HC0_0.out); rintro e w16 ⟨rfl, hb⟩; refine ⟨_, rfl, ?_⟩; replace BK395 := asT (blk_below (g := gb395) (o := .cells #[.slice (some ad396) l0_0.length c0_0] 48 (0, 0)) (by (with_reducible repeat (first | refine blk_drewN ?_ _ | refine blk_drew ?_ | refine blk_alloc ?_ _)); refine blk_far ?_ NB395_397.out _; (with_reducible repeat (first | refine blk_drewN ?_ _ | refine blk_drew ?_ | refine blk_alloc ?_ _)); refine blk_far ?_ NB395_397.out _; (with_reducible repeat (first | refine blk_drewN ?_ _ | refine blk_drew ?_ | refine blk_alloc ?_ _)); exact BK395.out) hb); replace BK397 := asT (blk_below (g := gb397) (o := .cells #[.int .u8 ((rd_T70 l0_0 x11_1).f0), .int .u8 ((rd_T70 l0_0 x11_1).f1)] 70 (0, 0)) (by (with_reducible repeat (first | refine blk_drewN ?_ _ | refine blk_drew ?_ | refine blk_alloc ?_ _)); refine blk_put (cs := #[.int .u8 ((rd_T70 l0_0 x11_1).f0), .int .u8 0]) ?_ 1 _ rfl; (with_reducible repeat (first | refine blk_drewN ?_ _ | refine blk_drew ?_ | refine blk_alloc ?_ _)); refine blk_put (cs := #[.int .u8 0, .int .u8 0]) ?_ 0 _ rfl; (with_reducible repeat (first | refine blk_drewN ?_ _ | refine blk_drew ?_ | refine blk_alloc ?_ _)); exact BK397.out) hb); replace HB := hS HB hb; (try clear hb hb2 hk hi); obtain ⟨hcz17_0, hcz17_1, hfz17_0, hfz17_1⟩ := bx2 BK397.out) | (rw [enters_ hfF hnF hbF]; go_simp) | ((with_reducible refine (HF ((rd_T70 l0_0 x11_1).f0) ((rd_T70 l0_0 x11_1).f1) true _ A10.out).mono ?_); rintro e w18 ⟨rfl, hb⟩; replace BK395 := bS BK395 hb; replace BK397 := bS BK397 hb; replace HB := hS HB hb; (try clear hb hb2 hk hi)))
        go_roundg k1
        case measure => have := HK1.out; omega
        case rel => exact ⟨(wrap64 (x5_1 + 1)), (wrap64 (x11_1 + 1)), rdT, rdT, H', ⟨by have := HK1.out; omega⟩, ⟨by (with_reducible repeat (first | refine blk_drewN ?_ _ | refine blk_drew ?_ | refine blk_alloc ?_ _)); exact BK395.out⟩, ⟨hbT HB.out⟩⟩
       ·replace c11 := Bool.eq_false_iff.mpr c11
        subst c11; rw [if_neg nF] at H; have H' := Aside0.mk H; clear H
        have p396 : 0 ≤ (x11_1 : Int) := of_decide_eq_true asmT
        have q396 : x11_1 < (l0_0.length : Int) := of_decide_eq_true asmT
        obtain ⟨ad396, e396, hx396_0, hx396_1⟩ := at_T70 HR0_0.out x11_1 p396 q396
        cases e396
        replace hx396_0 := hbc HB.out hx396_0; replace hx396_1 := hbc HB.out hx396_1; replace p396 := eq_true p396; replace q396 := eq_true q396
        go_wp2_with (first | ((with_reducible refine gate_dst (N := 7) rfl ?_); refine boxT (N := 7) (cs := #[.int .u8 0, .int .u8 0]) (t := 70) ?_; intro gb397 hg w19 hbox hb; have BK397 := asT (hbox); have GW397 := asT (geT hg HB.out); have GE397 := asT (geT hg HB.out); replace HB := hS HB hb; have NB395_397 := asT ((by rw [hg]; exact Nat.ne_of_lt (blk_lt (g := gb395) (o := .cells #[.slice (some ad396) l0_0.length c0_0] 48 (0, 0)) (bkT BK395.out)) : gb395 ≠ gb397)); have NB397_395 := asT ((by rw [hg]; exact Nat.ne_of_gt (blk_lt (g := gb395) (o := .cells #[.slice (some ad396) l0_0.length c0_0] 48 (0, 0)) (bkT BK395.out)) : gb397 ≠ gb395)); replace BK395 := bS BK395 hb; clear hb hbox hg; have hnb20 := NB397_395.out; have hnc20 := NB395_397.out; obtain ⟨hcz21_0, hcz21_1, hfz21_0, hfz21_1⟩ := bx2 BK397.out; obtain ⟨hcz22_0, hfz22_0⟩ := bx1 BK395.out) | ((with_reducible refine gate_callee (f := 55) rfl ?_); refine goesL_ (some 16) rfl rfl Tryz.func55 (by kernel_rfl) rfl #[.agg #[.slice (some ad396) l0_0.length c0_0]] rfl eqT ?_; (with_reducible refine (impl_IsCandidate.calls k1 _ _ l0_0 true _ ?side1 ?side2 A8.out).mono ?_); (case side1 => exact Kd.C_below HR0_0.out (hbT HB.out)); (case side2 => exact HC0_0.out); rintro e w23 ⟨rfl, hb⟩; refine ⟨_, rfl, ?_⟩; replace BK395 := asT (blk_below (g := gb395) (o := .cells #[.slice (some ad396) l0_0.length c0_0] 48 (0, 0)) (by (with_reducible repeat (first | refine blk_drewN ?_ _ | refine blk_drew ?_ | refine blk_alloc ?_ _)); refine blk_far ?_ NB395_397.out _; (with_reducible repeat (first | refine blk_drewN ?_ _ | refine blk_drew ?_ | refine blk_alloc ?_ _)); refine blk_far ?_ NB395_397.out _; (with_reducible repeat (first | refine blk_drewN ?_ _ | refine blk_drew ?_ | refine blk_alloc ?_ _)); exact BK395.out) hb); replace BK397 := asT (blk_below (g := gb397) (o := .cells #[.int .u8 ((rd_T70 l0_0 x11_1).f0), .int .u8 ((rd_T70 l0_0 x11_1).f1)] 70 (0, 0)) (by (with_reducible repeat (first | refine blk_drewN ?_ _ | refine blk_drew ?_ | refine blk_alloc ?_ _)); refine blk_put (cs := #[.int .u8 ((rd_T70 l0_0 x11_1).f0), .int .u8 0]) ?_ 1 _ rfl; (with_reducible repeat (first | refine blk_drewN ?_ _ | refine blk_drew ?_ | refine blk_alloc ?_ _)); refine blk_put (cs := #[.int .u8 0, .int .u8 0]) ?_ 0 _ rfl; (with_reducible repeat (first | refine blk_drewN ?_ _ | refine blk_drew ?_ | refine blk_alloc ?_ _)); exact BK397.out) hb); replace HB := hS HB hb; (try clear hb hb2 hk hi); obtain ⟨hcz24_0, hcz24_1, hfz24_0, hfz24_1⟩ := bx2 BK397.out) | (rw [enters_ hfF hnF hbF]; go_simp) | ((with_reducible refine (HF ((rd_T70 l0_0 x11_1).f0) ((rd_T70 l0_0 x11_1).f1) false _ A10.out).mono ?_); rintro e w25 ⟨rfl, hb⟩; replace BK395 := bS BK395 hb; replace BK397 := bS BK397 hb; replace HB := hS HB hb; (try clear hb hb2 hk hi)))
        go_roundg k1
        case measure => have := HK1.out; omega
        case rel => exact ⟨(x5_1), (wrap64 (x11_1 + 1)), rdT, rdT, H', ⟨by have := HK1.out; omega⟩, ⟨by (with_reducible repeat (first | refine blk_drewN ?_ _ | refine blk_drew ?_ | refine blk_alloc ?_ _)); exact BK395.out⟩, ⟨hbT HB.out⟩⟩
      ·replace c9 := Bool.eq_false_iff.mpr c9
       subst c9; rw [if_neg nF] at H; have H' := Aside0.mk H; clear H
       have p396 : 0 ≤ (x11_1 : Int) := of_decide_eq_true asmT
       have q396 : x11_1 < (l0_0.length : Int) := of_decide_eq_true asmT
       obtain ⟨ad396, e396, hx396_0, hx396_1⟩ := at_T70 HR0_0.out x11_1 p396 q396
       cases e396
       replace hx396_0 := hbc HB.out hx396_0; replace hx396_1 := hbc HB.out hx396_1; replace p396 := eq_true p396; replace q396 := eq_true q396
       go_wp2_with (first | ((with_reducible refine gate_dst (N := 7) rfl ?_); refine boxT (N := 7) (cs := #[.int .u8 0, .int .u8 0]) (t := 70) ?_; intro gb397 hg w26 hbox hb; have BK397 := asT (hbox); have GW397 := asT (geT hg HB.out); have GE397 := asT (geT hg HB.out); replace HB := hS HB hb; have NB395_397 := asT ((by rw [hg]; exact Nat.ne_of_lt (blk_lt (g := gb395) (o := .cells #[.slice (some ad396) l0_0.length c0_0] 48 (0, 0)) (bkT BK395.out)) : gb395 ≠ gb397)); have NB397_395 := asT ((by rw [hg]; exact Nat.ne_of_gt (blk_lt (g := gb395) (o := .cells #[.slice (some ad396) l0_0.length c0_0] 48 (0, 0)) (bkT BK395.out)) : gb397 ≠ gb395)); replace BK395 := bS BK395 hb; clear hb hbox hg; have hnb27 := NB397_395.out; have hnc27 := NB395_397.out; obtain ⟨hcz28_0, hcz28_1, hfz28_0, hfz28_1⟩ := bx2 BK397.out; obtain ⟨hcz29_0, hfz29_0⟩ := bx1 BK395.out) | ((with_reducible refine gate_callee (f := 55) rfl ?_); refine goesL_ (some 16) rfl rfl Tryz.func55 (by kernel_rfl) rfl #[.agg #[.slice (some ad396) l0_0.length c0_0]] rfl eqT ?_; (with_reducible refine (impl_IsCandidate.calls k1 _ _ l0_0 false _ ?side1 ?side2 A8.out).mono ?_); (case side1 => exact Kd.C_below HR0_0.out (hbT HB.out)); (case side2 => exact HC0_0.out); rintro e w30 ⟨rfl, hb⟩; refine ⟨_, rfl, ?_⟩; replace BK395 := asT (blk_below (g := gb395) (o := .cells #[.slice (some ad396) l0_0.length c0_0] 48 (0, 0)) (by (with_reducible repeat (first | refine blk_drewN ?_ _ | refine blk_drew ?_ | refine blk_alloc ?_ _)); refine blk_far ?_ NB395_397.out _; (with_reducible repeat (first | refine blk_drewN ?_ _ | refine blk_drew ?_ | refine blk_alloc ?_ _)); refine blk_far ?_ NB395_397.out _; (with_reducible repeat (first | refine blk_drewN ?_ _ | refine blk_drew ?_ | refine blk_alloc ?_ _)); exact BK395.out) hb); replace BK397 := asT (blk_below (g := gb397) (o := .cells #[.int .u8 ((rd_T70 l0_0 x11_1).f0), .int .u8 ((rd_T70 l0_0 x11_1).f1)] 70 (0, 0)) (by (with_reducible repeat (first | refine blk_drewN ?_ _ | refine blk_drew ?_ | refine blk_alloc ?_ _)); refine blk_put (cs := #[.int .u8 ((rd_T70 l0_0 x11_1).f0), .int .u8 0]) ?_ 1 _ rfl; (with_reducible repeat (first | refine blk_drewN ?_ _ | refine blk_drew ?_ | refine blk_alloc ?_ _)); refine blk_put (cs := #[.int .u8 0, .int .u8 0]) ?_ 0 _ rfl; (with_reducible repeat (first | refine blk_drewN ?_ _ | refine blk_drew ?_ | refine blk_alloc ?_ _)); exact BK397.out) hb); replace HB := hS HB hb; (try clear hb hb2 hk hi)))
       go_roundg k1
       case measure => have := HK1.out; omega
       case rel => exact ⟨(x5_1), (wrap64 (x11_1 + 1)), rdT, rdT, H', ⟨by have := HK1.out; omega⟩, ⟨by (with_reducible repeat (first | refine blk_drewN ?_ _ | refine blk_drew ?_ | refine blk_alloc ?_ _)); exact BK395.out⟩, ⟨hbT HB.out⟩⟩
     ·rw [if_neg c7] at H
      exact absurd H (by simp)
    ·rw [if_neg c6] at H
     exact absurd H (by simp)
   ·rw [if_neg c5] at H
    have c5b0 : decide (x11_1 < (l0_0.length : Int)) = false := decide_eq_false c5
    clear c5
    obtain rfl := Option.some.inj H
    go_wp2
    go_ret
    exact ⟨rlT, hbT HB.out⟩

/-! ### impl_links_at_CountDeleted_1: an instance -/
def impl_links_at_CountDeleted_1.f (k : Nat) (l0_0 : List (S70)) (a1 : Unit) : Option (Int) := impl_links_G.f impl_CountDeleted_1.f k l0_0 a1
theorem impl_links_at_CountDeleted_1.mono : ∀ a0 a1 k, LeO (impl_links_at_CountDeleted_1.f k a0 a1) (impl_links_at_CountDeleted_1.f (k + 1) a0 a1) := fun a0 a1 k => impl_links_G.mono impl_CountDeleted_1.f a0 a1 k
theorem impl_links_at_CountDeleted_1.calls (k : Nat) (A0_0 : Option Addr) (c0_0 : Nat) (l0_0 : List (S70)) (a1 : Unit) (r : Int) (w : World) (hr0_0 : Kd.C k70 w A0_0 l0_0.length l0_0) (hc0_0 : l0_0.length ≤ c0_0) (h : impl_links_at_CountDeleted_1.f k l0_0 a1 = some r) :
  Calls Tryz.prog 130 #[.agg #[.slice A0_0 l0_0.length c0_0], .func (.func 131) #[] #[]] w fun e w' => e = .returned (.int .i64 r) ∧ Below w.heap.size w w' := impl_links_G.calls impl_CountDeleted_1.f 131 _ Tryz.func131 (by kernel_rfl) rfl (fun a0_0 a0_1 r w h => impl_CountDeleted_1.calls a0_0 a0_1 r w h) k A0_0 c0_0 l0_0 a1 r w hr0_0 hc0_0 h

/-! ### impl_CountDeleted: function 106 -/
def impl_CountDeleted.f (k : Nat) (l0_0 : List (S70)) : Option (Int) := (impl_links_at_CountDeleted_1.f k l0_0 ()).bind fun t401 => (some t401)
theorem impl_CountDeleted.mono : ∀ a0 k, LeO (impl_CountDeleted.f k a0) (impl_CountDeleted.f (k + 1) a0) := by
 intro a0 k
 unfold impl_CountDeleted.f
 with_reducible repeat' first | exact impl_links_at_CountDeleted_1.mono _ _ _ | exact LeO.refl _ | exact LeO.none _ | refine LeO.ite ?_ ?_ | refine LeO.bind ?_ (fun _ => ?_)
set_option maxHeartbeats 8000000 in
set_option maxRecDepth 100000 in
theorem impl_CountDeleted.calls (k : Nat) (A0_0 : Option Addr) (c0_0 : Nat) (l0_0 : List (S70)) (r : Int) (w : World) (hr0_0 : Kd.C k70 w A0_0 l0_0.length l0_0) (hc0_0 : l0_0.length ≤ c0_0) (h : impl_CountDeleted.f k l0_0 = some r) :
  Calls Tryz.prog 106 #[.agg #[.slice A0_0 l0_0.length c0_0]] w fun e w' => e = .returned (.int .i64 r) ∧ Below w.heap.size w w' := by
 have hu48 := Tryz.underlying48; have HR0_0 := Aside0.mk hr0_0; have HC0_0 := Aside0.mk hc0_0; clear hr0_0 hc0_0; have HB := asT (Below.refl w.heap.size w); have H := h; unfold impl_CountDeleted.f at H; clear h; obtain ⟨t401, A2, H⟩ := be H
 obtain rfl := Option.some.inj H
 go_enter Tryz.func106, Tryz.ntmps106
 go_wp2_with (first | ((with_reducible refine gate_dst (N := 1) rfl ?_); refine boxT (N := 1) (cs := #[.slice A0_0 l0_0.length c0_0]) (t := 48) ?_; intro gb400 hg w3 hbox hb; have BK400 := asT hbox; have GW400 := asT (geT hg HB.out); have GE400 := GW400; replace HB := hS HB hb; clear hb hbox hg; obtain ⟨hcz4_0, hfz4_0⟩ := bx1 BK400.out) | ((with_reducible refine gate_callee (f := 130) rfl ?_); refine goesL_ (some 4) rfl rfl Tryz.func130 (by kernel_rfl) rfl #[.agg #[.slice A0_0 l0_0.length c0_0], .func (.func 131) #[] #[]] rfl eqT ?_; (with_reducible refine (impl_links_at_CountDeleted_1.calls k _ _ l0_0 () t401 _ ?side1 ?side2 A2.out).mono ?_); (case side1 => exact crT HR0_0.out HB.out); (case side2 => exact HC0_0.out); rintro e w5 ⟨rfl, hb⟩; refine ⟨_, rfl, ?_⟩; replace BK400 := bS BK400 hb; replace HB := hS HB hb; (try clear hb hb2 hk hi)))
 go_ret
 exact ⟨rlT, hbT HB.out⟩

/-! ### impl_CountInserted_1: function 132 -/
def impl_CountInserted_1.f (a0_0 : Int) (a0_1 : Int) : Option (Bool) := some (a0_0 == 0)
set_option maxHeartbeats 8000000 in
set_option maxRecDepth 100000 in
theorem impl_CountInserted_1.calls (a0_0 : Int) (a0_1 : Int) (r : Bool) (w : World) (h : impl_CountInserted_1.f a0_0 a0_1 = some r) :
  Calls Tryz.prog 132 #[.agg #[.int .u8 a0_0, .int .u8 a0_1]] w fun e w' => e = .returned (.bool r) ∧ Below w.heap.size w w' := by
 have hu70 := Tryz.underlying70; have HB := asT (Below.refl w.heap.size w); have H := h; unfold impl_CountInserted_1.f at H; clear h
 obtain rfl := Option.some.inj H
 go_enter Tryz.func132, Tryz.ntmps132
 go_wp2_with (first | ((with_reducible refine gate_dst (N := 1) rfl ?_); refine boxT (N := 1) (cs := #[.int .u8 a0_0, .int .u8 a0_1]) (t := 70) ?_; intro gb402 hg w2 hbox hb; have BK402 := asT hbox; have GW402 := asT (geT hg HB.out); have GE402 := GW402; replace HB := hS HB hb; clear hb hbox hg; obtain ⟨hcz3_0, hcz3_1, hfz3_0, hfz3_1⟩ := bx2 BK402.out))
 go_ret
 exact ⟨rlT, hbT HB.out⟩

end Go.Proofs.YtmfhaplhgaehhaaGreat.PFnExactRowWith
