-- Made by gen.py (a program of this session) out of the translation; Lean checks it.
import Derived.Test.YtmfhaplhgaehhaaGreatPFnExactRowWithx0
import Derived.Test.YtmfhaplhgaehhaaGreatPFnExactRowWithx1
import Derived.Test.YtmfhaplhgaehhaaGreatPFnExactRowWithx2
import Derived.Test.YtmfhaplhgaehhaaGreatPFnExactRowWithx3
namespace Go.Proofs.YtmfhaplhgaehhaaGreat.PFnExactRowWith
open Go.RowKit Go.Proofs.YtmfhaplhgaehhaaGreatB Go.Proofs.YtmfhaplhgaehhaaGreatW.PrintWords Go.Proofs.YtmfhaplhgaehhaaGreatW.PrintLast Go.Proofs.YtmfhaplhgaehhaaGreatW.PrintMore
attribute [local go_sem] max2_int min2_int max_two min_two max_three min_three max_four min_four   -- for this text's walks alone
set_option linter.unusedVariables false
set_option linter.unusedSimpArgs false

/-! ### spec_CountVoiceChanged: function 92 -/
mutual
def spec_CountVoiceChanged.l0 : Nat → Int → Int → List (S70) → Option (Int)
 | 0, _, _, _ => none
 | k + 1, x3, x4, x187000 => if x4 < (x187000.length : Int) then ((spec_IsCandidate.f k x187000).bind fun t187 => (spec_CountVoiceChanged.j1 k x3 x4 t187 x187000)) else (spec_CountVoiceChanged.j1 k x3 x4 false x187000)
def spec_CountVoiceChanged.j1 : Nat → Int → Int → Bool → List (S70) → Option (Int)
 | 0, _, _, _, _ => none
 | k + 1, x3, x4, x14, x187000 => if x14 = true then (if 0 ≤ x4 then (if x4 < (x187000.length : Int) then (if ((rd_T70 x187000 x4).f0) = 0 then (spec_CountVoiceChanged.l0 k x3 (wrap64 (x4 + 1)) x187000) else (if ((rd_T70 x187000 x4).f1) = 0 then (spec_CountVoiceChanged.l0 k x3 (wrap64 (x4 + 1)) x187000) else (if ((rd_T70 x187000 x4).f0) = ((rd_T70 x187000 x4).f1) then (spec_CountVoiceChanged.l0 k x3 (wrap64 (x4 + 1)) x187000) else (spec_CountVoiceChanged.l0 k (wrap64 (x3 + 1)) (wrap64 (x4 + 1)) x187000)))) else (none)) else (none)) else (some x3)
end
def spec_CountVoiceChanged.f (k : Nat) (l0_0 : List (S70)) : Option (Int) := spec_CountVoiceChanged.l0 k 0 0 l0_0
theorem spec_CountVoiceChanged.mono_l : ∀ k, (∀ y0 y1 y2, LeO (spec_CountVoiceChanged.l0 k y0 y1 y2) (spec_CountVoiceChanged.l0 (k + 1) y0 y1 y2)) ∧ (∀ y0 y1 y2 y3, LeO (spec_CountVoiceChanged.j1 k y0 y1 y2 y3) (spec_CountVoiceChanged.j1 (k + 1) y0 y1 y2 y3))
 | 0 => ⟨fun _ _ _ r h => by simp [spec_CountVoiceChanged.l0] at h, fun _ _ _ _ r h => by simp [spec_CountVoiceChanged.j1] at h⟩
 | k + 1 => by
  obtain ⟨ih0, ih1⟩ := spec_CountVoiceChanged.mono_l k; refine ⟨?_, ?_⟩
  ·intro y0 y1 y2
   unfold spec_CountVoiceChanged.l0
   with_reducible repeat' first | exact ih0 _ _ _ | exact ih1 _ _ _ _ | exact spec_IsCandidate.mono _ _ | exact LeO.refl _ | exact LeO.none _ | refine LeO.ite ?_ ?_ | refine LeO.bind ?_ (fun _ => ?_)
  ·intro y0 y1 y2 y3
   unfold spec_CountVoiceChanged.j1
   with_reducible repeat' first | exact ih0 _ _ _ | exact ih1 _ _ _ _ | exact spec_IsCandidate.mono _ _ | exact LeO.refl _ | exact LeO.none _ | refine LeO.ite ?_ ?_ | refine LeO.bind ?_ (fun _ => ?_)
theorem spec_CountVoiceChanged.mono : ∀ a0 k, LeO (spec_CountVoiceChanged.f k a0) (spec_CountVoiceChanged.f (k + 1) a0) := by
 intro a0 k
 obtain ⟨ih0, ih1⟩ := spec_CountVoiceChanged.mono_l k
 unfold spec_CountVoiceChanged.f
 with_reducible repeat' first | exact ih0 _ _ _ | exact ih1 _ _ _ _ | exact spec_IsCandidate.mono _ _ | exact LeO.refl _ | exact LeO.none _ | refine LeO.ite ?_ ?_ | refine LeO.bind ?_ (fun _ => ?_)
set_option maxHeartbeats 8000000 in
set_option maxRecDepth 100000 in
theorem spec_CountVoiceChanged.calls (k : Nat) (A0_0 : Option Addr) (c0_0 : Nat) (l0_0 : List (S70)) (r : Int) (w : World) (hr0_0 : Kd.C k70 w A0_0 l0_0.length l0_0) (hc0_0 : l0_0.length ≤ c0_0) (h : spec_CountVoiceChanged.f k l0_0 = some r) :
  Calls Tryz.prog 92 #[.agg #[.slice A0_0 l0_0.length c0_0]] w fun e w' => e = .returned (.int .i64 r) ∧ Below w.heap.size w w' := by
 have hu48 := Tryz.underlying48; have hu70 := Tryz.underlying70; have HR0_0 := Aside0.mk hr0_0; have HC0_0 := Aside0.mk hc0_0; clear hr0_0 hc0_0; have HB := asT (Below.refl w.heap.size w); have H := h; unfold spec_CountVoiceChanged.f at H; clear h; have H' := Aside0.mk H; clear H
 go_enter Tryz.func92, Tryz.ntmps92
 go_wp2_with (first | ((with_reducible refine gate_dst (N := 1) rfl ?_); refine boxT (N := 1) (cs := #[.slice A0_0 l0_0.length c0_0]) (t := 48) ?_; intro gb186 hg w2 hbox hb; have BK186 := asT hbox; have GW186 := asT (geT hg HB.out); have GE186 := GW186; replace HB := hS HB hb; clear hb hbox hg))
 go_loopg [3, 4] k (fun kq v3 v4 w' => ∃ (x3_1 : Int) (x4_1 : Int), v3 = .int .i64 x3_1 ∧ v4 = .int .i64 x4_1 ∧ Aside0 (spec_CountVoiceChanged.l0 kq x3_1 x4_1 l0_0 = some r) ∧ Aside0 (kq ≤ k) ∧ Aside0 (w'.heap[gb186]? = some (.cells #[(.slice A0_0 l0_0.length c0_0)] 48 (0, 0))) ∧ Aside0 (Below w.heap.size w w'))
 case atStart => exact ⟨(0), (0), rdT, rdT, H', ⟨Nat.le_refl _⟩, ⟨by (with_reducible repeat (first | refine blk_drewN ?_ _ | refine blk_drew ?_ | refine blk_alloc ?_ _)); exact BK186.out⟩, ⟨hbT HB.out⟩⟩
 case round =>
  clear H'; (try clear p2); obtain ⟨x3_1, x4_1, rfl, rfl, HA, HK1, BK186, HB⟩ := hrel
  cases gk with
  | zero => exact absurd HA.out (by simp [spec_CountVoiceChanged.l0])
  | succ k1 =>
   have H := HA.out; clear HA
   simp only [spec_CountVoiceChanged.l0] at H
   have HC3 := Aside0.mk H; clear H
   go_upto_region 3 with (fail)
   go_cut [14] (fun v14 wc => ∃ (kq : Nat) (x14_2 : Bool), v14 = .bool x14_2 ∧ Aside0 (spec_CountVoiceChanged.j1 kq x3_1 x4_1 x14_2 l0_0 = some r) ∧ Aside0 (kq ≤ k1) ∧ Aside0 (wc.heap[gb186]? = some (.cells #[(.slice A0_0 l0_0.length c0_0)] 48 (0, 0))) ∧ Aside0 (Below w.heap.size w wc))
   case first =>
    have H := HC3.out; clear HC3
    by_cases c4 : x4_1 < (l0_0.length : Int)
    ·rw [if_pos c4] at H
     have c4b0 : decide (x4_1 < (l0_0.length : Int)) = true := decide_eq_true c4
     clear c4
     (first | rw [c4b0] | (simp only [i64_w, i32_w]; rw [c4b0]) | skip)
     obtain ⟨t187, A5, H⟩ := be H; have H' := Aside0.mk H; clear H
     have hcz6_0 := bc0 BK186.out
     have hfz6_0 := blk_frozen BK186.out 0
     go_wp2_with (first | (go_at_call 49; (with_reducible refine (spec_IsCandidate.calls k1 _ _ l0_0 t187 _ ?side1 ?side2 A5.out).mono ?_); (case side1 => exact crT HR0_0.out HB.out); (case side2 => exact HC0_0.out); rintro e w7 ⟨rfl, hb⟩; replace BK186 := bS BK186 hb; replace HB := hS HB hb; (try clear hb hb2 hk hi)))
     go_meet
     case rel => exact ⟨_, (t187), rdT, H', ⟨by have := HK1.out; first | omega | exact Nat.le_refl _⟩, ⟨by (with_reducible repeat (first | refine blk_drewN ?_ _ | refine blk_drew ?_ | refine blk_alloc ?_ _)); exact BK186.out⟩, ⟨hbT HB.out⟩⟩
    ·rw [if_neg c4] at H
     have c4b0 : decide (x4_1 < (l0_0.length : Int)) = false := decide_eq_false c4
     clear c4
     (first | rw [c4b0] | (simp only [i64_w, i32_w]; rw [c4b0]) | skip)
     have H' := Aside0.mk H; clear H
     have hcz8_0 := bc0 BK186.out
     have hfz8_0 := blk_frozen BK186.out 0
     go_wp2
     go_meet
     case rel => exact ⟨_, (false), rdT, H', ⟨by have := HK1.out; first | omega | exact Nat.le_refl _⟩, ⟨by (with_reducible repeat (first | refine blk_drewN ?_ _ | refine blk_drew ?_ | refine blk_alloc ?_ _)); exact BK186.out⟩, ⟨hbT HB.out⟩⟩
   case rest =>
    clear HC3; (try clear p2 c4 c4b0 hcz6_0 hcz8_0 hfz6_0 hfz8_0 p2); obtain ⟨kq, x14_2, rfl, HA, HJ2, BK186, HB⟩ := hcut
    cases kq with
    | zero => exact absurd HA.out (by simp [spec_CountVoiceChanged.j1])
    | succ kj2 =>
     have H := HA.out; clear HA
     simp only [spec_CountVoiceChanged.j1] at H
     by_cases c9 : x14_2 = true
     ·subst c9
      rw [if_pos rfl] at H; have H1 := H; clear H; have H := H1; clear H1
      by_cases c10 : 0 ≤ x4_1
      ·rw [if_pos c10] at H
       have c10b0 : decide (0 ≤ x4_1) = true := decide_eq_true c10
       clear c10
       by_cases c11 : x4_1 < (l0_0.length : Int)
       ·rw [if_pos c11] at H
        have c11b0 : decide (x4_1 < (l0_0.length : Int)) = true := decide_eq_true c11
        clear c11
        by_cases c12 : ((rd_T70 l0_0 x4_1).f0) = 0
        ·rw [if_pos c12] at H
         have c12b0 : (((rd_T70 l0_0 x4_1).f0) == 0) = true := beq_iff_eq.mpr c12
         have c12b1 : (((rd_T70 l0_0 x4_1).f0) != 0) = false := bne_eq_false_iff_eq.mpr c12
         clear c12; have H' := Aside0.mk H; clear H
         have hcz13_0 := bc0 BK186.out
         have hfz13_0 := blk_frozen BK186.out 0
         have p188 : 0 ≤ (x4_1 : Int) := of_decide_eq_true asmT
         have q188 : x4_1 < (l0_0.length : Int) := of_decide_eq_true asmT
         obtain ⟨ad188, e188, hx188_0, hx188_1⟩ := at_T70 HR0_0.out x4_1 p188 q188
         cases e188
         replace hx188_0 := hbc HB.out hx188_0; replace hx188_1 := hbc HB.out hx188_1; replace p188 := eq_true p188; replace q188 := eq_true q188
         go_wp2_with (first | ((with_reducible refine gate_dst (N := 5) rfl ?_); refine boxT (N := 5) (cs := #[.int .u8 0, .int .u8 0]) (t := 70) ?_; intro gb189 hg w14 hbox hb; have BK189 := asT (hbox); have GW189 := asT (geT hg HB.out); have GE189 := asT (geT hg HB.out); replace HB := hS HB hb; have NB186_189 := asT ((by rw [hg]; exact Nat.ne_of_lt (blk_lt (g := gb186) (o := .cells #[.slice (some ad188) l0_0.length c0_0] 48 (0, 0)) (bkT BK186.out)) : gb186 ≠ gb189)); have NB189_186 := asT ((by rw [hg]; exact Nat.ne_of_gt (blk_lt (g := gb186) (o := .cells #[.slice (some ad188) l0_0.length c0_0] 48 (0, 0)) (bkT BK186.out)) : gb189 ≠ gb186)); replace BK186 := bS BK186 hb; clear hb hbox hg; have hnb15 := NB189_186.out; have hnc15 := NB186_189.out; obtain ⟨hcz16_0, hcz16_1, hfz16_0, hfz16_1⟩ := bx2 BK189.out))
         go_roundg kj2
         case measure => have := HK1.out; have := HJ2.out; omega
         case rel => exact ⟨(x3_1), (wrap64 (x4_1 + 1)), rdT, rdT, H', ⟨by have := HK1.out; have := HJ2.out; omega⟩, ⟨by (with_reducible repeat (first | refine blk_drewN ?_ _ | refine blk_drew ?_ | refine blk_alloc ?_ _)); refine blk_far ?_ NB186_189.out _; (with_reducible repeat (first | refine blk_drewN ?_ _ | refine blk_drew ?_ | refine blk_alloc ?_ _)); refine blk_far ?_ NB186_189.out _; (with_reducible repeat (first | refine blk_drewN ?_ _ | refine blk_drew ?_ | refine blk_alloc ?_ _)); exact BK186.out⟩, ⟨hbT HB.out⟩⟩
        ·rw [if_neg c12] at H
         have c12b0 : (((rd_T70 l0_0 x4_1).f0) == 0) = false := beq_eq_false_iff_ne.mpr c12
         have c12b1 : (((rd_T70 l0_0 x4_1).f0) != 0) = true := bne_iff_ne.mpr c12
         by_cases c17 : ((rd_T70 l0_0 x4_1).f1) = 0
         ·rw [if_pos c17] at H
          have c17b0 : (((rd_T70 l0_0 x4_1).f1) == 0) = true := beq_iff_eq.mpr c17
          have c17b1 : (((rd_T70 l0_0 x4_1).f1) != 0) = false := bne_eq_false_iff_eq.mpr c17
          clear c17; have H' := Aside0.mk H; clear H
          have hcz18_0 := bc0 BK186.out
          have hfz18_0 := blk_frozen BK186.out 0
          have p188 : 0 ≤ (x4_1 : Int) := of_decide_eq_true asmT
          have q188 : x4_1 < (l0_0.length : Int) := of_decide_eq_true asmT
          obtain ⟨ad188, e188, hx188_0, hx188_1⟩ := at_T70 HR0_0.out x4_1 p188 q188
          cases e188
          replace hx188_0 := hbc HB.out hx188_0; replace hx188_1 := hbc HB.out hx188_1; replace p188 := eq_true p188; replace q188 := eq_true q188
          go_wp2_with (first | ((with_reducible refine gate_dst (N := 5) rfl ?_); refine boxT (N := 5) (cs := #[.int .u8 0, .int .u8 0]) (t := 70) ?_; intro gb189 hg w19 hbox hb; have BK189 := asT (hbox); have GW189 := asT (geT hg HB.out); have GE189 := asT (geT hg HB.out); replace HB := hS HB hb; have NB186_189 := asT ((by rw [hg]; exact Nat.ne_of_lt (blk_lt (g := gb186) (o := .cells #[.slice (some ad188) l0_0.length c0_0] 48 (0, 0)) (bkT BK186.out)) : gb186 ≠ gb189)); have NB189_186 := asT ((by rw [hg]; exact Nat.ne_of_gt (blk_lt (g := gb186) (o := .cells #[.slice (some ad188) l0_0.length c0_0] 48 (0, 0)) (bkT BK186.out)) : gb189 ≠ gb186)); replace BK186 := bS BK186 hb; clear hb hbox hg; have hnb20 := NB189_186.out; have hnc20 := NB186_189.out; obtain ⟨hcz21_0, hcz21_1, hfz21_0, hfz21_1⟩ := bx2 BK189.out))
          go_roundg kj2
          case measure => have := HK1.out; have := HJ2.out; omega
          case rel => exact ⟨(x3_1), (wrap64 (x4_1 + 1)), rdT, rdT, H', ⟨by have := HK1.out; have := HJ2.out; omega⟩, ⟨by (with_reducible repeat (first | refine blk_drewN ?_ _ | refine blk_drew ?_ | refine blk_alloc ?_ _)); refine blk_far ?_ NB186_189.out _; (with_reducible repeat (first | refine blk_drewN ?_ _ | refine blk_drew ?_ | refine blk_alloc ?_ _)); refine blk_far ?_ NB186_189.out _; (with_reducible repeat (first | refine blk_drewN ?_ _ | refine blk_drew ?_ | refine blk_alloc ?_ _)); exact BK186.out⟩, ⟨hbT HB.out⟩⟩
         ·rw [if_neg c17] at H
          have c17b0 : (((rd_T70 l0_0 x4_1).f1) == 0) = false := beq_eq_false_iff_ne.mpr c17
          have c17b1 : (((rd_T70 l0_0 x4_1).f1) != 0) = true := bne_iff_ne.mpr c17
          by_cases c22 : ((rd_T70 l0_0 x4_1).f0) = ((rd_T70 l0_0 x4_1).f1)
          ·rw [if_pos c22] at H
           have c22b0 : (((rd_T70 l0_0 x4_1).f0) == ((rd_T70 l0_0 x4_1).f1)) = true := beq_iff_eq.mpr c22
           have c22b1 : (((rd_T70 l0_0 x4_1).f0) != ((rd_T70 l0_0 x4_1).f1)) = false := bne_eq_false_iff_eq.mpr c22
           clear c22; have H' := Aside0.mk H; clear H
           have hcz23_0 := bc0 BK186.out
           have hfz23_0 := blk_frozen BK186.out 0
           have p188 : 0 ≤ (x4_1 : Int) := of_decide_eq_true asmT
           have q188 : x4_1 < (l0_0.length : Int) := of_decide_eq_true asmT
           obtain ⟨ad188, e188, hx188_0, hx188_1⟩ := at_T70 HR0_0.out x4_1 p188 q188
           cases e188
           replace hx188_0 := hbc HB.out hx188_0; replace hx188_1 := hbc HB.out hx188_1; replace p188 := eq_true p188; replace q188 := eq_true q188
           go_wp2_with (first | ((with_reducible refine gate_dst (N := 5) rfl ?_); refine boxT (N := 5) (cs := #[.int .u8 0, .int .u8 0]) (t := 70) ?_; intro gb189 hg w24 hbox hb; have BK189 := asT (hbox); have GW189 := asT (geT hg HB.out); have GE189 := asT (geT hg HB.out); replace HB := hS HB hb; have NB186_189 := asT ((by rw [hg]; exact Nat.ne_of_lt (blk_lt (g := gb186) (o := .cells #[.slice (some ad188) l0_0.length c0_0] 48 (0, 0)) (bkT BK186.out)) : gb186 ≠ gb189)); have NB189_186 := asT ((by rw [hg]; exact Nat.ne_of_gt (blk_lt (g := gb186) (o := .cells #[.slice (some ad188) l0_0.length c0_0] 48 (0, 0)) (bkT BK186.out)) : gb189 ≠ gb186)); replace BK186 := bS BK186 hb; clear hb hbox hg; have hnb25 := NB189_186.out; have hnc25 := NB186_189.out; obtain ⟨hcz26_0, hcz26_1, hfz26_0, hfz26_1⟩ := bx2 BK189.out))
           go_roundg kj2
           case measure => have := HK1.out; have := HJ2.out; omega
           case rel => exact ⟨(x3_1), (wrap64 (x4_1 + 1)), rdT, rdT, H', ⟨by have := HK1.out; have := HJ2.out; omega⟩, ⟨by (with_reducible repeat (first | refine blk_drewN ?_ _ | refine blk_drew ?_ | refine blk_alloc ?_ _)); refine blk_far ?_ NB186_189.out _; (with_reducible repeat (first | refine blk_drewN ?_ _ | refine blk_drew ?_ | refine blk_alloc ?_ _)); refine blk_far ?_ NB186_189.out _; (with_reducible repeat (first | refine blk_drewN ?_ _ | refine blk_drew ?_ | refine blk_alloc ?_ _)); exact BK186.out⟩, ⟨hbT HB.out⟩⟩
          ·rw [if_neg c22] at H
           have c22b0 : (((rd_T70 l0_0 x4_1).f0) == ((rd_T70 l0_0 x4_1).f1)) = false := beq_eq_false_iff_ne.mpr c22
           have c22b1 : (((rd_T70 l0_0 x4_1).f0) != ((rd_T70 l0_0 x4_1).f1)) = true := bne_iff_ne.mpr c22
           have H' := Aside0.mk H; clear H
           have hcz27_0 := bc0 BK186.out
           have hfz27_0 := blk_frozen BK186.out 0
           have p188 : 0 ≤ (x4_1 : Int) := of_decide_eq_true asmT
           have q188 : x4_1 < (l0_0.length : Int) := of_decide_eq_true asmT
           obtain ⟨ad188, e188, hx188_0, hx188_1⟩ := at_T70 HR0_0.out x4_1 p188 q188
           cases e188
           replace hx188_0 := hbc HB.out hx188_0; replace hx188_1 := hbc HB.out hx188_1; replace p188 := eq_true p188; replace q188 := eq_true q188
           go_wp2_with (first | ((with_reducible refine gate_dst (N := 5) rfl ?_); refine boxT (N := 5) (cs := #[.int .u8 0, .int .u8 0]) (t := 70) ?_; intro gb189 hg w28 hbox hb; have BK189 := asT (hbox); have GW189 := asT (geT hg HB.out); have GE189 := asT (geT hg HB.out); replace HB := hS HB hb; have NB186_189 := asT ((by rw [hg]; exact Nat.ne_of_lt (blk_lt (g := gb186) (o := .cells #[.slice (some ad188) l0_0.length c0_0] 48 (0, 0)) (bkT BK186.out)) : gb186 ≠ gb189)); have NB189_186 := asT ((by rw [hg]; exact Nat.ne_of_gt (blk_lt (g := gb186) (o := .cells #[.slice (some ad188) l0_0.length c0_0] 48 (0, 0)) (bkT BK186.out)) : gb189 ≠ gb186)); replace BK186 := bS BK186 hb; clear hb hbox hg; have hnb29 := NB189_186.out; have hnc29 := NB186_189.out; obtain ⟨hcz30_0, hcz30_1, hfz30_0, hfz30_1⟩ := bx2 BK189.out))
           go_roundg kj2
           case measure => have := HK1.out; have := HJ2.out; omega
           case rel => exact ⟨(wrap64 (x3_1 + 1)), (wrap64 (x4_1 + 1)), rdT, rdT, H', ⟨by have := HK1.out; have := HJ2.out; omega⟩, ⟨by (with_reducible repeat (first | refine blk_drewN ?_ _ | refine blk_drew ?_ | refine blk_alloc ?_ _)); refine blk_far ?_ NB186_189.out _; (with_reducible repeat (first | refine blk_drewN ?_ _ | refine blk_drew ?_ | refine blk_alloc ?_ _)); refine blk_far ?_ NB186_189.out _; (with_reducible repeat (first | refine blk_drewN ?_ _ | refine blk_drew ?_ | refine blk_alloc ?_ _)); exact BK186.out⟩, ⟨hbT HB.out⟩⟩
       ·rw [if_neg c11] at H
        exact absurd H (by simp)
      ·rw [if_neg c10] at H
       exact absurd H (by simp)
     ·replace c9 := Bool.eq_false_iff.mpr c9
      subst c9; rw [if_neg nF] at H; have H1 := H; clear H; have H := H1; clear H1
      obtain rfl := Option.some.inj H
      go_wp2
      go_ret
      exact ⟨rlT, hbT HB.out⟩

/-! ### spec_l9Kept: function 116 -/
def spec_l9Kept.f (a0_0 : Int) (a0_1 : Int) : Option (Bool) := if a0_0 = 0 then (some false) else (some (a0_1 != 0))
set_option maxHeartbeats 8000000 in
set_option maxRecDepth 100000 in
theorem spec_l9Kept.calls (a0_0 : Int) (a0_1 : Int) (r : Bool) (w : World) (h : spec_l9Kept.f a0_0 a0_1 = some r) :
  Calls Tryz.prog 116 #[.agg #[.int .u8 a0_0, .int .u8 a0_1]] w fun e w' => e = .returned (.bool r) ∧ Below w.heap.size w w' := by
 have hu70 := Tryz.underlying70; have HB := asT (Below.refl w.heap.size w); have H := h; unfold spec_l9Kept.f at H; clear h
 by_cases c2 : a0_0 = 0
 ·rw [if_pos c2] at H
  have c2b0 : (a0_0 == 0) = true := beq_iff_eq.mpr c2
  have c2b1 : (a0_0 != 0) = false := bne_eq_false_iff_eq.mpr c2
  clear c2
  obtain rfl := Option.some.inj H
  go_enter Tryz.func116, Tryz.ntmps116
  go_wp2_with (first | ((with_reducible refine gate_dst (N := 1) rfl ?_); refine boxT (N := 1) (cs := #[.int .u8 a0_0, .int .u8 a0_1]) (t := 70) ?_; intro gb190 hg w3 hbox hb; have BK190 := asT hbox; have GW190 := asT (geT hg HB.out); have GE190 := GW190; replace HB := hS HB hb; clear hb hbox hg; obtain ⟨hcz4_0, hcz4_1, hfz4_0, hfz4_1⟩ := bx2 BK190.out))
  go_ret
  exact ⟨rlT, hbT HB.out⟩
 ·rw [if_neg c2] at H
  have c2b0 : (a0_0 == 0) = false := beq_eq_false_iff_ne.mpr c2
  have c2b1 : (a0_0 != 0) = true := bne_iff_ne.mpr c2
  obtain rfl := Option.some.inj H
  go_enter Tryz.func116, Tryz.ntmps116
  go_wp2_with (first | ((with_reducible refine gate_dst (N := 1) rfl ?_); refine boxT (N := 1) (cs := #[.int .u8 a0_0, .int .u8 a0_1]) (t := 70) ?_; intro gb190 hg w5 hbox hb; have BK190 := asT hbox; have GW190 := asT (geT hg HB.out); have GE190 := GW190; replace HB := hS HB hb; clear hb hbox hg; obtain ⟨hcz6_0, hcz6_1, hfz6_0, hfz6_1⟩ := bx2 BK190.out))
  go_ret
  exact ⟨rlT, hbT HB.out⟩

/-! ### spec_CountBreaks: function 93 -/
mutual
def spec_CountBreaks.l0 : Nat → Int → Int → Int → List (S70) → Option (Int)
 | 0, _, _, _, _ => none
 | k + 1, x3, x4, x5, x192000 => if x5 < (x192000.length : Int) then ((spec_IsCandidate.f k x192000).bind fun t192 => (spec_CountBreaks.j1 k x3 x4 x5 t192 x192000)) else (spec_CountBreaks.j1 k x3 x4 x5 false x192000)
def spec_CountBreaks.j1 : Nat → Int → Int → Int → Bool → List (S70) → Option (Int)
 | 0, _, _, _, _, _ => none
 | k + 1, x3, x4, x5, x16, x192000 => if x16 = true then (if 0 ≤ x5 then (if x5 < (x192000.length : Int) then ((spec_l9Kept.f ((rd_T70 x192000 x5).f0) ((rd_T70 x192000 x5).f1)).bind fun t194 => (if t194 = true then (if x3 < 0 then (spec_CountBreaks.l0 k x5 x5 (wrap64 (x5 + 1)) x192000) else (spec_CountBreaks.l0 k x3 x5 (wrap64 (x5 + 1)) x192000)) else (spec_CountBreaks.l0 k x3 x4 (wrap64 (x5 + 1)) x192000))) else (none)) else (none)) else (spec_CountBreaks.l1 k x4 0 (mx 0 x3) x192000)
def spec_CountBreaks.l1 : Nat → Int → Int → Int → List (S70) → Option (Int)
 | 0, _, _, _, _ => none
 | k + 1, x4, x6, x7, x192000 => if x7 < x4 then (if 0 ≤ x7 then (if x7 < (x192000.length : Int) then ((spec_l9Kept.f ((rd_T70 x192000 x7).f0) ((rd_T70 x192000 x7).f1)).bind fun t196 => (if t196 = true then (spec_CountBreaks.l1 k x4 x6 (wrap64 (x7 + 1)) x192000) else (spec_CountBreaks.l1 k x4 (wrap64 (x6 + 1)) (wrap64 (x7 + 1)) x192000))) else (none)) else (none)) else (some x6)
end
def spec_CountBreaks.f (k : Nat) (l0_0 : List (S70)) : Option (Int) := spec_CountBreaks.l0 k (-1) (-1) 0 l0_0
theorem spec_CountBreaks.mono_l : ∀ k, (∀ y0 y1 y2 y3, LeO (spec_CountBreaks.l0 k y0 y1 y2 y3) (spec_CountBreaks.l0 (k + 1) y0 y1 y2 y3)) ∧ (∀ y0 y1 y2 y3 y4, LeO (spec_CountBreaks.j1 k y0 y1 y2 y3 y4) (spec_CountBreaks.j1 (k + 1) y0 y1 y2 y3 y4)) ∧ (∀ y0 y1 y2 y3, LeO (spec_CountBreaks.l1 k y0 y1 y2 y3) (spec_CountBreaks.l1 (k + 1) y0 y1 y2 y3))
 | 0 => ⟨fun _ _ _ _ r h => by simp [spec_CountBreaks.l0] at h, fun _ _ _ _ _ r h => by simp [spec_CountBreaks.j1] at h, fun _ _ _ _ r h => by simp [spec_CountBreaks.l1] at h⟩
 | k + 1 => by
  obtain ⟨ih0, ih1, ih2⟩ := spec_CountBreaks.mono_l k; refine ⟨?_, ?_, ?_⟩
  ·intro y0 y1 y2 y3
   unfold spec_CountBreaks.l0
   with_reducible repeat' first | exact ih0 _ _ _ _ | exact ih1 _ _ _ _ _ | exact ih2 _ _ _ _ | exact spec_IsCandidate.mono _ _ | exact LeO.refl _ | exact LeO.none _ | refine LeO.ite ?_ ?_ | refine LeO.bind ?_ (fun _ => ?_)
  ·intro y0 y1 y2 y3 y4
   unfold spec_CountBreaks.j1
   with_reducible repeat' first | exact ih0 _ _ _ _ | exact ih1 _ _ _ _ _ | exact ih2 _ _ _ _ | exact spec_IsCandidate.mono _ _ | exact LeO.refl _ | exact LeO.none _ | refine LeO.ite ?_ ?_ | refine LeO.bind ?_ (fun _ => ?_)
  ·intro y0 y1 y2 y3
   unfold spec_CountBreaks.l1
   with_reducible repeat' first | exact ih0 _ _ _ _ | exact ih1 _ _ _ _ _ | exact ih2 _ _ _ _ | exact spec_IsCandidate.mono _ _ | exact LeO.refl _ | exact LeO.none _ | refine LeO.ite ?_ ?_ | refine LeO.bind ?_ (fun _ => ?_)
theorem spec_CountBreaks.mono : ∀ a0 k, LeO (spec_CountBreaks.f k a0) (spec_CountBreaks.f (k + 1) a0) := by
 intro a0 k
 obtain ⟨ih0, ih1, ih2⟩ := spec_CountBreaks.mono_l k
 unfold spec_CountBreaks.f
 with_reducible repeat' first | exact ih0 _ _ _ _ | exact ih1 _ _ _ _ _ | exact ih2 _ _ _ _ | exact spec_IsCandidate.mono _ _ | exact LeO.refl _ | exact LeO.none _ | refine LeO.ite ?_ ?_ | refine LeO.bind ?_ (fun _ => ?_)
set_option maxHeartbeats 8000000 in
set_option maxRecDepth 100000 in
theorem spec_CountBreaks.calls (k : Nat) (A0_0 : Option Addr) (c0_0 : Nat) (l0_0 : List (S70)) (r : Int) (w : World) (hr0_0 : Kd.C k70 w A0_0 l0_0.length l0_0) (hc0_0 : l0_0.length ≤ c0_0) (h : spec_CountBreaks.f k l0_0 = some r) :
  Calls Tryz.prog 93 #[.agg #[.slice A0_0 l0_0.length c0_0]] w fun e w' => e = .returned (.int .i64 r) ∧ Below w.heap.size w w' := by
 have hu48 := Tryz.underlying48; have hu70 := Tryz.underlying70; have HR0_0 := Aside0.mk hr0_0; have HC0_0 := Aside0.mk hc0_0; clear hr0_0 hc0_0; have HB := asT (Below.refl w.heap.size w); have H := h; unfold spec_CountBreaks.f at H; clear h; have H' := Aside0.mk H; clear H
 go_enter Tryz.func93, Tryz.ntmps93
 go_wp2_with (first | ((with_reducible refine gate_dst (N := 1) rfl ?_); refine boxT (N := 1) (cs := #[.slice A0_0 l0_0.length c0_0]) (t := 48) ?_; intro gb191 hg w2 hbox hb; have BK191 := asT hbox; have GW191 := asT (geT hg HB.out); have GE191 := GW191; replace HB := hS HB hb; clear hb hbox hg))
 go_loopg [3, 4, 5] k (fun kq v3 v4 v5 w' => ∃ (x3_1 : Int) (x4_1 : Int) (x5_1 : Int), v3 = .int .i64 x3_1 ∧ v4 = .int .i64 x4_1 ∧ v5 = .int .i64 x5_1 ∧ Aside0 (spec_CountBreaks.l0 kq x3_1 x4_1 x5_1 l0_0 = some r) ∧ Aside0 (kq ≤ k) ∧ Aside0 (w'.heap[gb191]? = some (.cells #[(.slice A0_0 l0_0.length c0_0)] 48 (0, 0))) ∧ Aside0 (Below w.heap.size w w'))
 case atStart => exact ⟨((-1)), ((-1)), (0), rdT, rdT, rdT, H', ⟨Nat.le_refl _⟩, ⟨by (with_reducible repeat (first | refine blk_drewN ?_ _ | refine blk_drew ?_ | refine blk_alloc ?_ _)); exact BK191.out⟩, ⟨hbT HB.out⟩⟩
 case round =>
  clear H'; (try clear p2); obtain ⟨x3_1, x4_1, x5_1, rfl, rfl, rfl, HA, HK1, BK191, HB⟩ := hrel
  cases gk with
  | zero => exact absurd HA.out (by simp [spec_CountBreaks.l0])
  | succ k1 =>
   have H := HA.out; clear HA
   simp only [spec_CountBreaks.l0] at H
   have HC3 := Aside0.mk H; clear H
   go_upto_region 4 with (fail)
   go_cut [16] (fun v16 wc => ∃ (kq : Nat) (x16_2 : Bool), v16 = .bool x16_2 ∧ Aside0 (spec_CountBreaks.j1 kq x3_1 x4_1 x5_1 x16_2 l0_0 = some r) ∧ Aside0 (kq ≤ k1) ∧ Aside0 (wc.heap[gb191]? = some (.cells #[(.slice A0_0 l0_0.length c0_0)] 48 (0, 0))) ∧ Aside0 (Below w.heap.size w wc))
   case first =>
    have H := HC3.out; clear HC3
    by_cases c4 : x5_1 < (l0_0.length : Int)
    ·rw [if_pos c4] at H
     have c4b0 : decide (x5_1 < (l0_0.length : Int)) = true := decide_eq_true c4
     clear c4
     (first | rw [c4b0] | (simp only [i64_w, i32_w]; rw [c4b0]) | skip)
     obtain ⟨t192, A5, H⟩ := be H; have H' := Aside0.mk H; clear H
     have hcz6_0 := bc0 BK191.out
     have hfz6_0 := blk_frozen BK191.out 0
     go_wp2_with (first | (go_at_call 49; (with_reducible refine (spec_IsCandidate.calls k1 _ _ l0_0 t192 _ ?side1 ?side2 A5.out).mono ?_); (case side1 => exact crT HR0_0.out HB.out); (case side2 => exact HC0_0.out); rintro e w7 ⟨rfl, hb⟩; replace BK191 := bS BK191 hb; replace HB := hS HB hb; (try clear hb hb2 hk hi)))
     go_meet
     case rel => exact ⟨_, (t192), rdT, H', ⟨by have := HK1.out; first | omega | exact Nat.le_refl _⟩, ⟨by (with_reducible repeat (first | refine blk_drewN ?_ _ | refine blk_drew ?_ | refine blk_alloc ?_ _)); exact BK191.out⟩, ⟨hbT HB.out⟩⟩
    ·rw [if_neg c4] at H
     have c4b0 : decide (x5_1 < (l0_0.length : Int)) = false := decide_eq_false c4
     clear c4
     (first | rw [c4b0] | (simp only [i64_w, i32_w]; rw [c4b0]) | skip)
     have H' := Aside0.mk H; clear H
     have hcz8_0 := bc0 BK191.out
     have hfz8_0 := blk_frozen BK191.out 0
     go_wp2
     go_meet
     case rel => exact ⟨_, (false), rdT, H', ⟨by have := HK1.out; first | omega | exact Nat.le_refl _⟩, ⟨by (with_reducible repeat (first | refine blk_drewN ?_ _ | refine blk_drew ?_ | refine blk_alloc ?_ _)); exact BK191.out⟩, ⟨hbT HB.out⟩⟩
   case rest =>
    clear HC3; (try clear p2 c4 c4b0 hcz6_0 hcz8_0 hfz6_0 hfz8_0 p2); obtain ⟨kq, x16_2, rfl, HA, HJ2, BK191, HB⟩ := hcut
    cases kq with
    | zero => exact absurd HA.out (by simp [spec_CountBreaks.j1])
    | succ kj2 =>
     have H := HA.out; clear HA
     simp only [spec_CountBreaks.j1] at H
     by_cases c9 : x16_2 = true
     ·subst c9
      rw [if_pos rfl] at H; have H1 := H; clear H; have H := H1; clear H1
      by_cases c10 : 0 ≤ x5_1
      ·rw [if_pos c10] at H
       have c10b0 : decide (0 ≤ x5_1) = true := decide_eq_true c10
       clear c10
       by_cases c11 : x5_1 < (l0_0.length : Int)
       ·rw [if_pos c11] at H
        have c11b0 : decide (x5_1 < (l0_0.length : Int)) = true := decide_eq_true c11
        clear c11; obtain ⟨t194, A12, H⟩ := be H
        by_cases c13 : t194 = true
        ·subst c13
         rw [if_pos rfl] at H; have H1 := H; clear H; have H := H1; clear H1
         by_cases c14 : x3_1 < 0
         ·rw [if_pos c14] at H
          have c14b0 : decide (x3_1 < 0) = true := decide_eq_true c14
          clear c14; have H' := Aside0.mk H; clear H
          have hcz15_0 := bc0 BK191.out
          have hfz15_0 := blk_frozen BK191.out 0
          have p193 : 0 ≤ (x5_1 : Int) := of_decide_eq_true asmT
          have q193 : x5_1 < (l0_0.length : Int) := of_decide_eq_true asmT
          obtain ⟨ad193, e193, hx193_0, hx193_1⟩ := at_T70 HR0_0.out x5_1 p193 q193
          cases e193
          replace hx193_0 := hbc HB.out hx193_0; replace hx193_1 := hbc HB.out hx193_1; replace p193 := eq_true p193; replace q193 := eq_true q193
          go_wp2_with (first | ((with_reducible refine gate_callee (f := 116) rfl ?_); refine goesL_ (some 24) rfl rfl Tryz.func116 (by kernel_rfl) rfl #[.agg #[.int .u8 ((rd_T70 l0_0 x5_1).f0), .int .u8 ((rd_T70 l0_0 x5_1).f1)]] rfl eqT ?_; (with_reducible refine (spec_l9Kept.calls ((rd_T70 l0_0 x5_1).f0) ((rd_T70 l0_0 x5_1).f1) true _ A12.out).mono ?_); rintro e w16 ⟨rfl, hb⟩; refine ⟨_, rfl, ?_⟩; replace BK191 := bS BK191 hb; replace HB := hS HB hb; (try clear hb hb2 hk hi)))
          go_roundg kj2
          case measure => have := HK1.out; have := HJ2.out; omega
          case rel => exact ⟨(x5_1), (x5_1), (wrap64 (x5_1 + 1)), rdT, rdT, rdT, H', ⟨by have := HK1.out; have := HJ2.out; omega⟩, ⟨by (with_reducible repeat (first | refine blk_drewN ?_ _ | refine blk_drew ?_ | refine blk_alloc ?_ _)); exact BK191.out⟩, ⟨hbT HB.out⟩⟩
         ·rw [if_neg c14] at H
          have c14b0 : decide (x3_1 < 0) = false := decide_eq_false c14
          clear c14; have H' := Aside0.mk H; clear H
          have hcz17_0 := bc0 BK191.out
          have hfz17_0 := blk_frozen BK191.out 0
          have p193 : 0 ≤ (x5_1 : Int) := of_decide_eq_true asmT
          have q193 : x5_1 < (l0_0.length : Int) := of_decide_eq_true asmT
          obtain ⟨ad193, e193, hx193_0, hx193_1⟩ := at_T70 HR0_0.out x5_1 p193 q193
          cases e193
          replace hx193_0 := hbc HB.out hx193_0; replace hx193_1 := hbc HB.out hx193_1; replace p193 := eq_true p193; replace q193 := eq_true q193
          go_wp2_with (first | ((with_reducible refine gate_callee (f := 116) rfl ?_); refine goesL_ (some 24) rfl rfl Tryz.func116 (by kernel_rfl) rfl #[.agg #[.int .u8 ((rd_T70 l0_0 x5_1).f0), .int .u8 ((rd_T70 l0_0 x5_1).f1)]] rfl eqT ?_; (with_reducible refine (spec_l9Kept.calls ((rd_T70 l0_0 x5_1).f0) ((rd_T70 l0_0 x5_1).f1) true _ A12.out).mono ?_); rintro e w18 ⟨rfl, hb⟩; refine ⟨_, rfl, ?_⟩; replace BK191 := bS BK191 hb; replace HB := hS HB hb; (try clear hb hb2 hk hi)))
          go_roundg kj2
          case measure => have := HK1.out; have := HJ2.out; omega
          case rel => exact ⟨(x3_1), (x5_1), (wrap64 (x5_1 + 1)), rdT, rdT, rdT, H', ⟨by have := HK1.out; have := HJ2.out; omega⟩, ⟨by (with_reducible repeat (first | refine blk_drewN ?_ _ | refine blk_drew ?_ | refine blk_alloc ?_ _)); exact BK191.out⟩, ⟨hbT HB.out⟩⟩
        ·replace c13 := Bool.eq_false_iff.mpr c13
         subst c13; rw [if_neg nF] at H; have H' := Aside0.mk H; clear H
         have hcz19_0 := bc0 BK191.out
         have hfz19_0 := blk_frozen BK191.out 0
         have p193 : 0 ≤ (x5_1 : Int) := of_decide_eq_true asmT
         have q193 : x5_1 < (l0_0.length : Int) := of_decide_eq_true asmT
         obtain ⟨ad193, e193, hx193_0, hx193_1⟩ := at_T70 HR0_0.out x5_1 p193 q193
         cases e193
         replace hx193_0 := hbc HB.out hx193_0; replace hx193_1 := hbc HB.out hx193_1; replace p193 := eq_true p193; replace q193 := eq_true q193
         go_wp2_with (first | ((with_reducible refine gate_callee (f := 116) rfl ?_); refine goesL_ (some 24) rfl rfl Tryz.func116 (by kernel_rfl) rfl #[.agg #[.int .u8 ((rd_T70 l0_0 x5_1).f0), .int .u8 ((rd_T70 l0_0 x5_1).f1)]] rfl eqT ?_; (with_reducible refine (spec_l9Kept.calls ((rd_T70 l0_0 x5_1).f0) ((rd_T70 l0_0 x5_1).f1) false _ A12.out).mono ?_); rintro e w20 ⟨rfl, hb⟩; refine ⟨_, rfl, ?_⟩; replace BK191 := bS BK191 hb; replace HB := hS HB hb; (try clear hb hb2 hk hi)))
         go_roundg kj2
         case measure => have := HK1.out; have := HJ2.out; omega
         case rel => exact ⟨(x3_1), (x4_1), (wrap64 (x5_1 + 1)), rdT, rdT, rdT, H', ⟨by have := HK1.out; have := HJ2.out; omega⟩, ⟨by (with_reducible repeat (first | refine blk_drewN ?_ _ | refine blk_drew ?_ | refine blk_alloc ?_ _)); exact BK191.out⟩, ⟨hbT HB.out⟩⟩
       ·rw [if_neg c11] at H
        exact absurd H (by simp)
      ·rw [if_neg c10] at H
       exact absurd H (by simp)
     ·replace c9 := Bool.eq_false_iff.mpr c9
      subst c9; rw [if_neg nF] at H; obtain ⟨ji21, hji21⟩ : ∃ j_ : Int, (mx 0 x3_1) = j_ := ⟨_, rfl⟩
      replace H : (spec_CountBreaks.l1 kj2 x4_1 0 ji21 l0_0) = some r := by first | (rw [hji21] at H; exact H) | (simp only [hji21] at H ⊢; exact H)
      have hji21_ : (if 0 < x3_1 then x3_1 else 0) = ji21 := hji21
      have H' := Aside0.mk H; clear H
      go_wp2
      go_loopg [6, 7] kj2 (fun kq v6 v7 w' => ∃ (x6_3 : Int) (x7_3 : Int), v6 = .int .i64 x6_3 ∧ v7 = .int .i64 x7_3 ∧ Aside0 (spec_CountBreaks.l1 kq x4_1 x6_3 x7_3 l0_0 = some r) ∧ Aside0 (kq ≤ kj2) ∧ Aside0 (w'.heap[gb191]? = some (.cells #[(.slice A0_0 l0_0.length c0_0)] 48 (0, 0))) ∧ Aside0 (Below w.heap.size w w'))
      case atStart => exact ⟨(0), (ji21), rdT, (by first | rfl | (simp; done) | (simp only [← hji21] <;> (first | rfl | simp)) | (simp [*]; done)), H', ⟨Nat.le_refl _⟩, ⟨by (with_reducible repeat (first | refine blk_drewN ?_ _ | refine blk_drew ?_ | refine blk_alloc ?_ _)); exact BK191.out⟩, ⟨hbT HB.out⟩⟩
      case round =>
       clear H'; (try clear c1 p1 q1 hx1 p2 c4 c4b0 p6 c9 c10 c10b0 c11 c11b0 c13 c14 c14b0 p19 q19 hx19 hcz15_0 hcz17_0 hcz19_0 hcz6_0 hcz8_0 hfz15_0 hfz17_0 hfz19_0 hfz6_0 hfz8_0 hx193_0 hx193_1 p193 p2 q193); obtain ⟨x6_3, x7_3, rfl, rfl, HA, HK3, BK191, HB⟩ := hrel
       cases gk with
       | zero => exact absurd HA.out (by simp [spec_CountBreaks.l1])
       | succ k3 =>
        have H := HA.out; clear HA
        simp only [spec_CountBreaks.l1] at H
        by_cases c22 : x7_3 < x4_1
        ·rw [if_pos c22] at H
         have c22b0 : decide (x7_3 < x4_1) = true := decide_eq_true c22
         clear c22
         by_cases c23 : 0 ≤ x7_3
         ·rw [if_pos c23] at H
          have c23b0 : decide (0 ≤ x7_3) = true := decide_eq_true c23
          clear c23
          by_cases c24 : x7_3 < (l0_0.length : Int)
          ·rw [if_pos c24] at H
           have c24b0 : decide (x7_3 < (l0_0.length : Int)) = true := decide_eq_true c24
           clear c24; obtain ⟨t196, A25, H⟩ := be H
           by_cases c26 : t196 = true
           ·subst c26
            rw [if_pos rfl] at H; have H' := Aside0.mk H; clear H
            have hcz27_0 := bc0 BK191.out
            have hfz27_0 := blk_frozen BK191.out 0
            have p195 : 0 ≤ (x7_3 : Int) := of_decide_eq_true asmT
            have q195 : x7_3 < (l0_0.length : Int) := of_decide_eq_true asmT
            obtain ⟨ad195, e195, hx195_0, hx195_1⟩ := at_T70 HR0_0.out x7_3 p195 q195
            cases e195
            replace hx195_0 := hbc HB.out hx195_0; replace hx195_1 := hbc HB.out hx195_1; replace p195 := eq_true p195; replace q195 := eq_true q195
            go_wp2_with (first | ((with_reducible refine gate_callee (f := 116) rfl ?_); refine goesL_ (some 41) rfl rfl Tryz.func116 (by kernel_rfl) rfl #[.agg #[.int .u8 ((rd_T70 l0_0 x7_3).f0), .int .u8 ((rd_T70 l0_0 x7_3).f1)]] rfl eqT ?_; (with_reducible refine (spec_l9Kept.calls ((rd_T70 l0_0 x7_3).f0) ((rd_T70 l0_0 x7_3).f1) true _ A25.out).mono ?_); rintro e w28 ⟨rfl, hb⟩; refine ⟨_, rfl, ?_⟩; replace BK191 := bS BK191 hb; replace HB := hS HB hb; (try clear hb hb2 hk hi)))
            go_roundg k3
            case measure => have := HK1.out; have := HJ2.out; have := HK3.out; omega
            case rel => exact ⟨(x6_3), (wrap64 (x7_3 + 1)), rdT, rdT, H', ⟨by have := HK1.out; have := HJ2.out; have := HK3.out; omega⟩, ⟨by (with_reducible repeat (first | refine blk_drewN ?_ _ | refine blk_drew ?_ | refine blk_alloc ?_ _)); exact BK191.out⟩, ⟨hbT HB.out⟩⟩
           ·replace c26 := Bool.eq_false_iff.mpr c26
            subst c26; rw [if_neg nF] at H; have H' := Aside0.mk H; clear H
            have hcz29_0 := bc0 BK191.out
            have hfz29_0 := blk_frozen BK191.out 0
            have p195 : 0 ≤ (x7_3 : Int) := of_decide_eq_true asmT
            have q195 : x7_3 < (l0_0.length : Int) := of_decide_eq_true asmT
            obtain ⟨ad195, e195, hx195_0, hx195_1⟩ := at_T70 HR0_0.out x7_3 p195 q195
            cases e195
            replace hx195_0 := hbc HB.out hx195_0; replace hx195_1 := hbc HB.out hx195_1; replace p195 := eq_true p195; replace q195 := eq_true q195
            go_wp2_with (first | ((with_reducible refine gate_callee (f := 116) rfl ?_); refine goesL_ (some 41) rfl rfl Tryz.func116 (by kernel_rfl) rfl #[.agg #[.int .u8 ((rd_T70 l0_0 x7_3).f0), .int .u8 ((rd_T70 l0_0 x7_3).f1)]] rfl eqT ?_; (with_reducible refine (spec_l9Kept.calls ((rd_T70 l0_0 x7_3).f0) ((rd_T70 l0_0 x7_3).f1) false _ A25.out).mono ?_); rintro e w30 ⟨rfl, hb⟩; refine ⟨_, rfl, ?_⟩; replace BK191 := bS BK191 hb; replace HB := hS HB hb; (try clear hb hb2 hk hi)))
            go_roundg k3
            case measure => have := HK1.out; have := HJ2.out; have := HK3.out; omega
            case rel => exact ⟨(wrap64 (x6_3 + 1)), (wrap64 (x7_3 + 1)), rdT, rdT, H', ⟨by have := HK1.out; have := HJ2.out; have := HK3.out; omega⟩, ⟨by (with_reducible repeat (first | refine blk_drewN ?_ _ | refine blk_drew ?_ | refine blk_alloc ?_ _)); exact BK191.out⟩, ⟨hbT HB.out⟩⟩
          ·rw [if_neg c24] at H
           exact absurd H (by simp)
         ·rw [if_neg c23] at H
          exact absurd H (by simp)
        ·rw [if_neg c22] at H
         have c22b0 : decide (x7_3 < x4_1) = false := decide_eq_false c22
         clear c22
         obtain rfl := Option.some.inj H
         go_wp2
         go_ret
         exact ⟨by first | rfl | (simp [errW_none, errW_some] <;> rfl) | (simp only [← hji21]; first | rfl | (simp [errW_none, errW_some] <;> rfl)) | (simp [*, errW_none, errW_some] <;> rfl), hbT HB.out⟩

/-! ### spec_ViolationsOf: function 65 -/
def spec_ViolationsOf.f (k : Nat) (a0 : ByteArray) (l1_0 : List (S70)) : Option (Int) := (spec_IsCandidate.f k l1_0).bind fun t198 => (if t198 = true then ((spec_OutputOf.f k l1_0).bind fun t199 => (if a0.toList = ([111, 110, 115, 101, 116] : List UInt8) then ((spec_CountOnsetless.f k t199).bind fun t200 => (some t200)) else (if a0.toList = ([110, 111, 99, 111, 100, 97] : List UInt8) then ((spec_CountCodas.f k t199).bind fun t201 => (some t201)) else (if a0.toList = ([99, 108, 117, 115, 116, 101, 114] : List UInt8) then ((spec_CountClusters.f k t199).bind fun t202 => (some t202)) else (if a0.toList = ([118, 111, 105, 99, 101] : List UInt8) then ((spec_CountVoiced.f k t199).bind fun t203 => (some t203)) else (if a0.toList = ([102, 105, 110, 97, 108] : List UInt8) then ((spec_CountFinalVoiced.f k t199).bind fun t204 => (some t204)) else (if a0.toList = ([110, 97, 115, 97, 108] : List UInt8) then ((spec_CountNasalVoiceless.f k t199).bind fun t205 => (some t205)) else (if a0.toList = ([109, 97, 120] : List UInt8) then ((spec_CountDeleted.f k l1_0).bind fun t206 => (some t206)) else (if a0.toList = ([100, 101, 112] : List UInt8) then ((spec_CountInserted.f k l1_0).bind fun t207 => (some t207)) else (if a0.toList = ([105, 100, 101, 110, 116] : List UInt8) then ((spec_CountVoiceChanged.f k l1_0).bind fun t208 => (some t208)) else (if a0.toList = ([99, 111, 110, 116, 105, 103] : List UInt8) then ((spec_CountBreaks.f k l1_0).bind fun t209 => (some t209)) else (some (-1))))))))))))) else (some (-1)))
theorem spec_ViolationsOf.mono : ∀ a0 a1 k, LeO (spec_ViolationsOf.f k a0 a1) (spec_ViolationsOf.f (k + 1) a0 a1) := by
 intro a0 a1 k
 unfold spec_ViolationsOf.f
 with_reducible repeat' first | exact spec_CountBreaks.mono _ _ | exact spec_CountClusters.mono _ _ | exact spec_CountCodas.mono _ _ | exact spec_CountDeleted.mono _ _ | exact spec_CountFinalVoiced.mono _ _ | exact spec_CountInserted.mono _ _ | exact spec_CountNasalVoiceless.mono _ _ | exact spec_CountOnsetless.mono _ _ | exact spec_CountVoiceChanged.mono _ _ | exact spec_CountVoiced.mono _ _ | exact spec_IsCandidate.mono _ _ | exact spec_OutputOf.mono _ _ | exact LeO.refl _ | exact LeO.none _ | refine LeO.ite ?_ ?_ | refine LeO.bind ?_ (fun _ => ?_)
set_option maxHeartbeats 8000000 in
set_option maxRecDepth 100000 in
theorem spec_ViolationsOf.calls (k : Nat) (a0 : ByteArray) (A1_0 : Option Addr) (c1_0 : Nat) (l1_0 : List (S70)) (r : Int) (w : World) (hr1_0 : Kd.C k70 w A1_0 l1_0.length l1_0) (hc1_0 : l1_0.length ≤ c1_0) (h : spec_ViolationsOf.f k a0 l1_0 = some r) :
  Calls Tryz.prog 65 #[.string a0, .agg #[.slice A1_0 l1_0.length c1_0]] w fun e w' => e = .returned (.int .i64 r) ∧ Below w.heap.size w w' := by
 have hu48 := Tryz.underlying48; have HR1_0 := Aside0.mk hr1_0; have HC1_0 := Aside0.mk hc1_0; clear hr1_0 hc1_0; have HB := asT (Below.refl w.heap.size w); have H := h; unfold spec_ViolationsOf.f at H; clear h; obtain ⟨t198, A3, H⟩ := be H
 by_cases c4 : t198 = true
 ·subst c4
  rw [if_pos rfl] at H; obtain ⟨t199, A5, H⟩ := be H
  by_cases c6 : a0.toList = ([111, 110, 115, 101, 116] : List UInt8)
  ·rw [if_pos c6] at H
   have c6b0 : (a0.toList == ([111, 110, 115, 101, 116] : List UInt8)) = true := beq_iff_eq.mpr c6
   have c6b1 : (a0.toList != ([111, 110, 115, 101, 116] : List UInt8)) = false := bne_eq_false_iff_eq.mpr c6
   clear c6; obtain ⟨t200, A7, H⟩ := be H
   obtain rfl := Option.some.inj H
   go_enter Tryz.func65, Tryz.ntmps65
   go_wp2_with (first | ((with_reducible refine gate_dst (N := 3) rfl ?_); refine boxT (N := 3) (cs := #[.slice A1_0 l1_0.length c1_0]) (t := 48) ?_; intro gb197 hg w8 hbox hb; have BK197 := asT hbox; have GW197 := asT (geT hg HB.out); have GE197 := GW197; replace HB := hS HB hb; clear hb hbox hg; obtain ⟨hcz9_0, hfz9_0⟩ := bx1 BK197.out) | ((with_reducible refine gate_callee (f := 49) rfl ?_); refine goesL_ (some 7) rfl rfl Tryz.func49 (by kernel_rfl) rfl #[.agg #[.slice A1_0 l1_0.length c1_0]] rfl eqT ?_; (with_reducible refine (spec_IsCandidate.calls k _ _ l1_0 true _ ?side1 ?side2 A3.out).mono ?_); (case side1 => exact crT HR1_0.out HB.out); (case side2 => exact HC1_0.out); rintro e w10 ⟨rfl, hb⟩; refine ⟨_, rfl, ?_⟩; replace BK197 := bS BK197 hb; replace HB := hS HB hb; (try clear hb hb2 hk hi); obtain ⟨hcz11_0, hfz11_0⟩ := bx1 BK197.out) | ((with_reducible refine gate_callee (f := 21) rfl ?_); refine goesL_ (some 10) rfl rfl Tryz.func21 (by kernel_rfl) rfl #[.agg #[.slice A1_0 l1_0.length c1_0]] rfl eqT ?_; (with_reducible refine (spec_OutputOf.calls k _ _ l1_0 t199 _ ?side1 ?side2 A5.out).mono ?_); (case side1 => exact crT HR1_0.out HB.out); (case side2 => exact HC1_0.out); rintro e w12 ⟨rfl, hb⟩; refine ⟨_, rfl, ?_⟩; replace BK197 := bS BK197 hb; replace HB := hS HB hb; (try clear hb hb2 hk hi)) | ((with_reducible refine gate_callee (f := 84) rfl ?_); refine goesL_ (some 15) rfl rfl Tryz.func84 (by kernel_rfl) rfl #[.string t199] rfl eqT ?_; (with_reducible refine (spec_CountOnsetless.calls k t199 t200 _ A7.out).mono ?_); rintro e w' ⟨rfl, ⟨nd, rfl⟩⟩; refine ⟨_, rfl, ?_⟩))
   go_ret
   exact ⟨rlT, hbT HB.out⟩
  ·rw [if_neg c6] at H
   have c6b0 : (a0.toList == ([111, 110, 115, 101, 116] : List UInt8)) = false := beq_eq_false_iff_ne.mpr c6
   have c6b1 : (a0.toList != ([111, 110, 115, 101, 116] : List UInt8)) = true := bne_iff_ne.mpr c6
   by_cases c13 : a0.toList = ([110, 111, 99, 111, 100, 97] : List UInt8)
   ·rw [if_pos c13] at H
    have c13b0 : (a0.toList == ([110, 111, 99, 111, 100, 97] : List UInt8)) = true := beq_iff_eq.mpr c13
    have c13b1 : (a0.toList != ([110, 111, 99, 111, 100, 97] : List UInt8)) = false := bne_eq_false_iff_eq.mpr c13
    clear c13; obtain ⟨t201, A14, H⟩ := be H
    obtain rfl := Option.some.inj H
    go_enter Tryz.func65, Tryz.ntmps65
    go_wp2_with (first | ((with_reducible refine gate_dst (N := 3) rfl ?_); refine boxT (N := 3) (cs := #[.slice A1_0 l1_0.length c1_0]) (t := 48) ?_; intro gb197 hg w15 hbox hb; have BK197 := asT hbox; have GW197 := asT (geT hg HB.out); have GE197 := GW197; replace HB := hS HB hb; clear hb hbox hg; obtain ⟨hcz16_0, hfz16_0⟩ := bx1 BK197.out) | ((with_reducible refine gate_callee (f := 49) rfl ?_); refine goesL_ (some 7) rfl rfl Tryz.func49 (by kernel_rfl) rfl #[.agg #[.slice A1_0 l1_0.length c1_0]] rfl eqT ?_; (with_reducible refine (spec_IsCandidate.calls k _ _ l1_0 true _ ?side1 ?side2 A3.out).mono ?_); (case side1 => exact crT HR1_0.out HB.out); (case side2 => exact HC1_0.out); rintro e w17 ⟨rfl, hb⟩; refine ⟨_, rfl, ?_⟩; replace BK197 := bS BK197 hb; replace HB := hS HB hb; (try clear hb hb2 hk hi); obtain ⟨hcz18_0, hfz18_0⟩ := bx1 BK197.out) | ((with_reducible refine gate_callee (f := 21) rfl ?_); refine goesL_ (some 10) rfl rfl Tryz.func21 (by kernel_rfl) rfl #[.agg #[.slice A1_0 l1_0.length c1_0]] rfl eqT ?_; (with_reducible refine (spec_OutputOf.calls k _ _ l1_0 t199 _ ?side1 ?side2 A5.out).mono ?_); (case side1 => exact crT HR1_0.out HB.out); (case side2 => exact HC1_0.out); rintro e w19 ⟨rfl, hb⟩; refine ⟨_, rfl, ?_⟩; replace BK197 := bS BK197 hb; replace HB := hS HB hb; (try clear hb hb2 hk hi)) | ((with_reducible refine gate_callee (f := 85) rfl ?_); refine goesL_ (some 19) rfl rfl Tryz.func85 (by kernel_rfl) rfl #[.string t199] rfl eqT ?_; (with_reducible refine (spec_CountCodas.calls k t199 t201 _ A14.out).mono ?_); rintro e w' ⟨rfl, ⟨nd, rfl⟩⟩; refine ⟨_, rfl, ?_⟩))
    go_ret
    exact ⟨rlT, hbT HB.out⟩
   ·rw [if_neg c13] at H
    have c13b0 : (a0.toList == ([110, 111, 99, 111, 100, 97] : List UInt8)) = false := beq_eq_false_iff_ne.mpr c13
    have c13b1 : (a0.toList != ([110, 111, 99, 111, 100, 97] : List UInt8)) = true := bne_iff_ne.mpr c13
    by_cases c20 : a0.toList = ([99, 108, 117, 115, 116, 101, 114] : List UInt8)
    ·rw [if_pos c20] at H
     have c20b0 : (a0.toList == ([99, 108, 117, 115, 116, 101, 114] : List UInt8)) = true := beq_iff_eq.mpr c20
     have c20b1 : (a0.toList != ([99, 108, 117, 115, 116, 101, 114] : List UInt8)) = false := bne_eq_false_iff_eq.mpr c20
     clear c20; obtain ⟨t202, A21, H⟩ := be H
     obtain rfl := Option.some.inj H
     go_enter Tryz.func65, Tryz.ntmps65
     go_wp2_with (first | ((with_reducible refine gate_dst (N := 3) rfl ?_); refine boxT (N := 3) (cs := #[.slice A1_0 l1_0.length c1_0]) (t := 48) ?_; intro gb197 hg w22 hbox hb; have BK197 := asT hbox; have GW197 := asT (geT hg HB.out); have GE197 := GW197; replace HB := hS HB hb; clear hb hbox hg; obtain ⟨hcz23_0, hfz23_0⟩ := bx1 BK197.out) | ((with_reducible refine gate_callee (f := 49) rfl ?_); refine goesL_ (some 7) rfl rfl Tryz.func49 (by kernel_rfl) rfl #[.agg #[.slice A1_0 l1_0.length c1_0]] rfl eqT ?_; (with_reducible refine (spec_IsCandidate.calls k _ _ l1_0 true _ ?side1 ?side2 A3.out).mono ?_); (case side1 => exact crT HR1_0.out HB.out); (case side2 => exact HC1_0.out); rintro e w24 ⟨rfl, hb⟩; refine ⟨_, rfl, ?_⟩; replace BK197 := bS BK197 hb; replace HB := hS HB hb; (try clear hb hb2 hk hi); obtain ⟨hcz25_0, hfz25_0⟩ := bx1 BK197.out) | ((with_reducible refine gate_callee (f := 21) rfl ?_); refine goesL_ (some 10) rfl rfl Tryz.func21 (by kernel_rfl) rfl #[.agg #[.slice A1_0 l1_0.length c1_0]] rfl eqT ?_; (with_reducible refine (spec_OutputOf.calls k _ _ l1_0 t199 _ ?side1 ?side2 A5.out).mono ?_); (case side1 => exact crT HR1_0.out HB.out); (case side2 => exact HC1_0.out); rintro e w26 ⟨rfl, hb⟩; refine ⟨_, rfl, ?_⟩; replace BK197 := bS BK197 hb; replace HB := hS HB hb; (try clear hb hb2 hk hi)) | ((with_reducible refine gate_callee (f := 86) rfl ?_); refine goesL_ (some 23) rfl rfl Tryz.func86 (by kernel_rfl) rfl #[.string t199] rfl eqT ?_; (with_reducible refine (spec_CountClusters.calls k t199 t202 _ A21.out).mono ?_); rintro e w' ⟨rfl, ⟨nd, rfl⟩⟩; refine ⟨_, rfl, ?_⟩))
     go_ret
     exact ⟨rlT, hbT HB.out⟩
    ·rw [if_neg c20] at H
     have c20b0 : (a0.toList == ([99, 108, 117, 115, 116, 101, 114] : List UInt8)) = false := beq_eq_false_iff_ne.mpr c20
     have c20b1 : (a0.toList != ([99, 108, 117, 115, 116, 101, 114] : List UInt8)) = true := bne_iff_ne.mpr c20
     by_cases c27 : a0.toList = ([118, 111, 105, 99, 101] : List UInt8)
     ·rw [if_pos c27] at H
      have c27b0 : (a0.toList == ([118, 111, 105, 99, 101] : List UInt8)) = true := beq_iff_eq.mpr c27
      have c27b1 : (a0.toList != ([118, 111, 105, 99, 101] : List UInt8)) = false := bne_eq_false_iff_eq.mpr c27
      clear c27; obtain ⟨t203, A28, H⟩ := be H
      obtain rfl := Option.some.inj H
      go_enter Tryz.func65, Tryz.ntmps65
      go_wp2_with (first | ((with_reducible refine gate_dst (N := 3) rfl ?_); refine boxT (N := 3) (cs := #[.slice A1_0 l1_0.length c1_0]) (t := 48) ?_; intro gb197 hg w29 hbox hb; have BK197 := asT hbox; have GW197 := asT (geT hg HB.out); have GE197 := GW197; replace HB := hS HB hb; clear hb hbox hg; obtain ⟨hcz30_0, hfz30_0⟩ := bx1 BK197.out) | ((with_reducible refine gate_callee (f := 49) rfl ?_); refine goesL_ (some 7) rfl rfl Tryz.func49 (by kernel_rfl) rfl #[.agg #[.slice A1_0 l1_0.length c1_0]] rfl eqT ?_; (with_reducible refine (spec_IsCandidate.calls k _ _ l1_0 true _ ?side1 ?side2 A3.out).mono ?_); (case side1 => exact crT HR1_0.out HB.out); (case side2 => exact HC1_0.out); rintro e w31 ⟨rfl, hb⟩; refine ⟨_, rfl, ?_⟩; replace BK197 := bS BK197 hb; replace HB := hS HB hb; (try clear hb hb2 hk hi); obtain ⟨hcz32_0, hfz32_0⟩ := bx1 BK197.out) | ((with_reducible refine gate_callee (f := 21) rfl ?_); refine goesL_ (some 10) rfl rfl Tryz.func21 (by kernel_rfl) rfl #[.agg #[.slice A1_0 l1_0.length c1_0]] rfl eqT ?_; (with_reducible refine (spec_OutputOf.calls k _ _ l1_0 t199 _ ?side1 ?side2 A5.out).mono ?_); (case side1 => exact crT HR1_0.out HB.out); (case side2 => exact HC1_0.out); rintro e w33 ⟨rfl, hb⟩; refine ⟨_, rfl, ?_⟩; replace BK197 := bS BK197 hb; replace HB := hS HB hb; (try clear hb hb2 hk hi)) | ((with_reducible refine gate_callee (f := 87) rfl ?_); refine goesL_ (some 27) rfl rfl Tryz.func87 (by kernel_rfl) rfl #[.string t199] rfl eqT ?_; (with_reducible refine (spec_CountVoiced.calls k t199 t203 _ A28.out).mono ?_); rintro e w' ⟨rfl, ⟨nd, rfl⟩⟩; refine ⟨_, rfl, ?_⟩))
      go_ret
      exact ⟨rlT, hbT HB.out⟩
     ·rw [if_neg c27] at H
      have c27b0 : (a0.toList == ([118, 111, 105, 99, 101] : List UInt8)) = false := beq_eq_false_iff_ne.mpr c27
      have c27b1 : (a0.toList != ([118, 111, 105, 99, 101] : List UInt8)) = true := bne_iff_ne.mpr c27
      by_cases c34 : a0.toList = ([102, 105, 110, 97, 108] : List UInt8)
      ·rw [if_pos c34] at H
       have c34b0 : (a0.toList == ([102, 105, 110, 97, 108] : List UInt8)) = true := beq_iff_eq.mpr c34
       have c34b1 : (a0.toList != ([102, 105, 110, 97, 108] : List UInt8)) = false := bne_eq_false_iff_eq.mpr c34
       clear c34; obtain ⟨t204, A35, H⟩ := be H
       obtain rfl := Option.some.inj H
       go_enter Tryz.func65, Tryz.ntmps65
       go_wp2_with (first | ((with_reducible refine gate_dst (N := 3) rfl ?_); refine boxT (N := 3) (cs := #[.slice A1_0 l1_0.length c1_0]) (t := 48) ?_; intro gb197 hg w36 hbox hb; have BK197 := asT hbox; have GW197 := asT (geT hg HB.out); have GE197 := GW197; replace HB := hS HB hb; clear hb hbox hg; obtain ⟨hcz37_0, hfz37_0⟩ := bx1 BK197.out) | ((with_reducible refine gate_callee (f := 49) rfl ?_); refine goesL_ (some 7) rfl rfl Tryz.func49 (by kernel_rfl) rfl #[.agg #[.slice A1_0 l1_0.length c1_0]] rfl eqT ?_; (with_reducible refine (spec_IsCandidate.calls k _ _ l1_0 true _ ?side1 ?side2 A3.out).mono ?_); (case side1 => exact crT HR1_0.out HB.out); (case side2 => exact HC1_0.out); rintro e w38 ⟨rfl, hb⟩; refine ⟨_, rfl, ?_⟩; replace BK197 := bS BK197 hb; replace HB := hS HB hb; (try clear hb hb2 hk hi); obtain ⟨hcz39_0, hfz39_0⟩ := bx1 BK197.out) | ((with_reducible refine gate_callee (f := 21) rfl ?_); refine goesL_ (some 10) rfl rfl Tryz.func21 (by kernel_rfl) rfl #[.agg #[.slice A1_0 l1_0.length c1_0]] rfl eqT ?_; (with_reducible refine (spec_OutputOf.calls k _ _ l1_0 t199 _ ?side1 ?side2 A5.out).mono ?_); (case side1 => exact crT HR1_0.out HB.out); (case side2 => exact HC1_0.out); rintro e w40 ⟨rfl, hb⟩; refine ⟨_, rfl, ?_⟩; replace BK197 := bS BK197 hb; replace HB := hS HB hb; (try clear hb hb2 hk hi)) | ((with_reducible refine gate_callee (f := 88) rfl ?_); refine goesL_ (some 31) rfl rfl Tryz.func88 (by kernel_rfl) rfl #[.string t199] rfl eqT ?_; (with_reducible refine (spec_CountFinalVoiced.calls k t199 t204 _ A35.out).mono ?_); rintro e w' ⟨rfl, ⟨nd, rfl⟩⟩; refine ⟨_, rfl, ?_⟩))
       go_ret
       exact ⟨rlT, hbT HB.out⟩
      ·rw [if_neg c34] at H
       have c34b0 : (a0.toList == ([102, 105, 110, 97, 108] : List UInt8)) = false := beq_eq_false_iff_ne.mpr c34
       have c34b1 : (a0.toList != ([102, 105, 110, 97, 108] : List UInt8)) = true := bne_iff_ne.mpr c34
       by_cases c41 : a0.toList = ([110, 97, 115, 97, 108] : List UInt8)
       ·rw [if_pos c41] at H
        have c41b0 : (a0.toList == ([110, 97, 115, 97, 108] : List UInt8)) = true := beq_iff_eq.mpr c41
        have c41b1 : (a0.toList != ([110, 97, 115, 97, 108] : List UInt8)) = false := bne_eq_false_iff_eq.mpr c41
        clear c41; obtain ⟨t205, A42, H⟩ := be H
        obtain rfl := Option.some.inj H
        go_enter Tryz.func65, Tryz.ntmps65
        go_wp2_with (first | ((with_reducible refine gate_dst (N := 3) rfl ?_); refine boxT (N := 3) (cs := #[.slice A1_0 l1_0.length c1_0]) (t := 48) ?_; intro gb197 hg w43 hbox hb; have BK197 := asT hbox; have GW197 := asT (geT hg HB.out); have GE197 := GW197; replace HB := hS HB hb; clear hb hbox hg; obtain ⟨hcz44_0, hfz44_0⟩ := bx1 BK197.out) | ((with_reducible refine gate_callee (f := 49) rfl ?_); refine goesL_ (some 7) rfl rfl Tryz.func49 (by kernel_rfl) rfl #[.agg #[.slice A1_0 l1_0.length c1_0]] rfl eqT ?_; (with_reducible refine (spec_IsCandidate.calls k _ _ l1_0 true _ ?side1 ?side2 A3.out).mono ?_); (case side1 => exact crT HR1_0.out HB.out); (case side2 => exact HC1_0.out); rintro e w45 ⟨rfl, hb⟩; refine ⟨_, rfl, ?_⟩; replace BK197 := bS BK197 hb; replace HB := hS HB hb; (try clear hb hb2 hk hi); obtain ⟨hcz46_0, hfz46_0⟩ := bx1 BK197.out) | ((with_reducible refine gate_callee (f := 21) rfl ?_); refine goesL_ (some 10) rfl rfl Tryz.func21 (by kernel_rfl) rfl #[.agg #[.slice A1_0 l1_0.length c1_0]] rfl eqT ?_; (with_reducible refine (spec_OutputOf.calls k _ _ l1_0 t199 _ ?side1 ?side2 A5.out).mono ?_); (case side1 => exact crT HR1_0.out HB.out); (case side2 => exact HC1_0.out); rintro e w47 ⟨rfl, hb⟩; refine ⟨_, rfl, ?_⟩; replace BK197 := bS BK197 hb; replace HB := hS HB hb; (try clear hb hb2 hk hi)) | ((with_reducible refine gate_callee (f := 89) rfl ?_); refine goesL_ (some 35) rfl rfl Tryz.func89 (by kernel_rfl) rfl #[.string t199] rfl eqT ?_; (with_reducible refine (spec_CountNasalVoiceless.calls k t199 t205 _ A42.out).mono ?_); rintro e w' ⟨rfl, ⟨nd, rfl⟩⟩; refine ⟨_, rfl, ?_⟩))
        go_ret
        exact ⟨rlT, hbT HB.out⟩
       ·rw [if_neg c41] at H
        have c41b0 : (a0.toList == ([110, 97, 115, 97, 108] : List UInt8)) = false := beq_eq_false_iff_ne.mpr c41
        have c41b1 : (a0.toList != ([110, 97, 115, 97, 108] : List UInt8)) = true := bne_iff_ne.mpr c41
        by_cases c48 : a0.toList = ([109, 97, 120] : List UInt8)
        ·rw [if_pos c48] at H
         have c48b0 : (a0.toList == ([109, 97, 120] : List UInt8)) = true := beq_iff_eq.mpr c48
         have c48b1 : (a0.toList != ([109, 97, 120] : List UInt8)) = false := bne_eq_false_iff_eq.mpr c48
         clear c48; obtain ⟨t206, A49, H⟩ := be H
         obtain rfl := Option.some.inj H
         go_enter Tryz.func65, Tryz.ntmps65
         go_wp2_with (first | ((with_reducible refine gate_dst (N := 3) rfl ?_); refine boxT (N := 3) (cs := #[.slice A1_0 l1_0.length c1_0]) (t := 48) ?_; intro gb197 hg w50 hbox hb; have BK197 := asT hbox; have GW197 := asT (geT hg HB.out); have GE197 := GW197; replace HB := hS HB hb; clear hb hbox hg; obtain ⟨hcz51_0, hfz51_0⟩ := bx1 BK197.out) | ((with_reducible refine gate_callee (f := 49) rfl ?_); refine goesL_ (some 7) rfl rfl Tryz.func49 (by kernel_rfl) rfl #[.agg #[.slice A1_0 l1_0.length c1_0]] rfl eqT ?_; (with_reducible refine (spec_IsCandidate.calls k _ _ l1_0 true _ ?side1 ?side2 A3.out).mono ?_); (case side1 => exact crT HR1_0.out HB.out); (case side2 => exact HC1_0.out); rintro e w52 ⟨rfl, hb⟩; refine ⟨_, rfl, ?_⟩; replace BK197 := bS BK197 hb; replace HB := hS HB hb; (try clear hb hb2 hk hi); obtain ⟨hcz53_0, hfz53_0⟩ := bx1 BK197.out) | ((with_reducible refine gate_callee (f := 21) rfl ?_); refine goesL_ (some 10) rfl rfl Tryz.func21 (by kernel_rfl) rfl #[.agg #[.slice A1_0 l1_0.length c1_0]] rfl eqT ?_; (with_reducible refine (spec_OutputOf.calls k _ _ l1_0 t199 _ ?side1 ?side2 A5.out).mono ?_); (case side1 => exact crT HR1_0.out HB.out); (case side2 => exact HC1_0.out); rintro e w54 ⟨rfl, hb⟩; refine ⟨_, rfl, ?_⟩; replace BK197 := bS BK197 hb; replace HB := hS HB hb; (try clear hb hb2 hk hi); obtain ⟨hcz55_0, hfz55_0⟩ := bx1 BK197.out) | ((with_reducible refine gate_callee (f := 90) rfl ?_); refine goesL_ (some 39) rfl rfl Tryz.func90 (by kernel_rfl) rfl #[.agg #[.slice A1_0 l1_0.length c1_0]] rfl eqT ?_; (with_reducible refine (spec_CountDeleted.calls k _ _ l1_0 t206 _ ?side1 ?side2 A49.out).mono ?_); (case side1 => exact crT HR1_0.out HB.out); (case side2 => exact HC1_0.out); rintro e w56 ⟨rfl, hb⟩; refine ⟨_, rfl, ?_⟩; replace BK197 := bS BK197 hb; replace HB := hS HB hb; (try clear hb hb2 hk hi)))
         go_ret
         exact ⟨rlT, hbT HB.out⟩
        ·rw [if_neg c48] at H
         have c48b0 : (a0.toList == ([109, 97, 120] : List UInt8)) = false := beq_eq_false_iff_ne.mpr c48
         have c48b1 : (a0.toList != ([109, 97, 120] : List UInt8)) = true := bne_iff_ne.mpr c48
         by_cases c57 : a0.toList = ([100, 101, 112] : List UInt8)
         ·rw [if_pos c57] at H
          have c57b0 : (a0.toList == ([100, 101, 112] : List UInt8)) = true := beq_iff_eq.mpr c57
          have c57b1 : (a0.toList != ([100, 101, 112] : List UInt8)) = false := bne_eq_false_iff_eq.mpr c57
          clear c57; obtain ⟨t207, A58, H⟩ := be H
          obtain rfl := Option.some.inj H
          go_enter Tryz.func65, Tryz.ntmps65
          go_wp2_with (first | ((with_reducible refine gate_dst (N := 3) rfl ?_); refine boxT (N := 3) (cs := #[.slice A1_0 l1_0.length c1_0]) (t := 48) ?_; intro gb197 hg w59 hbox hb; have BK197 := asT hbox; have GW197 := asT (geT hg HB.out); have GE197 := GW197; replace HB := hS HB hb; clear hb hbox hg; obtain ⟨hcz60_0, hfz60_0⟩ := bx1 BK197.out) | ((with_reducible refine gate_callee (f := 49) rfl ?_); refine goesL_ (some 7) rfl rfl Tryz.func49 (by kernel_rfl) rfl #[.agg #[.slice A1_0 l1_0.length c1_0]] rfl eqT ?_; (with_reducible refine (spec_IsCandidate.calls k _ _ l1_0 true _ ?side1 ?side2 A3.out).mono ?_); (case side1 => exact crT HR1_0.out HB.out); (case side2 => exact HC1_0.out); rintro e w61 ⟨rfl, hb⟩; refine ⟨_, rfl, ?_⟩; replace BK197 := bS BK197 hb; replace HB := hS HB hb; (try clear hb hb2 hk hi); obtain ⟨hcz62_0, hfz62_0⟩ := bx1 BK197.out) | ((with_reducible refine gate_callee (f := 21) rfl ?_); refine goesL_ (some 10) rfl rfl Tryz.func21 (by kernel_rfl) rfl #[.agg #[.slice A1_0 l1_0.length c1_0]] rfl eqT ?_; (with_reducible refine (spec_OutputOf.calls k _ _ l1_0 t199 _ ?side1 ?side2 A5.out).mono ?_); (case side1 => exact crT HR1_0.out HB.out); (case side2 => exact HC1_0.out); rintro e w63 ⟨rfl, hb⟩; refine ⟨_, rfl, ?_⟩; replace BK197 := bS BK197 hb; replace HB := hS HB hb; (try clear hb hb2 hk hi); obtain ⟨hcz64_0, hfz64_0⟩ := bx1 BK197.out) | ((with_reducible refine gate_callee (f := 91) rfl ?_); refine goesL_ (some 43) rfl rfl Tryz.func91 (by kernel_rfl) rfl #[.agg #[.slice A1_0 l1_0.length c1_0]] rfl eqT ?_; (with_reducible refine (spec_CountInserted.calls k _ _ l1_0 t207 _ ?side1 ?side2 A58.out).mono ?_); (case side1 => exact crT HR1_0.out HB.out); (case side2 => exact HC1_0.out); rintro e w65 ⟨rfl, hb⟩; refine ⟨_, rfl, ?_⟩; replace BK197 := bS BK197 hb; replace HB := hS HB hb; (try clear hb hb2 hk hi)))
          go_ret
          exact ⟨rlT, hbT HB.out⟩
         ·rw [if_neg c57] at H
          have c57b0 : (a0.toList == ([100, 101, 112] : List UInt8)) = false := beq_eq_false_iff_ne.mpr c57
          have c57b1 : (a0.toList != ([100, 101, 112] : List UInt8)) = true := bne_iff_ne.mpr c57
          by_cases c66 : a0.toList = ([105, 100, 101, 110, 116] : List UInt8)
          ·rw [if_pos c66] at H
           have c66b0 : (a0.toList == ([105, 100, 101, 110, 116] : List UInt8)) = true := beq_iff_eq.mpr c66
           have c66b1 : (a0.toList != ([105, 100, 101, 110, 116] : List UInt8)) = false := bne_eq_false_iff_eq.mpr c66
           clear c66; obtain ⟨t208, A67, H⟩ := be H
           obtain rfl := Option.some.inj H
           go_enter Tryz.func65, Tryz.ntmps65
           go_wp2_with (first | ((with_reducible refine gate_dst (N := 3) rfl ?_); refine boxT (N := 3) (cs := #[.slice A1_0 l1_0.length c1_0]) (t := 48) ?_; intro gb197 hg w68 hbox hb; have BK197 := asT hbox; have GW197 := asT (geT hg HB.out); have GE197 := GW197; replace HB := hS HB hb; clear hb hbox hg; obtain ⟨hcz69_0, hfz69_0⟩ := bx1 BK197.out) | ((with_reducible refine gate_callee (f := 49) rfl ?_); refine goesL_ (some 7) rfl rfl Tryz.func49 (by kernel_rfl) rfl #[.agg #[.slice A1_0 l1_0.length c1_0]] rfl eqT ?_; (with_reducible refine (spec_IsCandidate.calls k _ _ l1_0 true _ ?side1 ?side2 A3.out).mono ?_); (case side1 => exact crT HR1_0.out HB.out); (case side2 => exact HC1_0.out); rintro e w70 ⟨rfl, hb⟩; refine ⟨_, rfl, ?_⟩; replace BK197 := bS BK197 hb; replace HB := hS HB hb; (try clear hb hb2 hk hi); obtain ⟨hcz71_0, hfz71_0⟩ := bx1 BK197.out) | ((with_reducible refine gate_callee (f := 21) rfl ?_); refine goesL_ (some 10) rfl rfl Tryz.func21 (by kernel_rfl) rfl #[.agg #[.slice A1_0 l1_0.length c1_0]] rfl eqT ?_; (with_reducible refine (spec_OutputOf.calls k _ _ l1_0 t199 _ ?side1 ?side2 A5.out).mono ?_); (case side1 => exact crT HR1_0.out HB.out); (case side2 => exact HC1_0.out); rintro e w72 ⟨rfl, hb⟩; refine ⟨_, rfl, ?_⟩; replace BK197 := bS BK197 hb; replace HB := hS HB hb; (try clear hb hb2 hk hi); obtain ⟨hcz73_0, hfz73_0⟩ := bx1 BK197.out) | ((with_reducible refine gate_callee (f := 92) rfl ?_); refine goesL_ (some 47) rfl rfl Tryz.func92 (by kernel_rfl) rfl #[.agg #[.slice A1_0 l1_0.length c1_0]] rfl eqT ?_; (with_reducible refine (spec_CountVoiceChanged.calls k _ _ l1_0 t208 _ ?side1 ?side2 A67.out).mono ?_); (case side1 => exact crT HR1_0.out HB.out); (case side2 => exact HC1_0.out); rintro e w74 ⟨rfl, hb⟩; refine ⟨_, rfl, ?_⟩; replace BK197 := bS BK197 hb; replace HB := hS HB hb; (try clear hb hb2 hk hi)))
           go_ret
           exact ⟨rlT, hbT HB.out⟩
          ·rw [if_neg c66] at H
           have c66b0 : (a0.toList == ([105, 100, 101, 110, 116] : List UInt8)) = false := beq_eq_false_iff_ne.mpr c66
           have c66b1 : (a0.toList != ([105, 100, 101, 110, 116] : List UInt8)) = true := bne_iff_ne.mpr c66
           by_cases c75 : a0.toList = ([99, 111, 110, 116, 105, 103] : List UInt8)
           ·rw [if_pos c75] at H
            have c75b0 : (a0.toList == ([99, 111, 110, 116, 105, 103] : List UInt8)) = true := beq_iff_eq.mpr c75
            have c75b1 : (a0.toList != ([99, 111, 110, 116, 105, 103] : List UInt8)) = false := bne_eq_false_iff_eq.mpr c75
            clear c75; obtain ⟨t209, A76, H⟩ := be H
            obtain rfl := Option.some.inj H
            go_enter Tryz.func65, Tryz.ntmps65
            go_wp2_with (first | ((with_reducible refine gate_dst (N := 3) rfl ?_); refine boxT (N := 3) (cs := #[.slice A1_0 l1_0.length c1_0]) (t := 48) ?_; intro gb197 hg w77 hbox hb; have BK197 := asT hbox; have GW197 := asT (geT hg HB.out); have GE197 := GW197; replace HB := hS HB hb; clear hb hbox hg; obtain ⟨hcz78_0, hfz78_0⟩ := bx1 BK197.out) | ((with_reducible refine gate_callee (f := 49) rfl ?_); refine goesL_ (some 7) rfl rfl Tryz.func49 (by kernel_rfl) rfl #[.agg #[.slice A1_0 l1_0.length c1_0]] rfl eqT ?_; (with_reducible refine (spec_IsCandidate.calls k _ _ l1_0 true _ ?side1 ?side2 A3.out).mono ?_); (case side1 => exact crT HR1_0.out HB.out); (case side2 => exact HC1_0.out); rintro e w79 ⟨rfl, hb⟩; refine ⟨_, rfl, ?_⟩; replace BK197 := bS BK197 hb; replace HB := hS HB hb; (try clear hb hb2 hk hi); obtain ⟨hcz80_0, hfz80_0⟩ := bx1 BK197.out) | ((with_reducible refine gate_callee (f := 21) rfl ?_); refine goesL_ (some 10) rfl rfl Tryz.func21 (by kernel_rfl) rfl #[.agg #[.slice A1_0 l1_0.length c1_0]] rfl eqT ?_; (with_reducible refine (spec_OutputOf.calls k _ _ l1_0 t199 _ ?side1 ?side2 A5.out).mono ?_); (case side1 => exact crT HR1_0.out HB.out); (case side2 => exact HC1_0.out); rintro e w81 ⟨rfl, hb⟩; refine ⟨_, rfl, ?_⟩; replace BK197 := bS BK197 hb; replace HB := hS HB hb; (try clear hb hb2 hk hi); obtain ⟨hcz82_0, hfz82_0⟩ := bx1 BK197.out) | ((with_reducible refine gate_callee (f := 93) rfl ?_); refine goesL_ (some 51) rfl rfl Tryz.func93 (by kernel_rfl) rfl #[.agg #[.slice A1_0 l1_0.length c1_0]] rfl eqT ?_; (with_reducible refine (spec_CountBreaks.calls k _ _ l1_0 t209 _ ?side1 ?side2 A76.out).mono ?_); (case side1 => exact crT HR1_0.out HB.out); (case side2 => exact HC1_0.out); rintro e w83 ⟨rfl, hb⟩; refine ⟨_, rfl, ?_⟩; replace BK197 := bS BK197 hb; replace HB := hS HB hb; (try clear hb hb2 hk hi)))
            go_ret
            exact ⟨rlT, hbT HB.out⟩
           ·rw [if_neg c75] at H
            have c75b0 : (a0.toList == ([99, 111, 110, 116, 105, 103] : List UInt8)) = false := beq_eq_false_iff_ne.mpr c75
            have c75b1 : (a0.toList != ([99, 111, 110, 116, 105, 103] : List UInt8)) = true := bne_iff_ne.mpr c75
            obtain rfl := Option.some.inj H
            go_enter Tryz.func65, Tryz.ntmps65
            go_wp2_with (first | ((with_reducible refine gate_dst (N := 3) rfl ?_); refine boxT (N := 3) (cs := #[.slice A1_0 l1_0.length c1_0]) (t := 48) ?_; intro gb197 hg w84 hbox hb; have BK197 := asT hbox; have GW197 := asT (geT hg HB.out); have GE197 := GW197; replace HB := hS HB hb; clear hb hbox hg; obtain ⟨hcz85_0, hfz85_0⟩ := bx1 BK197.out) | ((with_reducible refine gate_callee (f := 49) rfl ?_); refine goesL_ (some 7) rfl rfl Tryz.func49 (by kernel_rfl) rfl #[.agg #[.slice A1_0 l1_0.length c1_0]] rfl eqT ?_; (with_reducible refine (spec_IsCandidate.calls k _ _ l1_0 true _ ?side1 ?side2 A3.out).mono ?_); (case side1 => exact crT HR1_0.out HB.out); (case side2 => exact HC1_0.out); rintro e w86 ⟨rfl, hb⟩; refine ⟨_, rfl, ?_⟩; replace BK197 := bS BK197 hb; replace HB := hS HB hb; (try clear hb hb2 hk hi); obtain ⟨hcz87_0, hfz87_0⟩ := bx1 BK197.out) | ((with_reducible refine gate_callee (f := 21) rfl ?_); refine goesL_ (some 10) rfl rfl Tryz.func21 (by kernel_rfl) rfl #[.agg #[.slice A1_0 l1_0.length c1_0]] rfl eqT ?_; (with_reducible refine (spec_OutputOf.calls k _ _ l1_0 t199 _ ?side1 ?side2 A5.out).mono ?_); (case side1 => exact crT HR1_0.out HB.out); (case side2 => exact HC1_0.out); rintro e w88 ⟨rfl, hb⟩; refine ⟨_, rfl, ?_⟩; replace BK197 := bS BK197 hb; replace HB := hS HB hb; (try clear hb hb2 hk hi)))
            go_ret
            exact ⟨rlT, hbT HB.out⟩
 ·replace c4 := Bool.eq_false_iff.mpr c4
  subst c4; rw [if_neg nF] at H; have H1 := H; clear H; have H := H1; clear H1
  obtain rfl := Option.some.inj H
  go_enter Tryz.func65, Tryz.ntmps65
  go_wp2_with (first | ((with_reducible refine gate_dst (N := 3) rfl ?_); refine boxT (N := 3) (cs := #[.slice A1_0 l1_0.length c1_0]) (t := 48) ?_; intro gb197 hg w89 hbox hb; have BK197 := asT hbox; have GW197 := asT (geT hg HB.out); have GE197 := GW197; replace HB := hS HB hb; clear hb hbox hg; obtain ⟨hcz90_0, hfz90_0⟩ := bx1 BK197.out) | ((with_reducible refine gate_callee (f := 49) rfl ?_); refine goesL_ (some 7) rfl rfl Tryz.func49 (by kernel_rfl) rfl #[.agg #[.slice A1_0 l1_0.length c1_0]] rfl eqT ?_; (with_reducible refine (spec_IsCandidate.calls k _ _ l1_0 false _ ?side1 ?side2 A3.out).mono ?_); (case side1 => exact crT HR1_0.out HB.out); (case side2 => exact HC1_0.out); rintro e w91 ⟨rfl, hb⟩; refine ⟨_, rfl, ?_⟩; replace BK197 := bS BK197 hb; replace HB := hS HB hb; (try clear hb hb2 hk hi)))
  go_ret
  exact ⟨rlT, hbT HB.out⟩

/-! ### spec_ProfileOf: function 33 -/
def spec_ProfileOf.l0 : Nat → List ByteArray → List Int → Int → List (S70) → Option (List Int)
 | 0, _, _, _, _ => none
 | k + 1, x0, x5, x6, x211000 => if x6 < (x0.length : Int) then ((spec_AreConstraints.f k x0).bind fun t214 => (if t214 = true then ((spec_IsCandidate.f k x211000).bind fun t215 => (if t215 = true then (if 0 ≤ x6 then ((spec_ViolationsOf.f k (rdOf ByteArray.empty x0 x6) x211000).bind fun t217 => (if x5.length < 17592186044416 then (spec_ProfileOf.l0 k x0 (x5 ++ [t217]) (wrap64 (x6 + 1)) x211000) else (none))) else (none)) else (some x5))) else (some x5))) else (some x5)
def spec_ProfileOf.f (k : Nat) (l0 : List ByteArray) (l1_0 : List (S70)) : Option (List Int) := spec_ProfileOf.l0 k l0 (([] : List Int)) 0 l1_0
theorem spec_ProfileOf.mono_l : ∀ k, (∀ y0 y1 y2 y3, LeO (spec_ProfileOf.l0 k y0 y1 y2 y3) (spec_ProfileOf.l0 (k + 1) y0 y1 y2 y3))
 | 0 => fun _ _ _ _ r h => by simp [spec_ProfileOf.l0] at h
 | k + 1 => by
  have ih0 := spec_ProfileOf.mono_l k
  ·intro y0 y1 y2 y3
   unfold spec_ProfileOf.l0
   with_reducible repeat' first | exact ih0 _ _ _ _ | exact spec_AreConstraints.mono _ _ | exact spec_IsCandidate.mono _ _ | exact spec_ViolationsOf.mono _ _ _ | exact LeO.refl _ | exact LeO.none _ | refine LeO.ite ?_ ?_ | refine LeO.bind ?_ (fun _ => ?_)
theorem spec_ProfileOf.mono : ∀ a0 a1 k, LeO (spec_ProfileOf.f k a0 a1) (spec_ProfileOf.f (k + 1) a0 a1) := by
 intro a0 a1 k
 have ih0 := spec_ProfileOf.mono_l k
 unfold spec_ProfileOf.f
 with_reducible repeat' first | exact ih0 _ _ _ _ | exact spec_AreConstraints.mono _ _ | exact spec_IsCandidate.mono _ _ | exact spec_ViolationsOf.mono _ _ _ | exact LeO.refl _ | exact LeO.none _ | refine LeO.ite ?_ ?_ | refine LeO.bind ?_ (fun _ => ?_)
def spec_ProfileOf.T5 : Bool × List (List Nat × List Nat) := (true, [([], []), ([], []), ([], []), ([1, 2], [1, 2]), ([3], [3]), ([], []), ([4, 5], [4, 5]), ([6], [6]), ([0, 7, 6], [0, 7]), ([8, 8, 0, 1, 2, 3, 4, 5, 6, 7, 8], [0, 8])])
def spec_ProfileOf.B5 : List Nat := [0, 0, 0, 6, 14, 0, 62, 126, 255, 511]
theorem spec_ProfileOf.tab5 : rtab .any (opsOf Tryz.f33 5) = spec_ProfileOf.T5 := by kernel_rfl
theorem spec_ProfileOf.bits5 : waitsOk spec_ProfileOf.T5.2 spec_ProfileOf.B5 = true := by kernel_rfl
set_option maxHeartbeats 8000000 in
set_option maxRecDepth 100000 in
theorem spec_ProfileOf.calls (k : Nat) (A0 : Option Addr) (c0 : Nat) (l0 : List ByteArray) (A1_0 : Option Addr) (c1_0 : Nat) (l1_0 : List (S70)) (r : List Int) (w : World) (hr0 : Kd.C Kd.string w A0 l0.length l0) (hc0 : l0.length ≤ c0) (hr1_0 : Kd.C k70 w A1_0 l1_0.length l1_0) (hc1_0 : l1_0.length ≤ c1_0) (h : spec_ProfileOf.f k l0 l1_0 = some r) :
  Calls Tryz.prog 33 #[.slice A0 l0.length c0, .agg #[.slice A1_0 l1_0.length c1_0]] w fun e w' => ∃ v0_ : Value, e = .returned (v0_) ∧ Kd.R (Kd.int .i64) 3 w' w.heap.size (fun _ => True) v0_ r ∧ Below w.heap.size w w' := by
 have hu48 := Tryz.underlying48; have HR0 := Aside0.mk hr0; have HC0 := Aside0.mk hc0; clear hr0 hc0; have HR1_0 := Aside0.mk hr1_0; have HC1_0 := Aside0.mk hc1_0; clear hr1_0 hc1_0; have HB := asT (Below.refl w.heap.size w); have H := h; unfold spec_ProfileOf.f at H; clear h; obtain ⟨y211, hy211⟩ : ∃ y_ : List Int, y_ = (([] : List Int)) := ⟨_, rfl⟩
 replace H : (spec_ProfileOf.l0 k l0 y211 0 l1_0) = some r := by first | (rw [hy211]; with_reducible exact H) | (have H2_ := (Option.bind_some _ _).symm.trans H; rw [hy211]; with_reducible exact H2_) | (have H2_ := (Option.bind_some _ _).symm.trans H; with_reducible exact H2_) | with_reducible exact H | (rw [hy211]; exact H) | exact H
 have Ny211 := Aside0.mk hy211; clear hy211; have H' := Aside0.mk H; clear H
 go_enter Tryz.func33, Tryz.ntmps33
 go_wp2_with (first | ((with_reducible refine gate_dst (N := 3) rfl ?_); refine boxT (N := 3) (cs := #[.slice A1_0 l1_0.length c1_0]) (t := 48) ?_; intro gb210 hg w3 hbox hb; have BK210 := asT hbox; have GW210 := asT (geT hg HB.out); have GE210 := GW210; replace HB := hS HB hb; clear hb hbox hg) | ((with_reducible refine gate_dst (N := 7) rfl ?_); refine Kd.R_lit (Kd.int .i64) _ 3 ?hg (N := 7) ?hd (xs := ([] : List Int)) (inner := []) (ok := fun _ => True) (okp := fun _ => True) ?hr ?hp (fun _ hk => hk) trivial (Below.refl _ _) (Nat.le_refl _) (by simp) ?_; (case hd => rfl); (case hg => rfl); (case hr => first | (go_simp; done) | (go_simp; rfl)); (case hp => exact (Reps.none _ _)); intro v212 w4 ho5 hb hg_ hnew_; clear hg_ hnew_; (first | rw [← Ny211.out] at ho5 | (simp only [Int.reduceToNat] at ho5; rw [← Ny211.out] at ho5)); have HO213 := asT (Kd.R_lower ho5 (below_size (hbT HB.out))); replace BK210 := bS BK210 hb; replace HB := hS HB hb; clear hb ho5))
 go_loopg [5, 6] k (fun kq v5 v6 w' => ∃ (x5_1 : List Int) (x6_1 : Int), v6 = .int .i64 x6_1 ∧ Aside0 (spec_ProfileOf.l0 kq l0 x5_1 x6_1 l1_0 = some r) ∧ Aside0 (kq ≤ k) ∧ Aside0 (Kd.R (Kd.int .i64) 3 w' w.heap.size (fun _ => True) v5 x5_1) ∧ Aside0 (w'.heap[gb210]? = some (.cells #[(.slice A1_0 l1_0.length c1_0)] 48 (0, 0))) ∧ Aside0 (Below w.heap.size w w'))
 case atStart => exact ⟨(y211), (0), rdT, H', ⟨Nat.le_refl _⟩, ⟨by (with_reducible repeat (first | apply Kd.R_alloc | apply Kd.R_drewN | apply Kd.R_drew)); exact HO213.out⟩, ⟨by (with_reducible repeat (first | refine blk_drewN ?_ _ | refine blk_drew ?_ | refine blk_alloc ?_ _)); exact BK210.out⟩, ⟨hbT HB.out⟩⟩
 case round =>
  clear H'; (try clear c1 p2 c3); obtain ⟨x5_1, x6_1, rfl, HA, HK1, HO_5, BK210, HB⟩ := hrel
  cases gk with
  | zero => exact absurd HA.out (by simp [spec_ProfileOf.l0])
  | succ k1 =>
   have H := HA.out; clear HA
   simp only [spec_ProfileOf.l0] at H
   by_cases c6 : x6_1 < (l0.length : Int)
   ·rw [if_pos c6] at H
    have c6b0 : decide (x6_1 < (l0.length : Int)) = true := decide_eq_true c6
    clear c6; obtain ⟨t214, A7, H⟩ := be H
    by_cases c8 : t214 = true
    ·subst c8
     rw [if_pos rfl] at H; obtain ⟨t215, A9, H⟩ := be H
     by_cases c10 : t215 = true
     ·subst c10
      rw [if_pos rfl] at H; have H1 := H; clear H; have H := H1; clear H1
      by_cases c11 : 0 ≤ x6_1
      ·rw [if_pos c11] at H
       have c11b0 : decide (0 ≤ x6_1) = true := decide_eq_true c11
       clear c11; obtain ⟨t217, A12, H⟩ := be H
       by_cases c13 : x5_1.length < 17592186044416
       ·rw [if_pos c13] at H
        have LMc13 := Aside0.mk c13; clear c13; obtain ⟨y218, hy218⟩ : ∃ y_ : List Int, y_ = (x5_1 ++ [t217]) := ⟨_, rfl⟩
        replace H : (spec_ProfileOf.l0 k1 l0 y218 (wrap64 (x6_1 + 1)) l1_0) = some r := by first | (rw [hy218]; with_reducible exact H) | (have H2_ := (Option.bind_some _ _).symm.trans H; rw [hy218]; with_reducible exact H2_) | (have H2_ := (Option.bind_some _ _).symm.trans H; with_reducible exact H2_) | with_reducible exact H | (rw [hy218]; exact H) | exact H
        have Ny218 := Aside0.mk hy218; clear hy218; have H' := Aside0.mk H; clear H
        try go_wp2_with (first | (go_at_call 30; (with_reducible refine (spec_AreConstraints.calls k1 _ _ l0 true _ ?side1 ?side2 A7.out).mono ?_); (case side1 => exact crT HR0.out HB.out); (case side2 => exact HC0.out); rintro e w14 ⟨rfl, hb⟩; replace HO_5 := asT (Kd.R_below (roT HO_5.out) hb); replace BK210 := bS BK210 hb; replace HB := hS HB hb; (try clear hb hb2 hk hi); obtain ⟨hcz15_0, hfz15_0⟩ := bx1 BK210.out) | (go_at_call 49; (with_reducible refine (spec_IsCandidate.calls k1 _ _ l1_0 true _ ?side1 ?side2 A9.out).mono ?_); (case side1 => exact crT HR1_0.out HB.out); (case side2 => exact HC1_0.out); rintro e w16 ⟨rfl, hb⟩; replace HO_5 := asT (Kd.R_below (roT HO_5.out) hb); replace BK210 := bS BK210 hb; replace HB := hS HB hb; (try clear hb hb2 hk hi)))
        replace HO_5 := asT (Kd.R_drew HO_5.out); replace BK210 := asT (blk_drew BK210.out); replace HB := asT (below_drew1 HB.out)
        have p216 : 0 ≤ (x6_1 : Int) := of_decide_eq_true asmT
        have q216 : x6_1 < (l0.length : Int) := of_decide_eq_true asmT
        obtain ⟨ad216, e216, hx216_0⟩ := Kd.at_string HR0.out x6_1 p216 q216; have hw216_0 := hx216_0
        cases e216
        replace hx216_0 := hbc HB.out hx216_0; replace p216 := eq_true p216; replace q216 := eq_true q216
        refine start_ (n := 10) (S := fun w' => w'.cell? ⟨gb210, 0, none⟩ = some (.slice A1_0 l1_0.length c1_0) ∧ w'.cell? (ad216.add (x6_1).toNat) = some (.string (rdOf ByteArray.empty l0 x6_1))) (ds := []) (bA 10 0) (by kernel_rfl) rfl rfl ⟨bc0 BK210.out, (hbc HB.out hw216_0 :)⟩ (fun hHeld => ?_); refine with_tabW spec_ProfileOf.tab5 spec_ProfileOf.bits5 (fun HT_ HW_ => ?_)
        generalize w16.drew = w17 at HO_5 BK210 HB hx216_0 hHeld ⊢
        refine pA 0 22 10 1 HT_.out ?_ rfl rfl; refine pA 1 23 10 3 HT_.out ?_ rfl rfl; refine pA 2 24 10 7 HT_.out ?_ rfl rfl; refine pA 3 25 10 15 HT_.out ?_ rfl rfl; refine tA 4 26 10 31 HT_.out HW_.out hHeld ?_ rfl rfl; refine tA 5 27 10 63 HT_.out HW_.out hHeld ?_ rfl rfl
        refine oA 6 28 10 127 HT_.out (fun K hK => ?_) rfl rfl
        refine goes_ Tryz.func65 (by kernel_rfl) rfl #[.string (rdOf ByteArray.empty l0 x6_1), .agg #[.slice A1_0 l1_0.length c1_0]] (by rfl) rfl rfl eqT ?_
        (with_reducible refine (spec_ViolationsOf.calls k1 (rdOf ByteArray.empty l0 x6_1) _ _ l1_0 t217 _ ?side1 ?side2 A12.out).mono ?_); (case side1 => exact crT HR1_0.out HB.out); (case side2 => exact HC1_0.out); rintro e w18 ⟨rfl, hb⟩; refine ⟨_, rfl, ?_⟩; replace HO_5 := asT (Kd.R_below (roT HO_5.out) hb); replace BK210 := bS BK210 hb; replace HB := hS HB hb; (try clear hb hb2 hk hi)
        refine hK.out _ _ ⟨bc0 BK210.out, (hbc HB.out hw216_0 :)⟩ (fun hHeld => ?_)
        clear hK K
        refine nB 28 ?_ rfl
        refine oA 7 29 10 255 HT_.out (fun K hK => ?_) rfl rfl
        refine value_ (w1 := ?_) (v := ?_) (by rfl) rfl ?_ ?_
        rotate_left 2
        ·go_simp
         constructor
         ·rfl
         ·rfl
        refine hK.out _ _ ⟨(blk_cell (blk_alloc BK210.out _) 0).trans rfl, (World.cell?_alloc_lt _ _ _ (World.block_lt_of_cell? _ _ (((HB.out.cell (World.block_lt_of_cell? w _ hw216_0)).trans hw216_0)))).trans (((HB.out.cell (World.block_lt_of_cell? w _ hw216_0)).trans hw216_0))⟩ (fun hHeld => ?_)
        clear hK K
        refine nB 29 ?_ rfl
        refine oA 8 30 10 511 HT_.out (fun K hK => ?_) rfl rfl
        refine Kd.R_append_step (Kd.int .i64) (w0 := w) w.heap.size (by rfl) (.tmp 22) (.tmp 29) 57 3 (.int .i64 0) 8 rfl Tryz.underlying57 info3 rfl (by decide) (by omega) u5 x5_1 t217 [.int .i64 t217] (fun _ => True) (fun _ => False) rfl rfl ?aP (fun _ hk => hk.elim) ?aF ?aO ?aB ?aS ?aL ?_
        (case aP => exact rfl)
        (case aB => exact (hbT HB.out))
        (case aF => exact (fun _ _ => trivial))
        (case aO => exact (roT HO_5.out))
        (case aS => exact (below_size (hbT HB.out)))
        (case aL => have := LMc13.out; omega)
        intro v219 w19 ho hb hg hat
        rw [← Ny218.out] at ho; replace BK210 := asT (blk_grown (g := gb210) (o := .cells #[.slice A1_0 l1_0.length c1_0] 48 (0, 0)) (bkT BK210.out) hg (Kd.R_ne HO_5.out BK210.out (by decide))); replace HB := asT (hb); have HO220 := asT (ho); clear HO_5 ho hb hg hat
        refine hK.out _ _ ⟨bc0 BK210.out, (hbc HB.out hw216_0 :)⟩ (fun hHeld => ?_)
        clear hK K
        refine nB 30 ?_ rfl; refine pA 9 5 10 1023 HT_.out ?_ rfl rfl
        refine done_ (done_of HT_.out (by kernel_rfl)) ?_
        try go_wp2
        go_roundg k1
        case measure => have := HK1.out; omega
        case rel => exact ⟨(y218), (wrap64 (x6_1 + 1)), rdT, H', ⟨by have := HK1.out; omega⟩, ⟨by (with_reducible repeat (first | apply Kd.R_alloc | apply Kd.R_drewN | apply Kd.R_drew)); exact HO220.out⟩, ⟨by (with_reducible repeat (first | refine blk_drewN ?_ _ | refine blk_drew ?_ | refine blk_alloc ?_ _)); exact BK210.out⟩, ⟨hbT HB.out⟩⟩
       ·rw [if_neg c13] at H
        exact absurd H (by simp)
      ·rw [if_neg c11] at H
       exact absurd H (by simp)
     ·replace c10 := Bool.eq_false_iff.mpr c10
      subst c10; rw [if_neg nF] at H; have H1 := H; clear H; have H := H1; clear H1
      obtain rfl := Option.some.inj H
      go_wp2_with (first | (go_at_call 30; (with_reducible refine (spec_AreConstraints.calls k1 _ _ l0 true _ ?side1 ?side2 A7.out).mono ?_); (case side1 => exact crT HR0.out HB.out); (case side2 => exact HC0.out); rintro e w20 ⟨rfl, hb⟩; replace HO_5 := asT (Kd.R_below (roT HO_5.out) hb); replace BK210 := bS BK210 hb; replace HB := hS HB hb; (try clear hb hb2 hk hi); obtain ⟨hcz21_0, hfz21_0⟩ := bx1 BK210.out) | (go_at_call 49; (with_reducible refine (spec_IsCandidate.calls k1 _ _ l1_0 false _ ?side1 ?side2 A9.out).mono ?_); (case side1 => exact crT HR1_0.out HB.out); (case side2 => exact HC1_0.out); rintro e w22 ⟨rfl, hb⟩; replace HO_5 := asT (Kd.R_below (roT HO_5.out) hb); replace BK210 := bS BK210 hb; replace HB := hS HB hb; (try clear hb hb2 hk hi)))
      go_ret
      exact ⟨_, rlT, by (with_reducible repeat (first | apply Kd.R_alloc | apply Kd.R_drewN | apply Kd.R_drew)); exact HO_5.out, hbT HB.out⟩
    ·replace c8 := Bool.eq_false_iff.mpr c8
     subst c8; rw [if_neg nF] at H; have H1 := H; clear H; have H := H1; clear H1
     obtain rfl := Option.some.inj H
     go_wp2_with (first | (go_at_call 30; (with_reducible refine (spec_AreConstraints.calls k1 _ _ l0 false _ ?side1 ?side2 A7.out).mono ?_); (case side1 => exact crT HR0.out HB.out); (case side2 => exact HC0.out); rintro e w23 ⟨rfl, hb⟩; replace HO_5 := asT (Kd.R_below (roT HO_5.out) hb); replace BK210 := bS BK210 hb; replace HB := hS HB hb; (try clear hb hb2 hk hi)))
     go_ret
     exact ⟨_, rlT, by (with_reducible repeat (first | apply Kd.R_alloc | apply Kd.R_drewN | apply Kd.R_drew)); exact HO_5.out, hbT HB.out⟩
   ·rw [if_neg c6] at H
    have c6b0 : decide (x6_1 < (l0.length : Int)) = false := decide_eq_false c6
    clear c6
    obtain rfl := Option.some.inj H
    go_wp2
    go_ret
    exact ⟨_, rlT, by (with_reducible repeat (first | apply Kd.R_alloc | apply Kd.R_drewN | apply Kd.R_drew)); exact HO_5.out, hbT HB.out⟩

/-! ### spec_InputOf: function 48 -/
def spec_InputOf.f (k : Nat) (l0_0 : List (S70)) : Option (ByteArray) := (spec_IsCandidate.f k l0_0).bind fun t222 => (if t222 = true then ((spec_l6In.f k l0_0).bind fun t223 => (some t223)) else (some (⟨#[]⟩ : ByteArray)))
theorem spec_InputOf.mono : ∀ a0 k, LeO (spec_InputOf.f k a0) (spec_InputOf.f (k + 1) a0) := by
 intro a0 k
 unfold spec_InputOf.f
 with_reducible repeat' first | exact spec_IsCandidate.mono _ _ | exact spec_l6In.mono _ _ | exact LeO.refl _ | exact LeO.none _ | refine LeO.ite ?_ ?_ | refine LeO.bind ?_ (fun _ => ?_)
set_option maxHeartbeats 8000000 in
set_option maxRecDepth 100000 in
theorem spec_InputOf.calls (k : Nat) (A0_0 : Option Addr) (c0_0 : Nat) (l0_0 : List (S70)) (r : ByteArray) (w : World) (hr0_0 : Kd.C k70 w A0_0 l0_0.length l0_0) (hc0_0 : l0_0.length ≤ c0_0) (h : spec_InputOf.f k l0_0 = some r) :
  Calls Tryz.prog 48 #[.agg #[.slice A0_0 l0_0.length c0_0]] w fun e w' => e = .returned (.string r) ∧ Below w.heap.size w w' := by
 have hu48 := Tryz.underlying48; have HR0_0 := Aside0.mk hr0_0; have HC0_0 := Aside0.mk hc0_0; clear hr0_0 hc0_0; have HB := asT (Below.refl w.heap.size w); have H := h; unfold spec_InputOf.f at H; clear h; obtain ⟨t222, A2, H⟩ := be H
 by_cases c3 : t222 = true
 ·subst c3
  rw [if_pos rfl] at H; obtain ⟨t223, A4, H⟩ := be H
  obtain rfl := Option.some.inj H
  go_enter Tryz.func48, Tryz.ntmps48
  go_wp2_with (first | ((with_reducible refine gate_dst (N := 1) rfl ?_); refine boxT (N := 1) (cs := #[.slice A0_0 l0_0.length c0_0]) (t := 48) ?_; intro gb221 hg w5 hbox hb; have BK221 := asT hbox; have GW221 := asT (geT hg HB.out); have GE221 := GW221; replace HB := hS HB hb; clear hb hbox hg; obtain ⟨hcz6_0, hfz6_0⟩ := bx1 BK221.out) | ((with_reducible refine gate_callee (f := 49) rfl ?_); refine goesL_ (some 4) rfl rfl Tryz.func49 (by kernel_rfl) rfl #[.agg #[.slice A0_0 l0_0.length c0_0]] rfl eqT ?_; (with_reducible refine (spec_IsCandidate.calls k _ _ l0_0 true _ ?side1 ?side2 A2.out).mono ?_); (case side1 => exact crT HR0_0.out HB.out); (case side2 => exact HC0_0.out); rintro e w7 ⟨rfl, hb⟩; refine ⟨_, rfl, ?_⟩; replace BK221 := bS BK221 hb; replace HB := hS HB hb; (try clear hb hb2 hk hi); obtain ⟨hcz8_0, hfz8_0⟩ := bx1 BK221.out) | ((with_reducible refine gate_callee (f := 76) rfl ?_); refine goesL_ (some 7) rfl rfl Tryz.func76 (by kernel_rfl) rfl #[.agg #[.slice A0_0 l0_0.length c0_0]] rfl eqT ?_; (with_reducible refine (spec_l6In.calls k _ _ l0_0 t223 _ ?side1 ?side2 A4.out).mono ?_); (case side1 => exact crT HR0_0.out HB.out); (case side2 => exact HC0_0.out); rintro e w9 ⟨rfl, hb⟩; refine ⟨_, rfl, ?_⟩; replace BK221 := bS BK221 hb; replace HB := hS HB hb; (try clear hb hb2 hk hi)))
  go_ret
  exact ⟨rlT, hbT HB.out⟩
 ·replace c3 := Bool.eq_false_iff.mpr c3
  subst c3; rw [if_neg nF] at H; have H1 := H; clear H; have H := H1; clear H1
  obtain rfl := Option.some.inj H
  go_enter Tryz.func48, Tryz.ntmps48
  go_wp2_with (first | ((with_reducible refine gate_dst (N := 1) rfl ?_); refine boxT (N := 1) (cs := #[.slice A0_0 l0_0.length c0_0]) (t := 48) ?_; intro gb221 hg w10 hbox hb; have BK221 := asT hbox; have GW221 := asT (geT hg HB.out); have GE221 := GW221; replace HB := hS HB hb; clear hb hbox hg; obtain ⟨hcz11_0, hfz11_0⟩ := bx1 BK221.out) | ((with_reducible refine gate_callee (f := 49) rfl ?_); refine goesL_ (some 4) rfl rfl Tryz.func49 (by kernel_rfl) rfl #[.agg #[.slice A0_0 l0_0.length c0_0]] rfl eqT ?_; (with_reducible refine (spec_IsCandidate.calls k _ _ l0_0 false _ ?side1 ?side2 A2.out).mono ?_); (case side1 => exact crT HR0_0.out HB.out); (case side2 => exact HC0_0.out); rintro e w12 ⟨rfl, hb⟩; refine ⟨_, rfl, ?_⟩; replace BK221 := bS BK221 hb; replace HB := hS HB hb; (try clear hb hb2 hk hi)))
  go_ret
  exact ⟨rlT, hbT HB.out⟩

/-! ### spec_l5Same: function 79 -/
def spec_l5Same.l0 : Nat → List Int → List Int → Int → Option (Bool)
 | 0, _, _, _ => none
 | k + 1, x0, x1, x5 => if x5 < (x0.length : Int) then (if 0 ≤ x5 then (if x5 < (x1.length : Int) then (if (rd x0 x5) = (rd x1 x5) then (spec_l5Same.l0 k x0 x1 (wrap64 (x5 + 1))) else (some false)) else (none)) else (none)) else (some true)
def spec_l5Same.f (k : Nat) (l0 : List Int) (l1 : List Int) : Option (Bool) := if (l0.length : Int) = (l1.length : Int) then (spec_l5Same.l0 k l0 l1 0) else (some false)
theorem spec_l5Same.mono_l : ∀ k, (∀ y0 y1 y2, LeO (spec_l5Same.l0 k y0 y1 y2) (spec_l5Same.l0 (k + 1) y0 y1 y2))
 | 0 => fun _ _ _ r h => by simp [spec_l5Same.l0] at h
 | k + 1 => by
  have ih0 := spec_l5Same.mono_l k
  ·intro y0 y1 y2
   unfold spec_l5Same.l0
   with_reducible repeat' first | exact ih0 _ _ _ | exact LeO.refl _ | exact LeO.none _ | refine LeO.ite ?_ ?_ | refine LeO.bind ?_ (fun _ => ?_)
theorem spec_l5Same.mono : ∀ a0 a1 k, LeO (spec_l5Same.f k a0 a1) (spec_l5Same.f (k + 1) a0 a1) := by
 intro a0 a1 k
 have ih0 := spec_l5Same.mono_l k
 unfold spec_l5Same.f
 with_reducible repeat' first | exact ih0 _ _ _ | exact LeO.refl _ | exact LeO.none _ | refine LeO.ite ?_ ?_ | refine LeO.bind ?_ (fun _ => ?_)
set_option maxHeartbeats 8000000 in
set_option maxRecDepth 100000 in
theorem spec_l5Same.calls (k : Nat) (A0 : Option Addr) (c0 : Nat) (l0 : List Int) (A1 : Option Addr) (c1 : Nat) (l1 : List Int) (r : Bool) (w : World) (hr0 : Kd.C (Kd.int .i64) w A0 l0.length l0) (hc0 : l0.length ≤ c0) (hr1 : Kd.C (Kd.int .i64) w A1 l1.length l1) (hc1 : l1.length ≤ c1) (h : spec_l5Same.f k l0 l1 = some r) :
  Calls Tryz.prog 79 #[.slice A0 l0.length c0, .slice A1 l1.length c1] w fun e w' => e = .returned (.bool r) ∧ Drawn0 w w' := by
 have HR0 := Aside0.mk hr0; have HC0 := Aside0.mk hc0; clear hr0 hc0; have HR1 := Aside0.mk hr1; have HC1 := Aside0.mk hc1; clear hr1 hc1; have H := h; unfold spec_l5Same.f at H; clear h
 by_cases c3 : (l0.length : Int) = (l1.length : Int)
 ·rw [if_pos c3] at H
  have c3b0 : ((l0.length : Int) == (l1.length : Int)) = true := beq_iff_eq.mpr c3
  have c3b1 : ((l0.length : Int) != (l1.length : Int)) = false := bne_eq_false_iff_eq.mpr c3
  have c3b2 : (l0.length == l1.length) = true := by first | simpa using c3 | (simp at c3 ⊢; omega)
  clear c3; have H' := Aside0.mk H; clear H
  go_enter Tryz.func79, Tryz.ntmps79
  go_wp2
  repeat (go_quiet (fail); try go_wp2)
  go_loopg [5] k (fun kq v5 w' => ∃ (x5_1 : Int), v5 = .int .i64 x5_1 ∧ Aside0 (spec_l5Same.l0 kq l0 l1 x5_1 = some r) ∧ Aside0 (kq ≤ k) ∧ Drawn0 w w')
  case atStart => exact ⟨(0), rdT, H', ⟨Nat.le_refl _⟩, drT⟩
  case round =>
   clear H'; (try clear c1 p2 c3 c3b0 c3b1 c3b2); obtain ⟨x5_1, rfl, HA, HK1, ⟨m1, rfl⟩⟩ := hrel
   cases gk with
   | zero => exact absurd HA.out (by simp [spec_l5Same.l0])
   | succ k1 =>
    have H := HA.out; clear HA
    simp only [spec_l5Same.l0] at H
    by_cases c4 : x5_1 < (l0.length : Int)
    ·rw [if_pos c4] at H
     have c4b0 : decide (x5_1 < (l0.length : Int)) = true := decide_eq_true c4
     clear c4
     by_cases c5 : 0 ≤ x5_1
     ·rw [if_pos c5] at H
      have c5b0 : decide (0 ≤ x5_1) = true := decide_eq_true c5
      clear c5
      by_cases c6 : x5_1 < (l1.length : Int)
      ·rw [if_pos c6] at H
       have c6b0 : decide (x5_1 < (l1.length : Int)) = true := decide_eq_true c6
       clear c6
       by_cases c7 : (rd l0 x5_1) = (rd l1 x5_1)
       ·rw [if_pos c7] at H
        have c7b0 : ((rd l0 x5_1) == (rd l1 x5_1)) = true := beq_iff_eq.mpr c7
        have c7b1 : ((rd l0 x5_1) != (rd l1 x5_1)) = false := bne_eq_false_iff_eq.mpr c7
        clear c7; have H' := Aside0.mk H; clear H
        have p224 : 0 ≤ (x5_1 : Int) := of_decide_eq_true asmT
        have q224 : x5_1 < (l0.length : Int) := of_decide_eq_true asmT
        obtain ⟨ad224, e224, hx224_0⟩ := Kd.at_int HR0.out x5_1 p224 q224
        cases e224
        replace p224 := eq_true p224; replace q224 := eq_true q224
        have p225 : 0 ≤ (x5_1 : Int) := of_decide_eq_true asmT
        have q225 : x5_1 < (l1.length : Int) := of_decide_eq_true asmT
        obtain ⟨ad225, e225, hx225_0⟩ := Kd.at_int HR1.out x5_1 p225 q225
        cases e225
        replace p225 := eq_true p225; replace q225 := eq_true q225
        go_wp2
        repeat (go_quiet (fail); try go_wp2)
        go_roundg k1
        case measure => have := HK1.out; omega
        case rel => exact ⟨(wrap64 (x5_1 + 1)), rdT, H', ⟨by have := HK1.out; omega⟩, drT⟩
       ·rw [if_neg c7] at H
        have c7b0 : ((rd l0 x5_1) == (rd l1 x5_1)) = false := beq_eq_false_iff_ne.mpr c7
        have c7b1 : ((rd l0 x5_1) != (rd l1 x5_1)) = true := bne_iff_ne.mpr c7
        obtain rfl := Option.some.inj H
        have p224 : 0 ≤ (x5_1 : Int) := of_decide_eq_true asmT
        have q224 : x5_1 < (l0.length : Int) := of_decide_eq_true asmT
        obtain ⟨ad224, e224, hx224_0⟩ := Kd.at_int HR0.out x5_1 p224 q224
        cases e224
        replace p224 := eq_true p224; replace q224 := eq_true q224
        have p225 : 0 ≤ (x5_1 : Int) := of_decide_eq_true asmT
        have q225 : x5_1 < (l1.length : Int) := of_decide_eq_true asmT
        obtain ⟨ad225, e225, hx225_0⟩ := Kd.at_int HR1.out x5_1 p225 q225
        cases e225
        replace p225 := eq_true p225; replace q225 := eq_true q225
        go_wp2
        repeat (go_quiet (fail); try go_wp2)
        go_ret
        exact ⟨rdT, drT⟩
      ·rw [if_neg c6] at H
       exact absurd H (by simp)
     ·rw [if_neg c5] at H
      exact absurd H (by simp)
    ·rw [if_neg c4] at H
     have c4b0 : decide (x5_1 < (l0.length : Int)) = false := decide_eq_false c4
     clear c4
     obtain rfl := Option.some.inj H
     go_wp2
     repeat (go_quiet (fail); try go_wp2)
     go_ret
     exact ⟨rdT, drT⟩
 ·rw [if_neg c3] at H
  have c3b0 : ((l0.length : Int) == (l1.length : Int)) = false := beq_eq_false_iff_ne.mpr c3
  have c3b1 : ((l0.length : Int) != (l1.length : Int)) = true := bne_iff_ne.mpr c3
  have c3b2 : (l0.length == l1.length) = false := by first | simpa using c3 | (simp at c3 ⊢; omega)
  obtain rfl := Option.some.inj H
  go_enter Tryz.func79, Tryz.ntmps79
  go_wp2
  repeat (go_quiet (fail); try go_wp2)
  go_ret
  exact ⟨rdT, drT⟩

/-! ### spec_l11Same: function 50 -/
def spec_l11Same.f (k : Nat) (l0 : List Int) (l1 : List Int) : Option (Bool) := (spec_l5Same.f k l0 l1).bind fun t226 => (some t226)
theorem spec_l11Same.mono : ∀ a0 a1 k, LeO (spec_l11Same.f k a0 a1) (spec_l11Same.f (k + 1) a0 a1) := by
 intro a0 a1 k
 unfold spec_l11Same.f
 with_reducible repeat' first | exact spec_l5Same.mono _ _ _ | exact LeO.refl _ | exact LeO.none _ | refine LeO.ite ?_ ?_ | refine LeO.bind ?_ (fun _ => ?_)
set_option maxHeartbeats 8000000 in
set_option maxRecDepth 100000 in
theorem spec_l11Same.calls (k : Nat) (A0 : Option Addr) (c0 : Nat) (l0 : List Int) (A1 : Option Addr) (c1 : Nat) (l1 : List Int) (r : Bool) (w : World) (hr0 : Kd.C (Kd.int .i64) w A0 l0.length l0) (hc0 : l0.length ≤ c0) (hr1 : Kd.C (Kd.int .i64) w A1 l1.length l1) (hc1 : l1.length ≤ c1) (h : spec_l11Same.f k l0 l1 = some r) :
  Calls Tryz.prog 50 #[.slice A0 l0.length c0, .slice A1 l1.length c1] w fun e w' => e = .returned (.bool r) ∧ Drawn0 w w' := by
 have HR0 := Aside0.mk hr0; have HC0 := Aside0.mk hc0; clear hr0 hc0; have HR1 := Aside0.mk hr1; have HC1 := Aside0.mk hc1; clear hr1 hc1; have H := h; unfold spec_l11Same.f at H; clear h; obtain ⟨t226, A3, H⟩ := be H
 obtain rfl := Option.some.inj H
 go_enter Tryz.func50, Tryz.ntmps50
 go_wp2_with (first | ((with_reducible refine gate_callee (f := 79) rfl ?_); refine goesL_ (some 7) rfl rfl Tryz.func79 (by kernel_rfl) rfl #[.slice A0 l0.length c0, .slice A1 l1.length c1] rfl eqT ?_; (with_reducible refine (spec_l5Same.calls k _ _ l0 _ _ l1 t226 _ ?side1 ?side2 ?side3 ?side4 A3.out).mono ?_); (case side1 => repeat (first | exact HR0.out | (with_reducible refine Kd.C_alloc ?_ _) | (with_reducible refine Kd.C_drewN ?_ _) | (with_reducible refine Kd.C_drew ?_))); (case side2 => exact HC0.out); (case side3 => repeat (first | exact HR1.out | (with_reducible refine Kd.C_alloc ?_ _) | (with_reducible refine Kd.C_drewN ?_ _) | (with_reducible refine Kd.C_drew ?_))); (case side4 => exact HC1.out); rintro e w' ⟨rfl, ⟨nd, rfl⟩⟩; refine ⟨_, rfl, ?_⟩))
 go_ret
 exact ⟨rdT, drT⟩

end Go.Proofs.YtmfhaplhgaehhaaGreat.PFnExactRowWith
