-- Made by gen.py (a program of this session) out of the translation; Lean checks it.
import Derived.Test.YtlmfpkiaikjlbaaPFnExactComposeCandidatesx0
import Derived.Test.YtlmfpkiaikjlbaaPFnExactComposeCandidatesx3
namespace Go.Proofs.Ytlmfpkiaikjlbaa.PFnExactComposeCandidates
open Go.RowKit Go.Proofs.YtlmfpkiaikjlbaaB Go.Proofs.YtlmfpkiaikjlbaaW.PrintWords Go.Proofs.YtlmfpkiaikjlbaaW.PrintLast Go.Proofs.YtlmfpkiaikjlbaaW.PrintMore
attribute [local go_sem] max2_int min2_int max_two min_two max_three min_three max_four min_four   -- for this text's walks alone
set_option linter.unusedVariables false
set_option maxHeartbeats 8000000
set_option maxRecDepth 100000
set_option linter.unusedSimpArgs false
def laws_eqLinkS.l0 : Nat → List (S63) → List (S63) → Int → Option (Bool)
 | 0, _, _, _ => none
 | k + 1, x0, x1, x5 => if x5 < (x0.length : Int) then (if 0 ≤ x5 then (if x5 < (x1.length : Int) then ((laws_eqLink.f ((rd_T63 x0 x5).f0) ((rd_T63 x0 x5).f1) ((rd_T63 x1 x5).f0) ((rd_T63 x1 x5).f1)).bind fun t231 => (if t231 = true then (laws_eqLinkS.l0 k x0 x1 (wrap64 (x5 + 1))) else (some false))) else (none)) else (none)) else (some true)
def laws_eqLinkS.f (k : Nat) (l0 : List (S63)) (l1 : List (S63)) : Option (Bool) := if (l0.length : Int) = (l1.length : Int) then (laws_eqLinkS.l0 k l0 l1 0) else (some false)
theorem laws_eqLinkS.mono_l : ∀ k, (∀ y0 y1 y2, LeO (laws_eqLinkS.l0 k y0 y1 y2) (laws_eqLinkS.l0 (k + 1) y0 y1 y2))
 | 0 => fun _ _ _ r h => by simp [laws_eqLinkS.l0] at h
 | k + 1 => by
  have ih0 := laws_eqLinkS.mono_l k
  ·intro y0 y1 y2; unfold laws_eqLinkS.l0
   with_reducible repeat' first | exact ih0 _ _ _ | exact LeO.refl _ | exact LeO.none _ | refine LeO.ite ?_ ?_ | refine LeO.bind ?_ (fun _ => ?_)
theorem laws_eqLinkS.mono : ∀ a0 a1 k, LeO (laws_eqLinkS.f k a0 a1) (laws_eqLinkS.f (k + 1) a0 a1) := by
 intro a0 a1 k; have ih0 := laws_eqLinkS.mono_l k; unfold laws_eqLinkS.f
 with_reducible repeat' first | exact ih0 _ _ _ | exact LeO.refl _ | exact LeO.none _ | refine LeO.ite ?_ ?_ | refine LeO.bind ?_ (fun _ => ?_)
def laws_eqLinkS.T6 : Bool × List (List Nat × List Nat) := (true, [([], []), ([], []), ([0, 1], [0, 1]), ([2], [2]), ([], []), ([], []), ([4, 5], [4, 5]), ([6], [6]), ([3, 7], [3, 7]), ([8], [8])])
def laws_eqLinkS.B6 : List Nat := [0, 0, 3, 7, 0, 0, 48, 112, 255, 511]
theorem laws_eqLinkS.tab6 : rtab .any (opsOf Try.f80 6) = laws_eqLinkS.T6 := by kernel_rfl
theorem laws_eqLinkS.bits6 : waitsOk laws_eqLinkS.T6.2 laws_eqLinkS.B6 = true := by kernel_rfl
theorem laws_eqLinkS.calls (k : Nat) (A0 : Option Addr) (c0 : Nat) (l0 : List (S63)) (A1 : Option Addr) (c1 : Nat) (l1 : List (S63)) (r : Bool) (w : World) (hr0 : Kd.C k63 w A0 l0.length l0) (hc0 : l0.length ≤ c0) (hr1 : Kd.C k63 w A1 l1.length l1) (hc1 : l1.length ≤ c1) (h : laws_eqLinkS.f k l0 l1 = some r) :
  Calls Try.prog 80 #[.slice A0 l0.length c0, .slice A1 l1.length c1] w fun e w' => e = .returned (.bool r) ∧ Below w.heap.size w w' := by
 have hu63 := Try.underlying63; have HR0 := asT hr0; have HC0 := asT hc0; clear hr0 hc0; have HR1 := asT hr1; have HC1 := asT hc1; clear hr1 hc1; have HB := asT (Below.refl w.heap.size w); have H := h; unfold laws_eqLinkS.f at H; clear h; by_cases c3 : (l0.length : Int) = (l1.length : Int)
 ·rw [if_pos c3] at H; have c3b0 : ((l0.length : Int) == (l1.length : Int)) = true := eC c3; have c3b1 : ((l0.length : Int) != (l1.length : Int)) = false := eA c3
  have c3b2 : (l0.length == l1.length) = true := by first | simpa using c3 | (simp at c3 ⊢; omega)
  clear c3; have H' := asT H; clear H; go_enter Try.func80, Try.ntmps80
  go_wp2
  go_loopg [5] k (fun kq v5 w' => ∃ (x5_1 : Int), v5 = .int .i64 x5_1 ∧ Aside0 (laws_eqLinkS.l0 kq l0 l1 x5_1 = some r) ∧ Aside0 (kq ≤ k) ∧ Aside0 (Below w.heap.size w w'))
  case atStart => exact ⟨(0), rdT, H', ⟨Nat.le_refl _⟩, ⟨hbT HB.out⟩⟩
  case round =>
   clear H'; (try clear c1 p2 c3 c3b0 c3b1 c3b2); obtain ⟨x5_1, rfl, HA, HK1, HB⟩ := hrel
   cases gk with
   | zero => exact absurd HA.out (by simp [laws_eqLinkS.l0])
   | succ k1 =>
    have H := HA.out; clear HA
    simp only [laws_eqLinkS.l0] at H
    by_cases c4 : x5_1 < (l0.length : Int)
    ·rw [if_pos c4] at H; have c4b0 := dt c4; clear c4; by_cases c5 : 0 ≤ x5_1
     ·rw [if_pos c5] at H; have c5b0 := dt c5; clear c5; by_cases c6 : x5_1 < (l1.length : Int)
      ·rw [if_pos c6] at H; have c6b0 := dt c6; clear c6; obtain ⟨t231, A7, H⟩ := be H; by_cases c8 : t231 = true
       ·subst c8; rw [if_pos rfl] at H; have H' := asT H; clear H
        try go_wp2
        replace HB := asT (below_drew1 HB.out); have p229 : 0 ≤ (x5_1 : Int) := dT asmT; have q229 : x5_1 < (l0.length : Int) := dT asmT; obtain ⟨ad229, e229, hx229_0, hx229_1⟩ := at_T63 HR0.out x5_1 p229 q229; have hw229_1 := hx229_1; have hw229_0 := hx229_0
        cases e229
        replace hx229_0 := hbc HB.out hx229_0; replace hx229_1 := hbc HB.out hx229_1; replace p229 := eq_true p229; replace q229 := eq_true q229; have p230 : 0 ≤ (x5_1 : Int) := dT asmT; have q230 : x5_1 < (l1.length : Int) := dT asmT; obtain ⟨ad230, e230, hx230_0, hx230_1⟩ := at_T63 HR1.out x5_1 p230 q230; have hw230_1 := hx230_1; have hw230_0 := hx230_0
        cases e230
        replace hx230_0 := hbc HB.out hx230_0; replace hx230_1 := hbc HB.out hx230_1; replace p230 := eq_true p230; replace q230 := eq_true q230; refine start_ (n := 10) (S := fun w' => w'.cell? (ad229.add ((x5_1).toNat * 2)) = some (.int .u8 ((rd_T63 l0 x5_1).f0)) ∧ w'.cell? ⟨(ad229.add ((x5_1).toNat * 2)).block, (ad229.add ((x5_1).toNat * 2)).off + 1, none⟩ = some (.int .u8 ((rd_T63 l0 x5_1).f1)) ∧ w'.cell? (ad230.add ((x5_1).toNat * 2)) = some (.int .u8 ((rd_T63 l1 x5_1).f0)) ∧ w'.cell? ⟨(ad230.add ((x5_1).toNat * 2)).block, (ad230.add ((x5_1).toNat * 2)).off + 1, none⟩ = some (.int .u8 ((rd_T63 l1 x5_1).f1))) (ds := []) (bA 10 0) (by kernel_rfl) rfl rfl ⟨(hbc HB.out hw229_0 :), (hbc HB.out hw229_1 :), (hbc HB.out hw230_0 :), (hbc HB.out hw230_1 :)⟩ (fun hHeld => ?_); refine with_tabW laws_eqLinkS.tab6 laws_eqLinkS.bits6 (fun HT_ HW_ => ?_); generalize wr.drew = w9 at HB hx229_0 hx229_1 hx230_0 hx230_1 hHeld ⊢; refine pA 0 17 10 1 HT_.out ?_ rfl rfl; refine pA 1 18 10 3 HT_.out ?_ rfl rfl; refine pA 2 19 10 7 HT_.out ?_ rfl rfl; refine pA 4 21 10 23 HT_.out ?_ rfl rfl; refine pA 5 22 10 55 HT_.out ?_ rfl rfl; refine pA 6 23 10 119 HT_.out ?_ rfl rfl; refine tA 3 20 10 127 HT_.out HW_.out hHeld ?_ rfl rfl; refine tA 7 24 10 255 HT_.out HW_.out hHeld ?_ rfl rfl; refine oA 8 25 10 511 HT_.out (fun K hK => ?_) rfl rfl; refine goes_ Try.func98 (by kernel_rfl) rfl #[.agg #[.int .u8 ((rd_T63 l0 x5_1).f0), .int .u8 ((rd_T63 l0 x5_1).f1)], .agg #[.int .u8 ((rd_T63 l1 x5_1).f0), .int .u8 ((rd_T63 l1 x5_1).f1)]] (by rfl) rfl rfl eqT ?_
        (with_reducible refine (laws_eqLink.calls ((rd_T63 l0 x5_1).f0) ((rd_T63 l0 x5_1).f1) ((rd_T63 l1 x5_1).f0) ((rd_T63 l1 x5_1).f1) true _ A7.out).mono ?_); rintro e w10 ⟨rfl, hb⟩; refine ⟨_, rfl, ?_⟩; replace HB := hS HB hb; (try clear hb hb2 hk hi)
        refine hK.out _ _ ⟨(hbc HB.out hw229_0 :), (hbc HB.out hw229_1 :), (hbc HB.out hw230_0 :), (hbc HB.out hw230_1 :)⟩ (fun hHeld => ?_); clear hK K; refine nB 25 ?_ rfl; refine pA 9 26 10 1023 HT_.out ?_ rfl rfl; refine done_ (done_of HT_.out (by kernel_rfl)) ?_
        try go_wp2
        go_roundg k1
        case measure => have := HK1.out; omega
        case rel => exact ⟨(wrap64 (x5_1 + 1)), rdT, H', ⟨by have := HK1.out; omega⟩, ⟨hbT HB.out⟩⟩
       ·replace c8 := eE c8; subst c8; rw [if_neg nF] at H; have H1 := H; clear H; have H := H1; clear H1; obtain rfl := oI H
        try go_wp2
        replace HB := asT (below_drew1 HB.out); have p229 : 0 ≤ (x5_1 : Int) := dT asmT; have q229 : x5_1 < (l0.length : Int) := dT asmT; obtain ⟨ad229, e229, hx229_0, hx229_1⟩ := at_T63 HR0.out x5_1 p229 q229; have hw229_1 := hx229_1; have hw229_0 := hx229_0
        cases e229
        replace hx229_0 := hbc HB.out hx229_0; replace hx229_1 := hbc HB.out hx229_1; replace p229 := eq_true p229; replace q229 := eq_true q229; have p230 : 0 ≤ (x5_1 : Int) := dT asmT; have q230 : x5_1 < (l1.length : Int) := dT asmT; obtain ⟨ad230, e230, hx230_0, hx230_1⟩ := at_T63 HR1.out x5_1 p230 q230; have hw230_1 := hx230_1; have hw230_0 := hx230_0
        cases e230
        replace hx230_0 := hbc HB.out hx230_0; replace hx230_1 := hbc HB.out hx230_1; replace p230 := eq_true p230; replace q230 := eq_true q230; refine start_ (n := 10) (S := fun w' => w'.cell? (ad229.add ((x5_1).toNat * 2)) = some (.int .u8 ((rd_T63 l0 x5_1).f0)) ∧ w'.cell? ⟨(ad229.add ((x5_1).toNat * 2)).block, (ad229.add ((x5_1).toNat * 2)).off + 1, none⟩ = some (.int .u8 ((rd_T63 l0 x5_1).f1)) ∧ w'.cell? (ad230.add ((x5_1).toNat * 2)) = some (.int .u8 ((rd_T63 l1 x5_1).f0)) ∧ w'.cell? ⟨(ad230.add ((x5_1).toNat * 2)).block, (ad230.add ((x5_1).toNat * 2)).off + 1, none⟩ = some (.int .u8 ((rd_T63 l1 x5_1).f1))) (ds := []) (bA 10 0) (by kernel_rfl) rfl rfl ⟨(hbc HB.out hw229_0 :), (hbc HB.out hw229_1 :), (hbc HB.out hw230_0 :), (hbc HB.out hw230_1 :)⟩ (fun hHeld => ?_); refine with_tabW laws_eqLinkS.tab6 laws_eqLinkS.bits6 (fun HT_ HW_ => ?_); generalize wr.drew = w11 at HB hx229_0 hx229_1 hx230_0 hx230_1 hHeld ⊢; refine pA 0 17 10 1 HT_.out ?_ rfl rfl; refine pA 1 18 10 3 HT_.out ?_ rfl rfl; refine pA 2 19 10 7 HT_.out ?_ rfl rfl; refine pA 4 21 10 23 HT_.out ?_ rfl rfl; refine pA 5 22 10 55 HT_.out ?_ rfl rfl; refine pA 6 23 10 119 HT_.out ?_ rfl rfl; refine tA 3 20 10 127 HT_.out HW_.out hHeld ?_ rfl rfl; refine tA 7 24 10 255 HT_.out HW_.out hHeld ?_ rfl rfl; refine oA 8 25 10 511 HT_.out (fun K hK => ?_) rfl rfl; refine goes_ Try.func98 (by kernel_rfl) rfl #[.agg #[.int .u8 ((rd_T63 l0 x5_1).f0), .int .u8 ((rd_T63 l0 x5_1).f1)], .agg #[.int .u8 ((rd_T63 l1 x5_1).f0), .int .u8 ((rd_T63 l1 x5_1).f1)]] (by rfl) rfl rfl eqT ?_
        (with_reducible refine (laws_eqLink.calls ((rd_T63 l0 x5_1).f0) ((rd_T63 l0 x5_1).f1) ((rd_T63 l1 x5_1).f0) ((rd_T63 l1 x5_1).f1) false _ A7.out).mono ?_); rintro e w12 ⟨rfl, hb⟩; refine ⟨_, rfl, ?_⟩; replace HB := hS HB hb; (try clear hb hb2 hk hi)
        refine hK.out _ _ ⟨(hbc HB.out hw229_0 :), (hbc HB.out hw229_1 :), (hbc HB.out hw230_0 :), (hbc HB.out hw230_1 :)⟩ (fun hHeld => ?_); clear hK K; refine nB 25 ?_ rfl; refine pA 9 26 10 1023 HT_.out ?_ rfl rfl; refine done_ (done_of HT_.out (by kernel_rfl)) ?_
        try go_wp2
        go_ret; exact ⟨rlT, hbT HB.out⟩
      ·rw [if_neg c6] at H; exact absurd H (by simp)
     ·rw [if_neg c5] at H; exact absurd H (by simp)
    ·rw [if_neg c4] at H; have c4b0 := df c4; clear c4; obtain rfl := oI H
     go_wp2
     go_ret; exact ⟨rlT, hbT HB.out⟩
 ·rw [if_neg c3] at H; have c3b0 : ((l0.length : Int) == (l1.length : Int)) = false := eB c3; have c3b1 : ((l0.length : Int) != (l1.length : Int)) = true := eD c3
  have c3b2 : (l0.length == l1.length) = false := by first | simpa using c3 | (simp at c3 ⊢; omega)
  obtain rfl := oI H; go_enter Try.func80, Try.ntmps80
  go_wp2
  go_ret; exact ⟨rlT, hbT HB.out⟩
def laws_eqCandidate.f (k : Nat) (l0_0 : List (S63)) (l1_0 : List (S63)) : Option (Bool) := (laws_eqLinkS.f k l0_0 l1_0).bind fun t234 => (if t234 = true then (some true) else (some false))
theorem laws_eqCandidate.mono : ∀ a0 a1 k, LeO (laws_eqCandidate.f k a0 a1) (laws_eqCandidate.f (k + 1) a0 a1) := by
 intro a0 a1 k; unfold laws_eqCandidate.f
 with_reducible repeat' first | exact laws_eqLinkS.mono _ _ _ | exact LeO.refl _ | exact LeO.none _ | refine LeO.ite ?_ ?_ | refine LeO.bind ?_ (fun _ => ?_)
theorem laws_eqCandidate.calls (k : Nat) (A0_0 : Option Addr) (c0_0 : Nat) (l0_0 : List (S63)) (A1_0 : Option Addr) (c1_0 : Nat) (l1_0 : List (S63)) (r : Bool) (w : World) (hr0_0 : Kd.C k63 w A0_0 l0_0.length l0_0) (hc0_0 : l0_0.length ≤ c0_0) (hr1_0 : Kd.C k63 w A1_0 l1_0.length l1_0) (hc1_0 : l1_0.length ≤ c1_0) (h : laws_eqCandidate.f k l0_0 l1_0 = some r) :
  Calls Try.prog 48 #[.agg #[.slice A0_0 l0_0.length c0_0], .agg #[.slice A1_0 l1_0.length c1_0]] w fun e w' => e = .returned (.bool r) ∧ Below w.heap.size w w' := by
 have hu26 := Try.underlying26; have HR0_0 := asT hr0_0; have HC0_0 := asT hc0_0; clear hr0_0 hc0_0; have HR1_0 := asT hr1_0; have HC1_0 := asT hc1_0; clear hr1_0 hc1_0; have HB := asT (Below.refl w.heap.size w); have H := h; unfold laws_eqCandidate.f at H; clear h; obtain ⟨t234, A3, H⟩ := be H; by_cases c4 : t234 = true
 ·subst c4; rw [if_pos rfl] at H; have H1 := H; clear H; have H := H1; clear H1; obtain rfl := oI H; go_enter Try.func48, Try.ntmps48
  go_wp2_with (first | ((with_reducible refine gate_dst (N := 2) rfl ?_); refine boxT (N := 2) (cs := #[.slice A0_0 l0_0.length c0_0]) (t := 26) ?_; intro gb232 hg w5 hbox hb; have BK232 := asT hbox; have GW232 := asT (geT hg HB.out); have GE232 := GW232; replace HB := hS HB hb; clear hb hbox hg) | ((with_reducible refine gate_dst (N := 3) rfl ?_); refine boxT (N := 3) (cs := #[.slice A1_0 l1_0.length c1_0]) (t := 26) ?_; intro gb233 hg w6 hbox hb; have BK233 := asT (hbox); have GW233 := asT (geT hg HB.out); have GE233 := asT (geT hg HB.out); replace HB := hS HB hb; have NB232_233 := asT ((by rw [hg]; exact Nat.ne_of_lt (blk_lt (bkT BK232.out)) : gb232 ≠ gb233)); have NB233_232 := asT ((by rw [hg]; exact Nat.ne_of_gt (blk_lt (bkT BK232.out)) : gb233 ≠ gb232)); replace BK232 := bS BK232 hb; clear hb hbox hg; have hnb7 := NB232_233.out; have hnc7 := NB233_232.out; obtain ⟨hcz8_0, hfz8_0⟩ := bx1 BK232.out; obtain ⟨hcz9_0, hfz9_0⟩ := bx1 BK233.out) | ((with_reducible refine gate_callee (f := 80) rfl ?_); refine goesL_ (some 9) rfl rfl Try.func80 (by kernel_rfl) rfl #[.slice A0_0 l0_0.length c0_0, .slice A1_0 l1_0.length c1_0] rfl eqT ?_; (with_reducible refine (laws_eqLinkS.calls k _ _ l0_0 _ _ l1_0 true _ ?side1 ?side2 ?side3 ?side4 A3.out).mono ?_); (case side1 => exact crT HR0_0.out HB.out); (case side2 => exact HC0_0.out); (case side3 => exact crT HR1_0.out HB.out); (case side4 => exact HC1_0.out); rintro e w10 ⟨rfl, hb⟩; refine ⟨_, rfl, ?_⟩; replace BK232 := bS BK232 hb; replace BK233 := bS BK233 hb; replace HB := hS HB hb; (try clear hb hb2 hk hi)))
  go_ret; exact ⟨rlT, hbT HB.out⟩
 ·replace c4 := eE c4; subst c4; rw [if_neg nF] at H; have H1 := H; clear H; have H := H1; clear H1; obtain rfl := oI H; go_enter Try.func48, Try.ntmps48
  go_wp2_with (first | ((with_reducible refine gate_dst (N := 2) rfl ?_); refine boxT (N := 2) (cs := #[.slice A0_0 l0_0.length c0_0]) (t := 26) ?_; intro gb232 hg w11 hbox hb; have BK232 := asT hbox; have GW232 := asT (geT hg HB.out); have GE232 := GW232; replace HB := hS HB hb; clear hb hbox hg) | ((with_reducible refine gate_dst (N := 3) rfl ?_); refine boxT (N := 3) (cs := #[.slice A1_0 l1_0.length c1_0]) (t := 26) ?_; intro gb233 hg w12 hbox hb; have BK233 := asT (hbox); have GW233 := asT (geT hg HB.out); have GE233 := asT (geT hg HB.out); replace HB := hS HB hb; have NB232_233 := asT ((by rw [hg]; exact Nat.ne_of_lt (blk_lt (bkT BK232.out)) : gb232 ≠ gb233)); have NB233_232 := asT ((by rw [hg]; exact Nat.ne_of_gt (blk_lt (bkT BK232.out)) : gb233 ≠ gb232)); replace BK232 := bS BK232 hb; clear hb hbox hg; have hnb13 := NB232_233.out; have hnc13 := NB233_232.out; obtain ⟨hcz14_0, hfz14_0⟩ := bx1 BK232.out; obtain ⟨hcz15_0, hfz15_0⟩ := bx1 BK233.out) | ((with_reducible refine gate_callee (f := 80) rfl ?_); refine goesL_ (some 9) rfl rfl Try.func80 (by kernel_rfl) rfl #[.slice A0_0 l0_0.length c0_0, .slice A1_0 l1_0.length c1_0] rfl eqT ?_; (with_reducible refine (laws_eqLinkS.calls k _ _ l0_0 _ _ l1_0 false _ ?side1 ?side2 ?side3 ?side4 A3.out).mono ?_); (case side1 => exact crT HR0_0.out HB.out); (case side2 => exact HC0_0.out); (case side3 => exact crT HR1_0.out HB.out); (case side4 => exact HC1_0.out); rintro e w16 ⟨rfl, hb⟩; refine ⟨_, rfl, ?_⟩; replace BK232 := bS BK232 hb; replace BK233 := bS BK233 hb; replace HB := hS HB hb; (try clear hb hb2 hk hi)))
  go_ret; exact ⟨rlT, hbT HB.out⟩
def laws_markLinkS.l0 : Nat → List (S63) → Int → Int → Option (Int × (List (S63)))
 | 0, _, _, _ => none
 | k + 1, x0, x1, x5 => if x5 < (x0.length : Int) then (if 0 ≤ x5 then ((some (x0.set (x5 : Int).toNat (⟨(x1) % 256, (rd_T63 x0 x5).f1⟩ : S63) : List (S63))).bind fun y235 => (laws_markLinkS.l0 k (y235.set (x5 : Int).toNat (⟨(rd_T63 y235 x5).f0, (wrap64 (x1 + 1)) % 256⟩ : S63)) (wrap64 ((wrap64 (x1 + 1)) + 1)) (wrap64 (x5 + 1)))) else (none)) else (some (x1, x0))
def laws_markLinkS.f (k : Nat) (l0 : List (S63)) (a1 : Int) : Option (Int × (List (S63))) := laws_markLinkS.l0 k l0 a1 0
theorem laws_markLinkS.mono_l : ∀ k, (∀ y0 y1 y2, LeO (laws_markLinkS.l0 k y0 y1 y2) (laws_markLinkS.l0 (k + 1) y0 y1 y2))
 | 0 => fun _ _ _ r h => by simp [laws_markLinkS.l0] at h
 | k + 1 => by
  have ih0 := laws_markLinkS.mono_l k
  ·intro y0 y1 y2; unfold laws_markLinkS.l0
   with_reducible repeat' first | exact ih0 _ _ _ | exact LeO.refl _ | exact LeO.none _ | refine LeO.ite ?_ ?_ | refine LeO.bind ?_ (fun _ => ?_)
theorem laws_markLinkS.mono : ∀ a0 a1 k, LeO (laws_markLinkS.f k a0 a1) (laws_markLinkS.f (k + 1) a0 a1) := by
 intro a0 a1 k; have ih0 := laws_markLinkS.mono_l k; unfold laws_markLinkS.f
 with_reducible repeat' first | exact ih0 _ _ _ | exact LeO.refl _ | exact LeO.none _ | refine LeO.ite ?_ ?_ | refine LeO.bind ?_ (fun _ => ?_)
theorem laws_markLinkS.calls (k : Nat) (P0_ : Nat → Prop) (u9000_ : Value) (l0 : List (S63)) (a1 : Int) (r1 : Int) (r2 : List (S63)) (w0 w : World) (hB : Below w0.heap.size w0 w) (ho0 : Kd.R k63 63 w w0.heap.size P0_ u9000_ l0) (h : laws_markLinkS.f k l0 a1 = some (r1, r2)) :
  Calls Try.prog 81 #[u9000_, .int .i64 a1] w fun e w' => e = .returned (.int .i64 r1) ∧ Kd.R k63 63 w' w0.heap.size (fun k_ => (P0_ k_ ∨ w.heap.size ≤ k_)) u9000_ r2 ∧ Below w0.heap.size w0 w' ∧ Kept w w' (fun k_ => P0_ k_) := by
 have HO0 := asT (show Kd.R k63 63 w w0.heap.size (fun k_ => (P0_ k_ ∨ w.heap.size ≤ k_)) u9000_ l0 from Kd.R_mono ho0 (fun k_ hk => (.inl hk))); have HK := asT (Kept.refl w (fun k_ => P0_ k_)); have HW0 := asT hB.size; have HB := asT hB; clear hB; have H := h; unfold laws_markLinkS.f at H; clear h; have H' := asT H; clear H; go_enter Try.func81, Try.ntmps81
 go_wp2
 go_loopg [1, 5] k (fun kq v1 v5 w' => ∃ (x0_1 : List (S63)) (x1_1 : Int) (x5_1 : Int), v1 = .int .i64 x1_1 ∧ v5 = .int .i64 x5_1 ∧ Aside0 (laws_markLinkS.l0 kq x0_1 x1_1 x5_1 = some (r1, r2)) ∧ Aside0 (kq ≤ k) ∧ Aside0 (Kd.R k63 63 w' w0.heap.size (fun k_ => (P0_ k_ ∨ w.heap.size ≤ k_)) u9000_ x0_1) ∧ Aside0 (Kept w w' (fun k_ => P0_ k_)) ∧ Aside0 (Below w0.heap.size w0 w'))
 case atStart => exact ⟨(l0), (a1), (0), rdT, rdT, H', ⟨Nat.le_refl _⟩, ⟨roT HO0.out⟩, ⟨by repeat (first | (with_reducible first | exact HK.out | apply Kept.alloc | apply Kept.drewN | apply Kept.drew) | exact HK.out)⟩, ⟨hbT HB.out⟩⟩
 case round =>
  clear H'; (try clear p2); obtain ⟨x0_1, x1_1, x5_1, rfl, rfl, HA, HK1, HO_0, HK, HB⟩ := hrel
  cases gk with
  | zero => exact absurd HA.out (by simp [laws_markLinkS.l0])
  | succ k1 =>
   have H := HA.out; clear HA
   simp only [laws_markLinkS.l0] at H
   by_cases c3 : x5_1 < (x0_1.length : Int)
   ·rw [if_pos c3] at H; have c3b0 := dt c3; clear c3; by_cases c4 : 0 ≤ x5_1
    ·rw [if_pos c4] at H; have c4b0 := dt c4; clear c4; obtain ⟨y235, hy235⟩ : ∃ y_ : List (S63), y_ = (x0_1.set (x5_1 : Int).toNat (⟨(x1_1) % 256, (rd_T63 x0_1 x5_1).f1⟩ : S63)) := ⟨_, rfl⟩
     replace H : (laws_markLinkS.l0 k1 (y235.set (x5_1 : Int).toNat (⟨(rd_T63 y235 x5_1).f0, (wrap64 (x1_1 + 1)) % 256⟩ : S63)) (wrap64 ((wrap64 (x1_1 + 1)) + 1)) (wrap64 (x5_1 + 1))) = some (r1, r2) := by first | (rw [hy235]; with_reducible exact H) | (have H2_ := (Option.bind_some _ _).symm.trans H; rw [hy235]; with_reducible exact H2_) | (have H2_ := (Option.bind_some _ _).symm.trans H; with_reducible exact H2_) | with_reducible exact H | (rw [hy235]; exact H) | exact H
     have Ny235 := asT hy235; clear hy235; obtain ⟨y236, hy236⟩ : ∃ y_ : List (S63), y_ = (y235.set (x5_1 : Int).toNat (⟨(rd_T63 y235 x5_1).f0, (wrap64 (x1_1 + 1)) % 256⟩ : S63)) := ⟨_, rfl⟩
     replace H : (laws_markLinkS.l0 k1 y236 (wrap64 ((wrap64 (x1_1 + 1)) + 1)) (wrap64 (x5_1 + 1))) = some (r1, r2) := by first | (rw [hy236]; with_reducible exact H) | (have H2_ := (Option.bind_some _ _).symm.trans H; rw [hy236]; with_reducible exact H2_) | (have H2_ := (Option.bind_some _ _).symm.trans H; with_reducible exact H2_) | with_reducible exact H | (rw [hy236]; exact H) | exact H
     have Ny236 := asT hy236; clear hy236; have H' := asT H; clear H; obtain ⟨Ao7, co7, eo7⟩ := Kd.R_slice HO_0.out; subst eo7; have p5 : 0 ≤ (x5_1 : Int) := dT asmT; have q5 : (x5_1 : Int) < ((x0_1.length : Int) : Int) := dT asmT; obtain ⟨go5, co5, eo5, gb5, gl5, cl5, HG5⟩ := Kd.R_form HO_0.out (by omega)
     (first | cases eo5 | (injection eo5 with ea_ en_ ec_; (first | subst ea_ | (injection ea_ with ea_; subst ea_)); subst ec_; clear en_))
     have GB5 := asT gb5; have GG5 := asT HG5; clear gb5 gl5 HG5; have HMgo5 := asT (show (P0_ go5 ∨ w.heap.size ≤ go5) from (HO_0.out.1 _ rfl)); obtain ⟨ce5, hcl5, hM5, hcc5, hfr5⟩ := Kd.R_elem HO_0.out z63 (x5_1 : Int) p5 q5; obtain rfl := k63_openM hM5; have hx5_0 : wr.cell? ⟨go5, (x5_1 : Int).toNat * 2, none⟩ = some (.int .u8 ((rd_T63 x0_1 x5_1).f0)) := hcc5 0 _ rfl; have hx5_1 : wr.cell? ⟨go5, (x5_1 : Int).toNat * 2 + 1, none⟩ = some (.int .u8 ((rd_T63 x0_1 x5_1).f1)) := hcc5 1 _ rfl; have hf5_0 : wr.frozen? ⟨go5, (x5_1 : Int).toNat * 2, none⟩ = false := hfr5 0; have hf5_1 : wr.frozen? ⟨go5, (x5_1 : Int).toNat * 2 + 1, none⟩ = false := hfr5 1; clear hcl5 hcc5 hfr5; (try clear hM5); replace p5 := eq_true p5; replace q5 := eq_true q5; have HX8 := asT (show Kd.R k63 63 wr w0.heap.size (fun k_ => (P0_ k_ ∨ w.heap.size ≤ k_)) (.slice (some ⟨go5, 0, none⟩) x0_1.length co7) x0_1 from (roT HO_0.out)); obtain ⟨ce8, hcl8, hM8, hcc8, hfr8⟩ := Kd.R_elem HX8.out z63 (x5_1 : Int) (dT asmT) (by have h_ : (x5_1 : Int) < ((x0_1.length : Int) : Int) := dT asmT; first | exact h_ | (have e_ := (Kd.R_reads' HO_0.out).1; omega) | simpa using h_); obtain rfl := k63_openM hM8; have HP8 := Kd.R_seg HX8.out (x5_1 : Int) (dT asmT) (by have h_ : (x5_1 : Int) < ((x0_1.length : Int) : Int) := dT asmT; first | exact h_ | (have e_ := (Kd.R_reads' HO_0.out).1; omega) | simpa using h_) (seg := [.int .u8 ((x1_1) % 256)]) (j := 0) hcl8 hcc8 (show 1 ≤ 2 from by decide) (x' := (⟨(x1_1) % 256, (rd_T63 x0_1 x5_1).f1⟩ : S63)) (k63_mkM _ _ _ (⟨(x1_1) % 256, (rd_T63 x0_1 x5_1).f1⟩ : S63) ) (fun _ hk => hk); have hx8_0 := hcc8 0 _ rfl
     (try simp only [show (k63).sz = 2 from rfl, Nat.mul_one, Nat.add_zero] at hx8_0)
     have hf8_0 := hfr8 0
     (try simp only [show (k63).sz = 2 from rfl, Nat.mul_one, Nat.add_zero] at hf8_0)
     clear hcl8 hcc8 hfr8; (try clear hM8)
     go_wp2_with (first | ((with_reducible refine gate_store (t := 5) (p := 17) rfl ?_); refine store_event (t := 5) (p := 17) (v := ?vo_w9) (w1 := (wr.setCell ⟨go5, (x5_1 : Int).toNat * 2, none⟩ (.int .u8 ((x1_1) % 256)))) ?hg ?ho ?hn ?hr ?_; (case ho => rfl); (case hg => rfl); (case hn => rfl); (case hr => first | (go_simp; done) | (go_simp; rfl)); intro w9 hw; have hg : wr.grownBy w9 (some go5) := (by rw [hw]; exact HP8.2); have hp_ : Kd.R k63 63 w9 w0.heap.size (fun k_ => (P0_ k_ ∨ w.heap.size ≤ k_)) (.slice (some ⟨go5, 0, none⟩) x0_1.length co7) y235 := (by rw [hw, Ny235.out]; exact HP8.1); clear HP8; replace HB := asT ((by rw [hw]; exact below_set (HB.out) GB5.out : Below w0.heap.size w0 w9)); replace HK := asT (Kept.of_grown (S := (fun k_ => P0_ k_)) hg (by repeat (first | (with_reducible first | exact HK.out | apply Kept.alloc | apply Kept.drewN | apply Kept.drew) | exact HK.out)) (fun k_ e_ => (HO_0.out.1 k_ e_))); replace HO_0 := asT (hp_); clear hg hw hp_; have p6 : 0 ≤ (x5_1 : Int) := dT asmT; have q6 : (x5_1 : Int) < ((x0_1.length : Int) : Int) := dT asmT; obtain ⟨ce6, hcl6, hM6, hcc6, hfr6⟩ := Kd.R_elem HO_0.out z63 (x5_1 : Int) p6 q6; obtain rfl := k63_openM hM6; have hx6_0 : w9.cell? ⟨go5, (x5_1 : Int).toNat * 2, none⟩ = some (.int .u8 ((rd_T63 y235 x5_1).f0)) := hcc6 0 _ rfl; have hx6_1 : w9.cell? ⟨go5, (x5_1 : Int).toNat * 2 + 1, none⟩ = some (.int .u8 ((rd_T63 y235 x5_1).f1)) := hcc6 1 _ rfl; have hf6_0 : w9.frozen? ⟨go5, (x5_1 : Int).toNat * 2, none⟩ = false := hfr6 0; have hf6_1 : w9.frozen? ⟨go5, (x5_1 : Int).toNat * 2 + 1, none⟩ = false := hfr6 1; clear hcl6 hcc6 hfr6; (try clear hM6); replace p6 := eq_true p6; replace q6 := eq_true q6; have HX10 := asT (show Kd.R k63 63 w9 w0.heap.size (fun k_ => (P0_ k_ ∨ w.heap.size ≤ k_)) (.slice (some ⟨go5, 0, none⟩) x0_1.length co7) y235 from (roT HO_0.out)); obtain ⟨ce10, hcl10, hM10, hcc10, hfr10⟩ := Kd.R_elem HX10.out z63 (x5_1 : Int) (dT asmT) (by have h_ : (x5_1 : Int) < ((x0_1.length : Int) : Int) := dT asmT; first | exact h_ | (have e_ := (Kd.R_reads' HO_0.out).1; omega) | simpa using h_); obtain rfl := k63_openM hM10; have HP10 := Kd.R_seg HX10.out (x5_1 : Int) (dT asmT) (by have h_ : (x5_1 : Int) < ((x0_1.length : Int) : Int) := dT asmT; first | exact h_ | (have e_ := (Kd.R_reads' HO_0.out).1; omega) | simpa using h_) (seg := [.int .u8 ((wrap64 (x1_1 + 1)) % 256)]) (j := 1) hcl10 hcc10 (show 2 ≤ 2 from by decide) (x' := (⟨(rd_T63 y235 x5_1).f0, (wrap64 (x1_1 + 1)) % 256⟩ : S63)) (k63_mkM _ _ _ (⟨(rd_T63 y235 x5_1).f0, (wrap64 (x1_1 + 1)) % 256⟩ : S63) ) (fun _ hk => hk); have hx10_1 := hcc10 1 _ rfl; (try simp only [show (k63).sz = 2 from rfl, Nat.mul_one, Nat.add_zero] at hx10_1); have hf10_1 := hfr10 1; (try simp only [show (k63).sz = 2 from rfl, Nat.mul_one, Nat.add_zero] at hf10_1); clear hcl10 hcc10 hfr10; (try clear hM10)) | ((with_reducible refine gate_store (t := 5) (p := 25) rfl ?_); refine store_event (t := 5) (p := 25) (v := ?vo_w11) (w1 := (w9.setCell ⟨go5, (x5_1 : Int).toNat * 2 + 1, none⟩ (.int .u8 ((wrap64 (x1_1 + 1)) % 256)))) ?hg ?ho ?hn ?hr ?_; (case ho => rfl); (case hg => rfl); (case hn => rfl); (case hr => first | (go_simp; done) | (go_simp; rfl)); intro w11 hw; have hg : w9.grownBy w11 (some go5) := (by rw [hw]; exact HP10.2); have hp_ : Kd.R k63 63 w11 w0.heap.size (fun k_ => (P0_ k_ ∨ w.heap.size ≤ k_)) (.slice (some ⟨go5, 0, none⟩) x0_1.length co7) y236 := (by rw [hw, Ny236.out]; exact HP10.1); clear HP10; replace HB := asT ((by rw [hw]; exact below_set (HB.out) GB5.out : Below w0.heap.size w0 w11)); replace HK := asT (Kept.of_grown (S := (fun k_ => P0_ k_)) hg (by repeat (first | (with_reducible first | exact HK.out | apply Kept.alloc | apply Kept.drewN | apply Kept.drew) | exact HK.out)) (fun k_ e_ => (HO_0.out.1 k_ e_))); replace HO_0 := asT (hp_); clear hg hw hp_))
     go_roundg k1
     case measure => have := HK1.out; omega
     case rel => exact ⟨(y236), (wrap64 ((wrap64 (x1_1 + 1)) + 1)), (wrap64 (x5_1 + 1)), rdT, rdT, H', ⟨by have := HK1.out; omega⟩, ⟨roT HO_0.out⟩, ⟨by repeat (first | (with_reducible first | exact HK.out | apply Kept.alloc | apply Kept.drewN | apply Kept.drew) | exact HK.out)⟩, ⟨hbT HB.out⟩⟩
    ·rw [if_neg c4] at H; exact absurd H (by simp)
   ·rw [if_neg c3] at H; have c3b0 := df c3; clear c3
    simp only [Option.some.injEq, Prod.mk.injEq] at H
    obtain ⟨rfl, rfl⟩ := H; obtain ⟨Ao12, co12, eo12⟩ := Kd.R_slice HO_0.out; subst eo12
    go_wp2
    go_ret; exact ⟨rlT, roT HO_0.out, hbT HB.out, by repeat (first | (with_reducible first | exact HK.out | apply Kept.alloc | apply Kept.drewN | apply Kept.drew) | exact HK.out)⟩
def laws_markCandidate.f (k : Nat) (l0_0 : List (S63)) (a1 : Int) : Option (Int × (List (S63))) := (laws_markLinkS.f k l0_0 a1).bind fun bt238 => (some (bt238.1, bt238.2))
theorem laws_markCandidate.mono : ∀ a0 a1 k, LeO (laws_markCandidate.f k a0 a1) (laws_markCandidate.f (k + 1) a0 a1) := by
 intro a0 a1 k; unfold laws_markCandidate.f
 with_reducible repeat' first | exact laws_markLinkS.mono _ _ _ | exact LeO.refl _ | exact LeO.none _ | refine LeO.ite ?_ ?_ | refine LeO.bind ?_ (fun _ => ?_)
theorem laws_markCandidate.calls (k : Nat) (P0_0_ : Nat → Prop) (u9000_ : Value) (l0_0 : List (S63)) (a1 : Int) (r1 : Int) (r2 : List (S63)) (w0 w : World) (hB : Below w0.heap.size w0 w) (ho0_0 : Kd.R k63 63 w w0.heap.size P0_0_ u9000_ l0_0) (h : laws_markCandidate.f k l0_0 a1 = some (r1, r2)) :
  Calls Try.prog 49 #[.agg #[u9000_], .int .i64 a1] w fun e w' => e = .returned (.int .i64 r1) ∧ Kd.R k63 63 w' w0.heap.size (fun k_ => (P0_0_ k_ ∨ w.heap.size ≤ k_)) u9000_ r2 ∧ Below w0.heap.size w0 w' ∧ Kept w w' (fun k_ => P0_0_ k_) := by
 have hu26 := Try.underlying26; have HO0_0 := asT (show Kd.R k63 63 w w0.heap.size (fun k_ => (P0_0_ k_ ∨ w.heap.size ≤ k_)) u9000_ l0_0 from Kd.R_mono ho0_0 (fun k_ hk => (.inl hk))); have HK := asT (Kept.refl w (fun k_ => P0_0_ k_)); have HW0 := asT hB.size; have HB := asT hB; clear hB; have H := h; unfold laws_markCandidate.f at H; clear h; replace H := Option.bind_eq_some_iff.mp H; obtain ⟨⟨t238, t239⟩, A30, H⟩ := H; replace H : (some (t238, t239)) = some (r1, r2) := H; have A3 := asT A30; clear A30
 simp only [Option.some.injEq, Prod.mk.injEq] at H
 obtain ⟨rfl, rfl⟩ := H; obtain ⟨Ao4, co4, eo4⟩ := Kd.R_slice HO0_0.out; subst eo4; go_enter Try.func49, Try.ntmps49
 go_wp2_with (first | ((with_reducible refine gate_dst (N := 2) rfl ?_); refine boxT (N := 2) (cs := #[.slice Ao4 l0_0.length co4]) (t := 26) ?_; intro gb237 hg w5 hbox hb; replace HO0_0 := asT (Kd.R_below (roT HO0_0.out) hb); have BK237 := asT (hbox); have GW237 := asT ((by rw [hg]; exact (by first | exact HK.out.1 | exact (show Kept w _ (fun k_ => P0_0_ k_) from by repeat (first | (with_reducible first | exact HK.out | apply Kept.alloc | apply Kept.drewN | apply Kept.drew) | exact HK.out)).1) : w.heap.size ≤ gb237)); replace HK := asT (Kept.below (S := (fun k_ => P0_0_ k_)) (by repeat (first | (with_reducible first | exact HK.out | apply Kept.alloc | apply Kept.drewN | apply Kept.drew) | exact HK.out)) hb); have GE237 := asT ((by rw [hg]; exact (below_size (hbT HB.out)) : w0.heap.size ≤ gb237)); replace HB := hS HB hb; clear hb hbox hg; obtain ⟨hcz6_0, hfz6_0⟩ := bx1 BK237.out) | ((with_reducible refine gate_callee (f := 81) rfl ?_); refine goesL_ (some 8) rfl rfl Try.func81 (by kernel_rfl) rfl #[.slice Ao4 l0_0.length co4, .int .i64 a1] rfl eqT ?_; (with_reducible refine (laws_markLinkS.calls k (fun k_ => some k_ = (.slice Ao4 l0_0.length co4 : Value).ownBlock) (.slice Ao4 l0_0.length co4) l0_0 a1 t238 t239 w0 _ ?side1 ?side2 A3.out).mono ?_); (case side1 => repeat (first | (with_reducible first | exact HB.out | apply below_alloc | apply pw_below_drewN | apply below_drew1 | refine below_set ?_ GE237.out) | exact HB.out)); (case side2 => exact Kd.R_tight rfl HO0_0.out); rintro e w7 ⟨rfl, hy0, hb, hkp⟩; refine ⟨_, rfl, ?_⟩; replace BK237 := asT (blk_kept (bkT BK237.out) hkp (fun hs_ => (fun e_ => (Kd.R_ne HO0_0.out BK237.out (by decide)) e_) hs_)); replace HK := asT (Kept.then_ (S := (fun k_ => P0_0_ k_)) (by repeat (first | (with_reducible first | exact HK.out | apply Kept.alloc | apply Kept.drewN | apply Kept.drew | refine Kept.setCell ?_ (.inr GW237.out) _) | exact HK.out)) hkp (fun k_ hs_ => (fun e_ => (HO0_0.out.1 k_ e_.symm)) hs_)); replace HO0_0 := asT (Kd.R_reok rfl hy0 (fun k_ e_ => HO0_0.out.1 k_ e_)); replace HB := asT (hb); (try clear hb hkp hy0)))
 go_ret; exact ⟨rlT, roT HO0_0.out, hbT HB.out, by repeat (first | (with_reducible first | exact HK.out | apply Kept.alloc | apply Kept.drewN | apply Kept.drew | refine Kept.setCell ?_ (.inr GW237.out) _) | exact HK.out)⟩
def laws_heldLinkS.l0 : Nat → List (S63) → Int → Int → Option (Int)
 | 0, _, _, _ => none
 | k + 1, x0, x1, x5 => if x5 < (x0.length : Int) then (if 0 ≤ x5 then (if ((rd_T63 x0 x5).f0) = ((x1) % 256) then (if ((rd_T63 x0 x5).f1) = ((wrap64 (x1 + 1)) % 256) then (laws_heldLinkS.l0 k x0 (wrap64 ((wrap64 (x1 + 1)) + 1)) (wrap64 (x5 + 1))) else (some (-1))) else (some (-1))) else (none)) else (some x1)
def laws_heldLinkS.f (k : Nat) (l0 : List (S63)) (a1 : Int) : Option (Int) := laws_heldLinkS.l0 k l0 a1 0
theorem laws_heldLinkS.mono_l : ∀ k, (∀ y0 y1 y2, LeO (laws_heldLinkS.l0 k y0 y1 y2) (laws_heldLinkS.l0 (k + 1) y0 y1 y2))
 | 0 => fun _ _ _ r h => by simp [laws_heldLinkS.l0] at h
 | k + 1 => by
  have ih0 := laws_heldLinkS.mono_l k
  ·intro y0 y1 y2; unfold laws_heldLinkS.l0
   with_reducible repeat' first | exact ih0 _ _ _ | exact LeO.refl _ | exact LeO.none _ | refine LeO.ite ?_ ?_ | refine LeO.bind ?_ (fun _ => ?_)
theorem laws_heldLinkS.mono : ∀ a0 a1 k, LeO (laws_heldLinkS.f k a0 a1) (laws_heldLinkS.f (k + 1) a0 a1) := by
 intro a0 a1 k; have ih0 := laws_heldLinkS.mono_l k; unfold laws_heldLinkS.f
 with_reducible repeat' first | exact ih0 _ _ _ | exact LeO.refl _ | exact LeO.none _ | refine LeO.ite ?_ ?_ | refine LeO.bind ?_ (fun _ => ?_)
theorem laws_heldLinkS.calls (k : Nat) (A0 : Option Addr) (c0 : Nat) (l0 : List (S63)) (a1 : Int) (r : Int) (w : World) (hr0 : Kd.C k63 w A0 l0.length l0) (hc0 : l0.length ≤ c0) (h : laws_heldLinkS.f k l0 a1 = some r) :
  Calls Try.prog 82 #[.slice A0 l0.length c0, .int .i64 a1] w fun e w' => e = .returned (.int .i64 r) ∧ Drawn0 w w' := by
 have HR0 := asT hr0; have HC0 := asT hc0; clear hr0 hc0; have H := h; unfold laws_heldLinkS.f at H; clear h; have H' := asT H; clear H; go_enter Try.func82, Try.ntmps82
 go_wp2
 go_loopg [1, 5] k (fun kq v1 v5 w' => ∃ (x1_1 : Int) (x5_1 : Int), v1 = .int .i64 x1_1 ∧ v5 = .int .i64 x5_1 ∧ Aside0 (laws_heldLinkS.l0 kq l0 x1_1 x5_1 = some r) ∧ Aside0 (kq ≤ k) ∧ Drawn0 w w')
 case atStart => exact ⟨(a1), (0), rdT, rdT, H', ⟨Nat.le_refl _⟩, drT⟩
 case round =>
  clear H'; (try clear p2); obtain ⟨x1_1, x5_1, rfl, rfl, HA, HK1, ⟨m1, rfl⟩⟩ := hrel
  cases gk with
  | zero => exact absurd HA.out (by simp [laws_heldLinkS.l0])
  | succ k1 =>
   have H := HA.out; clear HA
   simp only [laws_heldLinkS.l0] at H
   by_cases c3 : x5_1 < (l0.length : Int)
   ·rw [if_pos c3] at H; have c3b0 := dt c3; clear c3; by_cases c4 : 0 ≤ x5_1
    ·rw [if_pos c4] at H; have c4b0 := dt c4; clear c4; by_cases c5 : ((rd_T63 l0 x5_1).f0) = ((x1_1) % 256)
     ·rw [if_pos c5] at H; have c5b0 : (((rd_T63 l0 x5_1).f0) == ((x1_1) % 256)) = true := eC c5; have c5b1 : (((rd_T63 l0 x5_1).f0) != ((x1_1) % 256)) = false := eA c5; clear c5; by_cases c6 : ((rd_T63 l0 x5_1).f1) = ((wrap64 (x1_1 + 1)) % 256)
      ·rw [if_pos c6] at H; have c6b0 : (((rd_T63 l0 x5_1).f1) == ((wrap64 (x1_1 + 1)) % 256)) = true := eC c6; have c6b1 : (((rd_T63 l0 x5_1).f1) != ((wrap64 (x1_1 + 1)) % 256)) = false := eA c6; clear c6; have H' := asT H; clear H; have p240 : 0 ≤ (x5_1 : Int) := dT asmT; have q240 : x5_1 < (l0.length : Int) := dT asmT; obtain ⟨ad240, e240, hx240_0, hx240_1⟩ := at_T63 HR0.out x5_1 p240 q240
       cases e240
       replace p240 := eq_true p240; replace q240 := eq_true q240; have p241 : 0 ≤ (x5_1 : Int) := dT asmT; have q241 : x5_1 < (l0.length : Int) := dT asmT; obtain ⟨ad241, e241, hx241_0, hx241_1⟩ := at_T63 HR0.out x5_1 p241 q241; obtain rfl : ad240 = ad241 := (by injection e241); replace p241 := eq_true p241; replace q241 := eq_true q241
       go_wp2
       go_roundg k1
       case measure => have := HK1.out; omega
       case rel => exact ⟨(wrap64 ((wrap64 (x1_1 + 1)) + 1)), (wrap64 (x5_1 + 1)), rdT, rdT, H', ⟨by have := HK1.out; omega⟩, drT⟩
      ·rw [if_neg c6] at H; have c6b0 : (((rd_T63 l0 x5_1).f1) == ((wrap64 (x1_1 + 1)) % 256)) = false := eB c6; have c6b1 : (((rd_T63 l0 x5_1).f1) != ((wrap64 (x1_1 + 1)) % 256)) = true := eD c6; obtain rfl := oI H; have p240 : 0 ≤ (x5_1 : Int) := dT asmT; have q240 : x5_1 < (l0.length : Int) := dT asmT; obtain ⟨ad240, e240, hx240_0, hx240_1⟩ := at_T63 HR0.out x5_1 p240 q240
       cases e240
       replace p240 := eq_true p240; replace q240 := eq_true q240; have p241 : 0 ≤ (x5_1 : Int) := dT asmT; have q241 : x5_1 < (l0.length : Int) := dT asmT; obtain ⟨ad241, e241, hx241_0, hx241_1⟩ := at_T63 HR0.out x5_1 p241 q241; obtain rfl : ad240 = ad241 := (by injection e241); replace p241 := eq_true p241; replace q241 := eq_true q241
       go_wp2
       go_ret; exact ⟨rdT, drT⟩
     ·rw [if_neg c5] at H; have c5b0 : (((rd_T63 l0 x5_1).f0) == ((x1_1) % 256)) = false := eB c5; have c5b1 : (((rd_T63 l0 x5_1).f0) != ((x1_1) % 256)) = true := eD c5; obtain rfl := oI H; have p240 : 0 ≤ (x5_1 : Int) := dT asmT; have q240 : x5_1 < (l0.length : Int) := dT asmT; obtain ⟨ad240, e240, hx240_0, hx240_1⟩ := at_T63 HR0.out x5_1 p240 q240
      cases e240
      replace p240 := eq_true p240; replace q240 := eq_true q240
      go_wp2
      go_ret; exact ⟨rdT, drT⟩
    ·rw [if_neg c4] at H; exact absurd H (by simp)
   ·rw [if_neg c3] at H; have c3b0 := df c3; clear c3; obtain rfl := oI H
    go_wp2
    go_ret; exact ⟨rdT, drT⟩
def laws_heldCandidate.f (k : Nat) (l0_0 : List (S63)) (a1 : Int) : Option (Int) := (laws_heldLinkS.f k l0_0 a1).bind fun t243 => (if t243 < 0 then (some (-1)) else (some t243))
theorem laws_heldCandidate.mono : ∀ a0 a1 k, LeO (laws_heldCandidate.f k a0 a1) (laws_heldCandidate.f (k + 1) a0 a1) := by
 intro a0 a1 k; unfold laws_heldCandidate.f
 with_reducible repeat' first | exact laws_heldLinkS.mono _ _ _ | exact LeO.refl _ | exact LeO.none _ | refine LeO.ite ?_ ?_ | refine LeO.bind ?_ (fun _ => ?_)
theorem laws_heldCandidate.calls (k : Nat) (A0_0 : Option Addr) (c0_0 : Nat) (l0_0 : List (S63)) (a1 : Int) (r : Int) (w : World) (hr0_0 : Kd.C k63 w A0_0 l0_0.length l0_0) (hc0_0 : l0_0.length ≤ c0_0) (h : laws_heldCandidate.f k l0_0 a1 = some r) :
  Calls Try.prog 50 #[.agg #[.slice A0_0 l0_0.length c0_0], .int .i64 a1] w fun e w' => e = .returned (.int .i64 r) ∧ Below w.heap.size w w' := by
 have hu26 := Try.underlying26; have HR0_0 := asT hr0_0; have HC0_0 := asT hc0_0; clear hr0_0 hc0_0; have HB := asT (Below.refl w.heap.size w); have H := h; unfold laws_heldCandidate.f at H; clear h; obtain ⟨t243, A3, H⟩ := be H; by_cases c4 : t243 < 0
 ·rw [if_pos c4] at H; have c4b0 := dt c4; clear c4; obtain rfl := oI H; go_enter Try.func50, Try.ntmps50
  go_wp2_with (first | ((with_reducible refine gate_dst (N := 2) rfl ?_); refine boxT (N := 2) (cs := #[.slice A0_0 l0_0.length c0_0]) (t := 26) ?_; intro gb242 hg w5 hbox hb; have BK242 := asT hbox; have GW242 := asT (geT hg HB.out); have GE242 := GW242; replace HB := hS HB hb; clear hb hbox hg; obtain ⟨hcz6_0, hfz6_0⟩ := bx1 BK242.out) | ((with_reducible refine gate_callee (f := 82) rfl ?_); refine goesL_ (some 8) rfl rfl Try.func82 (by kernel_rfl) rfl #[.slice A0_0 l0_0.length c0_0, .int .i64 a1] rfl eqT ?_; (with_reducible refine (laws_heldLinkS.calls k _ _ l0_0 a1 t243 _ ?side1 ?side2 A3.out).mono ?_); (case side1 => exact crT HR0_0.out HB.out); (case side2 => exact HC0_0.out); rintro e w' ⟨rfl, ⟨nd, rfl⟩⟩; refine ⟨_, rfl, ?_⟩))
  go_ret; exact ⟨rlT, hbT HB.out⟩
 ·rw [if_neg c4] at H; have c4b0 := df c4; clear c4; obtain rfl := oI H; go_enter Try.func50, Try.ntmps50
  go_wp2_with (first | ((with_reducible refine gate_dst (N := 2) rfl ?_); refine boxT (N := 2) (cs := #[.slice A0_0 l0_0.length c0_0]) (t := 26) ?_; intro gb242 hg w7 hbox hb; have BK242 := asT hbox; have GW242 := asT (geT hg HB.out); have GE242 := GW242; replace HB := hS HB hb; clear hb hbox hg; obtain ⟨hcz8_0, hfz8_0⟩ := bx1 BK242.out) | ((with_reducible refine gate_callee (f := 82) rfl ?_); refine goesL_ (some 8) rfl rfl Try.func82 (by kernel_rfl) rfl #[.slice A0_0 l0_0.length c0_0, .int .i64 a1] rfl eqT ?_; (with_reducible refine (laws_heldLinkS.calls k _ _ l0_0 a1 t243 _ ?side1 ?side2 A3.out).mono ?_); (case side1 => exact crT HR0_0.out HB.out); (case side2 => exact HC0_0.out); rintro e w' ⟨rfl, ⟨nd, rfl⟩⟩; refine ⟨_, rfl, ?_⟩))
  go_ret; exact ⟨rlT, hbT HB.out⟩
end Go.Proofs.Ytlmfpkiaikjlbaa.PFnExactComposeCandidates
