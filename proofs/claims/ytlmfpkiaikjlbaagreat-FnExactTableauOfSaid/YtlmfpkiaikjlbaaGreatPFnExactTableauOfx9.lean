-- Made by gen.py (a program of this session) out of the translation; Lean checks it.
import Derived.Test.YtlmfpkiaikjlbaaGreatPFnExactTableauOfx0
namespace Go.Proofs.YtlmfpkiaikjlbaaGreat.PFnExactTableauOf
open Go.RowKit Go.Proofs.YtlmfpkiaikjlbaaGreatB Go.Proofs.YtlmfpkiaikjlbaaGreatW.PrintWords Go.Proofs.YtlmfpkiaikjlbaaGreatW.PrintLast Go.Proofs.YtlmfpkiaikjlbaaGreatW.PrintMore
attribute [local go_sem] max2_int min2_int max_two min_two max_three min_three max_four min_four   -- for this text's walks alone
set_option linter.unusedVariables false
set_option maxHeartbeats 8000000
set_option maxRecDepth 100000
set_option linter.unusedSimpArgs false
def laws_eqStringS.l0 : Nat → List ByteArray → List ByteArray → Int → Option (Bool)
 | 0, _, _, _ => none
 | k + 1, x0, x1, x5 => if x5 < (x0.length : Int) then (if 0 ≤ x5 then (if x5 < (x1.length : Int) then (if (rdOf ByteArray.empty x0 x5).toList = (rdOf ByteArray.empty x1 x5).toList then (laws_eqStringS.l0 k x0 x1 (wrap64 (x5 + 1))) else (some false)) else (none)) else (none)) else (some true)
def laws_eqStringS.f (k : Nat) (l0 : List ByteArray) (l1 : List ByteArray) : Option (Bool) := if (l0.length : Int) = (l1.length : Int) then (laws_eqStringS.l0 k l0 l1 0) else (some false)
theorem laws_eqStringS.mono_l : ∀ k, (∀ y0 y1 y2, LeO (laws_eqStringS.l0 k y0 y1 y2) (laws_eqStringS.l0 (k + 1) y0 y1 y2))
 | 0 => fun _ _ _ r h => by simp [laws_eqStringS.l0] at h
 | k + 1 => by
  have ih0 := laws_eqStringS.mono_l k
  ·intro y0 y1 y2; unfold laws_eqStringS.l0
   with_reducible repeat' first | exact ih0 _ _ _ | exact LeO.refl _ | exact LeO.none _ | refine LeO.ite ?_ ?_ | refine LeO.bind ?_ (fun _ => ?_)
theorem laws_eqStringS.mono : ∀ a0 a1 k, LeO (laws_eqStringS.f k a0 a1) (laws_eqStringS.f (k + 1) a0 a1) := by
 intro a0 a1 k; have ih0 := laws_eqStringS.mono_l k; unfold laws_eqStringS.f
 with_reducible repeat' first | exact ih0 _ _ _ | exact LeO.refl _ | exact LeO.none _ | refine LeO.ite ?_ ?_ | refine LeO.bind ?_ (fun _ => ?_)
theorem laws_eqStringS.calls (k : Nat) (A0 : Option Addr) (c0 : Nat) (l0 : List ByteArray) (A1 : Option Addr) (c1 : Nat) (l1 : List ByteArray) (r : Bool) (w : World) (hr0 : Kd.C Kd.string w A0 l0.length l0) (hc0 : l0.length ≤ c0) (hr1 : Kd.C Kd.string w A1 l1.length l1) (hc1 : l1.length ≤ c1) (h : laws_eqStringS.f k l0 l1 = some r) :
  Calls Tryz.prog 13 #[.slice A0 l0.length c0, .slice A1 l1.length c1] w fun e w' => e = .returned (.bool r) ∧ Drawn0 w w' := by
 have HR0 := asT hr0; have HC0 := asT hc0; clear hr0 hc0; have HR1 := asT hr1; have HC1 := asT hc1; clear hr1 hc1; have H := h; unfold laws_eqStringS.f at H; clear h; by_cases c3 : (l0.length : Int) = (l1.length : Int)
 ·rw [if_pos c3] at H; have c3b0 : ((l0.length : Int) == (l1.length : Int)) = true := eC c3; have c3b1 : ((l0.length : Int) != (l1.length : Int)) = false := eA c3
  have c3b2 : (l0.length == l1.length) = true := by first | simpa using c3 | (simp at c3 ⊢; omega)
  clear c3; have H' := asT H; clear H; go_enter Tryz.func13, Tryz.ntmps13
  go_wp2
  repeat (go_quiet (fail); try go_wp2)
  go_loopg [5] k (fun kq v5 w' => ∃ (x5_1 : Int), v5 = .int .i64 x5_1 ∧ Aside0 (laws_eqStringS.l0 kq l0 l1 x5_1 = some r) ∧ Aside0 (kq ≤ k) ∧ Drawn0 w w')
  case atStart => exact ⟨(0), rdT, H', ⟨Nat.le_refl _⟩, drT⟩
  case round =>
   clear H'; (try clear c1 p2 c3 c3b0 c3b1 c3b2); obtain ⟨x5_1, rfl, HA, HK1, ⟨m1, rfl⟩⟩ := hrel
   cases gk with
   | zero => exact absurd HA.out (by simp [laws_eqStringS.l0])
   | succ k1 =>
    have H := HA.out; clear HA
    simp only [laws_eqStringS.l0] at H
    by_cases c4 : x5_1 < (l0.length : Int)
    ·rw [if_pos c4] at H; have c4b0 := dt c4; clear c4; by_cases c5 : 0 ≤ x5_1
     ·rw [if_pos c5] at H; have c5b0 := dt c5; clear c5; by_cases c6 : x5_1 < (l1.length : Int)
      ·rw [if_pos c6] at H; have c6b0 := dt c6; clear c6; by_cases c7 : (rdOf ByteArray.empty l0 x5_1).toList = (rdOf ByteArray.empty l1 x5_1).toList
       ·rw [if_pos c7] at H; have c7b0 : ((rdOf ByteArray.empty l0 x5_1).toList == (rdOf ByteArray.empty l1 x5_1).toList) = true := eC c7; have c7b1 : ((rdOf ByteArray.empty l0 x5_1).toList != (rdOf ByteArray.empty l1 x5_1).toList) = false := eA c7; clear c7; have H' := asT H; clear H; have p463 : 0 ≤ (x5_1 : Int) := dT asmT; have q463 : x5_1 < (l0.length : Int) := dT asmT; obtain ⟨ad463, e463, hx463_0⟩ := Kd.at_string HR0.out x5_1 p463 q463
        cases e463
        replace p463 := eq_true p463; replace q463 := eq_true q463; have p464 : 0 ≤ (x5_1 : Int) := dT asmT; have q464 : x5_1 < (l1.length : Int) := dT asmT; obtain ⟨ad464, e464, hx464_0⟩ := Kd.at_string HR1.out x5_1 p464 q464
        cases e464
        replace p464 := eq_true p464; replace q464 := eq_true q464
        go_wp2
        repeat (go_quiet (fail); try go_wp2)
        go_roundg k1
        case measure => have := HK1.out; omega
        case rel => exact ⟨(wrap64 (x5_1 + 1)), rdT, H', ⟨by have := HK1.out; omega⟩, drT⟩
       ·rw [if_neg c7] at H; have c7b0 : ((rdOf ByteArray.empty l0 x5_1).toList == (rdOf ByteArray.empty l1 x5_1).toList) = false := eB c7; have c7b1 : ((rdOf ByteArray.empty l0 x5_1).toList != (rdOf ByteArray.empty l1 x5_1).toList) = true := eD c7; obtain rfl := oI H; have p463 : 0 ≤ (x5_1 : Int) := dT asmT; have q463 : x5_1 < (l0.length : Int) := dT asmT; obtain ⟨ad463, e463, hx463_0⟩ := Kd.at_string HR0.out x5_1 p463 q463
        cases e463
        replace p463 := eq_true p463; replace q463 := eq_true q463; have p464 : 0 ≤ (x5_1 : Int) := dT asmT; have q464 : x5_1 < (l1.length : Int) := dT asmT; obtain ⟨ad464, e464, hx464_0⟩ := Kd.at_string HR1.out x5_1 p464 q464
        cases e464
        replace p464 := eq_true p464; replace q464 := eq_true q464
        go_wp2
        repeat (go_quiet (fail); try go_wp2)
        go_ret; exact ⟨rdT, drT⟩
      ·rw [if_neg c6] at H; exact absurd H (by simp)
     ·rw [if_neg c5] at H; exact absurd H (by simp)
    ·rw [if_neg c4] at H; have c4b0 := df c4; clear c4; obtain rfl := oI H
     go_wp2
     repeat (go_quiet (fail); try go_wp2)
     go_ret; exact ⟨rdT, drT⟩
 ·rw [if_neg c3] at H; have c3b0 : ((l0.length : Int) == (l1.length : Int)) = false := eB c3; have c3b1 : ((l0.length : Int) != (l1.length : Int)) = true := eD c3
  have c3b2 : (l0.length == l1.length) = false := by first | simpa using c3 | (simp at c3 ⊢; omega)
  obtain rfl := oI H; go_enter Tryz.func13, Tryz.ntmps13
  go_wp2
  repeat (go_quiet (fail); try go_wp2)
  go_ret; exact ⟨rdT, drT⟩
def laws_eqLink.f (a0_0 : Int) (a0_1 : Int) (a1_0 : Int) (a1_1 : Int) : Option (Bool) := if a0_0 = a1_0 then (if a0_1 = a1_1 then (some true) else (some false)) else (some false)
theorem laws_eqLink.calls (a0_0 : Int) (a0_1 : Int) (a1_0 : Int) (a1_1 : Int) (r : Bool) (w : World) (h : laws_eqLink.f a0_0 a0_1 a1_0 a1_1 = some r) :
  Calls Tryz.prog 173 #[.agg #[.int .u8 a0_0, .int .u8 a0_1], .agg #[.int .u8 a1_0, .int .u8 a1_1]] w fun e w' => e = .returned (.bool r) ∧ Below w.heap.size w w' := by
 have hu109 := Tryz.underlying109; have HB := asT (Below.refl w.heap.size w); have H := h; unfold laws_eqLink.f at H; clear h; by_cases c3 : a0_0 = a1_0
 ·rw [if_pos c3] at H; have c3b0 : (a0_0 == a1_0) = true := eC c3; have c3b1 : (a0_0 != a1_0) = false := eA c3; clear c3; by_cases c4 : a0_1 = a1_1
  ·rw [if_pos c4] at H; have c4b0 : (a0_1 == a1_1) = true := eC c4; have c4b1 : (a0_1 != a1_1) = false := eA c4; clear c4; obtain rfl := oI H; go_enter Tryz.func173, Tryz.ntmps173
   go_wp2_with (first | ((with_reducible refine gate_dst (N := 2) rfl ?_); refine boxT (N := 2) (cs := #[.int .u8 a0_0, .int .u8 a0_1]) (t := 109) ?_; intro gb465 hg w5 hbox hb; have BK465 := asT hbox; have GW465 := asT (geT hg HB.out); have GE465 := GW465; replace HB := hS HB hb; clear hb hbox hg) | ((with_reducible refine gate_dst (N := 3) rfl ?_); refine boxT (N := 3) (cs := #[.int .u8 a1_0, .int .u8 a1_1]) (t := 109) ?_; intro gb466 hg w6 hbox hb; have BK466 := asT (hbox); have GW466 := asT (geT hg HB.out); have GE466 := asT (geT hg HB.out); replace HB := hS HB hb; have NB465_466 := asT ((by rw [hg]; exact Nat.ne_of_lt (blk_lt (bkT BK465.out)) : gb465 ≠ gb466)); have NB466_465 := asT ((by rw [hg]; exact Nat.ne_of_gt (blk_lt (bkT BK465.out)) : gb466 ≠ gb465)); replace BK465 := bS BK465 hb; clear hb hbox hg; have hnb7 := NB465_466.out; have hnc7 := NB466_465.out; obtain ⟨hcz8_0, hcz8_1, hfz8_0, hfz8_1⟩ := bx2 BK465.out; obtain ⟨hcz9_0, hcz9_1, hfz9_0, hfz9_1⟩ := bx2 BK466.out))
   go_ret; exact ⟨rlT, hbT HB.out⟩
  ·rw [if_neg c4] at H; have c4b0 : (a0_1 == a1_1) = false := eB c4; have c4b1 : (a0_1 != a1_1) = true := eD c4; obtain rfl := oI H; go_enter Tryz.func173, Tryz.ntmps173
   go_wp2_with (first | ((with_reducible refine gate_dst (N := 2) rfl ?_); refine boxT (N := 2) (cs := #[.int .u8 a0_0, .int .u8 a0_1]) (t := 109) ?_; intro gb465 hg w10 hbox hb; have BK465 := asT hbox; have GW465 := asT (geT hg HB.out); have GE465 := GW465; replace HB := hS HB hb; clear hb hbox hg) | ((with_reducible refine gate_dst (N := 3) rfl ?_); refine boxT (N := 3) (cs := #[.int .u8 a1_0, .int .u8 a1_1]) (t := 109) ?_; intro gb466 hg w11 hbox hb; have BK466 := asT (hbox); have GW466 := asT (geT hg HB.out); have GE466 := asT (geT hg HB.out); replace HB := hS HB hb; have NB465_466 := asT ((by rw [hg]; exact Nat.ne_of_lt (blk_lt (bkT BK465.out)) : gb465 ≠ gb466)); have NB466_465 := asT ((by rw [hg]; exact Nat.ne_of_gt (blk_lt (bkT BK465.out)) : gb466 ≠ gb465)); replace BK465 := bS BK465 hb; clear hb hbox hg; have hnb12 := NB465_466.out; have hnc12 := NB466_465.out; obtain ⟨hcz13_0, hcz13_1, hfz13_0, hfz13_1⟩ := bx2 BK465.out; obtain ⟨hcz14_0, hcz14_1, hfz14_0, hfz14_1⟩ := bx2 BK466.out))
   go_ret; exact ⟨rlT, hbT HB.out⟩
 ·rw [if_neg c3] at H; have c3b0 : (a0_0 == a1_0) = false := eB c3; have c3b1 : (a0_0 != a1_0) = true := eD c3; obtain rfl := oI H; go_enter Tryz.func173, Tryz.ntmps173
  go_wp2_with (first | ((with_reducible refine gate_dst (N := 2) rfl ?_); refine boxT (N := 2) (cs := #[.int .u8 a0_0, .int .u8 a0_1]) (t := 109) ?_; intro gb465 hg w15 hbox hb; have BK465 := asT hbox; have GW465 := asT (geT hg HB.out); have GE465 := GW465; replace HB := hS HB hb; clear hb hbox hg) | ((with_reducible refine gate_dst (N := 3) rfl ?_); refine boxT (N := 3) (cs := #[.int .u8 a1_0, .int .u8 a1_1]) (t := 109) ?_; intro gb466 hg w16 hbox hb; have BK466 := asT (hbox); have GW466 := asT (geT hg HB.out); have GE466 := asT (geT hg HB.out); replace HB := hS HB hb; have NB465_466 := asT ((by rw [hg]; exact Nat.ne_of_lt (blk_lt (bkT BK465.out)) : gb465 ≠ gb466)); have NB466_465 := asT ((by rw [hg]; exact Nat.ne_of_gt (blk_lt (bkT BK465.out)) : gb466 ≠ gb465)); replace BK465 := bS BK465 hb; clear hb hbox hg; have hnb17 := NB465_466.out; have hnc17 := NB466_465.out; obtain ⟨hcz18_0, hcz18_1, hfz18_0, hfz18_1⟩ := bx2 BK465.out; obtain ⟨hcz19_0, hcz19_1, hfz19_0, hfz19_1⟩ := bx2 BK466.out))
  go_ret; exact ⟨rlT, hbT HB.out⟩
def laws_eqLinkS.l0 : Nat → List (S109) → List (S109) → Int → Option (Bool)
 | 0, _, _, _ => none
 | k + 1, x0, x1, x5 => if x5 < (x0.length : Int) then (if 0 ≤ x5 then (if x5 < (x1.length : Int) then ((laws_eqLink.f ((rd_T109 x0 x5).f0) ((rd_T109 x0 x5).f1) ((rd_T109 x1 x5).f0) ((rd_T109 x1 x5).f1)).bind fun t469 => (if t469 = true then (laws_eqLinkS.l0 k x0 x1 (wrap64 (x5 + 1))) else (some false))) else (none)) else (none)) else (some true)
def laws_eqLinkS.f (k : Nat) (l0 : List (S109)) (l1 : List (S109)) : Option (Bool) := if (l0.length : Int) = (l1.length : Int) then (laws_eqLinkS.l0 k l0 l1 0) else (some false)
theorem laws_eqLinkS.mono_l : ∀ k, (∀ y0 y1 y2, LeO (laws_eqLinkS.l0 k y0 y1 y2) (laws_eqLinkS.l0 (k + 1) y0 y1 y2))
 | 0 => fun _ _ _ r h => by simp [laws_eqLinkS.l0] at h
 | k + 1 => by
  have ih0 := laws_eqLinkS.mono_l k
  ·intro y0 y1 y2; unfold laws_eqLinkS.l0
   with_reducible repeat' first | exact ih0 _ _ _ | exact LeO.refl _ | exact LeO.none _ | refine LeO.ite ?_ ?_ | refine LeO.bind ?_ (fun _ => ?_)
theorem laws_eqLinkS.mono : ∀ a0 a1 k, LeO (laws_eqLinkS.f k a0 a1) (laws_eqLinkS.f (k + 1) a0 a1) := by
 intro a0 a1 k; have ih0 := laws_eqLinkS.mono_l k; unfold laws_eqLinkS.f
 with_reducible repeat' first | exact ih0 _ _ _ | exact LeO.refl _ | exact LeO.none _ | refine LeO.ite ?_ ?_ | refine LeO.bind ?_ (fun _ => ?_)
def laws_eqLinkS.T6 : Bool × List (List Nat × List Nat) := (true, [([], []), ([], []), ([0, 1], [0, 1]), ([2], [2]), ([], []), ([], []), ([4, 5], [4, 5]), ([6], [6]), ([3, 7], [3, 7]), ([8], [8])])
def laws_eqLinkS.B6 : List Nat := [0, 0, 3, 7, 0, 0, 48, 112, 255, 511]
theorem laws_eqLinkS.tab6 : rtab .any (opsOf Tryz.f140 6) = laws_eqLinkS.T6 := by kernel_rfl
theorem laws_eqLinkS.bits6 : waitsOk laws_eqLinkS.T6.2 laws_eqLinkS.B6 = true := by kernel_rfl
theorem laws_eqLinkS.calls (k : Nat) (A0 : Option Addr) (c0 : Nat) (l0 : List (S109)) (A1 : Option Addr) (c1 : Nat) (l1 : List (S109)) (r : Bool) (w : World) (hr0 : Kd.C k109 w A0 l0.length l0) (hc0 : l0.length ≤ c0) (hr1 : Kd.C k109 w A1 l1.length l1) (hc1 : l1.length ≤ c1) (h : laws_eqLinkS.f k l0 l1 = some r) :
  Calls Tryz.prog 140 #[.slice A0 l0.length c0, .slice A1 l1.length c1] w fun e w' => e = .returned (.bool r) ∧ Below w.heap.size w w' := by
 have hu109 := Tryz.underlying109; have HR0 := asT hr0; have HC0 := asT hc0; clear hr0 hc0; have HR1 := asT hr1; have HC1 := asT hc1; clear hr1 hc1; have HB := asT (Below.refl w.heap.size w); have H := h; unfold laws_eqLinkS.f at H; clear h; by_cases c3 : (l0.length : Int) = (l1.length : Int)
 ·rw [if_pos c3] at H; have c3b0 : ((l0.length : Int) == (l1.length : Int)) = true := eC c3; have c3b1 : ((l0.length : Int) != (l1.length : Int)) = false := eA c3
  have c3b2 : (l0.length == l1.length) = true := by first | simpa using c3 | (simp at c3 ⊢; omega)
  clear c3; have H' := asT H; clear H; go_enter Tryz.func140, Tryz.ntmps140
  go_wp2
  go_loopg [5] k (fun kq v5 w' => ∃ (x5_1 : Int), v5 = .int .i64 x5_1 ∧ Aside0 (laws_eqLinkS.l0 kq l0 l1 x5_1 = some r) ∧ Aside0 (kq ≤ k) ∧ Aside0 (Below w.heap.size w w'))
  case atStart => exact ⟨(0), rdT, H', ⟨Nat.le_refl _⟩, ⟨hbT HB.out⟩⟩
  case round =>
   clear H'; (try clear c1 p2 c3 c3b0 c3b1 c3b2); obtain ⟨x5_1, rfl, HA, HK1, HB⟩ := hrel
   cases gk with
   | zero => exact absurd HA.out (by simp [laws_eqLinkS.l0])
   | succ k1 =>
    have H := HA.out; clear HA
    simp only [laws_eqLinkS.l0] at H
    by_cases c4 : x5_1 < (l0.length : Int)
    ·rw [if_pos c4] at H; have c4b0 := dt c4; clear c4; by_cases c5 : 0 ≤ x5_1
     ·rw [if_pos c5] at H; have c5b0 := dt c5; clear c5; by_cases c6 : x5_1 < (l1.length : Int)
      ·rw [if_pos c6] at H; have c6b0 := dt c6; clear c6; obtain ⟨t469, A7, H⟩ := be H; by_cases c8 : t469 = true
       ·subst c8; rw [if_pos rfl] at H; have H' := asT H; clear H
        try go_wp2
        replace HB := asT (below_drew1 HB.out); have p467 : 0 ≤ (x5_1 : Int) := dT asmT; have q467 : x5_1 < (l0.length : Int) := dT asmT; obtain ⟨ad467, e467, hx467_0, hx467_1⟩ := at_T109 HR0.out x5_1 p467 q467; have hw467_1 := hx467_1; have hw467_0 := hx467_0
        cases e467
        replace hx467_0 := hbc HB.out hx467_0; replace hx467_1 := hbc HB.out hx467_1; replace p467 := eq_true p467; replace q467 := eq_true q467; have p468 : 0 ≤ (x5_1 : Int) := dT asmT; have q468 : x5_1 < (l1.length : Int) := dT asmT; obtain ⟨ad468, e468, hx468_0, hx468_1⟩ := at_T109 HR1.out x5_1 p468 q468; have hw468_1 := hx468_1; have hw468_0 := hx468_0
        cases e468
        replace hx468_0 := hbc HB.out hx468_0; replace hx468_1 := hbc HB.out hx468_1; replace p468 := eq_true p468; replace q468 := eq_true q468; refine start_ (n := 10) (S := fun w' => w'.cell? (ad467.add ((x5_1).toNat * 2)) = some (.int .u8 ((rd_T109 l0 x5_1).f0)) ∧ w'.cell? ⟨(ad467.add ((x5_1).toNat * 2)).block, (ad467.add ((x5_1).toNat * 2)).off + 1, none⟩ = some (.int .u8 ((rd_T109 l0 x5_1).f1)) ∧ w'.cell? (ad468.add ((x5_1).toNat * 2)) = some (.int .u8 ((rd_T109 l1 x5_1).f0)) ∧ w'.cell? ⟨(ad468.add ((x5_1).toNat * 2)).block, (ad468.add ((x5_1).toNat * 2)).off + 1, none⟩ = some (.int .u8 ((rd_T109 l1 x5_1).f1))) (ds := []) (bA 10 0) (by kernel_rfl) rfl rfl ⟨(hbc HB.out hw467_0 :), (hbc HB.out hw467_1 :), (hbc HB.out hw468_0 :), (hbc HB.out hw468_1 :)⟩ (fun hHeld => ?_); refine with_tabW laws_eqLinkS.tab6 laws_eqLinkS.bits6 (fun HT_ HW_ => ?_); generalize wr.drew = w9 at HB hx467_0 hx467_1 hx468_0 hx468_1 hHeld ⊢; refine pA 0 17 10 1 HT_.out ?_ rfl rfl; refine pA 1 18 10 3 HT_.out ?_ rfl rfl; refine pA 2 19 10 7 HT_.out ?_ rfl rfl; refine pA 4 21 10 23 HT_.out ?_ rfl rfl; refine pA 5 22 10 55 HT_.out ?_ rfl rfl; refine pA 6 23 10 119 HT_.out ?_ rfl rfl; refine tA 3 20 10 127 HT_.out HW_.out hHeld ?_ rfl rfl; refine tA 7 24 10 255 HT_.out HW_.out hHeld ?_ rfl rfl; refine oA 8 25 10 511 HT_.out (fun K hK => ?_) rfl rfl; refine goes_ Tryz.func173 (by kernel_rfl) rfl #[.agg #[.int .u8 ((rd_T109 l0 x5_1).f0), .int .u8 ((rd_T109 l0 x5_1).f1)], .agg #[.int .u8 ((rd_T109 l1 x5_1).f0), .int .u8 ((rd_T109 l1 x5_1).f1)]] (by rfl) rfl rfl eqT ?_
        (with_reducible refine (laws_eqLink.calls ((rd_T109 l0 x5_1).f0) ((rd_T109 l0 x5_1).f1) ((rd_T109 l1 x5_1).f0) ((rd_T109 l1 x5_1).f1) true _ A7.out).mono ?_); rintro e w10 ⟨rfl, hb⟩; refine ⟨_, rfl, ?_⟩; replace HB := hS HB hb; (try clear hb hb2 hk hi)
        refine hK.out _ _ ⟨(hbc HB.out hw467_0 :), (hbc HB.out hw467_1 :), (hbc HB.out hw468_0 :), (hbc HB.out hw468_1 :)⟩ (fun hHeld => ?_); clear hK K; refine nB 25 ?_ rfl; refine pA 9 26 10 1023 HT_.out ?_ rfl rfl; refine done_ (done_of HT_.out (by kernel_rfl)) ?_
        try go_wp2
        go_roundg k1
        case measure => have := HK1.out; omega
        case rel => exact ⟨(wrap64 (x5_1 + 1)), rdT, H', ⟨by have := HK1.out; omega⟩, ⟨hbT HB.out⟩⟩
       ·replace c8 := eE c8; subst c8; rw [if_neg nF] at H; have H1 := H; clear H; have H := H1; clear H1; obtain rfl := oI H
        try go_wp2
        replace HB := asT (below_drew1 HB.out); have p467 : 0 ≤ (x5_1 : Int) := dT asmT; have q467 : x5_1 < (l0.length : Int) := dT asmT; obtain ⟨ad467, e467, hx467_0, hx467_1⟩ := at_T109 HR0.out x5_1 p467 q467; have hw467_1 := hx467_1; have hw467_0 := hx467_0
        cases e467
        replace hx467_0 := hbc HB.out hx467_0; replace hx467_1 := hbc HB.out hx467_1; replace p467 := eq_true p467; replace q467 := eq_true q467; have p468 : 0 ≤ (x5_1 : Int) := dT asmT; have q468 : x5_1 < (l1.length : Int) := dT asmT; obtain ⟨ad468, e468, hx468_0, hx468_1⟩ := at_T109 HR1.out x5_1 p468 q468; have hw468_1 := hx468_1; have hw468_0 := hx468_0
        cases e468
        replace hx468_0 := hbc HB.out hx468_0; replace hx468_1 := hbc HB.out hx468_1; replace p468 := eq_true p468; replace q468 := eq_true q468; refine start_ (n := 10) (S := fun w' => w'.cell? (ad467.add ((x5_1).toNat * 2)) = some (.int .u8 ((rd_T109 l0 x5_1).f0)) ∧ w'.cell? ⟨(ad467.add ((x5_1).toNat * 2)).block, (ad467.add ((x5_1).toNat * 2)).off + 1, none⟩ = some (.int .u8 ((rd_T109 l0 x5_1).f1)) ∧ w'.cell? (ad468.add ((x5_1).toNat * 2)) = some (.int .u8 ((rd_T109 l1 x5_1).f0)) ∧ w'.cell? ⟨(ad468.add ((x5_1).toNat * 2)).block, (ad468.add ((x5_1).toNat * 2)).off + 1, none⟩ = some (.int .u8 ((rd_T109 l1 x5_1).f1))) (ds := []) (bA 10 0) (by kernel_rfl) rfl rfl ⟨(hbc HB.out hw467_0 :), (hbc HB.out hw467_1 :), (hbc HB.out hw468_0 :), (hbc HB.out hw468_1 :)⟩ (fun hHeld => ?_); refine with_tabW laws_eqLinkS.tab6 laws_eqLinkS.bits6 (fun HT_ HW_ => ?_); generalize wr.drew = w11 at HB hx467_0 hx467_1 hx468_0 hx468_1 hHeld ⊢; refine pA 0 17 10 1 HT_.out ?_ rfl rfl; refine pA 1 18 10 3 HT_.out ?_ rfl rfl; refine pA 2 19 10 7 HT_.out ?_ rfl rfl; refine pA 4 21 10 23 HT_.out ?_ rfl rfl; refine pA 5 22 10 55 HT_.out ?_ rfl rfl; refine pA 6 23 10 119 HT_.out ?_ rfl rfl; refine tA 3 20 10 127 HT_.out HW_.out hHeld ?_ rfl rfl; refine tA 7 24 10 255 HT_.out HW_.out hHeld ?_ rfl rfl; refine oA 8 25 10 511 HT_.out (fun K hK => ?_) rfl rfl; refine goes_ Tryz.func173 (by kernel_rfl) rfl #[.agg #[.int .u8 ((rd_T109 l0 x5_1).f0), .int .u8 ((rd_T109 l0 x5_1).f1)], .agg #[.int .u8 ((rd_T109 l1 x5_1).f0), .int .u8 ((rd_T109 l1 x5_1).f1)]] (by rfl) rfl rfl eqT ?_
        (with_reducible refine (laws_eqLink.calls ((rd_T109 l0 x5_1).f0) ((rd_T109 l0 x5_1).f1) ((rd_T109 l1 x5_1).f0) ((rd_T109 l1 x5_1).f1) false _ A7.out).mono ?_); rintro e w12 ⟨rfl, hb⟩; refine ⟨_, rfl, ?_⟩; replace HB := hS HB hb; (try clear hb hb2 hk hi)
        refine hK.out _ _ ⟨(hbc HB.out hw467_0 :), (hbc HB.out hw467_1 :), (hbc HB.out hw468_0 :), (hbc HB.out hw468_1 :)⟩ (fun hHeld => ?_); clear hK K; refine nB 25 ?_ rfl; refine pA 9 26 10 1023 HT_.out ?_ rfl rfl; refine done_ (done_of HT_.out (by kernel_rfl)) ?_
        try go_wp2
        go_ret; exact ⟨rlT, hbT HB.out⟩
      ·rw [if_neg c6] at H; exact absurd H (by simp)
     ·rw [if_neg c5] at H; exact absurd H (by simp)
    ·rw [if_neg c4] at H; have c4b0 := df c4; clear c4; obtain rfl := oI H
     go_wp2
     go_ret; exact ⟨rlT, hbT HB.out⟩
 ·rw [if_neg c3] at H; have c3b0 : ((l0.length : Int) == (l1.length : Int)) = false := eB c3; have c3b1 : ((l0.length : Int) != (l1.length : Int)) = true := eD c3
  have c3b2 : (l0.length == l1.length) = false := by first | simpa using c3 | (simp at c3 ⊢; omega)
  obtain rfl := oI H; go_enter Tryz.func140, Tryz.ntmps140
  go_wp2
  go_ret; exact ⟨rlT, hbT HB.out⟩
def laws_eqCandidate.f (k : Nat) (l0_0 : List (S109)) (l1_0 : List (S109)) : Option (Bool) := (laws_eqLinkS.f k l0_0 l1_0).bind fun t472 => (if t472 = true then (some true) else (some false))
theorem laws_eqCandidate.mono : ∀ a0 a1 k, LeO (laws_eqCandidate.f k a0 a1) (laws_eqCandidate.f (k + 1) a0 a1) := by
 intro a0 a1 k; unfold laws_eqCandidate.f
 with_reducible repeat' first | exact laws_eqLinkS.mono _ _ _ | exact LeO.refl _ | exact LeO.none _ | refine LeO.ite ?_ ?_ | refine LeO.bind ?_ (fun _ => ?_)
theorem laws_eqCandidate.calls (k : Nat) (A0_0 : Option Addr) (c0_0 : Nat) (l0_0 : List (S109)) (A1_0 : Option Addr) (c1_0 : Nat) (l1_0 : List (S109)) (r : Bool) (w : World) (hr0_0 : Kd.C k109 w A0_0 l0_0.length l0_0) (hc0_0 : l0_0.length ≤ c0_0) (hr1_0 : Kd.C k109 w A1_0 l1_0.length l1_0) (hc1_0 : l1_0.length ≤ c1_0) (h : laws_eqCandidate.f k l0_0 l1_0 = some r) :
  Calls Tryz.prog 87 #[.agg #[.slice A0_0 l0_0.length c0_0], .agg #[.slice A1_0 l1_0.length c1_0]] w fun e w' => e = .returned (.bool r) ∧ Below w.heap.size w w' := by
 have hu60 := Tryz.underlying60; have HR0_0 := asT hr0_0; have HC0_0 := asT hc0_0; clear hr0_0 hc0_0; have HR1_0 := asT hr1_0; have HC1_0 := asT hc1_0; clear hr1_0 hc1_0; have HB := asT (Below.refl w.heap.size w); have H := h; unfold laws_eqCandidate.f at H; clear h; obtain ⟨t472, A3, H⟩ := be H; by_cases c4 : t472 = true
 ·subst c4; rw [if_pos rfl] at H; have H1 := H; clear H; have H := H1; clear H1; obtain rfl := oI H; go_enter Tryz.func87, Tryz.ntmps87
  go_wp2_with (first | ((with_reducible refine gate_dst (N := 2) rfl ?_); refine boxT (N := 2) (cs := #[.slice A0_0 l0_0.length c0_0]) (t := 60) ?_; intro gb470 hg w5 hbox hb; have BK470 := asT hbox; have GW470 := asT (geT hg HB.out); have GE470 := GW470; replace HB := hS HB hb; clear hb hbox hg) | ((with_reducible refine gate_dst (N := 3) rfl ?_); refine boxT (N := 3) (cs := #[.slice A1_0 l1_0.length c1_0]) (t := 60) ?_; intro gb471 hg w6 hbox hb; have BK471 := asT (hbox); have GW471 := asT (geT hg HB.out); have GE471 := asT (geT hg HB.out); replace HB := hS HB hb; have NB470_471 := asT ((by rw [hg]; exact Nat.ne_of_lt (blk_lt (bkT BK470.out)) : gb470 ≠ gb471)); have NB471_470 := asT ((by rw [hg]; exact Nat.ne_of_gt (blk_lt (bkT BK470.out)) : gb471 ≠ gb470)); replace BK470 := bS BK470 hb; clear hb hbox hg; have hnb7 := NB470_471.out; have hnc7 := NB471_470.out; obtain ⟨hcz8_0, hfz8_0⟩ := bx1 BK470.out; obtain ⟨hcz9_0, hfz9_0⟩ := bx1 BK471.out) | ((with_reducible refine gate_callee (f := 140) rfl ?_); refine goesL_ (some 9) rfl rfl Tryz.func140 (by kernel_rfl) rfl #[.slice A0_0 l0_0.length c0_0, .slice A1_0 l1_0.length c1_0] rfl eqT ?_; (with_reducible refine (laws_eqLinkS.calls k _ _ l0_0 _ _ l1_0 true _ ?side1 ?side2 ?side3 ?side4 A3.out).mono ?_); (case side1 => exact crT HR0_0.out HB.out); (case side2 => exact HC0_0.out); (case side3 => exact crT HR1_0.out HB.out); (case side4 => exact HC1_0.out); rintro e w10 ⟨rfl, hb⟩; refine ⟨_, rfl, ?_⟩; replace BK470 := bS BK470 hb; replace BK471 := bS BK471 hb; replace HB := hS HB hb; (try clear hb hb2 hk hi)))
  go_ret; exact ⟨rlT, hbT HB.out⟩
 ·replace c4 := eE c4; subst c4; rw [if_neg nF] at H; have H1 := H; clear H; have H := H1; clear H1; obtain rfl := oI H; go_enter Tryz.func87, Tryz.ntmps87
  go_wp2_with (first | ((with_reducible refine gate_dst (N := 2) rfl ?_); refine boxT (N := 2) (cs := #[.slice A0_0 l0_0.length c0_0]) (t := 60) ?_; intro gb470 hg w11 hbox hb; have BK470 := asT hbox; have GW470 := asT (geT hg HB.out); have GE470 := GW470; replace HB := hS HB hb; clear hb hbox hg) | ((with_reducible refine gate_dst (N := 3) rfl ?_); refine boxT (N := 3) (cs := #[.slice A1_0 l1_0.length c1_0]) (t := 60) ?_; intro gb471 hg w12 hbox hb; have BK471 := asT (hbox); have GW471 := asT (geT hg HB.out); have GE471 := asT (geT hg HB.out); replace HB := hS HB hb; have NB470_471 := asT ((by rw [hg]; exact Nat.ne_of_lt (blk_lt (bkT BK470.out)) : gb470 ≠ gb471)); have NB471_470 := asT ((by rw [hg]; exact Nat.ne_of_gt (blk_lt (bkT BK470.out)) : gb471 ≠ gb470)); replace BK470 := bS BK470 hb; clear hb hbox hg; have hnb13 := NB470_471.out; have hnc13 := NB471_470.out; obtain ⟨hcz14_0, hfz14_0⟩ := bx1 BK470.out; obtain ⟨hcz15_0, hfz15_0⟩ := bx1 BK471.out) | ((with_reducible refine gate_callee (f := 140) rfl ?_); refine goesL_ (some 9) rfl rfl Tryz.func140 (by kernel_rfl) rfl #[.slice A0_0 l0_0.length c0_0, .slice A1_0 l1_0.length c1_0] rfl eqT ?_; (with_reducible refine (laws_eqLinkS.calls k _ _ l0_0 _ _ l1_0 false _ ?side1 ?side2 ?side3 ?side4 A3.out).mono ?_); (case side1 => exact crT HR0_0.out HB.out); (case side2 => exact HC0_0.out); (case side3 => exact crT HR1_0.out HB.out); (case side4 => exact HC1_0.out); rintro e w16 ⟨rfl, hb⟩; refine ⟨_, rfl, ?_⟩; replace BK470 := bS BK470 hb; replace BK471 := bS BK471 hb; replace HB := hS HB hb; (try clear hb hb2 hk hi)))
  go_ret; exact ⟨rlT, hbT HB.out⟩
def laws_eqCandidateS.l0 : Nat → List (S60) → List (S60) → Int → Option (Bool)
 | 0, _, _, _ => none
 | k + 1, x0, x1, x5 => if x5 < (x0.length : Int) then (if 0 ≤ x5 then (if x5 < (x1.length : Int) then ((laws_eqCandidate.f k ((rd_T60 x0 x5).f0) ((rd_T60 x1 x5).f0)).bind fun t475 => (if t475 = true then (laws_eqCandidateS.l0 k x0 x1 (wrap64 (x5 + 1))) else (some false))) else (none)) else (none)) else (some true)
def laws_eqCandidateS.f (k : Nat) (l0 : List (S60)) (l1 : List (S60)) : Option (Bool) := if (l0.length : Int) = (l1.length : Int) then (laws_eqCandidateS.l0 k l0 l1 0) else (some false)
theorem laws_eqCandidateS.mono_l : ∀ k, (∀ y0 y1 y2, LeO (laws_eqCandidateS.l0 k y0 y1 y2) (laws_eqCandidateS.l0 (k + 1) y0 y1 y2))
 | 0 => fun _ _ _ r h => by simp [laws_eqCandidateS.l0] at h
 | k + 1 => by
  have ih0 := laws_eqCandidateS.mono_l k
  ·intro y0 y1 y2; unfold laws_eqCandidateS.l0
   with_reducible repeat' first | exact ih0 _ _ _ | exact laws_eqCandidate.mono _ _ _ | exact LeO.refl _ | exact LeO.none _ | refine LeO.ite ?_ ?_ | refine LeO.bind ?_ (fun _ => ?_)
theorem laws_eqCandidateS.mono : ∀ a0 a1 k, LeO (laws_eqCandidateS.f k a0 a1) (laws_eqCandidateS.f (k + 1) a0 a1) := by
 intro a0 a1 k; have ih0 := laws_eqCandidateS.mono_l k; unfold laws_eqCandidateS.f
 with_reducible repeat' first | exact ih0 _ _ _ | exact laws_eqCandidate.mono _ _ _ | exact LeO.refl _ | exact LeO.none _ | refine LeO.ite ?_ ?_ | refine LeO.bind ?_ (fun _ => ?_)
def laws_eqCandidateS.T6 : Bool × List (List Nat × List Nat) := (true, [([], []), ([], []), ([0, 1], [0, 1]), ([2], [2]), ([], []), ([], []), ([4, 5], [4, 5]), ([6], [6]), ([3, 7], [3, 7]), ([8], [8])])
def laws_eqCandidateS.B6 : List Nat := [0, 0, 3, 7, 0, 0, 48, 112, 255, 511]
theorem laws_eqCandidateS.tab6 : rtab .any (opsOf Tryz.f44 6) = laws_eqCandidateS.T6 := by kernel_rfl
theorem laws_eqCandidateS.bits6 : waitsOk laws_eqCandidateS.T6.2 laws_eqCandidateS.B6 = true := by kernel_rfl
theorem laws_eqCandidateS.calls (k : Nat) (A0 : Option Addr) (c0 : Nat) (l0 : List (S60)) (A1 : Option Addr) (c1 : Nat) (l1 : List (S60)) (r : Bool) (w : World) (hr0 : Kd.C k60 w A0 l0.length l0) (hc0 : l0.length ≤ c0) (hr1 : Kd.C k60 w A1 l1.length l1) (hc1 : l1.length ≤ c1) (h : laws_eqCandidateS.f k l0 l1 = some r) :
  Calls Tryz.prog 44 #[.slice A0 l0.length c0, .slice A1 l1.length c1] w fun e w' => e = .returned (.bool r) ∧ Below w.heap.size w w' := by
 have hu60 := Tryz.underlying60; have HR0 := asT hr0; have HC0 := asT hc0; clear hr0 hc0; have HR1 := asT hr1; have HC1 := asT hc1; clear hr1 hc1; have HB := asT (Below.refl w.heap.size w); have H := h; unfold laws_eqCandidateS.f at H; clear h; by_cases c3 : (l0.length : Int) = (l1.length : Int)
 ·rw [if_pos c3] at H; have c3b0 : ((l0.length : Int) == (l1.length : Int)) = true := eC c3; have c3b1 : ((l0.length : Int) != (l1.length : Int)) = false := eA c3
  have c3b2 : (l0.length == l1.length) = true := by first | simpa using c3 | (simp at c3 ⊢; omega)
  clear c3; have H' := asT H; clear H; go_enter Tryz.func44, Tryz.ntmps44
  go_wp2
  go_loopg [5] k (fun kq v5 w' => ∃ (x5_1 : Int), v5 = .int .i64 x5_1 ∧ Aside0 (laws_eqCandidateS.l0 kq l0 l1 x5_1 = some r) ∧ Aside0 (kq ≤ k) ∧ Aside0 (Below w.heap.size w w'))
  case atStart => exact ⟨(0), rdT, H', ⟨Nat.le_refl _⟩, ⟨hbT HB.out⟩⟩
  case round =>
   clear H'; (try clear c1 p2 c3 c3b0 c3b1 c3b2); obtain ⟨x5_1, rfl, HA, HK1, HB⟩ := hrel
   cases gk with
   | zero => exact absurd HA.out (by simp [laws_eqCandidateS.l0])
   | succ k1 =>
    have H := HA.out; clear HA
    simp only [laws_eqCandidateS.l0] at H
    by_cases c4 : x5_1 < (l0.length : Int)
    ·rw [if_pos c4] at H; have c4b0 := dt c4; clear c4; by_cases c5 : 0 ≤ x5_1
     ·rw [if_pos c5] at H; have c5b0 := dt c5; clear c5; by_cases c6 : x5_1 < (l1.length : Int)
      ·rw [if_pos c6] at H; have c6b0 := dt c6; clear c6; obtain ⟨t475, A7, H⟩ := be H; by_cases c8 : t475 = true
       ·subst c8; rw [if_pos rfl] at H; have H' := asT H; clear H
        try go_wp2
        replace HB := asT (below_drew1 HB.out); have p473 : 0 ≤ (x5_1 : Int) := dT asmT; have q473 : x5_1 < (l0.length : Int) := dT asmT; obtain ⟨ad473, A473_0, c473_0, e473, hx473_0, hl473_0, hi473_0⟩ := at_T60 HR0.out x5_1 p473 q473; have hw473_0 := hx473_0
        cases e473
        replace hx473_0 := hbc HB.out hx473_0; have HR473_0 := asT hi473_0; have HC473_0 := asT hl473_0; clear hi473_0 hl473_0; replace p473 := eq_true p473; replace q473 := eq_true q473; have p474 : 0 ≤ (x5_1 : Int) := dT asmT; have q474 : x5_1 < (l1.length : Int) := dT asmT; obtain ⟨ad474, A474_0, c474_0, e474, hx474_0, hl474_0, hi474_0⟩ := at_T60 HR1.out x5_1 p474 q474; have hw474_0 := hx474_0
        cases e474
        replace hx474_0 := hbc HB.out hx474_0; have HR474_0 := asT hi474_0; have HC474_0 := asT hl474_0; clear hi474_0 hl474_0; replace p474 := eq_true p474; replace q474 := eq_true q474; refine start_ (n := 10) (S := fun w' => w'.cell? (ad473.add (x5_1).toNat) = some (.slice A473_0 ((rd_T60 l0 x5_1).f0).length c473_0) ∧ w'.cell? (ad474.add (x5_1).toNat) = some (.slice A474_0 ((rd_T60 l1 x5_1).f0).length c474_0)) (ds := []) (bA 10 0) (by kernel_rfl) rfl rfl ⟨(hbc HB.out hw473_0 :), (hbc HB.out hw474_0 :)⟩ (fun hHeld => ?_); refine with_tabW laws_eqCandidateS.tab6 laws_eqCandidateS.bits6 (fun HT_ HW_ => ?_); generalize wr.drew = w9 at HB HR473_0 HR474_0 hx473_0 hx474_0 hHeld ⊢; refine pA 0 17 10 1 HT_.out ?_ rfl rfl; refine pA 1 18 10 3 HT_.out ?_ rfl rfl; refine pA 2 19 10 7 HT_.out ?_ rfl rfl; refine pA 4 21 10 23 HT_.out ?_ rfl rfl; refine pA 5 22 10 55 HT_.out ?_ rfl rfl; refine pA 6 23 10 119 HT_.out ?_ rfl rfl; refine tA 3 20 10 127 HT_.out HW_.out hHeld ?_ rfl rfl; refine tA 7 24 10 255 HT_.out HW_.out hHeld ?_ rfl rfl; refine oA 8 25 10 511 HT_.out (fun K hK => ?_) rfl rfl; refine goes_ Tryz.func87 (by kernel_rfl) rfl #[.agg #[.slice A473_0 ((rd_T60 l0 x5_1).f0).length c473_0], .agg #[.slice A474_0 ((rd_T60 l1 x5_1).f0).length c474_0]] (by rfl) rfl rfl eqT ?_
        (with_reducible refine (laws_eqCandidate.calls k1 _ _ ((rd_T60 l0 x5_1).f0) _ _ ((rd_T60 l1 x5_1).f0) true _ ?side1 ?side2 ?side3 ?side4 A7.out).mono ?_); (case side1 => exact crT HR473_0.out HB.out); (case side2 => exact HC473_0.out); (case side3 => exact crT HR474_0.out HB.out); (case side4 => exact HC474_0.out); rintro e w10 ⟨rfl, hb⟩; refine ⟨_, rfl, ?_⟩; replace HB := hS HB hb; (try clear hb hb2 hk hi)
        refine hK.out _ _ ⟨(hbc HB.out hw473_0 :), (hbc HB.out hw474_0 :)⟩ (fun hHeld => ?_); clear hK K; refine nB 25 ?_ rfl; refine pA 9 26 10 1023 HT_.out ?_ rfl rfl; refine done_ (done_of HT_.out (by kernel_rfl)) ?_
        try go_wp2
        go_roundg k1
        case measure => have := HK1.out; omega
        case rel => exact ⟨(wrap64 (x5_1 + 1)), rdT, H', ⟨by have := HK1.out; omega⟩, ⟨hbT HB.out⟩⟩
       ·replace c8 := eE c8; subst c8; rw [if_neg nF] at H; have H1 := H; clear H; have H := H1; clear H1; obtain rfl := oI H
        try go_wp2
        replace HB := asT (below_drew1 HB.out); have p473 : 0 ≤ (x5_1 : Int) := dT asmT; have q473 : x5_1 < (l0.length : Int) := dT asmT; obtain ⟨ad473, A473_0, c473_0, e473, hx473_0, hl473_0, hi473_0⟩ := at_T60 HR0.out x5_1 p473 q473; have hw473_0 := hx473_0
        cases e473
        replace hx473_0 := hbc HB.out hx473_0; have HR473_0 := asT hi473_0; have HC473_0 := asT hl473_0; clear hi473_0 hl473_0; replace p473 := eq_true p473; replace q473 := eq_true q473; have p474 : 0 ≤ (x5_1 : Int) := dT asmT; have q474 : x5_1 < (l1.length : Int) := dT asmT; obtain ⟨ad474, A474_0, c474_0, e474, hx474_0, hl474_0, hi474_0⟩ := at_T60 HR1.out x5_1 p474 q474; have hw474_0 := hx474_0
        cases e474
        replace hx474_0 := hbc HB.out hx474_0; have HR474_0 := asT hi474_0; have HC474_0 := asT hl474_0; clear hi474_0 hl474_0; replace p474 := eq_true p474; replace q474 := eq_true q474; refine start_ (n := 10) (S := fun w' => w'.cell? (ad473.add (x5_1).toNat) = some (.slice A473_0 ((rd_T60 l0 x5_1).f0).length c473_0) ∧ w'.cell? (ad474.add (x5_1).toNat) = some (.slice A474_0 ((rd_T60 l1 x5_1).f0).length c474_0)) (ds := []) (bA 10 0) (by kernel_rfl) rfl rfl ⟨(hbc HB.out hw473_0 :), (hbc HB.out hw474_0 :)⟩ (fun hHeld => ?_); refine with_tabW laws_eqCandidateS.tab6 laws_eqCandidateS.bits6 (fun HT_ HW_ => ?_); generalize wr.drew = w11 at HB HR473_0 HR474_0 hx473_0 hx474_0 hHeld ⊢; refine pA 0 17 10 1 HT_.out ?_ rfl rfl; refine pA 1 18 10 3 HT_.out ?_ rfl rfl; refine pA 2 19 10 7 HT_.out ?_ rfl rfl; refine pA 4 21 10 23 HT_.out ?_ rfl rfl; refine pA 5 22 10 55 HT_.out ?_ rfl rfl; refine pA 6 23 10 119 HT_.out ?_ rfl rfl; refine tA 3 20 10 127 HT_.out HW_.out hHeld ?_ rfl rfl; refine tA 7 24 10 255 HT_.out HW_.out hHeld ?_ rfl rfl; refine oA 8 25 10 511 HT_.out (fun K hK => ?_) rfl rfl; refine goes_ Tryz.func87 (by kernel_rfl) rfl #[.agg #[.slice A473_0 ((rd_T60 l0 x5_1).f0).length c473_0], .agg #[.slice A474_0 ((rd_T60 l1 x5_1).f0).length c474_0]] (by rfl) rfl rfl eqT ?_
        (with_reducible refine (laws_eqCandidate.calls k1 _ _ ((rd_T60 l0 x5_1).f0) _ _ ((rd_T60 l1 x5_1).f0) false _ ?side1 ?side2 ?side3 ?side4 A7.out).mono ?_); (case side1 => exact crT HR473_0.out HB.out); (case side2 => exact HC473_0.out); (case side3 => exact crT HR474_0.out HB.out); (case side4 => exact HC474_0.out); rintro e w12 ⟨rfl, hb⟩; refine ⟨_, rfl, ?_⟩; replace HB := hS HB hb; (try clear hb hb2 hk hi)
        refine hK.out _ _ ⟨(hbc HB.out hw473_0 :), (hbc HB.out hw474_0 :)⟩ (fun hHeld => ?_); clear hK K; refine nB 25 ?_ rfl; refine pA 9 26 10 1023 HT_.out ?_ rfl rfl; refine done_ (done_of HT_.out (by kernel_rfl)) ?_
        try go_wp2
        go_ret; exact ⟨rlT, hbT HB.out⟩
      ·rw [if_neg c6] at H; exact absurd H (by simp)
     ·rw [if_neg c5] at H; exact absurd H (by simp)
    ·rw [if_neg c4] at H; have c4b0 := df c4; clear c4; obtain rfl := oI H
     go_wp2
     go_ret; exact ⟨rlT, hbT HB.out⟩
 ·rw [if_neg c3] at H; have c3b0 : ((l0.length : Int) == (l1.length : Int)) = false := eB c3; have c3b1 : ((l0.length : Int) != (l1.length : Int)) = true := eD c3
  have c3b2 : (l0.length == l1.length) = false := by first | simpa using c3 | (simp at c3 ⊢; omega)
  obtain rfl := oI H; go_enter Tryz.func44, Tryz.ntmps44
  go_wp2
  go_ret; exact ⟨rlT, hbT HB.out⟩
def laws_eqIntS.l0 : Nat → List Int → List Int → Int → Option (Bool)
 | 0, _, _, _ => none
 | k + 1, x0, x1, x5 => if x5 < (x0.length : Int) then (if 0 ≤ x5 then (if x5 < (x1.length : Int) then (if (rd x0 x5) = (rd x1 x5) then (laws_eqIntS.l0 k x0 x1 (wrap64 (x5 + 1))) else (some false)) else (none)) else (none)) else (some true)
def laws_eqIntS.f (k : Nat) (l0 : List Int) (l1 : List Int) : Option (Bool) := if (l0.length : Int) = (l1.length : Int) then (laws_eqIntS.l0 k l0 l1 0) else (some false)
theorem laws_eqIntS.mono_l : ∀ k, (∀ y0 y1 y2, LeO (laws_eqIntS.l0 k y0 y1 y2) (laws_eqIntS.l0 (k + 1) y0 y1 y2))
 | 0 => fun _ _ _ r h => by simp [laws_eqIntS.l0] at h
 | k + 1 => by
  have ih0 := laws_eqIntS.mono_l k
  ·intro y0 y1 y2; unfold laws_eqIntS.l0
   with_reducible repeat' first | exact ih0 _ _ _ | exact LeO.refl _ | exact LeO.none _ | refine LeO.ite ?_ ?_ | refine LeO.bind ?_ (fun _ => ?_)
theorem laws_eqIntS.mono : ∀ a0 a1 k, LeO (laws_eqIntS.f k a0 a1) (laws_eqIntS.f (k + 1) a0 a1) := by
 intro a0 a1 k; have ih0 := laws_eqIntS.mono_l k; unfold laws_eqIntS.f
 with_reducible repeat' first | exact ih0 _ _ _ | exact LeO.refl _ | exact LeO.none _ | refine LeO.ite ?_ ?_ | refine LeO.bind ?_ (fun _ => ?_)
theorem laws_eqIntS.calls (k : Nat) (A0 : Option Addr) (c0 : Nat) (l0 : List Int) (A1 : Option Addr) (c1 : Nat) (l1 : List Int) (r : Bool) (w : World) (hr0 : Kd.C (Kd.int .i64) w A0 l0.length l0) (hc0 : l0.length ≤ c0) (hr1 : Kd.C (Kd.int .i64) w A1 l1.length l1) (hc1 : l1.length ≤ c1) (h : laws_eqIntS.f k l0 l1 = some r) :
  Calls Tryz.prog 21 #[.slice A0 l0.length c0, .slice A1 l1.length c1] w fun e w' => e = .returned (.bool r) ∧ Drawn0 w w' := by
 have HR0 := asT hr0; have HC0 := asT hc0; clear hr0 hc0; have HR1 := asT hr1; have HC1 := asT hc1; clear hr1 hc1; have H := h; unfold laws_eqIntS.f at H; clear h; by_cases c3 : (l0.length : Int) = (l1.length : Int)
 ·rw [if_pos c3] at H; have c3b0 : ((l0.length : Int) == (l1.length : Int)) = true := eC c3; have c3b1 : ((l0.length : Int) != (l1.length : Int)) = false := eA c3
  have c3b2 : (l0.length == l1.length) = true := by first | simpa using c3 | (simp at c3 ⊢; omega)
  clear c3; have H' := asT H; clear H; go_enter Tryz.func21, Tryz.ntmps21
  go_wp2
  repeat (go_quiet (fail); try go_wp2)
  go_loopg [5] k (fun kq v5 w' => ∃ (x5_1 : Int), v5 = .int .i64 x5_1 ∧ Aside0 (laws_eqIntS.l0 kq l0 l1 x5_1 = some r) ∧ Aside0 (kq ≤ k) ∧ Drawn0 w w')
  case atStart => exact ⟨(0), rdT, H', ⟨Nat.le_refl _⟩, drT⟩
  case round =>
   clear H'; (try clear c1 c2 p2 c3 c3b0 c3b1 c3b2); obtain ⟨x5_1, rfl, HA, HK1, ⟨m1, rfl⟩⟩ := hrel
   cases gk with
   | zero => exact absurd HA.out (by simp [laws_eqIntS.l0])
   | succ k1 =>
    have H := HA.out; clear HA
    simp only [laws_eqIntS.l0] at H
    by_cases c4 : x5_1 < (l0.length : Int)
    ·rw [if_pos c4] at H; have c4b0 := dt c4; clear c4; by_cases c5 : 0 ≤ x5_1
     ·rw [if_pos c5] at H; have c5b0 := dt c5; clear c5; by_cases c6 : x5_1 < (l1.length : Int)
      ·rw [if_pos c6] at H; have c6b0 := dt c6; clear c6; by_cases c7 : (rd l0 x5_1) = (rd l1 x5_1)
       ·rw [if_pos c7] at H; have c7b0 : ((rd l0 x5_1) == (rd l1 x5_1)) = true := eC c7; have c7b1 : ((rd l0 x5_1) != (rd l1 x5_1)) = false := eA c7; clear c7; have H' := asT H; clear H; have p476 : 0 ≤ (x5_1 : Int) := dT asmT; have q476 : x5_1 < (l0.length : Int) := dT asmT; obtain ⟨ad476, e476, hx476_0⟩ := Kd.at_int HR0.out x5_1 p476 q476
        cases e476
        replace p476 := eq_true p476; replace q476 := eq_true q476; have p477 : 0 ≤ (x5_1 : Int) := dT asmT; have q477 : x5_1 < (l1.length : Int) := dT asmT; obtain ⟨ad477, e477, hx477_0⟩ := Kd.at_int HR1.out x5_1 p477 q477
        cases e477
        replace p477 := eq_true p477; replace q477 := eq_true q477
        go_wp2
        repeat (go_quiet (fail); try go_wp2)
        go_roundg k1
        case measure => have := HK1.out; omega
        case rel => exact ⟨(wrap64 (x5_1 + 1)), rdT, H', ⟨by have := HK1.out; omega⟩, drT⟩
       ·rw [if_neg c7] at H; have c7b0 : ((rd l0 x5_1) == (rd l1 x5_1)) = false := eB c7; have c7b1 : ((rd l0 x5_1) != (rd l1 x5_1)) = true := eD c7; obtain rfl := oI H; have p476 : 0 ≤ (x5_1 : Int) := dT asmT; have q476 : x5_1 < (l0.length : Int) := dT asmT; obtain ⟨ad476, e476, hx476_0⟩ := Kd.at_int HR0.out x5_1 p476 q476
        cases e476
        replace p476 := eq_true p476; replace q476 := eq_true q476; have p477 : 0 ≤ (x5_1 : Int) := dT asmT; have q477 : x5_1 < (l1.length : Int) := dT asmT; obtain ⟨ad477, e477, hx477_0⟩ := Kd.at_int HR1.out x5_1 p477 q477
        cases e477
        replace p477 := eq_true p477; replace q477 := eq_true q477
        go_wp2
        repeat (go_quiet (fail); try go_wp2)
        go_ret; exact ⟨rdT, drT⟩
      ·rw [if_neg c6] at H; exact absurd H (by simp)
     ·rw [if_neg c5] at H; exact absurd H (by simp)
    ·rw [if_neg c4] at H; have c4b0 := df c4; clear c4; obtain rfl := oI H
     go_wp2
     repeat (go_quiet (fail); try go_wp2)
     go_ret; exact ⟨rdT, drT⟩
 ·rw [if_neg c3] at H; have c3b0 : ((l0.length : Int) == (l1.length : Int)) = false := eB c3; have c3b1 : ((l0.length : Int) != (l1.length : Int)) = true := eD c3
  have c3b2 : (l0.length == l1.length) = false := by first | simpa using c3 | (simp at c3 ⊢; omega)
  obtain rfl := oI H; go_enter Tryz.func21, Tryz.ntmps21
  go_wp2
  repeat (go_quiet (fail); try go_wp2)
  go_ret; exact ⟨rdT, drT⟩
def laws_eqIntSS.l0 : Nat → List (List Int) → List (List Int) → Int → Option (Bool)
 | 0, _, _, _ => none
 | k + 1, x0, x1, x5 => if x5 < (x0.length : Int) then (if 0 ≤ x5 then (if x5 < (x1.length : Int) then ((laws_eqIntS.f k (rd_L6 x0 x5) (rd_L6 x1 x5)).bind fun t480 => (if t480 = true then (laws_eqIntSS.l0 k x0 x1 (wrap64 (x5 + 1))) else (some false))) else (none)) else (none)) else (some true)
def laws_eqIntSS.f (k : Nat) (l0 : List (List Int)) (l1 : List (List Int)) : Option (Bool) := if (l0.length : Int) = (l1.length : Int) then (laws_eqIntSS.l0 k l0 l1 0) else (some false)
theorem laws_eqIntSS.mono_l : ∀ k, (∀ y0 y1 y2, LeO (laws_eqIntSS.l0 k y0 y1 y2) (laws_eqIntSS.l0 (k + 1) y0 y1 y2))
 | 0 => fun _ _ _ r h => by simp [laws_eqIntSS.l0] at h
 | k + 1 => by
  have ih0 := laws_eqIntSS.mono_l k
  ·intro y0 y1 y2; unfold laws_eqIntSS.l0
   with_reducible repeat' first | exact ih0 _ _ _ | exact laws_eqIntS.mono _ _ _ | exact LeO.refl _ | exact LeO.none _ | refine LeO.ite ?_ ?_ | refine LeO.bind ?_ (fun _ => ?_)
theorem laws_eqIntSS.mono : ∀ a0 a1 k, LeO (laws_eqIntSS.f k a0 a1) (laws_eqIntSS.f (k + 1) a0 a1) := by
 intro a0 a1 k; have ih0 := laws_eqIntSS.mono_l k; unfold laws_eqIntSS.f
 with_reducible repeat' first | exact ih0 _ _ _ | exact laws_eqIntS.mono _ _ _ | exact LeO.refl _ | exact LeO.none _ | refine LeO.ite ?_ ?_ | refine LeO.bind ?_ (fun _ => ?_)
theorem laws_eqIntSS.calls (k : Nat) (A0 : Option Addr) (c0 : Nat) (l0 : List (List Int)) (A1 : Option Addr) (c1 : Nat) (l1 : List (List Int)) (r : Bool) (w : World) (hr0 : Kd.C (Kd.slice 3 (Kd.int .i64)) w A0 l0.length l0) (hc0 : l0.length ≤ c0) (hr1 : Kd.C (Kd.slice 3 (Kd.int .i64)) w A1 l1.length l1) (hc1 : l1.length ≤ c1) (h : laws_eqIntSS.f k l0 l1 = some r) :
  Calls Tryz.prog 45 #[.slice A0 l0.length c0, .slice A1 l1.length c1] w fun e w' => e = .returned (.bool r) ∧ Drawn0 w w' := by
 have HR0 := asT hr0; have HC0 := asT hc0; clear hr0 hc0; have HR1 := asT hr1; have HC1 := asT hc1; clear hr1 hc1; have H := h; unfold laws_eqIntSS.f at H; clear h; by_cases c3 : (l0.length : Int) = (l1.length : Int)
 ·rw [if_pos c3] at H; have c3b0 : ((l0.length : Int) == (l1.length : Int)) = true := eC c3; have c3b1 : ((l0.length : Int) != (l1.length : Int)) = false := eA c3
  have c3b2 : (l0.length == l1.length) = true := by first | simpa using c3 | (simp at c3 ⊢; omega)
  clear c3; have H' := asT H; clear H; go_enter Tryz.func45, Tryz.ntmps45
  go_wp2
  repeat (go_quiet (fail); try go_wp2)
  go_loopg [5] k (fun kq v5 w' => ∃ (x5_1 : Int), v5 = .int .i64 x5_1 ∧ Aside0 (laws_eqIntSS.l0 kq l0 l1 x5_1 = some r) ∧ Aside0 (kq ≤ k) ∧ Drawn0 w w')
  case atStart => exact ⟨(0), rdT, H', ⟨Nat.le_refl _⟩, drT⟩
  case round =>
   clear H'; (try clear c1 p2 c3 c3b0 c3b1 c3b2); obtain ⟨x5_1, rfl, HA, HK1, ⟨m1, rfl⟩⟩ := hrel
   cases gk with
   | zero => exact absurd HA.out (by simp [laws_eqIntSS.l0])
   | succ k1 =>
    have H := HA.out; clear HA
    simp only [laws_eqIntSS.l0] at H
    by_cases c4 : x5_1 < (l0.length : Int)
    ·rw [if_pos c4] at H; have c4b0 := dt c4; clear c4; by_cases c5 : 0 ≤ x5_1
     ·rw [if_pos c5] at H; have c5b0 := dt c5; clear c5; by_cases c6 : x5_1 < (l1.length : Int)
      ·rw [if_pos c6] at H; have c6b0 := dt c6; clear c6; obtain ⟨t480, A7, H⟩ := be H; by_cases c8 : t480 = true
       ·subst c8; rw [if_pos rfl] at H; have H' := asT H; clear H; have p478 : 0 ≤ (x5_1 : Int) := dT asmT; have q478 : x5_1 < (l0.length : Int) := dT asmT; obtain ⟨ad478, A478_0, c478_0, e478, hx478_0, hl478_0, hi478_0⟩ := at_L6 HR0.out x5_1 p478 q478
        cases e478
        have HR478_0 := asT hi478_0; have HC478_0 := asT hl478_0; clear hi478_0 hl478_0; replace p478 := eq_true p478; replace q478 := eq_true q478; have p479 : 0 ≤ (x5_1 : Int) := dT asmT; have q479 : x5_1 < (l1.length : Int) := dT asmT; obtain ⟨ad479, A479_0, c479_0, e479, hx479_0, hl479_0, hi479_0⟩ := at_L6 HR1.out x5_1 p479 q479
        cases e479
        have HR479_0 := asT hi479_0; have HC479_0 := asT hl479_0; clear hi479_0 hl479_0; replace p479 := eq_true p479; replace q479 := eq_true q479
        go_wp2_with (first | (go_at_call 21; (with_reducible refine (laws_eqIntS.calls k1 _ _ (rd_L6 l0 x5_1) _ _ (rd_L6 l1 x5_1) true _ ?side1 ?side2 ?side3 ?side4 A7.out).mono ?_); (case side1 => exact caT HR478_0.out); (case side2 => exact HC478_0.out); (case side3 => exact caT HR479_0.out); (case side4 => exact HC479_0.out); rintro e w' ⟨rfl, ⟨nd, rfl⟩⟩; (try first | exact ⟨rfl, _, World.drewN_drewN _ _ _⟩ | exact ⟨rfl, _, Eq.trans (World.drewN_drewN _ _ _) (congrArg (World.drewN _) (Nat.add_assoc _ _ _))⟩)))
        repeat (go_quiet (first | (go_at_call 21; (with_reducible refine (laws_eqIntS.calls k1 _ _ (rd_L6 l0 x5_1) _ _ (rd_L6 l1 x5_1) true _ ?side1 ?side2 ?side3 ?side4 A7.out).mono ?_); (case side1 => exact caT HR478_0.out); (case side2 => exact HC478_0.out); (case side3 => exact caT HR479_0.out); (case side4 => exact HC479_0.out); rintro e w' ⟨rfl, ⟨nd, rfl⟩⟩; (try first | exact ⟨rfl, _, World.drewN_drewN _ _ _⟩ | exact ⟨rfl, _, Eq.trans (World.drewN_drewN _ _ _) (congrArg (World.drewN _) (Nat.add_assoc _ _ _))⟩))); try go_wp2_with (first | (go_at_call 21; (with_reducible refine (laws_eqIntS.calls k1 _ _ (rd_L6 l0 x5_1) _ _ (rd_L6 l1 x5_1) true _ ?side1 ?side2 ?side3 ?side4 A7.out).mono ?_); (case side1 => exact caT HR478_0.out); (case side2 => exact HC478_0.out); (case side3 => exact caT HR479_0.out); (case side4 => exact HC479_0.out); rintro e w' ⟨rfl, ⟨nd, rfl⟩⟩; (try first | exact ⟨rfl, _, World.drewN_drewN _ _ _⟩ | exact ⟨rfl, _, Eq.trans (World.drewN_drewN _ _ _) (congrArg (World.drewN _) (Nat.add_assoc _ _ _))⟩))))
        go_roundg k1
        case measure => have := HK1.out; omega
        case rel => exact ⟨(wrap64 (x5_1 + 1)), rdT, H', ⟨by have := HK1.out; omega⟩, drT⟩
       ·replace c8 := eE c8; subst c8; rw [if_neg nF] at H; have H1 := H; clear H; have H := H1; clear H1; obtain rfl := oI H; have p478 : 0 ≤ (x5_1 : Int) := dT asmT; have q478 : x5_1 < (l0.length : Int) := dT asmT; obtain ⟨ad478, A478_0, c478_0, e478, hx478_0, hl478_0, hi478_0⟩ := at_L6 HR0.out x5_1 p478 q478
        cases e478
        have HR478_0 := asT hi478_0; have HC478_0 := asT hl478_0; clear hi478_0 hl478_0; replace p478 := eq_true p478; replace q478 := eq_true q478; have p479 : 0 ≤ (x5_1 : Int) := dT asmT; have q479 : x5_1 < (l1.length : Int) := dT asmT; obtain ⟨ad479, A479_0, c479_0, e479, hx479_0, hl479_0, hi479_0⟩ := at_L6 HR1.out x5_1 p479 q479
        cases e479
        have HR479_0 := asT hi479_0; have HC479_0 := asT hl479_0; clear hi479_0 hl479_0; replace p479 := eq_true p479; replace q479 := eq_true q479
        go_wp2_with (first | (go_at_call 21; (with_reducible refine (laws_eqIntS.calls k1 _ _ (rd_L6 l0 x5_1) _ _ (rd_L6 l1 x5_1) false _ ?side1 ?side2 ?side3 ?side4 A7.out).mono ?_); (case side1 => exact caT HR478_0.out); (case side2 => exact HC478_0.out); (case side3 => exact caT HR479_0.out); (case side4 => exact HC479_0.out); rintro e w' ⟨rfl, ⟨nd, rfl⟩⟩; (try first | exact ⟨rfl, _, World.drewN_drewN _ _ _⟩ | exact ⟨rfl, _, Eq.trans (World.drewN_drewN _ _ _) (congrArg (World.drewN _) (Nat.add_assoc _ _ _))⟩)))
        repeat (go_quiet (first | (go_at_call 21; (with_reducible refine (laws_eqIntS.calls k1 _ _ (rd_L6 l0 x5_1) _ _ (rd_L6 l1 x5_1) false _ ?side1 ?side2 ?side3 ?side4 A7.out).mono ?_); (case side1 => exact caT HR478_0.out); (case side2 => exact HC478_0.out); (case side3 => exact caT HR479_0.out); (case side4 => exact HC479_0.out); rintro e w' ⟨rfl, ⟨nd, rfl⟩⟩; (try first | exact ⟨rfl, _, World.drewN_drewN _ _ _⟩ | exact ⟨rfl, _, Eq.trans (World.drewN_drewN _ _ _) (congrArg (World.drewN _) (Nat.add_assoc _ _ _))⟩))); try go_wp2_with (first | (go_at_call 21; (with_reducible refine (laws_eqIntS.calls k1 _ _ (rd_L6 l0 x5_1) _ _ (rd_L6 l1 x5_1) false _ ?side1 ?side2 ?side3 ?side4 A7.out).mono ?_); (case side1 => exact caT HR478_0.out); (case side2 => exact HC478_0.out); (case side3 => exact caT HR479_0.out); (case side4 => exact HC479_0.out); rintro e w' ⟨rfl, ⟨nd, rfl⟩⟩; (try first | exact ⟨rfl, _, World.drewN_drewN _ _ _⟩ | exact ⟨rfl, _, Eq.trans (World.drewN_drewN _ _ _) (congrArg (World.drewN _) (Nat.add_assoc _ _ _))⟩))))
        go_ret; exact ⟨rdT, drT⟩
      ·rw [if_neg c6] at H; exact absurd H (by simp)
     ·rw [if_neg c5] at H; exact absurd H (by simp)
    ·rw [if_neg c4] at H; have c4b0 := df c4; clear c4; obtain rfl := oI H
     go_wp2
     repeat (go_quiet (fail); try go_wp2)
     go_ret; exact ⟨rdT, drT⟩
 ·rw [if_neg c3] at H; have c3b0 : ((l0.length : Int) == (l1.length : Int)) = false := eB c3; have c3b1 : ((l0.length : Int) != (l1.length : Int)) = true := eD c3
  have c3b2 : (l0.length == l1.length) = false := by first | simpa using c3 | (simp at c3 ⊢; omega)
  obtain rfl := oI H; go_enter Tryz.func45, Tryz.ntmps45
  go_wp2
  repeat (go_quiet (fail); try go_wp2)
  go_ret; exact ⟨rdT, drT⟩
def laws_eqTableau.f (k : Nat) (a0_0 : ByteArray) (l0_1 : List ByteArray) (l0_2 : List (S60)) (l0_3 : List (List Int)) (a1_0 : ByteArray) (l1_1 : List ByteArray) (l1_2 : List (S60)) (l1_3 : List (List Int)) : Option (Bool) := if a0_0.toList = a1_0.toList then ((laws_eqStringS.f k l0_1 l1_1).bind fun t483 => (if t483 = true then ((laws_eqCandidateS.f k l0_2 l1_2).bind fun t484 => (if t484 = true then ((laws_eqIntSS.f k l0_3 l1_3).bind fun t485 => (if t485 = true then (some true) else (some false))) else (some false))) else (some false))) else (some false)
theorem laws_eqTableau.mono : ∀ a0 a1 a2 a3 a4 a5 a6 a7 k, LeO (laws_eqTableau.f k a0 a1 a2 a3 a4 a5 a6 a7) (laws_eqTableau.f (k + 1) a0 a1 a2 a3 a4 a5 a6 a7) := by
 intro a0 a1 a2 a3 a4 a5 a6 a7 k; unfold laws_eqTableau.f
 with_reducible repeat' first | exact laws_eqCandidateS.mono _ _ _ | exact laws_eqIntSS.mono _ _ _ | exact laws_eqStringS.mono _ _ _ | exact LeO.refl _ | exact LeO.none _ | refine LeO.ite ?_ ?_ | refine LeO.bind ?_ (fun _ => ?_)
theorem laws_eqTableau.calls (k : Nat) (a0_0 : ByteArray) (A0_1 : Option Addr) (c0_1 : Nat) (l0_1 : List ByteArray) (A0_2 : Option Addr) (c0_2 : Nat) (l0_2 : List (S60)) (A0_3 : Option Addr) (c0_3 : Nat) (l0_3 : List (List Int)) (a1_0 : ByteArray) (A1_1 : Option Addr) (c1_1 : Nat) (l1_1 : List ByteArray) (A1_2 : Option Addr) (c1_2 : Nat) (l1_2 : List (S60)) (A1_3 : Option Addr) (c1_3 : Nat) (l1_3 : List (List Int)) (r : Bool) (w : World) (hr0_1 : Kd.C Kd.string w A0_1 l0_1.length l0_1) (hc0_1 : l0_1.length ≤ c0_1) (hr0_2 : Kd.C k60 w A0_2 l0_2.length l0_2) (hc0_2 : l0_2.length ≤ c0_2) (hr0_3 : Kd.C (Kd.slice 3 (Kd.int .i64)) w A0_3 l0_3.length l0_3) (hc0_3 : l0_3.length ≤ c0_3) (hr1_1 : Kd.C Kd.string w A1_1 l1_1.length l1_1) (hc1_1 : l1_1.length ≤ c1_1) (hr1_2 : Kd.C k60 w A1_2 l1_2.length l1_2) (hc1_2 : l1_2.length ≤ c1_2) (hr1_3 : Kd.C (Kd.slice 3 (Kd.int .i64)) w A1_3 l1_3.length l1_3) (hc1_3 : l1_3.length ≤ c1_3) (h : laws_eqTableau.f k a0_0 l0_1 l0_2 l0_3 a1_0 l1_1 l1_2 l1_3 = some r) :
  Calls Tryz.prog 12 #[.agg #[.string a0_0, .slice A0_1 l0_1.length c0_1, .slice A0_2 l0_2.length c0_2, .slice A0_3 l0_3.length c0_3], .agg #[.string a1_0, .slice A1_1 l1_1.length c1_1, .slice A1_2 l1_2.length c1_2, .slice A1_3 l1_3.length c1_3]] w fun e w' => e = .returned (.bool r) ∧ Below w.heap.size w w' := by
 have hu27 := Tryz.underlying27; have HR0_1 := asT hr0_1; have HC0_1 := asT hc0_1; clear hr0_1 hc0_1; have HR0_2 := asT hr0_2; have HC0_2 := asT hc0_2; clear hr0_2 hc0_2; have HR0_3 := asT hr0_3; have HC0_3 := asT hc0_3; clear hr0_3 hc0_3; have HR1_1 := asT hr1_1; have HC1_1 := asT hc1_1; clear hr1_1 hc1_1; have HR1_2 := asT hr1_2; have HC1_2 := asT hc1_2; clear hr1_2 hc1_2; have HR1_3 := asT hr1_3; have HC1_3 := asT hc1_3; clear hr1_3 hc1_3; have HB := asT (Below.refl w.heap.size w); have H := h; unfold laws_eqTableau.f at H; clear h; by_cases c3 : a0_0.toList = a1_0.toList
 ·rw [if_pos c3] at H; have c3b0 : (a0_0.toList == a1_0.toList) = true := eC c3; have c3b1 : (a0_0.toList != a1_0.toList) = false := eA c3; clear c3; obtain ⟨t483, A4, H⟩ := be H; by_cases c5 : t483 = true
  ·subst c5; rw [if_pos rfl] at H; obtain ⟨t484, A6, H⟩ := be H; by_cases c7 : t484 = true
   ·subst c7; rw [if_pos rfl] at H; obtain ⟨t485, A8, H⟩ := be H; by_cases c9 : t485 = true
    ·subst c9; rw [if_pos rfl] at H; have H1 := H; clear H; have H := H1; clear H1; obtain rfl := oI H; go_enter Tryz.func12, Tryz.ntmps12
     go_wp2_with (first | ((with_reducible refine gate_dst (N := 2) rfl ?_); refine boxT (N := 2) (cs := #[.string a0_0, .slice A0_1 l0_1.length c0_1, .slice A0_2 l0_2.length c0_2, .slice A0_3 l0_3.length c0_3]) (t := 27) ?_; intro gb481 hg w10 hbox hb; have BK481 := asT hbox; have GW481 := asT (geT hg HB.out); have GE481 := GW481; replace HB := hS HB hb; clear hb hbox hg) | ((with_reducible refine gate_dst (N := 3) rfl ?_); refine boxT (N := 3) (cs := #[.string a1_0, .slice A1_1 l1_1.length c1_1, .slice A1_2 l1_2.length c1_2, .slice A1_3 l1_3.length c1_3]) (t := 27) ?_; intro gb482 hg w11 hbox hb; have BK482 := asT (hbox); have GW482 := asT (geT hg HB.out); have GE482 := asT (geT hg HB.out); replace HB := hS HB hb; have NB481_482 := asT ((by rw [hg]; exact Nat.ne_of_lt (blk_lt (bkT BK481.out)) : gb481 ≠ gb482)); have NB482_481 := asT ((by rw [hg]; exact Nat.ne_of_gt (blk_lt (bkT BK481.out)) : gb482 ≠ gb481)); replace BK481 := bS BK481 hb; clear hb hbox hg; have hnb12 := NB481_482.out; have hnc12 := NB482_481.out; obtain ⟨hcz13_0, hcz13_1, hcz13_2, hcz13_3, hfz13_0, hfz13_1, hfz13_2, hfz13_3⟩ := bx4 BK481.out; obtain ⟨hcz14_0, hcz14_1, hcz14_2, hcz14_3, hfz14_0, hfz14_1, hfz14_2, hfz14_3⟩ := bx4 BK482.out) | ((with_reducible refine gate_callee (f := 13) rfl ?_); refine goesL_ (some 14) rfl rfl Tryz.func13 (by kernel_rfl) rfl #[.slice A0_1 l0_1.length c0_1, .slice A1_1 l1_1.length c1_1] rfl eqT ?_; (with_reducible refine (laws_eqStringS.calls k _ _ l0_1 _ _ l1_1 true _ ?side1 ?side2 ?side3 ?side4 A4.out).mono ?_); (case side1 => exact crT HR0_1.out HB.out); (case side2 => exact HC0_1.out); (case side3 => exact crT HR1_1.out HB.out); (case side4 => exact HC1_1.out); rintro e w' ⟨rfl, ⟨nd, rfl⟩⟩; refine ⟨_, rfl, ?_⟩) | ((with_reducible refine gate_callee (f := 44) rfl ?_); refine goesL_ (some 20) rfl rfl Tryz.func44 (by kernel_rfl) rfl #[.slice A0_2 l0_2.length c0_2, .slice A1_2 l1_2.length c1_2] rfl eqT ?_; (with_reducible refine (laws_eqCandidateS.calls k _ _ l0_2 _ _ l1_2 true _ ?side1 ?side2 ?side3 ?side4 A6.out).mono ?_); (case side1 => exact crT HR0_2.out (hbT HB.out)); (case side2 => exact HC0_2.out); (case side3 => exact crT HR1_2.out (hbT HB.out)); (case side4 => exact HC1_2.out); rintro e w15 ⟨rfl, hb⟩; refine ⟨_, rfl, ?_⟩; replace BK481 := bS BK481 hb; replace BK482 := bS BK482 hb; replace HB := hS HB hb; (try clear hb hb2 hk hi); obtain ⟨hcz16_0, hcz16_1, hcz16_2, hcz16_3, hfz16_0, hfz16_1, hfz16_2, hfz16_3⟩ := bx4 BK481.out; obtain ⟨hcz17_0, hcz17_1, hcz17_2, hcz17_3, hfz17_0, hfz17_1, hfz17_2, hfz17_3⟩ := bx4 BK482.out) | ((with_reducible refine gate_callee (f := 45) rfl ?_); refine goesL_ (some 26) rfl rfl Tryz.func45 (by kernel_rfl) rfl #[.slice A0_3 l0_3.length c0_3, .slice A1_3 l1_3.length c1_3] rfl eqT ?_; (with_reducible refine (laws_eqIntSS.calls k _ _ l0_3 _ _ l1_3 true _ ?side1 ?side2 ?side3 ?side4 A8.out).mono ?_); (case side1 => exact crT HR0_3.out HB.out); (case side2 => exact HC0_3.out); (case side3 => exact crT HR1_3.out HB.out); (case side4 => exact HC1_3.out); rintro e w' ⟨rfl, ⟨nd, rfl⟩⟩; refine ⟨_, rfl, ?_⟩))
     go_ret; exact ⟨rlT, hbT HB.out⟩
    ·replace c9 := eE c9; subst c9; rw [if_neg nF] at H; have H1 := H; clear H; have H := H1; clear H1; obtain rfl := oI H; go_enter Tryz.func12, Tryz.ntmps12
     go_wp2_with (first | ((with_reducible refine gate_dst (N := 2) rfl ?_); refine boxT (N := 2) (cs := #[.string a0_0, .slice A0_1 l0_1.length c0_1, .slice A0_2 l0_2.length c0_2, .slice A0_3 l0_3.length c0_3]) (t := 27) ?_; intro gb481 hg w18 hbox hb; have BK481 := asT hbox; have GW481 := asT (geT hg HB.out); have GE481 := GW481; replace HB := hS HB hb; clear hb hbox hg) | ((with_reducible refine gate_dst (N := 3) rfl ?_); refine boxT (N := 3) (cs := #[.string a1_0, .slice A1_1 l1_1.length c1_1, .slice A1_2 l1_2.length c1_2, .slice A1_3 l1_3.length c1_3]) (t := 27) ?_; intro gb482 hg w19 hbox hb; have BK482 := asT (hbox); have GW482 := asT (geT hg HB.out); have GE482 := asT (geT hg HB.out); replace HB := hS HB hb; have NB481_482 := asT ((by rw [hg]; exact Nat.ne_of_lt (blk_lt (bkT BK481.out)) : gb481 ≠ gb482)); have NB482_481 := asT ((by rw [hg]; exact Nat.ne_of_gt (blk_lt (bkT BK481.out)) : gb482 ≠ gb481)); replace BK481 := bS BK481 hb; clear hb hbox hg; have hnb20 := NB481_482.out; have hnc20 := NB482_481.out; obtain ⟨hcz21_0, hcz21_1, hcz21_2, hcz21_3, hfz21_0, hfz21_1, hfz21_2, hfz21_3⟩ := bx4 BK481.out; obtain ⟨hcz22_0, hcz22_1, hcz22_2, hcz22_3, hfz22_0, hfz22_1, hfz22_2, hfz22_3⟩ := bx4 BK482.out) | ((with_reducible refine gate_callee (f := 13) rfl ?_); refine goesL_ (some 14) rfl rfl Tryz.func13 (by kernel_rfl) rfl #[.slice A0_1 l0_1.length c0_1, .slice A1_1 l1_1.length c1_1] rfl eqT ?_; (with_reducible refine (laws_eqStringS.calls k _ _ l0_1 _ _ l1_1 true _ ?side1 ?side2 ?side3 ?side4 A4.out).mono ?_); (case side1 => exact crT HR0_1.out HB.out); (case side2 => exact HC0_1.out); (case side3 => exact crT HR1_1.out HB.out); (case side4 => exact HC1_1.out); rintro e w' ⟨rfl, ⟨nd, rfl⟩⟩; refine ⟨_, rfl, ?_⟩) | ((with_reducible refine gate_callee (f := 44) rfl ?_); refine goesL_ (some 20) rfl rfl Tryz.func44 (by kernel_rfl) rfl #[.slice A0_2 l0_2.length c0_2, .slice A1_2 l1_2.length c1_2] rfl eqT ?_; (with_reducible refine (laws_eqCandidateS.calls k _ _ l0_2 _ _ l1_2 true _ ?side1 ?side2 ?side3 ?side4 A6.out).mono ?_); (case side1 => exact crT HR0_2.out (hbT HB.out)); (case side2 => exact HC0_2.out); (case side3 => exact crT HR1_2.out (hbT HB.out)); (case side4 => exact HC1_2.out); rintro e w23 ⟨rfl, hb⟩; refine ⟨_, rfl, ?_⟩; replace BK481 := bS BK481 hb; replace BK482 := bS BK482 hb; replace HB := hS HB hb; (try clear hb hb2 hk hi); obtain ⟨hcz24_0, hcz24_1, hcz24_2, hcz24_3, hfz24_0, hfz24_1, hfz24_2, hfz24_3⟩ := bx4 BK481.out; obtain ⟨hcz25_0, hcz25_1, hcz25_2, hcz25_3, hfz25_0, hfz25_1, hfz25_2, hfz25_3⟩ := bx4 BK482.out) | ((with_reducible refine gate_callee (f := 45) rfl ?_); refine goesL_ (some 26) rfl rfl Tryz.func45 (by kernel_rfl) rfl #[.slice A0_3 l0_3.length c0_3, .slice A1_3 l1_3.length c1_3] rfl eqT ?_; (with_reducible refine (laws_eqIntSS.calls k _ _ l0_3 _ _ l1_3 false _ ?side1 ?side2 ?side3 ?side4 A8.out).mono ?_); (case side1 => exact crT HR0_3.out HB.out); (case side2 => exact HC0_3.out); (case side3 => exact crT HR1_3.out HB.out); (case side4 => exact HC1_3.out); rintro e w' ⟨rfl, ⟨nd, rfl⟩⟩; refine ⟨_, rfl, ?_⟩))
     go_ret; exact ⟨rlT, hbT HB.out⟩
   ·replace c7 := eE c7; subst c7; rw [if_neg nF] at H; have H1 := H; clear H; have H := H1; clear H1; obtain rfl := oI H; go_enter Tryz.func12, Tryz.ntmps12
    go_wp2_with (first | ((with_reducible refine gate_dst (N := 2) rfl ?_); refine boxT (N := 2) (cs := #[.string a0_0, .slice A0_1 l0_1.length c0_1, .slice A0_2 l0_2.length c0_2, .slice A0_3 l0_3.length c0_3]) (t := 27) ?_; intro gb481 hg w26 hbox hb; have BK481 := asT hbox; have GW481 := asT (geT hg HB.out); have GE481 := GW481; replace HB := hS HB hb; clear hb hbox hg) | ((with_reducible refine gate_dst (N := 3) rfl ?_); refine boxT (N := 3) (cs := #[.string a1_0, .slice A1_1 l1_1.length c1_1, .slice A1_2 l1_2.length c1_2, .slice A1_3 l1_3.length c1_3]) (t := 27) ?_; intro gb482 hg w27 hbox hb; have BK482 := asT (hbox); have GW482 := asT (geT hg HB.out); have GE482 := asT (geT hg HB.out); replace HB := hS HB hb; have NB481_482 := asT ((by rw [hg]; exact Nat.ne_of_lt (blk_lt (bkT BK481.out)) : gb481 ≠ gb482)); have NB482_481 := asT ((by rw [hg]; exact Nat.ne_of_gt (blk_lt (bkT BK481.out)) : gb482 ≠ gb481)); replace BK481 := bS BK481 hb; clear hb hbox hg; have hnb28 := NB481_482.out; have hnc28 := NB482_481.out; obtain ⟨hcz29_0, hcz29_1, hcz29_2, hcz29_3, hfz29_0, hfz29_1, hfz29_2, hfz29_3⟩ := bx4 BK481.out; obtain ⟨hcz30_0, hcz30_1, hcz30_2, hcz30_3, hfz30_0, hfz30_1, hfz30_2, hfz30_3⟩ := bx4 BK482.out) | ((with_reducible refine gate_callee (f := 13) rfl ?_); refine goesL_ (some 14) rfl rfl Tryz.func13 (by kernel_rfl) rfl #[.slice A0_1 l0_1.length c0_1, .slice A1_1 l1_1.length c1_1] rfl eqT ?_; (with_reducible refine (laws_eqStringS.calls k _ _ l0_1 _ _ l1_1 true _ ?side1 ?side2 ?side3 ?side4 A4.out).mono ?_); (case side1 => exact crT HR0_1.out HB.out); (case side2 => exact HC0_1.out); (case side3 => exact crT HR1_1.out HB.out); (case side4 => exact HC1_1.out); rintro e w' ⟨rfl, ⟨nd, rfl⟩⟩; refine ⟨_, rfl, ?_⟩) | ((with_reducible refine gate_callee (f := 44) rfl ?_); refine goesL_ (some 20) rfl rfl Tryz.func44 (by kernel_rfl) rfl #[.slice A0_2 l0_2.length c0_2, .slice A1_2 l1_2.length c1_2] rfl eqT ?_; (with_reducible refine (laws_eqCandidateS.calls k _ _ l0_2 _ _ l1_2 false _ ?side1 ?side2 ?side3 ?side4 A6.out).mono ?_); (case side1 => exact crT HR0_2.out (hbT HB.out)); (case side2 => exact HC0_2.out); (case side3 => exact crT HR1_2.out (hbT HB.out)); (case side4 => exact HC1_2.out); rintro e w31 ⟨rfl, hb⟩; refine ⟨_, rfl, ?_⟩; replace BK481 := bS BK481 hb; replace BK482 := bS BK482 hb; replace HB := hS HB hb; (try clear hb hb2 hk hi)))
    go_ret; exact ⟨rlT, hbT HB.out⟩
  ·replace c5 := eE c5; subst c5; rw [if_neg nF] at H; have H1 := H; clear H; have H := H1; clear H1; obtain rfl := oI H; go_enter Tryz.func12, Tryz.ntmps12
   go_wp2_with (first | ((with_reducible refine gate_dst (N := 2) rfl ?_); refine boxT (N := 2) (cs := #[.string a0_0, .slice A0_1 l0_1.length c0_1, .slice A0_2 l0_2.length c0_2, .slice A0_3 l0_3.length c0_3]) (t := 27) ?_; intro gb481 hg w32 hbox hb; have BK481 := asT hbox; have GW481 := asT (geT hg HB.out); have GE481 := GW481; replace HB := hS HB hb; clear hb hbox hg) | ((with_reducible refine gate_dst (N := 3) rfl ?_); refine boxT (N := 3) (cs := #[.string a1_0, .slice A1_1 l1_1.length c1_1, .slice A1_2 l1_2.length c1_2, .slice A1_3 l1_3.length c1_3]) (t := 27) ?_; intro gb482 hg w33 hbox hb; have BK482 := asT (hbox); have GW482 := asT (geT hg HB.out); have GE482 := asT (geT hg HB.out); replace HB := hS HB hb; have NB481_482 := asT ((by rw [hg]; exact Nat.ne_of_lt (blk_lt (bkT BK481.out)) : gb481 ≠ gb482)); have NB482_481 := asT ((by rw [hg]; exact Nat.ne_of_gt (blk_lt (bkT BK481.out)) : gb482 ≠ gb481)); replace BK481 := bS BK481 hb; clear hb hbox hg; have hnb34 := NB481_482.out; have hnc34 := NB482_481.out; obtain ⟨hcz35_0, hcz35_1, hcz35_2, hcz35_3, hfz35_0, hfz35_1, hfz35_2, hfz35_3⟩ := bx4 BK481.out; obtain ⟨hcz36_0, hcz36_1, hcz36_2, hcz36_3, hfz36_0, hfz36_1, hfz36_2, hfz36_3⟩ := bx4 BK482.out) | ((with_reducible refine gate_callee (f := 13) rfl ?_); refine goesL_ (some 14) rfl rfl Tryz.func13 (by kernel_rfl) rfl #[.slice A0_1 l0_1.length c0_1, .slice A1_1 l1_1.length c1_1] rfl eqT ?_; (with_reducible refine (laws_eqStringS.calls k _ _ l0_1 _ _ l1_1 false _ ?side1 ?side2 ?side3 ?side4 A4.out).mono ?_); (case side1 => exact crT HR0_1.out HB.out); (case side2 => exact HC0_1.out); (case side3 => exact crT HR1_1.out HB.out); (case side4 => exact HC1_1.out); rintro e w' ⟨rfl, ⟨nd, rfl⟩⟩; refine ⟨_, rfl, ?_⟩))
   go_ret; exact ⟨rlT, hbT HB.out⟩
 ·rw [if_neg c3] at H; have c3b0 : (a0_0.toList == a1_0.toList) = false := eB c3; have c3b1 : (a0_0.toList != a1_0.toList) = true := eD c3; obtain rfl := oI H; go_enter Tryz.func12, Tryz.ntmps12
  go_wp2_with (first | ((with_reducible refine gate_dst (N := 2) rfl ?_); refine boxT (N := 2) (cs := #[.string a0_0, .slice A0_1 l0_1.length c0_1, .slice A0_2 l0_2.length c0_2, .slice A0_3 l0_3.length c0_3]) (t := 27) ?_; intro gb481 hg w37 hbox hb; have BK481 := asT hbox; have GW481 := asT (geT hg HB.out); have GE481 := GW481; replace HB := hS HB hb; clear hb hbox hg) | ((with_reducible refine gate_dst (N := 3) rfl ?_); refine boxT (N := 3) (cs := #[.string a1_0, .slice A1_1 l1_1.length c1_1, .slice A1_2 l1_2.length c1_2, .slice A1_3 l1_3.length c1_3]) (t := 27) ?_; intro gb482 hg w38 hbox hb; have BK482 := asT (hbox); have GW482 := asT (geT hg HB.out); have GE482 := asT (geT hg HB.out); replace HB := hS HB hb; have NB481_482 := asT ((by rw [hg]; exact Nat.ne_of_lt (blk_lt (bkT BK481.out)) : gb481 ≠ gb482)); have NB482_481 := asT ((by rw [hg]; exact Nat.ne_of_gt (blk_lt (bkT BK481.out)) : gb482 ≠ gb481)); replace BK481 := bS BK481 hb; clear hb hbox hg; have hnb39 := NB481_482.out; have hnc39 := NB482_481.out; obtain ⟨hcz40_0, hcz40_1, hcz40_2, hcz40_3, hfz40_0, hfz40_1, hfz40_2, hfz40_3⟩ := bx4 BK481.out; obtain ⟨hcz41_0, hcz41_1, hcz41_2, hcz41_3, hfz41_0, hfz41_1, hfz41_2, hfz41_3⟩ := bx4 BK482.out))
  go_ret; exact ⟨rlT, hbT HB.out⟩
def laws_markText.l0 : Nat → Int → ByteArray → Option (ByteArray)
 | 0, _, _ => none
 | k + 1, x0, x3 => if x0 > 0 then ((some (([(wrap64 (48 + (Int.tmod x0 10))) % 256] : List Int) : List Int)).bind fun y486 => (if (strOfNums y486).size + x3.size ≤ 9223372036854775807 then (laws_markText.l0 k (wrap64 (Int.tdiv x0 10)) ((strOfNums y486) ++ x3)) else (none))) else (if 1 + x3.size ≤ 9223372036854775807 then (some ((⟨#[109]⟩ : ByteArray) ++ x3)) else (none))
def laws_markText.f (k : Nat) (a0 : Int) : Option (ByteArray) := if a0 ≤ 0 then (some (⟨#[109, 48]⟩ : ByteArray)) else (laws_markText.l0 k a0 (⟨#[]⟩ : ByteArray))
theorem laws_markText.mono_l : ∀ k, (∀ y0 y1, LeO (laws_markText.l0 k y0 y1) (laws_markText.l0 (k + 1) y0 y1))
 | 0 => fun _ _ r h => by simp [laws_markText.l0] at h
 | k + 1 => by
  have ih0 := laws_markText.mono_l k
  ·intro y0 y1; unfold laws_markText.l0
   with_reducible repeat' first | exact ih0 _ _ | exact LeO.refl _ | exact LeO.none _ | refine LeO.ite ?_ ?_ | refine LeO.bind ?_ (fun _ => ?_)
theorem laws_markText.mono : ∀ a0 k, LeO (laws_markText.f k a0) (laws_markText.f (k + 1) a0) := by
 intro a0 k; have ih0 := laws_markText.mono_l k; unfold laws_markText.f
 with_reducible repeat' first | exact ih0 _ _ | exact LeO.refl _ | exact LeO.none _ | refine LeO.ite ?_ ?_ | refine LeO.bind ?_ (fun _ => ?_)
theorem laws_markText.calls (k : Nat) (a0 : Int) (r : ByteArray) (w : World) (h : laws_markText.f k a0 = some r) :
  Calls Tryz.prog 46 #[.int .i64 a0] w fun e w' => e = .returned (.string r) ∧ Below w.heap.size w w' := by
 have HB := asT (Below.refl w.heap.size w); have H := h; unfold laws_markText.f at H; clear h; by_cases c2 : a0 ≤ 0
 ·rw [if_pos c2] at H; have c2b0 := dt c2; clear c2; obtain rfl := oI H; go_enter Tryz.func46, Tryz.ntmps46
  go_wp2
  go_ret; exact ⟨rlT, hbT HB.out⟩
 ·rw [if_neg c2] at H; have c2b0 := df c2; clear c2; have H' := asT H; clear H; go_enter Tryz.func46, Tryz.ntmps46
  go_wp2
  go_loopg [0, 3] k (fun kq v0 v3 w' => ∃ (x0_1 : Int) (x3_1 : ByteArray), v0 = .int .i64 x0_1 ∧ v3 = .string x3_1 ∧ Aside0 (laws_markText.l0 kq x0_1 x3_1 = some r) ∧ Aside0 (kq ≤ k) ∧ Aside0 (Below w.heap.size w w'))
  case atStart => exact ⟨(a0), ((⟨#[]⟩ : ByteArray)), rdT, rdT, H', ⟨Nat.le_refl _⟩, ⟨hbT HB.out⟩⟩
  case round =>
   clear H'; (try clear c2 c2b0 p2); obtain ⟨x0_1, x3_1, rfl, rfl, HA, HK1, HB⟩ := hrel
   cases gk with
   | zero => exact absurd HA.out (by simp [laws_markText.l0])
   | succ k1 =>
    have H := HA.out; clear HA
    simp only [laws_markText.l0] at H
    by_cases c3 : x0_1 > 0
    ·rw [if_pos c3] at H; have c3b0 : decide (0 < x0_1) = true := dt c3; clear c3; obtain ⟨y486, hy486⟩ : ∃ y_ : List Int, y_ = (([(wrap64 (48 + (Int.tmod x0_1 10))) % 256] : List Int)) := ⟨_, rfl⟩
     replace H : (if (strOfNums y486).size + x3_1.size ≤ 9223372036854775807 then (laws_markText.l0 k1 (wrap64 (Int.tdiv x0_1 10)) ((strOfNums y486) ++ x3_1)) else (none)) = some r := by first | (rw [hy486]; with_reducible exact H) | (have H2_ := (Option.bind_some _ _).symm.trans H; rw [hy486]; with_reducible exact H2_) | (have H2_ := (Option.bind_some _ _).symm.trans H; with_reducible exact H2_) | with_reducible exact H | (rw [hy486]; exact H) | exact H
     have Ny486 := asT hy486; clear hy486; by_cases c4 : (strOfNums y486).size + x3_1.size ≤ 9223372036854775807
     ·rw [if_pos c4] at H; have c4b0 := eq_true c4; have c4b1 : decide ((strOfNums y486).size + x3_1.size ≤ 9223372036854775807) = true := dt c4
      try have c4b2 : (9223372036854775807 < (strOfNums y486).size + x3_1.size) = False := eq_false (Nat.not_lt.2 c4)
      have H' := asT H; clear H
      go_wp2_with (first | ((with_reducible refine gate_dst (N := 12) rfl ?_); refine Kd.R_lit (Kd.int .u8) _ 5 ?hg (N := 12) ?hd (xs := ([(wrap64 (48 + (Int.tmod x0_1 10))) % 256] : List Int)) (inner := [.int .u8 ((wrap64 (48 + (Int.tmod x0_1 10))) % 256)]) (ok := fun _ => True) (okp := fun _ => True) ?hr ?hp (fun _ hk => hk) trivial (Below.refl _ _) (Nat.le_refl _) (by simp) ?_; (case hd => rfl); (case hg => rfl); (case hr => first | (go_simp; done) | (go_simp; rfl)); (case hp => exact (Reps.one (show Kd.M (Kd.int .u8) _ _ _ ((wrap64 (48 + (Int.tmod x0_1 10))) % 256) [.int .u8 ((wrap64 (48 + (Int.tmod x0_1 10))) % 256)] from rfl) (Reps.none _ _))); intro v487 w5 ho6 hb hg_ hnew_; clear hg_ hnew_; (first | rw [← Ny486.out] at ho6 | (simp only [Int.reduceToNat] at ho6; rw [← Ny486.out] at ho6)); have HO488 := asT (Kd.R_lower ho6 (below_size (hbT HB.out))); replace HB := hS HB hb; clear hb ho6; have hcv7 := own_string (P := Tryz.prog) Tryz.underlying91 Tryz.underlying5 Tryz.underlying9 (Kd.own_of_R HO488.out)))
      go_roundg k1
      case measure => have := HK1.out; omega
      case rel => exact ⟨(wrap64 (Int.tdiv x0_1 10)), ((strOfNums y486) ++ x3_1), rdT, rdT, H', ⟨by have := HK1.out; omega⟩, ⟨hbT HB.out⟩⟩
     ·rw [if_neg c4] at H; exact absurd H (by simp)
    ·rw [if_neg c3] at H; have c3b0 : decide (0 < x0_1) = false := df c3; clear c3; by_cases c8 : 1 + x3_1.size ≤ 9223372036854775807
     ·rw [if_pos c8] at H; have c8b0 := eq_true c8; have c8b1 : decide (1 + x3_1.size ≤ 9223372036854775807) = true := dt c8
      try have c8b2 : (9223372036854775807 < 1 + x3_1.size) = False := eq_false (Nat.not_lt.2 c8)
      obtain rfl := oI H
      go_wp2
      go_ret; exact ⟨rlT, hbT HB.out⟩
     ·rw [if_neg c8] at H; exact absurd H (by simp)
def laws_markStringS.l0 : Nat → List ByteArray → Int → Int → Option (Int × List ByteArray)
 | 0, _, _, _ => none
 | k + 1, x0, x1, x5 => if x5 < (x0.length : Int) then ((laws_markText.f k x1).bind fun t489 => (if 0 ≤ x5 then (laws_markStringS.l0 k (x0.set (x5 : Int).toNat t489) (wrap64 (x1 + 1)) (wrap64 (x5 + 1))) else (none))) else (some (x1, x0))
def laws_markStringS.f (k : Nat) (l0 : List ByteArray) (a1 : Int) : Option (Int × List ByteArray) := laws_markStringS.l0 k l0 a1 0
theorem laws_markStringS.mono_l : ∀ k, (∀ y0 y1 y2, LeO (laws_markStringS.l0 k y0 y1 y2) (laws_markStringS.l0 (k + 1) y0 y1 y2))
 | 0 => fun _ _ _ r h => by simp [laws_markStringS.l0] at h
 | k + 1 => by
  have ih0 := laws_markStringS.mono_l k
  ·intro y0 y1 y2; unfold laws_markStringS.l0
   with_reducible repeat' first | exact ih0 _ _ _ | exact laws_markText.mono _ _ | exact LeO.refl _ | exact LeO.none _ | refine LeO.ite ?_ ?_ | refine LeO.bind ?_ (fun _ => ?_)
theorem laws_markStringS.mono : ∀ a0 a1 k, LeO (laws_markStringS.f k a0 a1) (laws_markStringS.f (k + 1) a0 a1) := by
 intro a0 a1 k; have ih0 := laws_markStringS.mono_l k; unfold laws_markStringS.f
 with_reducible repeat' first | exact ih0 _ _ _ | exact laws_markText.mono _ _ | exact LeO.refl _ | exact LeO.none _ | refine LeO.ite ?_ ?_ | refine LeO.bind ?_ (fun _ => ?_)
theorem laws_markStringS.calls (k : Nat) (P0_ : Nat → Prop) (u9000_ : Value) (l0 : List ByteArray) (a1 : Int) (r1 : Int) (r2 : List ByteArray) (w0 w : World) (hB : Below w0.heap.size w0 w) (ho0 : Kd.R Kd.string 9 w w0.heap.size P0_ u9000_ l0) (h : laws_markStringS.f k l0 a1 = some (r1, r2)) :
  Calls Tryz.prog 14 #[u9000_, .int .i64 a1] w fun e w' => e = .returned (.int .i64 r1) ∧ Kd.R Kd.string 9 w' w0.heap.size (fun k_ => (P0_ k_ ∨ w.heap.size ≤ k_)) u9000_ r2 ∧ Below w0.heap.size w0 w' ∧ Kept w w' (fun k_ => P0_ k_) := by
 have HO0 := asT (show Kd.R Kd.string 9 w w0.heap.size (fun k_ => (P0_ k_ ∨ w.heap.size ≤ k_)) u9000_ l0 from Kd.R_mono ho0 (fun k_ hk => (.inl hk))); have HK := asT (Kept.refl w (fun k_ => P0_ k_)); have HW0 := asT hB.size; have HB := asT hB; clear hB; have H := h; unfold laws_markStringS.f at H; clear h; have H' := asT H; clear H; go_enter Tryz.func14, Tryz.ntmps14
 go_wp2
 go_loopg [1, 5] k (fun kq v1 v5 w' => ∃ (x0_1 : List ByteArray) (x1_1 : Int) (x5_1 : Int), v1 = .int .i64 x1_1 ∧ v5 = .int .i64 x5_1 ∧ Aside0 (laws_markStringS.l0 kq x0_1 x1_1 x5_1 = some (r1, r2)) ∧ Aside0 (kq ≤ k) ∧ Aside0 (Kd.R Kd.string 9 w' w0.heap.size (fun k_ => (P0_ k_ ∨ w.heap.size ≤ k_)) u9000_ x0_1) ∧ Aside0 (Kept w w' (fun k_ => P0_ k_)) ∧ Aside0 (Below w0.heap.size w0 w'))
 case atStart => exact ⟨(l0), (a1), (0), rdT, rdT, H', ⟨Nat.le_refl _⟩, ⟨roT HO0.out⟩, ⟨by repeat (first | (with_reducible first | exact HK.out | apply Kept.alloc | apply Kept.drewN | apply Kept.drew) | exact HK.out)⟩, ⟨hbT HB.out⟩⟩
 case round =>
  clear H'; (try clear c1 p2); obtain ⟨x0_1, x1_1, x5_1, rfl, rfl, HA, HK1, HO_0, HK, HB⟩ := hrel
  cases gk with
  | zero => exact absurd HA.out (by simp [laws_markStringS.l0])
  | succ k1 =>
   have H := HA.out; clear HA
   simp only [laws_markStringS.l0] at H
   by_cases c3 : x5_1 < (x0_1.length : Int)
   ·rw [if_pos c3] at H; have c3b0 := dt c3; clear c3; obtain ⟨t489, A4, H⟩ := be H; by_cases c5 : 0 ≤ x5_1
    ·rw [if_pos c5] at H; have c5b0 := dt c5; clear c5; obtain ⟨y490, hy490⟩ : ∃ y_ : List ByteArray, y_ = (x0_1.set (x5_1 : Int).toNat t489) := ⟨_, rfl⟩
     replace H : (laws_markStringS.l0 k1 y490 (wrap64 (x1_1 + 1)) (wrap64 (x5_1 + 1))) = some (r1, r2) := by first | (rw [hy490]; with_reducible exact H) | (have H2_ := (Option.bind_some _ _).symm.trans H; rw [hy490]; with_reducible exact H2_) | (have H2_ := (Option.bind_some _ _).symm.trans H; with_reducible exact H2_) | with_reducible exact H | (rw [hy490]; exact H) | exact H
     have Ny490 := asT hy490; clear hy490; have H' := asT H; clear H; obtain ⟨Ao7, co7, eo7⟩ := Kd.R_slice HO_0.out; subst eo7
     go_wp2_with (first | ((with_reducible refine gate_callee (f := 46) rfl ?_); refine goesL_ (some 15) rfl rfl Tryz.func46 (by kernel_rfl) rfl #[.int .i64 x1_1] rfl eqT ?_; (with_reducible refine (laws_markText.calls k1 x1_1 t489 _ A4.out).mono ?_); rintro e w8 ⟨rfl, hb⟩; refine ⟨_, rfl, ?_⟩; replace HO_0 := asT (Kd.R_below (roT HO_0.out) hb); replace HK := asT (Kept.below (S := (fun k_ => P0_ k_)) (by repeat (first | (with_reducible first | exact HK.out | apply Kept.alloc | apply Kept.drewN | apply Kept.drew) | exact HK.out)) hb); replace HB := hS HB hb; (try clear hb hb2 hk hi); have p6 : 0 ≤ (x5_1 : Int) := dT asmT; have q6 : (x5_1 : Int) < ((x0_1.length : Int) : Int) := dT asmT; obtain ⟨go6, co6, eo6, gb6, gl6, cl6, HG6⟩ := Kd.R_form HO_0.out (by omega); (first | cases eo6 | (injection eo6 with ea_ en_ ec_; (first | subst ea_ | (injection ea_ with ea_; subst ea_)); subst ec_; clear en_)); have GB6 := asT gb6; have GG6 := asT HG6; clear gb6 gl6 HG6; have HMgo6 := asT (show (P0_ go6 ∨ w.heap.size ≤ go6) from (HO_0.out.1 _ rfl)); obtain ⟨hx6_0, hf6_0⟩ := Kd.R_celln (⟨#[]⟩ : ByteArray) HO_0.out (x5_1 : Int) p6 q6; replace p6 := eq_true p6; replace q6 := eq_true q6; obtain ⟨hy9_, hz9_⟩ := Kd.R_celln (⟨#[]⟩ : ByteArray) HO_0.out (x5_1 : Int) (dT asmT) (dT asmT); have HP9 := Kd.R_putg HO_0.out (x5_1 : Int) t489) | ((with_reducible refine gate_store (t := 9) (p := 16) rfl ?_); refine store_event (t := 9) (p := 16) (v := ?vo_w10) (w1 := (w8.setCell ⟨go6, (x5_1 : Int).toNat, none⟩ (.string t489))) ?hg ?ho ?hn ?hr ?_; (case ho => rfl); (case hg => rfl); (case hn => rfl); (case hr => first | (go_simp; done) | (go_simp; rfl)); intro w10 hw; have hg : w8.grownBy w10 (some go6) := (by rw [hw]; exact HP9.2); have hp_ : Kd.R Kd.string 9 w10 w0.heap.size (fun k_ => (P0_ k_ ∨ w.heap.size ≤ k_)) (.slice (some ⟨go6, 0, none⟩) x0_1.length co7) y490 := (by rw [hw, Ny490.out]; exact HP9.1); clear HP9; replace HB := asT ((by rw [hw]; exact below_set (HB.out) GB6.out : Below w0.heap.size w0 w10)); replace HK := asT (Kept.of_grown (S := (fun k_ => P0_ k_)) hg (by repeat (first | (with_reducible first | exact HK.out | apply Kept.alloc | apply Kept.drewN | apply Kept.drew) | exact HK.out)) (fun k_ e_ => (HO_0.out.1 k_ e_))); replace HO_0 := asT (hp_); clear hg hw hp_))
     go_roundg k1
     case measure => have := HK1.out; omega
     case rel => exact ⟨(y490), (wrap64 (x1_1 + 1)), (wrap64 (x5_1 + 1)), rdT, rdT, H', ⟨by have := HK1.out; omega⟩, ⟨roT HO_0.out⟩, ⟨by repeat (first | (with_reducible first | exact HK.out | apply Kept.alloc | apply Kept.drewN | apply Kept.drew) | exact HK.out)⟩, ⟨hbT HB.out⟩⟩
    ·rw [if_neg c5] at H; exact absurd H (by simp)
   ·rw [if_neg c3] at H; have c3b0 := df c3; clear c3
    simp only [Option.some.injEq, Prod.mk.injEq] at H
    obtain ⟨rfl, rfl⟩ := H; obtain ⟨Ao11, co11, eo11⟩ := Kd.R_slice HO_0.out; subst eo11
    go_wp2
    go_ret; exact ⟨rlT, roT HO_0.out, hbT HB.out, by repeat (first | (with_reducible first | exact HK.out | apply Kept.alloc | apply Kept.drewN | apply Kept.drew) | exact HK.out)⟩
end Go.Proofs.YtlmfpkiaikjlbaaGreat.PFnExactTableauOf
