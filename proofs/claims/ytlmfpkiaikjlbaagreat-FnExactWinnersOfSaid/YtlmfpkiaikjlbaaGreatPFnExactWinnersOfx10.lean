-- Made by gen.py (a program of this session) out of the translation; Lean checks it.
import Derived.Test.YtlmfpkiaikjlbaaGreatPFnExactWinnersOfx0
import Derived.Test.YtlmfpkiaikjlbaaGreatPFnExactWinnersOfx8
import Derived.Test.YtlmfpkiaikjlbaaGreatPFnExactWinnersOfx9
namespace Go.Proofs.YtlmfpkiaikjlbaaGreat.PFnExactWinnersOf
open Go.RowKit Go.Proofs.YtlmfpkiaikjlbaaGreatB Go.Proofs.YtlmfpkiaikjlbaaGreatW.PrintWords Go.Proofs.YtlmfpkiaikjlbaaGreatW.PrintLast Go.Proofs.YtlmfpkiaikjlbaaGreatW.PrintMore
attribute [local go_sem] max2_int min2_int max_two min_two max_three min_three max_four min_four   -- for this text's walks alone
set_option linter.unusedVariables false
set_option maxHeartbeats 8000000
set_option maxRecDepth 100000
set_option linter.unusedSimpArgs false
def impl_CountDeleted_1.f (a0_0 : Int) (a0_1 : Int) : Option (Bool) := some (a0_1 == 0)
theorem impl_CountDeleted_1.calls (a0_0 : Int) (a0_1 : Int) (r : Bool) (w : World) (h : impl_CountDeleted_1.f a0_0 a0_1 = some r) :
  Calls Tryz.prog 170 #[.agg #[.int .u8 a0_0, .int .u8 a0_1]] w fun e w' => e = .returned (.bool r) ∧ Below w.heap.size w w' := by
 have hu109 := Tryz.underlying109; have HB := asT (Below.refl w.heap.size w); have H := h; unfold impl_CountDeleted_1.f at H; clear h
 obtain rfl := oI H
 go_enter Tryz.func170, Tryz.ntmps170
 go_wp2_with (first | ((with_reducible refine gate_dst (N := 1) rfl ?_); refine boxT (N := 1) (cs := #[.int .u8 a0_0, .int .u8 a0_1]) (t := 109) ?_; intro gb443 hg w2 hbox hb; have BK443 := asT hbox; have GW443 := asT (geT hg HB.out); have GE443 := GW443; replace HB := hS HB hb; clear hb hbox hg; obtain ⟨hcz3_0, hcz3_1, hfz3_0, hfz3_1⟩ := bx2 BK443.out))
 go_ret
 exact ⟨rlT, hbT HB.out⟩
def impl_links_G.l0 (PF : Int → Int → Option (Bool)) : Nat → Int → List (S109) → Int → Int → List (S109) → Option (Int)
 | 0, _, _, _, _, _ => none
 | k + 1, x5, x9, x10, x11, x445000 => if x11 < x10 then (if 0 ≤ x11 then (if x11 < (x9.length : Int) then ((impl_IsCandidate.f k x445000).bind fun t447 => (if t447 = true then ((PF ((rd_T109 x9 x11).f0) ((rd_T109 x9 x11).f1)).bind fun t448 => (if t448 = true then (impl_links_G.l0 PF k (wrap64 (x5 + 1)) x9 x10 (wrap64 (x11 + 1)) x445000) else (impl_links_G.l0 PF k x5 x9 x10 (wrap64 (x11 + 1)) x445000))) else (impl_links_G.l0 PF k x5 x9 x10 (wrap64 (x11 + 1)) x445000))) else (none)) else (none)) else (some x5)
def impl_links_G.f (PF : Int → Int → Option (Bool)) (k : Nat) (l0_0 : List (S109)) (a1 : Unit) : Option (Int) := impl_links_G.l0 PF k 0 l0_0 (l0_0.length : Int) 0 l0_0
theorem impl_links_G.mono_l (PF : Int → Int → Option (Bool)) : ∀ k, (∀ y0 y1 y2 y3 y4, LeO (impl_links_G.l0 PF k y0 y1 y2 y3 y4) (impl_links_G.l0 PF (k + 1) y0 y1 y2 y3 y4))
 | 0 => fun _ _ _ _ _ r h => by simp [impl_links_G.l0] at h
 | k + 1 => by
  have ih0 := impl_links_G.mono_l PF k
  ·intro y0 y1 y2 y3 y4
   unfold impl_links_G.l0
   with_reducible repeat' first | exact ih0 _ _ _ _ _ | exact impl_IsCandidate.mono _ _ | exact LeO.refl _ | exact LeO.none _ | refine LeO.ite ?_ ?_ | refine LeO.bind ?_ (fun _ => ?_)
theorem impl_links_G.mono (PF : Int → Int → Option (Bool)) : ∀ a0 a1 k, LeO (impl_links_G.f PF k a0 a1) (impl_links_G.f PF (k + 1) a0 a1) := by
 intro a0 a1 k
 have ih0 := impl_links_G.mono_l PF k
 unfold impl_links_G.f
 with_reducible repeat' first | exact ih0 _ _ _ _ _ | exact impl_IsCandidate.mono _ _ | exact LeO.refl _ | exact LeO.none _ | refine LeO.ite ?_ ?_ | refine LeO.bind ?_ (fun _ => ?_)
theorem impl_links_G.calls (PF : Int → Int → Option (Bool)) (F : FuncId) (fn : Func) (hfF : Tryz.prog.funcs[F]? = some fn) (hnF : (fn.name == "runtime.NumGoroutine") = false) (hbF : fn.body.isSome = true) (HF : ∀ (a0_0 a0_1 : Int) (r : Bool) (w : World), PF a0_0 a0_1 = some r → Calls Tryz.prog F #[.agg #[.int .u8 a0_0, .int .u8 a0_1]] w fun e w' => e = .returned (.bool r) ∧ Below w.heap.size w w') (k : Nat) (A0_0 : Option Addr) (c0_0 : Nat) (l0_0 : List (S109)) (a1 : Unit) (r : Int) (w : World) (hr0_0 : Kd.C k109 w A0_0 l0_0.length l0_0) (hc0_0 : l0_0.length ≤ c0_0) (h : impl_links_G.f PF k l0_0 a1 = some r) :
  Calls Tryz.prog 169 #[.agg #[.slice A0_0 l0_0.length c0_0], .func (.func F) #[] #[]] w fun e w' => e = .returned (.int .i64 r) ∧ Below w.heap.size w w' := by
 have hu60 := Tryz.underlying60; have hu109 := Tryz.underlying109; have HR0_0 := asT hr0_0; have HC0_0 := asT hc0_0; clear hr0_0 hc0_0; have HB := asT (Below.refl w.heap.size w); have H := h; unfold impl_links_G.f at H; clear h; have H' := asT H; clear H
 go_enter Tryz.func169, Tryz.ntmps169
 go_wp2_with (first | ((with_reducible refine gate_dst (N := 2) rfl ?_); refine boxT (N := 2) (cs := #[.slice A0_0 l0_0.length c0_0]) (t := 60) ?_; intro gb444 hg w3 hbox hb; have BK444 := asT hbox; have GW444 := asT (geT hg HB.out); have GE444 := GW444; replace HB := hS HB hb; clear hb hbox hg; obtain ⟨hcz4_0, hfz4_0⟩ := bx1 BK444.out))
 go_loopg [5, 11] k (fun kq v5 v11 w' => ∃ (x5_1 : Int) (x11_1 : Int), v5 = .int .i64 x5_1 ∧ v11 = .int .i64 x11_1 ∧ Aside0 (impl_links_G.l0 PF kq x5_1 l0_0 (l0_0.length : Int) x11_1 l0_0 = some r) ∧ Aside0 (kq ≤ k) ∧ Aside0 (w'.heap[gb444]? = some (.cells #[(.slice A0_0 l0_0.length c0_0)] 60 (0, 0))) ∧ Aside0 (Below w.heap.size w w'))
 case atStart => exact ⟨(0), (0), rdT, rdT, H', ⟨Nat.le_refl _⟩, kpT BK444.out, ⟨hbT HB.out⟩⟩
 case round =>
  clear H'; (try clear c1 p2 hcz4_0 hfz4_0); obtain ⟨x5_1, x11_1, rfl, rfl, HA, HK1, BK444, HB⟩ := hrel
  cases gk with
  | zero => exact absurd HA.out (by simp [impl_links_G.l0])
  | succ k1 =>
   have H := HA.out; clear HA
   simp only [impl_links_G.l0] at H
   by_cases c5 : x11_1 < (l0_0.length : Int)
   ·rw [if_pos c5] at H
    have c5b0 : decide (x11_1 < (l0_0.length : Int)) = true := dt c5
    clear c5
    by_cases c6 : 0 ≤ x11_1
    ·rw [if_pos c6] at H
     have c6b0 : decide (0 ≤ x11_1) = true := dt c6
     clear c6
     by_cases c7 : x11_1 < (l0_0.length : Int)
     ·rw [if_pos c7] at H
      have c7b0 : decide (x11_1 < (l0_0.length : Int)) = true := dt c7
      clear c7; obtain ⟨t447, A8, H⟩ := be H
      by_cases c9 : t447 = true
      ·subst c9
       rw [if_pos rfl] at H; obtain ⟨t448, A10, H⟩ := be H
       by_cases c11 : t448 = true
       ·subst c11
        rw [if_pos rfl] at H; have H' := asT H; clear H
        have p445 : 0 ≤ (x11_1 : Int) := dT asmT
        have q445 : x11_1 < (l0_0.length : Int) := dT asmT
        obtain ⟨ad445, e445, hx445_0, hx445_1⟩ := at_T109 HR0_0.out x11_1 p445 q445
        cases e445
        replace hx445_0 := hbc HB.out hx445_0; replace hx445_1 := hbc HB.out hx445_1; replace p445 := eq_true p445; replace q445 := eq_true q445
        go_wp2_with (first | ((with_reducible refine gate_dst (N := 7) rfl ?_); refine boxT (N := 7) (cs := #[.int .u8 0, .int .u8 0]) (t := 109) ?_; intro gb446 hg w12 hbox hb; have BK446 := asT (hbox); have GW446 := asT (geT hg HB.out); have GE446 := asT (geT hg HB.out); replace HB := hS HB hb; have NB444_446 := asT ((by rw [hg]; exact Nat.ne_of_lt (blk_lt (g := gb444) (o := .cells #[.slice (some ad445) l0_0.length c0_0] 60 (0, 0)) (bkT BK444.out)) : gb444 ≠ gb446)); have NB446_444 := asT ((by rw [hg]; exact Nat.ne_of_gt (blk_lt (g := gb444) (o := .cells #[.slice (some ad445) l0_0.length c0_0] 60 (0, 0)) (bkT BK444.out)) : gb446 ≠ gb444)); replace BK444 := bS BK444 hb; clear hb hbox hg; have hnb13 := NB446_444.out; have hnc13 := NB444_446.out; obtain ⟨hcz14_0, hcz14_1, hfz14_0, hfz14_1⟩ := bx2 BK446.out; obtain ⟨hcz15_0, hfz15_0⟩ := bx1 BK444.out) | ((with_reducible refine gate_callee (f := 85) rfl ?_); refine goesL_ (some 16) rfl rfl Tryz.func85 (by kernel_rfl) rfl #[.agg #[.slice (some ad445) l0_0.length c0_0]] rfl eqT ?_; (with_reducible refine (impl_IsCandidate.calls k1 _ _ l0_0 true _ ?side1 ?side2 A8.out).mono ?_); (case side1 => exact Kd.C_below HR0_0.out (hbT HB.out)); (case side2 => exact HC0_0.out); rintro e w16 ⟨rfl, hb⟩; refine ⟨_, rfl, ?_⟩; replace BK444 := asT (blk_below (g := gb444) (o := .cells #[.slice (some ad445) l0_0.length c0_0] 60 (0, 0)) (by (with_reducible repeat (first | refine blk_drewN ?_ _ | refine blk_drew ?_ | refine blk_alloc ?_ _)); refine blk_far ?_ NB444_446.out _; (with_reducible repeat (first | refine blk_drewN ?_ _ | refine blk_drew ?_ | refine blk_alloc ?_ _)); refine blk_far ?_ NB444_446.out _; (with_reducible repeat (first | refine blk_drewN ?_ _ | refine blk_drew ?_ | refine blk_alloc ?_ _)); exact BK444.out) hb); replace BK446 := asT (blk_below (g := gb446) (o := .cells #[.int .u8 ((rd_T109 l0_0 x11_1).f0), .int .u8 ((rd_T109 l0_0 x11_1).f1)] 109 (0, 0)) (by (with_reducible repeat (first | refine blk_drewN ?_ _ | refine blk_drew ?_ | refine blk_alloc ?_ _)); refine blk_put (cs := #[.int .u8 ((rd_T109 l0_0 x11_1).f0), .int .u8 0]) ?_ 1 _ rfl; (with_reducible repeat (first | refine blk_drewN ?_ _ | refine blk_drew ?_ | refine blk_alloc ?_ _)); refine blk_put (cs := #[.int .u8 0, .int .u8 0]) ?_ 0 _ rfl; (with_reducible repeat (first | refine blk_drewN ?_ _ | refine blk_drew ?_ | refine blk_alloc ?_ _)); exact BK446.out) hb); replace HB := hS HB hb; (try clear hb hb2 hk hi); obtain ⟨hcz17_0, hcz17_1, hfz17_0, hfz17_1⟩ := bx2 BK446.out) | (rw [enters_ hfF hnF hbF]; go_simp) | ((with_reducible refine (HF ((rd_T109 l0_0 x11_1).f0) ((rd_T109 l0_0 x11_1).f1) true _ A10.out).mono ?_); rintro e w18 ⟨rfl, hb⟩; replace BK444 := bS BK444 hb; replace BK446 := bS BK446 hb; replace HB := hS HB hb; (try clear hb hb2 hk hi)))
        go_roundg k1
        case measure => have := HK1.out; omega
        case rel => exact ⟨(wrap64 (x5_1 + 1)), (wrap64 (x11_1 + 1)), rdT, rdT, H', ⟨by have := HK1.out; omega⟩, kpT BK444.out, ⟨hbT HB.out⟩⟩
       ·replace c11 := eE c11
        subst c11; rw [if_neg nF] at H; have H' := asT H; clear H
        have p445 : 0 ≤ (x11_1 : Int) := dT asmT
        have q445 : x11_1 < (l0_0.length : Int) := dT asmT
        obtain ⟨ad445, e445, hx445_0, hx445_1⟩ := at_T109 HR0_0.out x11_1 p445 q445
        cases e445
        replace hx445_0 := hbc HB.out hx445_0; replace hx445_1 := hbc HB.out hx445_1; replace p445 := eq_true p445; replace q445 := eq_true q445
        go_wp2_with (first | ((with_reducible refine gate_dst (N := 7) rfl ?_); refine boxT (N := 7) (cs := #[.int .u8 0, .int .u8 0]) (t := 109) ?_; intro gb446 hg w19 hbox hb; have BK446 := asT (hbox); have GW446 := asT (geT hg HB.out); have GE446 := asT (geT hg HB.out); replace HB := hS HB hb; have NB444_446 := asT ((by rw [hg]; exact Nat.ne_of_lt (blk_lt (g := gb444) (o := .cells #[.slice (some ad445) l0_0.length c0_0] 60 (0, 0)) (bkT BK444.out)) : gb444 ≠ gb446)); have NB446_444 := asT ((by rw [hg]; exact Nat.ne_of_gt (blk_lt (g := gb444) (o := .cells #[.slice (some ad445) l0_0.length c0_0] 60 (0, 0)) (bkT BK444.out)) : gb446 ≠ gb444)); replace BK444 := bS BK444 hb; clear hb hbox hg; have hnb20 := NB446_444.out; have hnc20 := NB444_446.out; obtain ⟨hcz21_0, hcz21_1, hfz21_0, hfz21_1⟩ := bx2 BK446.out; obtain ⟨hcz22_0, hfz22_0⟩ := bx1 BK444.out) | ((with_reducible refine gate_callee (f := 85) rfl ?_); refine goesL_ (some 16) rfl rfl Tryz.func85 (by kernel_rfl) rfl #[.agg #[.slice (some ad445) l0_0.length c0_0]] rfl eqT ?_; (with_reducible refine (impl_IsCandidate.calls k1 _ _ l0_0 true _ ?side1 ?side2 A8.out).mono ?_); (case side1 => exact Kd.C_below HR0_0.out (hbT HB.out)); (case side2 => exact HC0_0.out); rintro e w23 ⟨rfl, hb⟩; refine ⟨_, rfl, ?_⟩; replace BK444 := asT (blk_below (g := gb444) (o := .cells #[.slice (some ad445) l0_0.length c0_0] 60 (0, 0)) (by (with_reducible repeat (first | refine blk_drewN ?_ _ | refine blk_drew ?_ | refine blk_alloc ?_ _)); refine blk_far ?_ NB444_446.out _; (with_reducible repeat (first | refine blk_drewN ?_ _ | refine blk_drew ?_ | refine blk_alloc ?_ _)); refine blk_far ?_ NB444_446.out _; (with_reducible repeat (first | refine blk_drewN ?_ _ | refine blk_drew ?_ | refine blk_alloc ?_ _)); exact BK444.out) hb); replace BK446 := asT (blk_below (g := gb446) (o := .cells #[.int .u8 ((rd_T109 l0_0 x11_1).f0), .int .u8 ((rd_T109 l0_0 x11_1).f1)] 109 (0, 0)) (by (with_reducible repeat (first | refine blk_drewN ?_ _ | refine blk_drew ?_ | refine blk_alloc ?_ _)); refine blk_put (cs := #[.int .u8 ((rd_T109 l0_0 x11_1).f0), .int .u8 0]) ?_ 1 _ rfl; (with_reducible repeat (first | refine blk_drewN ?_ _ | refine blk_drew ?_ | refine blk_alloc ?_ _)); refine blk_put (cs := #[.int .u8 0, .int .u8 0]) ?_ 0 _ rfl; (with_reducible repeat (first | refine blk_drewN ?_ _ | refine blk_drew ?_ | refine blk_alloc ?_ _)); exact BK446.out) hb); replace HB := hS HB hb; (try clear hb hb2 hk hi); obtain ⟨hcz24_0, hcz24_1, hfz24_0, hfz24_1⟩ := bx2 BK446.out) | (rw [enters_ hfF hnF hbF]; go_simp) | ((with_reducible refine (HF ((rd_T109 l0_0 x11_1).f0) ((rd_T109 l0_0 x11_1).f1) false _ A10.out).mono ?_); rintro e w25 ⟨rfl, hb⟩; replace BK444 := bS BK444 hb; replace BK446 := bS BK446 hb; replace HB := hS HB hb; (try clear hb hb2 hk hi)))
        go_roundg k1
        case measure => have := HK1.out; omega
        case rel => exact ⟨(x5_1), (wrap64 (x11_1 + 1)), rdT, rdT, H', ⟨by have := HK1.out; omega⟩, kpT BK444.out, ⟨hbT HB.out⟩⟩
      ·replace c9 := eE c9
       subst c9; rw [if_neg nF] at H; have H' := asT H; clear H
       have p445 : 0 ≤ (x11_1 : Int) := dT asmT
       have q445 : x11_1 < (l0_0.length : Int) := dT asmT
       obtain ⟨ad445, e445, hx445_0, hx445_1⟩ := at_T109 HR0_0.out x11_1 p445 q445
       cases e445
       replace hx445_0 := hbc HB.out hx445_0; replace hx445_1 := hbc HB.out hx445_1; replace p445 := eq_true p445; replace q445 := eq_true q445
       go_wp2_with (first | ((with_reducible refine gate_dst (N := 7) rfl ?_); refine boxT (N := 7) (cs := #[.int .u8 0, .int .u8 0]) (t := 109) ?_; intro gb446 hg w26 hbox hb; have BK446 := asT (hbox); have GW446 := asT (geT hg HB.out); have GE446 := asT (geT hg HB.out); replace HB := hS HB hb; have NB444_446 := asT ((by rw [hg]; exact Nat.ne_of_lt (blk_lt (g := gb444) (o := .cells #[.slice (some ad445) l0_0.length c0_0] 60 (0, 0)) (bkT BK444.out)) : gb444 ≠ gb446)); have NB446_444 := asT ((by rw [hg]; exact Nat.ne_of_gt (blk_lt (g := gb444) (o := .cells #[.slice (some ad445) l0_0.length c0_0] 60 (0, 0)) (bkT BK444.out)) : gb446 ≠ gb444)); replace BK444 := bS BK444 hb; clear hb hbox hg; have hnb27 := NB446_444.out; have hnc27 := NB444_446.out; obtain ⟨hcz28_0, hcz28_1, hfz28_0, hfz28_1⟩ := bx2 BK446.out; obtain ⟨hcz29_0, hfz29_0⟩ := bx1 BK444.out) | ((with_reducible refine gate_callee (f := 85) rfl ?_); refine goesL_ (some 16) rfl rfl Tryz.func85 (by kernel_rfl) rfl #[.agg #[.slice (some ad445) l0_0.length c0_0]] rfl eqT ?_; (with_reducible refine (impl_IsCandidate.calls k1 _ _ l0_0 false _ ?side1 ?side2 A8.out).mono ?_); (case side1 => exact Kd.C_below HR0_0.out (hbT HB.out)); (case side2 => exact HC0_0.out); rintro e w30 ⟨rfl, hb⟩; refine ⟨_, rfl, ?_⟩; replace BK444 := asT (blk_below (g := gb444) (o := .cells #[.slice (some ad445) l0_0.length c0_0] 60 (0, 0)) (by (with_reducible repeat (first | refine blk_drewN ?_ _ | refine blk_drew ?_ | refine blk_alloc ?_ _)); refine blk_far ?_ NB444_446.out _; (with_reducible repeat (first | refine blk_drewN ?_ _ | refine blk_drew ?_ | refine blk_alloc ?_ _)); refine blk_far ?_ NB444_446.out _; (with_reducible repeat (first | refine blk_drewN ?_ _ | refine blk_drew ?_ | refine blk_alloc ?_ _)); exact BK444.out) hb); replace BK446 := asT (blk_below (g := gb446) (o := .cells #[.int .u8 ((rd_T109 l0_0 x11_1).f0), .int .u8 ((rd_T109 l0_0 x11_1).f1)] 109 (0, 0)) (by (with_reducible repeat (first | refine blk_drewN ?_ _ | refine blk_drew ?_ | refine blk_alloc ?_ _)); refine blk_put (cs := #[.int .u8 ((rd_T109 l0_0 x11_1).f0), .int .u8 0]) ?_ 1 _ rfl; (with_reducible repeat (first | refine blk_drewN ?_ _ | refine blk_drew ?_ | refine blk_alloc ?_ _)); refine blk_put (cs := #[.int .u8 0, .int .u8 0]) ?_ 0 _ rfl; (with_reducible repeat (first | refine blk_drewN ?_ _ | refine blk_drew ?_ | refine blk_alloc ?_ _)); exact BK446.out) hb); replace HB := hS HB hb; (try clear hb hb2 hk hi)))
       go_roundg k1
       case measure => have := HK1.out; omega
       case rel => exact ⟨(x5_1), (wrap64 (x11_1 + 1)), rdT, rdT, H', ⟨by have := HK1.out; omega⟩, kpT BK444.out, ⟨hbT HB.out⟩⟩
     ·rw [if_neg c7] at H
      exact absurd H (by simp)
    ·rw [if_neg c6] at H
     exact absurd H (by simp)
   ·rw [if_neg c5] at H
    have c5b0 : decide (x11_1 < (l0_0.length : Int)) = false := df c5
    clear c5
    obtain rfl := oI H
    go_wp2
    go_ret
    exact ⟨rlT, hbT HB.out⟩
def impl_links_at_CountDeleted_1.f (k : Nat) (l0_0 : List (S109)) (a1 : Unit) : Option (Int) := impl_links_G.f impl_CountDeleted_1.f k l0_0 a1
theorem impl_links_at_CountDeleted_1.mono : ∀ a0 a1 k, LeO (impl_links_at_CountDeleted_1.f k a0 a1) (impl_links_at_CountDeleted_1.f (k + 1) a0 a1) := fun a0 a1 k => impl_links_G.mono impl_CountDeleted_1.f a0 a1 k
theorem impl_links_at_CountDeleted_1.calls (k : Nat) (A0_0 : Option Addr) (c0_0 : Nat) (l0_0 : List (S109)) (a1 : Unit) (r : Int) (w : World) (hr0_0 : Kd.C k109 w A0_0 l0_0.length l0_0) (hc0_0 : l0_0.length ≤ c0_0) (h : impl_links_at_CountDeleted_1.f k l0_0 a1 = some r) :
  Calls Tryz.prog 169 #[.agg #[.slice A0_0 l0_0.length c0_0], .func (.func 170) #[] #[]] w fun e w' => e = .returned (.int .i64 r) ∧ Below w.heap.size w w' := impl_links_G.calls impl_CountDeleted_1.f 170 _ Tryz.func170 (by kernel_rfl) rfl (fun a0_0 a0_1 r w h => impl_CountDeleted_1.calls a0_0 a0_1 r w h) k A0_0 c0_0 l0_0 a1 r w hr0_0 hc0_0 h
def impl_CountDeleted.f (k : Nat) (l0_0 : List (S109)) : Option (Int) := (impl_links_at_CountDeleted_1.f k l0_0 ()).bind fun t450 => (some t450)
theorem impl_CountDeleted.mono : ∀ a0 k, LeO (impl_CountDeleted.f k a0) (impl_CountDeleted.f (k + 1) a0) := by
 intro a0 k
 unfold impl_CountDeleted.f
 with_reducible repeat' first | exact impl_links_at_CountDeleted_1.mono _ _ _ | exact LeO.refl _ | exact LeO.none _ | refine LeO.ite ?_ ?_ | refine LeO.bind ?_ (fun _ => ?_)
theorem impl_CountDeleted.calls (k : Nat) (A0_0 : Option Addr) (c0_0 : Nat) (l0_0 : List (S109)) (r : Int) (w : World) (hr0_0 : Kd.C k109 w A0_0 l0_0.length l0_0) (hc0_0 : l0_0.length ≤ c0_0) (h : impl_CountDeleted.f k l0_0 = some r) :
  Calls Tryz.prog 136 #[.agg #[.slice A0_0 l0_0.length c0_0]] w fun e w' => e = .returned (.int .i64 r) ∧ Below w.heap.size w w' := by
 have hu60 := Tryz.underlying60; have HR0_0 := asT hr0_0; have HC0_0 := asT hc0_0; clear hr0_0 hc0_0; have HB := asT (Below.refl w.heap.size w); have H := h; unfold impl_CountDeleted.f at H; clear h; obtain ⟨t450, A2, H⟩ := be H
 obtain rfl := oI H
 go_enter Tryz.func136, Tryz.ntmps136
 go_wp2_with (first | ((with_reducible refine gate_dst (N := 1) rfl ?_); refine boxT (N := 1) (cs := #[.slice A0_0 l0_0.length c0_0]) (t := 60) ?_; intro gb449 hg w3 hbox hb; have BK449 := asT hbox; have GW449 := asT (geT hg HB.out); have GE449 := GW449; replace HB := hS HB hb; clear hb hbox hg; obtain ⟨hcz4_0, hfz4_0⟩ := bx1 BK449.out) | ((with_reducible refine gate_callee (f := 169) rfl ?_); refine goesL_ (some 4) rfl rfl Tryz.func169 (by kernel_rfl) rfl #[.agg #[.slice A0_0 l0_0.length c0_0], .func (.func 170) #[] #[]] rfl eqT ?_; (with_reducible refine (impl_links_at_CountDeleted_1.calls k _ _ l0_0 () t450 _ ?side1 ?side2 A2.out).mono ?_); (case side1 => exact crT HR0_0.out HB.out); (case side2 => exact HC0_0.out); rintro e w5 ⟨rfl, hb⟩; refine ⟨_, rfl, ?_⟩; replace BK449 := bS BK449 hb; replace HB := hS HB hb; (try clear hb hb2 hk hi)))
 go_ret
 exact ⟨rlT, hbT HB.out⟩
def impl_CountInserted_1.f (a0_0 : Int) (a0_1 : Int) : Option (Bool) := some (a0_0 == 0)
theorem impl_CountInserted_1.calls (a0_0 : Int) (a0_1 : Int) (r : Bool) (w : World) (h : impl_CountInserted_1.f a0_0 a0_1 = some r) :
  Calls Tryz.prog 171 #[.agg #[.int .u8 a0_0, .int .u8 a0_1]] w fun e w' => e = .returned (.bool r) ∧ Below w.heap.size w w' := by
 have hu109 := Tryz.underlying109; have HB := asT (Below.refl w.heap.size w); have H := h; unfold impl_CountInserted_1.f at H; clear h
 obtain rfl := oI H
 go_enter Tryz.func171, Tryz.ntmps171
 go_wp2_with (first | ((with_reducible refine gate_dst (N := 1) rfl ?_); refine boxT (N := 1) (cs := #[.int .u8 a0_0, .int .u8 a0_1]) (t := 109) ?_; intro gb451 hg w2 hbox hb; have BK451 := asT hbox; have GW451 := asT (geT hg HB.out); have GE451 := GW451; replace HB := hS HB hb; clear hb hbox hg; obtain ⟨hcz3_0, hcz3_1, hfz3_0, hfz3_1⟩ := bx2 BK451.out))
 go_ret
 exact ⟨rlT, hbT HB.out⟩
def impl_links_at_CountInserted_1.f (k : Nat) (l0_0 : List (S109)) (a1 : Unit) : Option (Int) := impl_links_G.f impl_CountInserted_1.f k l0_0 a1
theorem impl_links_at_CountInserted_1.mono : ∀ a0 a1 k, LeO (impl_links_at_CountInserted_1.f k a0 a1) (impl_links_at_CountInserted_1.f (k + 1) a0 a1) := fun a0 a1 k => impl_links_G.mono impl_CountInserted_1.f a0 a1 k
theorem impl_links_at_CountInserted_1.calls (k : Nat) (A0_0 : Option Addr) (c0_0 : Nat) (l0_0 : List (S109)) (a1 : Unit) (r : Int) (w : World) (hr0_0 : Kd.C k109 w A0_0 l0_0.length l0_0) (hc0_0 : l0_0.length ≤ c0_0) (h : impl_links_at_CountInserted_1.f k l0_0 a1 = some r) :
  Calls Tryz.prog 169 #[.agg #[.slice A0_0 l0_0.length c0_0], .func (.func 171) #[] #[]] w fun e w' => e = .returned (.int .i64 r) ∧ Below w.heap.size w w' := impl_links_G.calls impl_CountInserted_1.f 171 _ Tryz.func171 (by kernel_rfl) rfl (fun a0_0 a0_1 r w h => impl_CountInserted_1.calls a0_0 a0_1 r w h) k A0_0 c0_0 l0_0 a1 r w hr0_0 hc0_0 h
def impl_CountInserted.f (k : Nat) (l0_0 : List (S109)) : Option (Int) := (impl_links_at_CountInserted_1.f k l0_0 ()).bind fun t458 => (some t458)
theorem impl_CountInserted.mono : ∀ a0 k, LeO (impl_CountInserted.f k a0) (impl_CountInserted.f (k + 1) a0) := by
 intro a0 k
 unfold impl_CountInserted.f
 with_reducible repeat' first | exact impl_links_at_CountInserted_1.mono _ _ _ | exact LeO.refl _ | exact LeO.none _ | refine LeO.ite ?_ ?_ | refine LeO.bind ?_ (fun _ => ?_)
theorem impl_CountInserted.calls (k : Nat) (A0_0 : Option Addr) (c0_0 : Nat) (l0_0 : List (S109)) (r : Int) (w : World) (hr0_0 : Kd.C k109 w A0_0 l0_0.length l0_0) (hc0_0 : l0_0.length ≤ c0_0) (h : impl_CountInserted.f k l0_0 = some r) :
  Calls Tryz.prog 137 #[.agg #[.slice A0_0 l0_0.length c0_0]] w fun e w' => e = .returned (.int .i64 r) ∧ Below w.heap.size w w' := by
 have hu60 := Tryz.underlying60; have HR0_0 := asT hr0_0; have HC0_0 := asT hc0_0; clear hr0_0 hc0_0; have HB := asT (Below.refl w.heap.size w); have H := h; unfold impl_CountInserted.f at H; clear h; obtain ⟨t458, A2, H⟩ := be H
 obtain rfl := oI H
 go_enter Tryz.func137, Tryz.ntmps137
 go_wp2_with (first | ((with_reducible refine gate_dst (N := 1) rfl ?_); refine boxT (N := 1) (cs := #[.slice A0_0 l0_0.length c0_0]) (t := 60) ?_; intro gb457 hg w3 hbox hb; have BK457 := asT hbox; have GW457 := asT (geT hg HB.out); have GE457 := GW457; replace HB := hS HB hb; clear hb hbox hg; obtain ⟨hcz4_0, hfz4_0⟩ := bx1 BK457.out) | ((with_reducible refine gate_callee (f := 169) rfl ?_); refine goesL_ (some 4) rfl rfl Tryz.func169 (by kernel_rfl) rfl #[.agg #[.slice A0_0 l0_0.length c0_0], .func (.func 171) #[] #[]] rfl eqT ?_; (with_reducible refine (impl_links_at_CountInserted_1.calls k _ _ l0_0 () t458 _ ?side1 ?side2 A2.out).mono ?_); (case side1 => exact crT HR0_0.out HB.out); (case side2 => exact HC0_0.out); rintro e w5 ⟨rfl, hb⟩; refine ⟨_, rfl, ?_⟩; replace BK457 := bS BK457 hb; replace HB := hS HB hb; (try clear hb hb2 hk hi)))
 go_ret
 exact ⟨rlT, hbT HB.out⟩
def impl_CountVoiceChanged_1.f (a0_0 : Int) (a0_1 : Int) : Option (Bool) := if a0_0 = 0 then (some false) else (if a0_1 = 0 then (some false) else (some (a0_0 != a0_1)))
theorem impl_CountVoiceChanged_1.calls (a0_0 : Int) (a0_1 : Int) (r : Bool) (w : World) (h : impl_CountVoiceChanged_1.f a0_0 a0_1 = some r) :
  Calls Tryz.prog 172 #[.agg #[.int .u8 a0_0, .int .u8 a0_1]] w fun e w' => e = .returned (.bool r) ∧ Below w.heap.size w w' := by
 have hu109 := Tryz.underlying109; have HB := asT (Below.refl w.heap.size w); have H := h; unfold impl_CountVoiceChanged_1.f at H; clear h
 by_cases c2 : a0_0 = 0
 ·rw [if_pos c2] at H
  have c2b0 : (a0_0 == 0) = true := eC c2
  have c2b1 : (a0_0 != 0) = false := eA c2
  clear c2
  obtain rfl := oI H
  go_enter Tryz.func172, Tryz.ntmps172
  go_wp2_with (first | ((with_reducible refine gate_dst (N := 1) rfl ?_); refine boxT (N := 1) (cs := #[.int .u8 a0_0, .int .u8 a0_1]) (t := 109) ?_; intro gb459 hg w3 hbox hb; have BK459 := asT hbox; have GW459 := asT (geT hg HB.out); have GE459 := GW459; replace HB := hS HB hb; clear hb hbox hg; obtain ⟨hcz4_0, hcz4_1, hfz4_0, hfz4_1⟩ := bx2 BK459.out))
  go_ret
  exact ⟨rlT, hbT HB.out⟩
 ·rw [if_neg c2] at H
  have c2b0 : (a0_0 == 0) = false := eB c2
  have c2b1 : (a0_0 != 0) = true := eD c2
  by_cases c5 : a0_1 = 0
  ·rw [if_pos c5] at H
   have c5b0 : (a0_1 == 0) = true := eC c5
   have c5b1 : (a0_1 != 0) = false := eA c5
   clear c5
   obtain rfl := oI H
   go_enter Tryz.func172, Tryz.ntmps172
   go_wp2_with (first | ((with_reducible refine gate_dst (N := 1) rfl ?_); refine boxT (N := 1) (cs := #[.int .u8 a0_0, .int .u8 a0_1]) (t := 109) ?_; intro gb459 hg w6 hbox hb; have BK459 := asT hbox; have GW459 := asT (geT hg HB.out); have GE459 := GW459; replace HB := hS HB hb; clear hb hbox hg; obtain ⟨hcz7_0, hcz7_1, hfz7_0, hfz7_1⟩ := bx2 BK459.out))
   go_ret
   exact ⟨rlT, hbT HB.out⟩
  ·rw [if_neg c5] at H
   have c5b0 : (a0_1 == 0) = false := eB c5
   have c5b1 : (a0_1 != 0) = true := eD c5
   obtain rfl := oI H
   go_enter Tryz.func172, Tryz.ntmps172
   go_wp2_with (first | ((with_reducible refine gate_dst (N := 1) rfl ?_); refine boxT (N := 1) (cs := #[.int .u8 a0_0, .int .u8 a0_1]) (t := 109) ?_; intro gb459 hg w8 hbox hb; have BK459 := asT hbox; have GW459 := asT (geT hg HB.out); have GE459 := GW459; replace HB := hS HB hb; clear hb hbox hg; obtain ⟨hcz9_0, hcz9_1, hfz9_0, hfz9_1⟩ := bx2 BK459.out))
   go_ret
   exact ⟨rlT, hbT HB.out⟩
def impl_links_at_CountVoiceChanged_1.f (k : Nat) (l0_0 : List (S109)) (a1 : Unit) : Option (Int) := impl_links_G.f impl_CountVoiceChanged_1.f k l0_0 a1
theorem impl_links_at_CountVoiceChanged_1.mono : ∀ a0 a1 k, LeO (impl_links_at_CountVoiceChanged_1.f k a0 a1) (impl_links_at_CountVoiceChanged_1.f (k + 1) a0 a1) := fun a0 a1 k => impl_links_G.mono impl_CountVoiceChanged_1.f a0 a1 k
theorem impl_links_at_CountVoiceChanged_1.calls (k : Nat) (A0_0 : Option Addr) (c0_0 : Nat) (l0_0 : List (S109)) (a1 : Unit) (r : Int) (w : World) (hr0_0 : Kd.C k109 w A0_0 l0_0.length l0_0) (hc0_0 : l0_0.length ≤ c0_0) (h : impl_links_at_CountVoiceChanged_1.f k l0_0 a1 = some r) :
  Calls Tryz.prog 169 #[.agg #[.slice A0_0 l0_0.length c0_0], .func (.func 172) #[] #[]] w fun e w' => e = .returned (.int .i64 r) ∧ Below w.heap.size w w' := impl_links_G.calls impl_CountVoiceChanged_1.f 172 _ Tryz.func172 (by kernel_rfl) rfl (fun a0_0 a0_1 r w h => impl_CountVoiceChanged_1.calls a0_0 a0_1 r w h) k A0_0 c0_0 l0_0 a1 r w hr0_0 hc0_0 h
def impl_CountVoiceChanged.f (k : Nat) (l0_0 : List (S109)) : Option (Int) := (impl_links_at_CountVoiceChanged_1.f k l0_0 ()).bind fun t466 => (some t466)
theorem impl_CountVoiceChanged.mono : ∀ a0 k, LeO (impl_CountVoiceChanged.f k a0) (impl_CountVoiceChanged.f (k + 1) a0) := by
 intro a0 k
 unfold impl_CountVoiceChanged.f
 with_reducible repeat' first | exact impl_links_at_CountVoiceChanged_1.mono _ _ _ | exact LeO.refl _ | exact LeO.none _ | refine LeO.ite ?_ ?_ | refine LeO.bind ?_ (fun _ => ?_)
theorem impl_CountVoiceChanged.calls (k : Nat) (A0_0 : Option Addr) (c0_0 : Nat) (l0_0 : List (S109)) (r : Int) (w : World) (hr0_0 : Kd.C k109 w A0_0 l0_0.length l0_0) (hc0_0 : l0_0.length ≤ c0_0) (h : impl_CountVoiceChanged.f k l0_0 = some r) :
  Calls Tryz.prog 138 #[.agg #[.slice A0_0 l0_0.length c0_0]] w fun e w' => e = .returned (.int .i64 r) ∧ Below w.heap.size w w' := by
 have hu60 := Tryz.underlying60; have HR0_0 := asT hr0_0; have HC0_0 := asT hc0_0; clear hr0_0 hc0_0; have HB := asT (Below.refl w.heap.size w); have H := h; unfold impl_CountVoiceChanged.f at H; clear h; obtain ⟨t466, A2, H⟩ := be H
 obtain rfl := oI H
 go_enter Tryz.func138, Tryz.ntmps138
 go_wp2_with (first | ((with_reducible refine gate_dst (N := 1) rfl ?_); refine boxT (N := 1) (cs := #[.slice A0_0 l0_0.length c0_0]) (t := 60) ?_; intro gb465 hg w3 hbox hb; have BK465 := asT hbox; have GW465 := asT (geT hg HB.out); have GE465 := GW465; replace HB := hS HB hb; clear hb hbox hg; obtain ⟨hcz4_0, hfz4_0⟩ := bx1 BK465.out) | ((with_reducible refine gate_callee (f := 169) rfl ?_); refine goesL_ (some 4) rfl rfl Tryz.func169 (by kernel_rfl) rfl #[.agg #[.slice A0_0 l0_0.length c0_0], .func (.func 172) #[] #[]] rfl eqT ?_; (with_reducible refine (impl_links_at_CountVoiceChanged_1.calls k _ _ l0_0 () t466 _ ?side1 ?side2 A2.out).mono ?_); (case side1 => exact crT HR0_0.out HB.out); (case side2 => exact HC0_0.out); rintro e w5 ⟨rfl, hb⟩; refine ⟨_, rfl, ?_⟩; replace BK465 := bS BK465 hb; replace HB := hS HB hb; (try clear hb hb2 hk hi)))
 go_ret
 exact ⟨rlT, hbT HB.out⟩
mutual
def impl_CountBreaks.l0 : Nat → Int → Int → Bool → List (S109) → Int → Int → List (S109) → Option (Int)
 | 0, _, _, _, _, _, _, _ => none
 | k + 1, x3, x4, x5, x9, x10, x11, x468000 => if x11 < x10 then (if 0 ≤ x11 then (if x11 < (x9.length : Int) then ((impl_IsCandidate.f k x468000).bind fun t470 => (if t470 = true then (if ((rd_T109 x9 x11).f0) = 0 then (impl_CountBreaks.j1 k x3 x4 x5 x9 x10 x11 false x468000) else (impl_CountBreaks.j1 k x3 x4 x5 x9 x10 x11 (((rd_T109 x9 x11).f1) != 0) x468000)) else (impl_CountBreaks.l0 k x3 x4 x5 x9 x10 (wrap64 (x11 + 1)) x468000))) else (none)) else (none)) else (some x3)
def impl_CountBreaks.j1 : Nat → Int → Int → Bool → List (S109) → Int → Int → Bool → List (S109) → Option (Int)
 | 0, _, _, _, _, _, _, _, _ => none
 | k + 1, x3, x4, x5, x9, x10, x11, x19, x468000 => if x19 = true then (impl_CountBreaks.l0 k (wrap64 (x3 + x4)) 0 true x9 x10 (wrap64 (x11 + 1)) x468000) else (if x5 = true then (impl_CountBreaks.l0 k x3 (wrap64 (x4 + 1)) x5 x9 x10 (wrap64 (x11 + 1)) x468000) else (impl_CountBreaks.l0 k x3 x4 x5 x9 x10 (wrap64 (x11 + 1)) x468000))
end
def impl_CountBreaks.f (k : Nat) (l0_0 : List (S109)) : Option (Int) := impl_CountBreaks.l0 k 0 0 false l0_0 (l0_0.length : Int) 0 l0_0
theorem impl_CountBreaks.mono_l : ∀ k, (∀ y0 y1 y2 y3 y4 y5 y6, LeO (impl_CountBreaks.l0 k y0 y1 y2 y3 y4 y5 y6) (impl_CountBreaks.l0 (k + 1) y0 y1 y2 y3 y4 y5 y6)) ∧ (∀ y0 y1 y2 y3 y4 y5 y6 y7, LeO (impl_CountBreaks.j1 k y0 y1 y2 y3 y4 y5 y6 y7) (impl_CountBreaks.j1 (k + 1) y0 y1 y2 y3 y4 y5 y6 y7))
 | 0 => ⟨fun _ _ _ _ _ _ _ r h => by simp [impl_CountBreaks.l0] at h, fun _ _ _ _ _ _ _ _ r h => by simp [impl_CountBreaks.j1] at h⟩
 | k + 1 => by
  obtain ⟨ih0, ih1⟩ := impl_CountBreaks.mono_l k; refine ⟨?_, ?_⟩
  ·intro y0 y1 y2 y3 y4 y5 y6
   unfold impl_CountBreaks.l0
   with_reducible repeat' first | exact ih0 _ _ _ _ _ _ _ | exact ih1 _ _ _ _ _ _ _ _ | exact impl_IsCandidate.mono _ _ | exact LeO.refl _ | exact LeO.none _ | refine LeO.ite ?_ ?_ | refine LeO.bind ?_ (fun _ => ?_)
  ·intro y0 y1 y2 y3 y4 y5 y6 y7
   unfold impl_CountBreaks.j1
   with_reducible repeat' first | exact ih0 _ _ _ _ _ _ _ | exact ih1 _ _ _ _ _ _ _ _ | exact impl_IsCandidate.mono _ _ | exact LeO.refl _ | exact LeO.none _ | refine LeO.ite ?_ ?_ | refine LeO.bind ?_ (fun _ => ?_)
theorem impl_CountBreaks.mono : ∀ a0 k, LeO (impl_CountBreaks.f k a0) (impl_CountBreaks.f (k + 1) a0) := by
 intro a0 k
 obtain ⟨ih0, ih1⟩ := impl_CountBreaks.mono_l k
 unfold impl_CountBreaks.f
 with_reducible repeat' first | exact ih0 _ _ _ _ _ _ _ | exact ih1 _ _ _ _ _ _ _ _ | exact impl_IsCandidate.mono _ _ | exact LeO.refl _ | exact LeO.none _ | refine LeO.ite ?_ ?_ | refine LeO.bind ?_ (fun _ => ?_)
theorem impl_CountBreaks.calls (k : Nat) (A0_0 : Option Addr) (c0_0 : Nat) (l0_0 : List (S109)) (r : Int) (w : World) (hr0_0 : Kd.C k109 w A0_0 l0_0.length l0_0) (hc0_0 : l0_0.length ≤ c0_0) (h : impl_CountBreaks.f k l0_0 = some r) :
  Calls Tryz.prog 139 #[.agg #[.slice A0_0 l0_0.length c0_0]] w fun e w' => e = .returned (.int .i64 r) ∧ Below w.heap.size w w' := by
 have hu60 := Tryz.underlying60; have hu109 := Tryz.underlying109; have HR0_0 := asT hr0_0; have HC0_0 := asT hc0_0; clear hr0_0 hc0_0; have HB := asT (Below.refl w.heap.size w); have H := h; unfold impl_CountBreaks.f at H; clear h; have H' := asT H; clear H
 go_enter Tryz.func139, Tryz.ntmps139
 go_wp2_with (first | ((with_reducible refine gate_dst (N := 1) rfl ?_); refine boxT (N := 1) (cs := #[.slice A0_0 l0_0.length c0_0]) (t := 60) ?_; intro gb467 hg w2 hbox hb; have BK467 := asT hbox; have GW467 := asT (geT hg HB.out); have GE467 := GW467; replace HB := hS HB hb; clear hb hbox hg; obtain ⟨hcz3_0, hfz3_0⟩ := bx1 BK467.out))
 go_loopg [3, 4, 5, 11] k (fun kq v3 v4 v5 v11 w' => ∃ (x3_1 : Int) (x4_1 : Int) (x5_1 : Bool) (x11_1 : Int), v3 = .int .i64 x3_1 ∧ v4 = .int .i64 x4_1 ∧ v5 = .bool x5_1 ∧ v11 = .int .i64 x11_1 ∧ Aside0 (impl_CountBreaks.l0 kq x3_1 x4_1 x5_1 l0_0 (l0_0.length : Int) x11_1 l0_0 = some r) ∧ Aside0 (kq ≤ k) ∧ Aside0 (w'.heap[gb467]? = some (.cells #[(.slice A0_0 l0_0.length c0_0)] 60 (0, 0))) ∧ Aside0 (Below w.heap.size w w'))
 case atStart => exact ⟨(0), (0), (false), (0), rdT, rdT, rdT, rdT, H', ⟨Nat.le_refl _⟩, kpT BK467.out, ⟨hbT HB.out⟩⟩
 case round =>
  clear H'; (try clear c1 p2 hcz3_0 hfz3_0); obtain ⟨x3_1, x4_1, x5_1, x11_1, rfl, rfl, rfl, rfl, HA, HK1, BK467, HB⟩ := hrel
  cases gk with
  | zero => exact absurd HA.out (by simp [impl_CountBreaks.l0])
  | succ k1 =>
   have H := HA.out; clear HA
   simp only [impl_CountBreaks.l0] at H
   by_cases c4 : x11_1 < (l0_0.length : Int)
   ·rw [if_pos c4] at H
    have c4b0 : decide (x11_1 < (l0_0.length : Int)) = true := dt c4
    clear c4
    by_cases c5 : 0 ≤ x11_1
    ·rw [if_pos c5] at H
     have c5b0 : decide (0 ≤ x11_1) = true := dt c5
     clear c5
     by_cases c6 : x11_1 < (l0_0.length : Int)
     ·rw [if_pos c6] at H
      have c6b0 : decide (x11_1 < (l0_0.length : Int)) = true := dt c6
      clear c6; obtain ⟨t470, A7, H⟩ := be H
      by_cases c8 : t470 = true
      ·subst c8
       rw [if_pos rfl] at H; have HC9 := asT H; clear H
       have p468 : 0 ≤ (x11_1 : Int) := dT asmT
       have q468 : x11_1 < (l0_0.length : Int) := dT asmT
       obtain ⟨ad468, e468, hx468_0, hx468_1⟩ := at_T109 HR0_0.out x11_1 p468 q468
       cases e468
       replace hx468_0 := hbc HB.out hx468_0; replace hx468_1 := hbc HB.out hx468_1; replace p468 := eq_true p468; replace q468 := eq_true q468
       go_upto_region 6 with (first | ((with_reducible refine gate_dst (N := 7) rfl ?_); refine boxT (N := 7) (cs := #[.int .u8 0, .int .u8 0]) (t := 109) ?_; intro gb469 hg w10 hbox hb; have BK469 := asT (hbox); have GW469 := asT (geT hg HB.out); have GE469 := asT (geT hg HB.out); replace HB := hS HB hb; have NB467_469 := asT ((by rw [hg]; exact Nat.ne_of_lt (blk_lt (g := gb467) (o := .cells #[.slice (some ad468) l0_0.length c0_0] 60 (0, 0)) (bkT BK467.out)) : gb467 ≠ gb469)); have NB469_467 := asT ((by rw [hg]; exact Nat.ne_of_gt (blk_lt (g := gb467) (o := .cells #[.slice (some ad468) l0_0.length c0_0] 60 (0, 0)) (bkT BK467.out)) : gb469 ≠ gb467)); replace BK467 := bS BK467 hb; clear hb hbox hg; have hnb11 := NB469_467.out; have hnc11 := NB467_469.out; obtain ⟨hcz12_0, hcz12_1, hfz12_0, hfz12_1⟩ := bx2 BK469.out; obtain ⟨hcz13_0, hfz13_0⟩ := bx1 BK467.out) | ((with_reducible refine gate_callee (f := 85) rfl ?_); refine goesL_ (some 17) rfl rfl Tryz.func85 (by kernel_rfl) rfl #[.agg #[.slice (some ad468) l0_0.length c0_0]] rfl eqT ?_; (with_reducible refine (impl_IsCandidate.calls k1 _ _ l0_0 true _ ?side1 ?side2 A7.out).mono ?_); (case side1 => exact Kd.C_below HR0_0.out (hbT HB.out)); (case side2 => exact HC0_0.out); rintro e w14 ⟨rfl, hb⟩; refine ⟨_, rfl, ?_⟩; replace BK467 := asT (blk_below (g := gb467) (o := .cells #[.slice (some ad468) l0_0.length c0_0] 60 (0, 0)) (by (with_reducible repeat (first | refine blk_drewN ?_ _ | refine blk_drew ?_ | refine blk_alloc ?_ _)); refine blk_far ?_ NB467_469.out _; (with_reducible repeat (first | refine blk_drewN ?_ _ | refine blk_drew ?_ | refine blk_alloc ?_ _)); refine blk_far ?_ NB467_469.out _; (with_reducible repeat (first | refine blk_drewN ?_ _ | refine blk_drew ?_ | refine blk_alloc ?_ _)); exact BK467.out) hb); replace BK469 := asT (blk_below (g := gb469) (o := .cells #[.int .u8 ((rd_T109 l0_0 x11_1).f0), .int .u8 ((rd_T109 l0_0 x11_1).f1)] 109 (0, 0)) (by (with_reducible repeat (first | refine blk_drewN ?_ _ | refine blk_drew ?_ | refine blk_alloc ?_ _)); refine blk_put (cs := #[.int .u8 ((rd_T109 l0_0 x11_1).f0), .int .u8 0]) ?_ 1 _ rfl; (with_reducible repeat (first | refine blk_drewN ?_ _ | refine blk_drew ?_ | refine blk_alloc ?_ _)); refine blk_put (cs := #[.int .u8 0, .int .u8 0]) ?_ 0 _ rfl; (with_reducible repeat (first | refine blk_drewN ?_ _ | refine blk_drew ?_ | refine blk_alloc ?_ _)); exact BK469.out) hb); replace HB := hS HB hb; (try clear hb hb2 hk hi)))
       (try simp only [Act.put, sA, sZ, sS])
       go_cut [19] (fun v19 wc => ∃ (kq : Nat) (x19_8 : Bool), v19 = .bool x19_8 ∧ Aside0 (impl_CountBreaks.j1 kq x3_1 x4_1 x5_1 l0_0 (l0_0.length : Int) x11_1 x19_8 l0_0 = some r) ∧ Aside0 (kq ≤ k1) ∧ Aside0 (wc.heap[gb467]? = some (.cells #[(.slice (some ad468) l0_0.length c0_0)] 60 (0, 0))) ∧ Aside0 (wc.heap[gb469]? = some (.cells #[.int .u8 ((rd_T109 l0_0 x11_1).f0), .int .u8 ((rd_T109 l0_0 x11_1).f1)] 109 (0, 0))) ∧ Aside0 (Below w.heap.size w wc))
       case first =>
        have H := HC9.out; clear HC9
        by_cases c15 : ((rd_T109 l0_0 x11_1).f0) = 0
        ·rw [if_pos c15] at H
         have c15b0 : (((rd_T109 l0_0 x11_1).f0) == 0) = true := eC c15
         have c15b1 : (((rd_T109 l0_0 x11_1).f0) != 0) = false := eA c15
         clear c15
         (first | rw [c15b0] | (simp only [i64_w, i32_w]; rw [c15b0]) | skip)
         have H' := asT H; clear H; have hnb16 := NB469_467.out; have hnc16 := NB467_469.out
         have hcz17_0 := bc0 BK469.out
         have hcz17_1 := bc1 BK469.out
         have hfz17_0 := blk_frozen BK469.out 0; have hfz17_1 := blk_frozen BK469.out 1
         go_wp2
         go_meet
         case rel => exact ⟨_, (false), rdT, H', ⟨by have := HK1.out; first | omega | exact Nat.le_refl _⟩, kpT BK467.out, kpT BK469.out, ⟨hbT HB.out⟩⟩
        ·rw [if_neg c15] at H
         have c15b0 : (((rd_T109 l0_0 x11_1).f0) == 0) = false := eB c15
         have c15b1 : (((rd_T109 l0_0 x11_1).f0) != 0) = true := eD c15
         (first | rw [c15b0] | (simp only [i64_w, i32_w]; rw [c15b0]) | skip)
         have H' := asT H; clear H; have hnb18 := NB469_467.out; have hnc18 := NB467_469.out
         have hcz19_0 := bc0 BK469.out
         have hcz19_1 := bc1 BK469.out
         have hfz19_0 := blk_frozen BK469.out 0; have hfz19_1 := blk_frozen BK469.out 1
         go_wp2
         go_meet
         case rel => exact ⟨_, ((((rd_T109 l0_0 x11_1).f1) != 0)), rdT, H', ⟨by have := HK1.out; first | omega | exact Nat.le_refl _⟩, kpT BK467.out, kpT BK469.out, ⟨hbT HB.out⟩⟩
       case rest =>
        clear HC9; (try clear c1 p2 c4 c4b0 p4 q4 hx4 c5 c5b0 c6 c6b0 p6 c8 c11 c13 c15 c15b0 c15b1 c16 c18 hcz12_0 hcz12_1 hcz13_0 hcz17_0 hcz17_1 hcz19_0 hcz19_1 hcz3_0 hfz12_0 hfz12_1 hfz13_0 hfz17_0 hfz17_1 hfz19_0 hfz19_1 hfz3_0 hx468_0 hx468_1 p2 p468 q468); obtain ⟨kq, x19_8, rfl, HA, HJ8, BK467, BK469, HB⟩ := hcut
        cases kq with
        | zero => exact absurd HA.out (by simp [impl_CountBreaks.j1])
        | succ kj8 =>
         have H := HA.out; clear HA
         simp only [impl_CountBreaks.j1] at H
         by_cases c20 : x19_8 = true
         ·subst c20
          rw [if_pos rfl] at H; have H' := asT H; clear H
          go_wp2
          go_roundg kj8
          case measure => have := HK1.out; have := HJ8.out; omega
          case rel => exact ⟨(wrap64 (x3_1 + x4_1)), (0), (true), (wrap64 (x11_1 + 1)), rdT, rdT, rdT, rdT, H', ⟨by have := HK1.out; have := HJ8.out; omega⟩, kpT BK467.out, ⟨hbT HB.out⟩⟩
         ·replace c20 := eE c20
          subst c20; rw [if_neg nF] at H; have H1 := H; clear H; have H := H1; clear H1
          by_cases c21 : x5_1 = true
          ·subst c21
           rw [if_pos rfl] at H; have H' := asT H; clear H
           go_wp2
           go_roundg kj8
           case measure => have := HK1.out; have := HJ8.out; omega
           case rel => exact ⟨(x3_1), (wrap64 (x4_1 + 1)), (true), (wrap64 (x11_1 + 1)), rdT, rdT, rdT, rdT, H', ⟨by have := HK1.out; have := HJ8.out; omega⟩, kpT BK467.out, ⟨hbT HB.out⟩⟩
          ·replace c21 := eE c21
           subst c21; rw [if_neg nF] at H; have H' := asT H; clear H
           go_wp2
           go_roundg kj8
           case measure => have := HK1.out; have := HJ8.out; omega
           case rel => exact ⟨(x3_1), (x4_1), (false), (wrap64 (x11_1 + 1)), rdT, rdT, rdT, rdT, H', ⟨by have := HK1.out; have := HJ8.out; omega⟩, kpT BK467.out, ⟨hbT HB.out⟩⟩
      ·replace c8 := eE c8
       subst c8; rw [if_neg nF] at H; have H' := asT H; clear H
       have p468 : 0 ≤ (x11_1 : Int) := dT asmT
       have q468 : x11_1 < (l0_0.length : Int) := dT asmT
       obtain ⟨ad468, e468, hx468_0, hx468_1⟩ := at_T109 HR0_0.out x11_1 p468 q468
       cases e468
       replace hx468_0 := hbc HB.out hx468_0; replace hx468_1 := hbc HB.out hx468_1; replace p468 := eq_true p468; replace q468 := eq_true q468
       go_wp2_with (first | ((with_reducible refine gate_dst (N := 7) rfl ?_); refine boxT (N := 7) (cs := #[.int .u8 0, .int .u8 0]) (t := 109) ?_; intro gb469 hg w22 hbox hb; have BK469 := asT (hbox); have GW469 := asT (geT hg HB.out); have GE469 := asT (geT hg HB.out); replace HB := hS HB hb; have NB467_469 := asT ((by rw [hg]; exact Nat.ne_of_lt (blk_lt (g := gb467) (o := .cells #[.slice (some ad468) l0_0.length c0_0] 60 (0, 0)) (bkT BK467.out)) : gb467 ≠ gb469)); have NB469_467 := asT ((by rw [hg]; exact Nat.ne_of_gt (blk_lt (g := gb467) (o := .cells #[.slice (some ad468) l0_0.length c0_0] 60 (0, 0)) (bkT BK467.out)) : gb469 ≠ gb467)); replace BK467 := bS BK467 hb; clear hb hbox hg; have hnb23 := NB469_467.out; have hnc23 := NB467_469.out; obtain ⟨hcz24_0, hcz24_1, hfz24_0, hfz24_1⟩ := bx2 BK469.out; obtain ⟨hcz25_0, hfz25_0⟩ := bx1 BK467.out) | ((with_reducible refine gate_callee (f := 85) rfl ?_); refine goesL_ (some 17) rfl rfl Tryz.func85 (by kernel_rfl) rfl #[.agg #[.slice (some ad468) l0_0.length c0_0]] rfl eqT ?_; (with_reducible refine (impl_IsCandidate.calls k1 _ _ l0_0 false _ ?side1 ?side2 A7.out).mono ?_); (case side1 => exact Kd.C_below HR0_0.out (hbT HB.out)); (case side2 => exact HC0_0.out); rintro e w26 ⟨rfl, hb⟩; refine ⟨_, rfl, ?_⟩; replace BK467 := asT (blk_below (g := gb467) (o := .cells #[.slice (some ad468) l0_0.length c0_0] 60 (0, 0)) (by (with_reducible repeat (first | refine blk_drewN ?_ _ | refine blk_drew ?_ | refine blk_alloc ?_ _)); refine blk_far ?_ NB467_469.out _; (with_reducible repeat (first | refine blk_drewN ?_ _ | refine blk_drew ?_ | refine blk_alloc ?_ _)); refine blk_far ?_ NB467_469.out _; (with_reducible repeat (first | refine blk_drewN ?_ _ | refine blk_drew ?_ | refine blk_alloc ?_ _)); exact BK467.out) hb); replace BK469 := asT (blk_below (g := gb469) (o := .cells #[.int .u8 ((rd_T109 l0_0 x11_1).f0), .int .u8 ((rd_T109 l0_0 x11_1).f1)] 109 (0, 0)) (by (with_reducible repeat (first | refine blk_drewN ?_ _ | refine blk_drew ?_ | refine blk_alloc ?_ _)); refine blk_put (cs := #[.int .u8 ((rd_T109 l0_0 x11_1).f0), .int .u8 0]) ?_ 1 _ rfl; (with_reducible repeat (first | refine blk_drewN ?_ _ | refine blk_drew ?_ | refine blk_alloc ?_ _)); refine blk_put (cs := #[.int .u8 0, .int .u8 0]) ?_ 0 _ rfl; (with_reducible repeat (first | refine blk_drewN ?_ _ | refine blk_drew ?_ | refine blk_alloc ?_ _)); exact BK469.out) hb); replace HB := hS HB hb; (try clear hb hb2 hk hi)))
       go_roundg k1
       case measure => have := HK1.out; omega
       case rel => exact ⟨(x3_1), (x4_1), (x5_1), (wrap64 (x11_1 + 1)), rdT, rdT, rdT, rdT, H', ⟨by have := HK1.out; omega⟩, kpT BK467.out, ⟨hbT HB.out⟩⟩
     ·rw [if_neg c6] at H
      exact absurd H (by simp)
    ·rw [if_neg c5] at H
     exact absurd H (by simp)
   ·rw [if_neg c4] at H
    have c4b0 : decide (x11_1 < (l0_0.length : Int)) = false := df c4
    clear c4
    obtain rfl := oI H
    go_wp2
    go_ret
    exact ⟨rlT, hbT HB.out⟩
def impl_ViolationsOf.f (k : Nat) (a0 : ByteArray) (l1_0 : List (S109)) : Option (Int) := (impl_IsCandidate.f k l1_0).bind fun t472 => (if t472 = true then ((impl_OutputOf.f k l1_0).bind fun t473 => (if a0.toList = ([111, 110, 115, 101, 116] : List UInt8) then ((impl_CountOnsetless.f k t473).bind fun t474 => (some t474)) else (if a0.toList = ([110, 111, 99, 111, 100, 97] : List UInt8) then ((impl_CountCodas.f k t473).bind fun t475 => (some t475)) else (if a0.toList = ([99, 108, 117, 115, 116, 101, 114] : List UInt8) then ((impl_CountClusters.f k t473).bind fun t476 => (some t476)) else (if a0.toList = ([118, 111, 105, 99, 101] : List UInt8) then ((impl_CountVoiced.f k t473).bind fun t477 => (some t477)) else (if a0.toList = ([102, 105, 110, 97, 108] : List UInt8) then ((impl_CountFinalVoiced.f k t473).bind fun t478 => (some t478)) else (if a0.toList = ([110, 97, 115, 97, 108] : List UInt8) then ((impl_CountNasalVoiceless.f k t473).bind fun t479 => (some t479)) else (if a0.toList = ([109, 97, 120] : List UInt8) then ((impl_CountDeleted.f k l1_0).bind fun t480 => (some t480)) else (if a0.toList = ([100, 101, 112] : List UInt8) then ((impl_CountInserted.f k l1_0).bind fun t481 => (some t481)) else (if a0.toList = ([105, 100, 101, 110, 116] : List UInt8) then ((impl_CountVoiceChanged.f k l1_0).bind fun t482 => (some t482)) else (if a0.toList = ([99, 111, 110, 116, 105, 103] : List UInt8) then ((impl_CountBreaks.f k l1_0).bind fun t483 => (some t483)) else (some (-1))))))))))))) else (some (-1)))
theorem impl_ViolationsOf.mono : ∀ a0 a1 k, LeO (impl_ViolationsOf.f k a0 a1) (impl_ViolationsOf.f (k + 1) a0 a1) := by
 intro a0 a1 k
 unfold impl_ViolationsOf.f
 with_reducible repeat' first | exact impl_CountBreaks.mono _ _ | exact impl_CountClusters.mono _ _ | exact impl_CountCodas.mono _ _ | exact impl_CountDeleted.mono _ _ | exact impl_CountFinalVoiced.mono _ _ | exact impl_CountInserted.mono _ _ | exact impl_CountNasalVoiceless.mono _ _ | exact impl_CountOnsetless.mono _ _ | exact impl_CountVoiceChanged.mono _ _ | exact impl_CountVoiced.mono _ _ | exact impl_IsCandidate.mono _ _ | exact impl_OutputOf.mono _ _ | exact LeO.refl _ | exact LeO.none _ | refine LeO.ite ?_ ?_ | refine LeO.bind ?_ (fun _ => ?_)
theorem impl_ViolationsOf.calls (k : Nat) (a0 : ByteArray) (A1_0 : Option Addr) (c1_0 : Nat) (l1_0 : List (S109)) (r : Int) (w : World) (hr1_0 : Kd.C k109 w A1_0 l1_0.length l1_0) (hc1_0 : l1_0.length ≤ c1_0) (h : impl_ViolationsOf.f k a0 l1_0 = some r) :
  Calls Tryz.prog 86 #[.string a0, .agg #[.slice A1_0 l1_0.length c1_0]] w fun e w' => e = .returned (.int .i64 r) ∧ Below w.heap.size w w' := by
 have hu60 := Tryz.underlying60; have HR1_0 := asT hr1_0; have HC1_0 := asT hc1_0; clear hr1_0 hc1_0; have HB := asT (Below.refl w.heap.size w); have H := h; unfold impl_ViolationsOf.f at H; clear h; obtain ⟨t472, A3, H⟩ := be H
 by_cases c4 : t472 = true
 ·subst c4
  rw [if_pos rfl] at H; obtain ⟨t473, A5, H⟩ := be H
  by_cases c6 : a0.toList = ([111, 110, 115, 101, 116] : List UInt8)
  ·rw [if_pos c6] at H
   have c6b0 : (a0.toList == ([111, 110, 115, 101, 116] : List UInt8)) = true := eC c6
   have c6b1 : (a0.toList != ([111, 110, 115, 101, 116] : List UInt8)) = false := eA c6
   clear c6; obtain ⟨t474, A7, H⟩ := be H
   obtain rfl := oI H
   go_enter Tryz.func86, Tryz.ntmps86
   go_wp2_with (first | ((with_reducible refine gate_dst (N := 3) rfl ?_); refine boxT (N := 3) (cs := #[.slice A1_0 l1_0.length c1_0]) (t := 60) ?_; intro gb471 hg w8 hbox hb; have BK471 := asT hbox; have GW471 := asT (geT hg HB.out); have GE471 := GW471; replace HB := hS HB hb; clear hb hbox hg; obtain ⟨hcz9_0, hfz9_0⟩ := bx1 BK471.out) | ((with_reducible refine gate_callee (f := 85) rfl ?_); refine goesL_ (some 7) rfl rfl Tryz.func85 (by kernel_rfl) rfl #[.agg #[.slice A1_0 l1_0.length c1_0]] rfl eqT ?_; (with_reducible refine (impl_IsCandidate.calls k _ _ l1_0 true _ ?side1 ?side2 A3.out).mono ?_); (case side1 => exact crT HR1_0.out HB.out); (case side2 => exact HC1_0.out); rintro e w10 ⟨rfl, hb⟩; refine ⟨_, rfl, ?_⟩; replace BK471 := bS BK471 hb; replace HB := hS HB hb; (try clear hb hb2 hk hi); obtain ⟨hcz11_0, hfz11_0⟩ := bx1 BK471.out) | ((with_reducible refine gate_callee (f := 107) rfl ?_); refine goesL_ (some 10) rfl rfl Tryz.func107 (by kernel_rfl) rfl #[.agg #[.slice A1_0 l1_0.length c1_0]] rfl eqT ?_; (with_reducible refine (impl_OutputOf.calls k _ _ l1_0 t473 _ ?side1 ?side2 A5.out).mono ?_); (case side1 => exact crT HR1_0.out HB.out); (case side2 => exact HC1_0.out); rintro e w12 ⟨rfl, hb⟩; refine ⟨_, rfl, ?_⟩; replace BK471 := bS BK471 hb; replace HB := hS HB hb; (try clear hb hb2 hk hi)) | ((with_reducible refine gate_callee (f := 130) rfl ?_); refine goesL_ (some 15) rfl rfl Tryz.func130 (by kernel_rfl) rfl #[.string t473] rfl eqT ?_; (with_reducible refine (impl_CountOnsetless.calls k t473 t474 _ A7.out).mono ?_); rintro e w13 ⟨rfl, hb⟩; refine ⟨_, rfl, ?_⟩; replace BK471 := bS BK471 hb; replace HB := hS HB hb; (try clear hb hb2 hk hi)))
   go_ret
   exact ⟨rlT, hbT HB.out⟩
  ·rw [if_neg c6] at H
   have c6b0 : (a0.toList == ([111, 110, 115, 101, 116] : List UInt8)) = false := eB c6
   have c6b1 : (a0.toList != ([111, 110, 115, 101, 116] : List UInt8)) = true := eD c6
   by_cases c14 : a0.toList = ([110, 111, 99, 111, 100, 97] : List UInt8)
   ·rw [if_pos c14] at H
    have c14b0 : (a0.toList == ([110, 111, 99, 111, 100, 97] : List UInt8)) = true := eC c14
    have c14b1 : (a0.toList != ([110, 111, 99, 111, 100, 97] : List UInt8)) = false := eA c14
    clear c14; obtain ⟨t475, A15, H⟩ := be H
    obtain rfl := oI H
    go_enter Tryz.func86, Tryz.ntmps86
    go_wp2_with (first | ((with_reducible refine gate_dst (N := 3) rfl ?_); refine boxT (N := 3) (cs := #[.slice A1_0 l1_0.length c1_0]) (t := 60) ?_; intro gb471 hg w16 hbox hb; have BK471 := asT hbox; have GW471 := asT (geT hg HB.out); have GE471 := GW471; replace HB := hS HB hb; clear hb hbox hg; obtain ⟨hcz17_0, hfz17_0⟩ := bx1 BK471.out) | ((with_reducible refine gate_callee (f := 85) rfl ?_); refine goesL_ (some 7) rfl rfl Tryz.func85 (by kernel_rfl) rfl #[.agg #[.slice A1_0 l1_0.length c1_0]] rfl eqT ?_; (with_reducible refine (impl_IsCandidate.calls k _ _ l1_0 true _ ?side1 ?side2 A3.out).mono ?_); (case side1 => exact crT HR1_0.out HB.out); (case side2 => exact HC1_0.out); rintro e w18 ⟨rfl, hb⟩; refine ⟨_, rfl, ?_⟩; replace BK471 := bS BK471 hb; replace HB := hS HB hb; (try clear hb hb2 hk hi); obtain ⟨hcz19_0, hfz19_0⟩ := bx1 BK471.out) | ((with_reducible refine gate_callee (f := 107) rfl ?_); refine goesL_ (some 10) rfl rfl Tryz.func107 (by kernel_rfl) rfl #[.agg #[.slice A1_0 l1_0.length c1_0]] rfl eqT ?_; (with_reducible refine (impl_OutputOf.calls k _ _ l1_0 t473 _ ?side1 ?side2 A5.out).mono ?_); (case side1 => exact crT HR1_0.out HB.out); (case side2 => exact HC1_0.out); rintro e w20 ⟨rfl, hb⟩; refine ⟨_, rfl, ?_⟩; replace BK471 := bS BK471 hb; replace HB := hS HB hb; (try clear hb hb2 hk hi)) | ((with_reducible refine gate_callee (f := 131) rfl ?_); refine goesL_ (some 19) rfl rfl Tryz.func131 (by kernel_rfl) rfl #[.string t473] rfl eqT ?_; (with_reducible refine (impl_CountCodas.calls k t473 t475 _ A15.out).mono ?_); rintro e w21 ⟨rfl, hb⟩; refine ⟨_, rfl, ?_⟩; replace BK471 := bS BK471 hb; replace HB := hS HB hb; (try clear hb hb2 hk hi)))
    go_ret
    exact ⟨rlT, hbT HB.out⟩
   ·rw [if_neg c14] at H
    have c14b0 : (a0.toList == ([110, 111, 99, 111, 100, 97] : List UInt8)) = false := eB c14
    have c14b1 : (a0.toList != ([110, 111, 99, 111, 100, 97] : List UInt8)) = true := eD c14
    by_cases c22 : a0.toList = ([99, 108, 117, 115, 116, 101, 114] : List UInt8)
    ·rw [if_pos c22] at H
     have c22b0 : (a0.toList == ([99, 108, 117, 115, 116, 101, 114] : List UInt8)) = true := eC c22
     have c22b1 : (a0.toList != ([99, 108, 117, 115, 116, 101, 114] : List UInt8)) = false := eA c22
     clear c22; obtain ⟨t476, A23, H⟩ := be H
     obtain rfl := oI H
     go_enter Tryz.func86, Tryz.ntmps86
     go_wp2_with (first | ((with_reducible refine gate_dst (N := 3) rfl ?_); refine boxT (N := 3) (cs := #[.slice A1_0 l1_0.length c1_0]) (t := 60) ?_; intro gb471 hg w24 hbox hb; have BK471 := asT hbox; have GW471 := asT (geT hg HB.out); have GE471 := GW471; replace HB := hS HB hb; clear hb hbox hg; obtain ⟨hcz25_0, hfz25_0⟩ := bx1 BK471.out) | ((with_reducible refine gate_callee (f := 85) rfl ?_); refine goesL_ (some 7) rfl rfl Tryz.func85 (by kernel_rfl) rfl #[.agg #[.slice A1_0 l1_0.length c1_0]] rfl eqT ?_; (with_reducible refine (impl_IsCandidate.calls k _ _ l1_0 true _ ?side1 ?side2 A3.out).mono ?_); (case side1 => exact crT HR1_0.out HB.out); (case side2 => exact HC1_0.out); rintro e w26 ⟨rfl, hb⟩; refine ⟨_, rfl, ?_⟩; replace BK471 := bS BK471 hb; replace HB := hS HB hb; (try clear hb hb2 hk hi); obtain ⟨hcz27_0, hfz27_0⟩ := bx1 BK471.out) | ((with_reducible refine gate_callee (f := 107) rfl ?_); refine goesL_ (some 10) rfl rfl Tryz.func107 (by kernel_rfl) rfl #[.agg #[.slice A1_0 l1_0.length c1_0]] rfl eqT ?_; (with_reducible refine (impl_OutputOf.calls k _ _ l1_0 t473 _ ?side1 ?side2 A5.out).mono ?_); (case side1 => exact crT HR1_0.out HB.out); (case side2 => exact HC1_0.out); rintro e w28 ⟨rfl, hb⟩; refine ⟨_, rfl, ?_⟩; replace BK471 := bS BK471 hb; replace HB := hS HB hb; (try clear hb hb2 hk hi)) | ((with_reducible refine gate_callee (f := 132) rfl ?_); refine goesL_ (some 23) rfl rfl Tryz.func132 (by kernel_rfl) rfl #[.string t473] rfl eqT ?_; (with_reducible refine (impl_CountClusters.calls k t473 t476 _ A23.out).mono ?_); rintro e w29 ⟨rfl, hb⟩; refine ⟨_, rfl, ?_⟩; replace BK471 := bS BK471 hb; replace HB := hS HB hb; (try clear hb hb2 hk hi)))
     go_ret
     exact ⟨rlT, hbT HB.out⟩
    ·rw [if_neg c22] at H
     have c22b0 : (a0.toList == ([99, 108, 117, 115, 116, 101, 114] : List UInt8)) = false := eB c22
     have c22b1 : (a0.toList != ([99, 108, 117, 115, 116, 101, 114] : List UInt8)) = true := eD c22
     by_cases c30 : a0.toList = ([118, 111, 105, 99, 101] : List UInt8)
     ·rw [if_pos c30] at H
      have c30b0 : (a0.toList == ([118, 111, 105, 99, 101] : List UInt8)) = true := eC c30
      have c30b1 : (a0.toList != ([118, 111, 105, 99, 101] : List UInt8)) = false := eA c30
      clear c30; obtain ⟨t477, A31, H⟩ := be H
      obtain rfl := oI H
      go_enter Tryz.func86, Tryz.ntmps86
      go_wp2_with (first | ((with_reducible refine gate_dst (N := 3) rfl ?_); refine boxT (N := 3) (cs := #[.slice A1_0 l1_0.length c1_0]) (t := 60) ?_; intro gb471 hg w32 hbox hb; have BK471 := asT hbox; have GW471 := asT (geT hg HB.out); have GE471 := GW471; replace HB := hS HB hb; clear hb hbox hg; obtain ⟨hcz33_0, hfz33_0⟩ := bx1 BK471.out) | ((with_reducible refine gate_callee (f := 85) rfl ?_); refine goesL_ (some 7) rfl rfl Tryz.func85 (by kernel_rfl) rfl #[.agg #[.slice A1_0 l1_0.length c1_0]] rfl eqT ?_; (with_reducible refine (impl_IsCandidate.calls k _ _ l1_0 true _ ?side1 ?side2 A3.out).mono ?_); (case side1 => exact crT HR1_0.out HB.out); (case side2 => exact HC1_0.out); rintro e w34 ⟨rfl, hb⟩; refine ⟨_, rfl, ?_⟩; replace BK471 := bS BK471 hb; replace HB := hS HB hb; (try clear hb hb2 hk hi); obtain ⟨hcz35_0, hfz35_0⟩ := bx1 BK471.out) | ((with_reducible refine gate_callee (f := 107) rfl ?_); refine goesL_ (some 10) rfl rfl Tryz.func107 (by kernel_rfl) rfl #[.agg #[.slice A1_0 l1_0.length c1_0]] rfl eqT ?_; (with_reducible refine (impl_OutputOf.calls k _ _ l1_0 t473 _ ?side1 ?side2 A5.out).mono ?_); (case side1 => exact crT HR1_0.out HB.out); (case side2 => exact HC1_0.out); rintro e w36 ⟨rfl, hb⟩; refine ⟨_, rfl, ?_⟩; replace BK471 := bS BK471 hb; replace HB := hS HB hb; (try clear hb hb2 hk hi)) | ((with_reducible refine gate_callee (f := 133) rfl ?_); refine goesL_ (some 27) rfl rfl Tryz.func133 (by kernel_rfl) rfl #[.string t473] rfl eqT ?_; (with_reducible refine (impl_CountVoiced.calls k t473 t477 _ A31.out).mono ?_); rintro e w37 ⟨rfl, hb⟩; refine ⟨_, rfl, ?_⟩; replace BK471 := bS BK471 hb; replace HB := hS HB hb; (try clear hb hb2 hk hi)))
      go_ret
      exact ⟨rlT, hbT HB.out⟩
     ·rw [if_neg c30] at H
      have c30b0 : (a0.toList == ([118, 111, 105, 99, 101] : List UInt8)) = false := eB c30
      have c30b1 : (a0.toList != ([118, 111, 105, 99, 101] : List UInt8)) = true := eD c30
      by_cases c38 : a0.toList = ([102, 105, 110, 97, 108] : List UInt8)
      ·rw [if_pos c38] at H
       have c38b0 : (a0.toList == ([102, 105, 110, 97, 108] : List UInt8)) = true := eC c38
       have c38b1 : (a0.toList != ([102, 105, 110, 97, 108] : List UInt8)) = false := eA c38
       clear c38; obtain ⟨t478, A39, H⟩ := be H
       obtain rfl := oI H
       go_enter Tryz.func86, Tryz.ntmps86
       go_wp2_with (first | ((with_reducible refine gate_dst (N := 3) rfl ?_); refine boxT (N := 3) (cs := #[.slice A1_0 l1_0.length c1_0]) (t := 60) ?_; intro gb471 hg w40 hbox hb; have BK471 := asT hbox; have GW471 := asT (geT hg HB.out); have GE471 := GW471; replace HB := hS HB hb; clear hb hbox hg; obtain ⟨hcz41_0, hfz41_0⟩ := bx1 BK471.out) | ((with_reducible refine gate_callee (f := 85) rfl ?_); refine goesL_ (some 7) rfl rfl Tryz.func85 (by kernel_rfl) rfl #[.agg #[.slice A1_0 l1_0.length c1_0]] rfl eqT ?_; (with_reducible refine (impl_IsCandidate.calls k _ _ l1_0 true _ ?side1 ?side2 A3.out).mono ?_); (case side1 => exact crT HR1_0.out HB.out); (case side2 => exact HC1_0.out); rintro e w42 ⟨rfl, hb⟩; refine ⟨_, rfl, ?_⟩; replace BK471 := bS BK471 hb; replace HB := hS HB hb; (try clear hb hb2 hk hi); obtain ⟨hcz43_0, hfz43_0⟩ := bx1 BK471.out) | ((with_reducible refine gate_callee (f := 107) rfl ?_); refine goesL_ (some 10) rfl rfl Tryz.func107 (by kernel_rfl) rfl #[.agg #[.slice A1_0 l1_0.length c1_0]] rfl eqT ?_; (with_reducible refine (impl_OutputOf.calls k _ _ l1_0 t473 _ ?side1 ?side2 A5.out).mono ?_); (case side1 => exact crT HR1_0.out HB.out); (case side2 => exact HC1_0.out); rintro e w44 ⟨rfl, hb⟩; refine ⟨_, rfl, ?_⟩; replace BK471 := bS BK471 hb; replace HB := hS HB hb; (try clear hb hb2 hk hi)) | ((with_reducible refine gate_callee (f := 134) rfl ?_); refine goesL_ (some 31) rfl rfl Tryz.func134 (by kernel_rfl) rfl #[.string t473] rfl eqT ?_; (with_reducible refine (impl_CountFinalVoiced.calls k t473 t478 _ A39.out).mono ?_); rintro e w45 ⟨rfl, hb⟩; refine ⟨_, rfl, ?_⟩; replace BK471 := bS BK471 hb; replace HB := hS HB hb; (try clear hb hb2 hk hi)))
       go_ret
       exact ⟨rlT, hbT HB.out⟩
      ·rw [if_neg c38] at H
       have c38b0 : (a0.toList == ([102, 105, 110, 97, 108] : List UInt8)) = false := eB c38
       have c38b1 : (a0.toList != ([102, 105, 110, 97, 108] : List UInt8)) = true := eD c38
       by_cases c46 : a0.toList = ([110, 97, 115, 97, 108] : List UInt8)
       ·rw [if_pos c46] at H
        have c46b0 : (a0.toList == ([110, 97, 115, 97, 108] : List UInt8)) = true := eC c46
        have c46b1 : (a0.toList != ([110, 97, 115, 97, 108] : List UInt8)) = false := eA c46
        clear c46; obtain ⟨t479, A47, H⟩ := be H
        obtain rfl := oI H
        go_enter Tryz.func86, Tryz.ntmps86
        go_wp2_with (first | ((with_reducible refine gate_dst (N := 3) rfl ?_); refine boxT (N := 3) (cs := #[.slice A1_0 l1_0.length c1_0]) (t := 60) ?_; intro gb471 hg w48 hbox hb; have BK471 := asT hbox; have GW471 := asT (geT hg HB.out); have GE471 := GW471; replace HB := hS HB hb; clear hb hbox hg; obtain ⟨hcz49_0, hfz49_0⟩ := bx1 BK471.out) | ((with_reducible refine gate_callee (f := 85) rfl ?_); refine goesL_ (some 7) rfl rfl Tryz.func85 (by kernel_rfl) rfl #[.agg #[.slice A1_0 l1_0.length c1_0]] rfl eqT ?_; (with_reducible refine (impl_IsCandidate.calls k _ _ l1_0 true _ ?side1 ?side2 A3.out).mono ?_); (case side1 => exact crT HR1_0.out HB.out); (case side2 => exact HC1_0.out); rintro e w50 ⟨rfl, hb⟩; refine ⟨_, rfl, ?_⟩; replace BK471 := bS BK471 hb; replace HB := hS HB hb; (try clear hb hb2 hk hi); obtain ⟨hcz51_0, hfz51_0⟩ := bx1 BK471.out) | ((with_reducible refine gate_callee (f := 107) rfl ?_); refine goesL_ (some 10) rfl rfl Tryz.func107 (by kernel_rfl) rfl #[.agg #[.slice A1_0 l1_0.length c1_0]] rfl eqT ?_; (with_reducible refine (impl_OutputOf.calls k _ _ l1_0 t473 _ ?side1 ?side2 A5.out).mono ?_); (case side1 => exact crT HR1_0.out HB.out); (case side2 => exact HC1_0.out); rintro e w52 ⟨rfl, hb⟩; refine ⟨_, rfl, ?_⟩; replace BK471 := bS BK471 hb; replace HB := hS HB hb; (try clear hb hb2 hk hi)) | ((with_reducible refine gate_callee (f := 135) rfl ?_); refine goesL_ (some 35) rfl rfl Tryz.func135 (by kernel_rfl) rfl #[.string t473] rfl eqT ?_; (with_reducible refine (impl_CountNasalVoiceless.calls k t473 t479 _ A47.out).mono ?_); rintro e w53 ⟨rfl, hb⟩; refine ⟨_, rfl, ?_⟩; replace BK471 := bS BK471 hb; replace HB := hS HB hb; (try clear hb hb2 hk hi)))
        go_ret
        exact ⟨rlT, hbT HB.out⟩
       ·rw [if_neg c46] at H
        have c46b0 : (a0.toList == ([110, 97, 115, 97, 108] : List UInt8)) = false := eB c46
        have c46b1 : (a0.toList != ([110, 97, 115, 97, 108] : List UInt8)) = true := eD c46
        by_cases c54 : a0.toList = ([109, 97, 120] : List UInt8)
        ·rw [if_pos c54] at H
         have c54b0 : (a0.toList == ([109, 97, 120] : List UInt8)) = true := eC c54
         have c54b1 : (a0.toList != ([109, 97, 120] : List UInt8)) = false := eA c54
         clear c54; obtain ⟨t480, A55, H⟩ := be H
         obtain rfl := oI H
         go_enter Tryz.func86, Tryz.ntmps86
         go_wp2_with (first | ((with_reducible refine gate_dst (N := 3) rfl ?_); refine boxT (N := 3) (cs := #[.slice A1_0 l1_0.length c1_0]) (t := 60) ?_; intro gb471 hg w56 hbox hb; have BK471 := asT hbox; have GW471 := asT (geT hg HB.out); have GE471 := GW471; replace HB := hS HB hb; clear hb hbox hg; obtain ⟨hcz57_0, hfz57_0⟩ := bx1 BK471.out) | ((with_reducible refine gate_callee (f := 85) rfl ?_); refine goesL_ (some 7) rfl rfl Tryz.func85 (by kernel_rfl) rfl #[.agg #[.slice A1_0 l1_0.length c1_0]] rfl eqT ?_; (with_reducible refine (impl_IsCandidate.calls k _ _ l1_0 true _ ?side1 ?side2 A3.out).mono ?_); (case side1 => exact crT HR1_0.out HB.out); (case side2 => exact HC1_0.out); rintro e w58 ⟨rfl, hb⟩; refine ⟨_, rfl, ?_⟩; replace BK471 := bS BK471 hb; replace HB := hS HB hb; (try clear hb hb2 hk hi); obtain ⟨hcz59_0, hfz59_0⟩ := bx1 BK471.out) | ((with_reducible refine gate_callee (f := 107) rfl ?_); refine goesL_ (some 10) rfl rfl Tryz.func107 (by kernel_rfl) rfl #[.agg #[.slice A1_0 l1_0.length c1_0]] rfl eqT ?_; (with_reducible refine (impl_OutputOf.calls k _ _ l1_0 t473 _ ?side1 ?side2 A5.out).mono ?_); (case side1 => exact crT HR1_0.out HB.out); (case side2 => exact HC1_0.out); rintro e w60 ⟨rfl, hb⟩; refine ⟨_, rfl, ?_⟩; replace BK471 := bS BK471 hb; replace HB := hS HB hb; (try clear hb hb2 hk hi); obtain ⟨hcz61_0, hfz61_0⟩ := bx1 BK471.out) | ((with_reducible refine gate_callee (f := 136) rfl ?_); refine goesL_ (some 39) rfl rfl Tryz.func136 (by kernel_rfl) rfl #[.agg #[.slice A1_0 l1_0.length c1_0]] rfl eqT ?_; (with_reducible refine (impl_CountDeleted.calls k _ _ l1_0 t480 _ ?side1 ?side2 A55.out).mono ?_); (case side1 => exact crT HR1_0.out HB.out); (case side2 => exact HC1_0.out); rintro e w62 ⟨rfl, hb⟩; refine ⟨_, rfl, ?_⟩; replace BK471 := bS BK471 hb; replace HB := hS HB hb; (try clear hb hb2 hk hi)))
         go_ret
         exact ⟨rlT, hbT HB.out⟩
        ·rw [if_neg c54] at H
         have c54b0 : (a0.toList == ([109, 97, 120] : List UInt8)) = false := eB c54
         have c54b1 : (a0.toList != ([109, 97, 120] : List UInt8)) = true := eD c54
         by_cases c63 : a0.toList = ([100, 101, 112] : List UInt8)
         ·rw [if_pos c63] at H
          have c63b0 : (a0.toList == ([100, 101, 112] : List UInt8)) = true := eC c63
          have c63b1 : (a0.toList != ([100, 101, 112] : List UInt8)) = false := eA c63
          clear c63; obtain ⟨t481, A64, H⟩ := be H
          obtain rfl := oI H
          go_enter Tryz.func86, Tryz.ntmps86
          go_wp2_with (first | ((with_reducible refine gate_dst (N := 3) rfl ?_); refine boxT (N := 3) (cs := #[.slice A1_0 l1_0.length c1_0]) (t := 60) ?_; intro gb471 hg w65 hbox hb; have BK471 := asT hbox; have GW471 := asT (geT hg HB.out); have GE471 := GW471; replace HB := hS HB hb; clear hb hbox hg; obtain ⟨hcz66_0, hfz66_0⟩ := bx1 BK471.out) | ((with_reducible refine gate_callee (f := 85) rfl ?_); refine goesL_ (some 7) rfl rfl Tryz.func85 (by kernel_rfl) rfl #[.agg #[.slice A1_0 l1_0.length c1_0]] rfl eqT ?_; (with_reducible refine (impl_IsCandidate.calls k _ _ l1_0 true _ ?side1 ?side2 A3.out).mono ?_); (case side1 => exact crT HR1_0.out HB.out); (case side2 => exact HC1_0.out); rintro e w67 ⟨rfl, hb⟩; refine ⟨_, rfl, ?_⟩; replace BK471 := bS BK471 hb; replace HB := hS HB hb; (try clear hb hb2 hk hi); obtain ⟨hcz68_0, hfz68_0⟩ := bx1 BK471.out) | ((with_reducible refine gate_callee (f := 107) rfl ?_); refine goesL_ (some 10) rfl rfl Tryz.func107 (by kernel_rfl) rfl #[.agg #[.slice A1_0 l1_0.length c1_0]] rfl eqT ?_; (with_reducible refine (impl_OutputOf.calls k _ _ l1_0 t473 _ ?side1 ?side2 A5.out).mono ?_); (case side1 => exact crT HR1_0.out HB.out); (case side2 => exact HC1_0.out); rintro e w69 ⟨rfl, hb⟩; refine ⟨_, rfl, ?_⟩; replace BK471 := bS BK471 hb; replace HB := hS HB hb; (try clear hb hb2 hk hi); obtain ⟨hcz70_0, hfz70_0⟩ := bx1 BK471.out) | ((with_reducible refine gate_callee (f := 137) rfl ?_); refine goesL_ (some 43) rfl rfl Tryz.func137 (by kernel_rfl) rfl #[.agg #[.slice A1_0 l1_0.length c1_0]] rfl eqT ?_; (with_reducible refine (impl_CountInserted.calls k _ _ l1_0 t481 _ ?side1 ?side2 A64.out).mono ?_); (case side1 => exact crT HR1_0.out HB.out); (case side2 => exact HC1_0.out); rintro e w71 ⟨rfl, hb⟩; refine ⟨_, rfl, ?_⟩; replace BK471 := bS BK471 hb; replace HB := hS HB hb; (try clear hb hb2 hk hi)))
          go_ret
          exact ⟨rlT, hbT HB.out⟩
         ·rw [if_neg c63] at H
          have c63b0 : (a0.toList == ([100, 101, 112] : List UInt8)) = false := eB c63
          have c63b1 : (a0.toList != ([100, 101, 112] : List UInt8)) = true := eD c63
          by_cases c72 : a0.toList = ([105, 100, 101, 110, 116] : List UInt8)
          ·rw [if_pos c72] at H
           have c72b0 : (a0.toList == ([105, 100, 101, 110, 116] : List UInt8)) = true := eC c72
           have c72b1 : (a0.toList != ([105, 100, 101, 110, 116] : List UInt8)) = false := eA c72
           clear c72; obtain ⟨t482, A73, H⟩ := be H
           obtain rfl := oI H
           go_enter Tryz.func86, Tryz.ntmps86
           go_wp2_with (first | ((with_reducible refine gate_dst (N := 3) rfl ?_); refine boxT (N := 3) (cs := #[.slice A1_0 l1_0.length c1_0]) (t := 60) ?_; intro gb471 hg w74 hbox hb; have BK471 := asT hbox; have GW471 := asT (geT hg HB.out); have GE471 := GW471; replace HB := hS HB hb; clear hb hbox hg; obtain ⟨hcz75_0, hfz75_0⟩ := bx1 BK471.out) | ((with_reducible refine gate_callee (f := 85) rfl ?_); refine goesL_ (some 7) rfl rfl Tryz.func85 (by kernel_rfl) rfl #[.agg #[.slice A1_0 l1_0.length c1_0]] rfl eqT ?_; (with_reducible refine (impl_IsCandidate.calls k _ _ l1_0 true _ ?side1 ?side2 A3.out).mono ?_); (case side1 => exact crT HR1_0.out HB.out); (case side2 => exact HC1_0.out); rintro e w76 ⟨rfl, hb⟩; refine ⟨_, rfl, ?_⟩; replace BK471 := bS BK471 hb; replace HB := hS HB hb; (try clear hb hb2 hk hi); obtain ⟨hcz77_0, hfz77_0⟩ := bx1 BK471.out) | ((with_reducible refine gate_callee (f := 107) rfl ?_); refine goesL_ (some 10) rfl rfl Tryz.func107 (by kernel_rfl) rfl #[.agg #[.slice A1_0 l1_0.length c1_0]] rfl eqT ?_; (with_reducible refine (impl_OutputOf.calls k _ _ l1_0 t473 _ ?side1 ?side2 A5.out).mono ?_); (case side1 => exact crT HR1_0.out HB.out); (case side2 => exact HC1_0.out); rintro e w78 ⟨rfl, hb⟩; refine ⟨_, rfl, ?_⟩; replace BK471 := bS BK471 hb; replace HB := hS HB hb; (try clear hb hb2 hk hi); obtain ⟨hcz79_0, hfz79_0⟩ := bx1 BK471.out) | ((with_reducible refine gate_callee (f := 138) rfl ?_); refine goesL_ (some 47) rfl rfl Tryz.func138 (by kernel_rfl) rfl #[.agg #[.slice A1_0 l1_0.length c1_0]] rfl eqT ?_; (with_reducible refine (impl_CountVoiceChanged.calls k _ _ l1_0 t482 _ ?side1 ?side2 A73.out).mono ?_); (case side1 => exact crT HR1_0.out HB.out); (case side2 => exact HC1_0.out); rintro e w80 ⟨rfl, hb⟩; refine ⟨_, rfl, ?_⟩; replace BK471 := bS BK471 hb; replace HB := hS HB hb; (try clear hb hb2 hk hi)))
           go_ret
           exact ⟨rlT, hbT HB.out⟩
          ·rw [if_neg c72] at H
           have c72b0 : (a0.toList == ([105, 100, 101, 110, 116] : List UInt8)) = false := eB c72
           have c72b1 : (a0.toList != ([105, 100, 101, 110, 116] : List UInt8)) = true := eD c72
           by_cases c81 : a0.toList = ([99, 111, 110, 116, 105, 103] : List UInt8)
           ·rw [if_pos c81] at H
            have c81b0 : (a0.toList == ([99, 111, 110, 116, 105, 103] : List UInt8)) = true := eC c81
            have c81b1 : (a0.toList != ([99, 111, 110, 116, 105, 103] : List UInt8)) = false := eA c81
            clear c81; obtain ⟨t483, A82, H⟩ := be H
            obtain rfl := oI H
            go_enter Tryz.func86, Tryz.ntmps86
            go_wp2_with (first | ((with_reducible refine gate_dst (N := 3) rfl ?_); refine boxT (N := 3) (cs := #[.slice A1_0 l1_0.length c1_0]) (t := 60) ?_; intro gb471 hg w83 hbox hb; have BK471 := asT hbox; have GW471 := asT (geT hg HB.out); have GE471 := GW471; replace HB := hS HB hb; clear hb hbox hg; obtain ⟨hcz84_0, hfz84_0⟩ := bx1 BK471.out) | ((with_reducible refine gate_callee (f := 85) rfl ?_); refine goesL_ (some 7) rfl rfl Tryz.func85 (by kernel_rfl) rfl #[.agg #[.slice A1_0 l1_0.length c1_0]] rfl eqT ?_; (with_reducible refine (impl_IsCandidate.calls k _ _ l1_0 true _ ?side1 ?side2 A3.out).mono ?_); (case side1 => exact crT HR1_0.out HB.out); (case side2 => exact HC1_0.out); rintro e w85 ⟨rfl, hb⟩; refine ⟨_, rfl, ?_⟩; replace BK471 := bS BK471 hb; replace HB := hS HB hb; (try clear hb hb2 hk hi); obtain ⟨hcz86_0, hfz86_0⟩ := bx1 BK471.out) | ((with_reducible refine gate_callee (f := 107) rfl ?_); refine goesL_ (some 10) rfl rfl Tryz.func107 (by kernel_rfl) rfl #[.agg #[.slice A1_0 l1_0.length c1_0]] rfl eqT ?_; (with_reducible refine (impl_OutputOf.calls k _ _ l1_0 t473 _ ?side1 ?side2 A5.out).mono ?_); (case side1 => exact crT HR1_0.out HB.out); (case side2 => exact HC1_0.out); rintro e w87 ⟨rfl, hb⟩; refine ⟨_, rfl, ?_⟩; replace BK471 := bS BK471 hb; replace HB := hS HB hb; (try clear hb hb2 hk hi); obtain ⟨hcz88_0, hfz88_0⟩ := bx1 BK471.out) | ((with_reducible refine gate_callee (f := 139) rfl ?_); refine goesL_ (some 51) rfl rfl Tryz.func139 (by kernel_rfl) rfl #[.agg #[.slice A1_0 l1_0.length c1_0]] rfl eqT ?_; (with_reducible refine (impl_CountBreaks.calls k _ _ l1_0 t483 _ ?side1 ?side2 A82.out).mono ?_); (case side1 => exact crT HR1_0.out HB.out); (case side2 => exact HC1_0.out); rintro e w89 ⟨rfl, hb⟩; refine ⟨_, rfl, ?_⟩; replace BK471 := bS BK471 hb; replace HB := hS HB hb; (try clear hb hb2 hk hi)))
            go_ret
            exact ⟨rlT, hbT HB.out⟩
           ·rw [if_neg c81] at H
            have c81b0 : (a0.toList == ([99, 111, 110, 116, 105, 103] : List UInt8)) = false := eB c81
            have c81b1 : (a0.toList != ([99, 111, 110, 116, 105, 103] : List UInt8)) = true := eD c81
            obtain rfl := oI H
            go_enter Tryz.func86, Tryz.ntmps86
            go_wp2_with (first | ((with_reducible refine gate_dst (N := 3) rfl ?_); refine boxT (N := 3) (cs := #[.slice A1_0 l1_0.length c1_0]) (t := 60) ?_; intro gb471 hg w90 hbox hb; have BK471 := asT hbox; have GW471 := asT (geT hg HB.out); have GE471 := GW471; replace HB := hS HB hb; clear hb hbox hg; obtain ⟨hcz91_0, hfz91_0⟩ := bx1 BK471.out) | ((with_reducible refine gate_callee (f := 85) rfl ?_); refine goesL_ (some 7) rfl rfl Tryz.func85 (by kernel_rfl) rfl #[.agg #[.slice A1_0 l1_0.length c1_0]] rfl eqT ?_; (with_reducible refine (impl_IsCandidate.calls k _ _ l1_0 true _ ?side1 ?side2 A3.out).mono ?_); (case side1 => exact crT HR1_0.out HB.out); (case side2 => exact HC1_0.out); rintro e w92 ⟨rfl, hb⟩; refine ⟨_, rfl, ?_⟩; replace BK471 := bS BK471 hb; replace HB := hS HB hb; (try clear hb hb2 hk hi); obtain ⟨hcz93_0, hfz93_0⟩ := bx1 BK471.out) | ((with_reducible refine gate_callee (f := 107) rfl ?_); refine goesL_ (some 10) rfl rfl Tryz.func107 (by kernel_rfl) rfl #[.agg #[.slice A1_0 l1_0.length c1_0]] rfl eqT ?_; (with_reducible refine (impl_OutputOf.calls k _ _ l1_0 t473 _ ?side1 ?side2 A5.out).mono ?_); (case side1 => exact crT HR1_0.out HB.out); (case side2 => exact HC1_0.out); rintro e w94 ⟨rfl, hb⟩; refine ⟨_, rfl, ?_⟩; replace BK471 := bS BK471 hb; replace HB := hS HB hb; (try clear hb hb2 hk hi)))
            go_ret
            exact ⟨rlT, hbT HB.out⟩
 ·replace c4 := eE c4
  subst c4; rw [if_neg nF] at H; have H1 := H; clear H; have H := H1; clear H1
  obtain rfl := oI H
  go_enter Tryz.func86, Tryz.ntmps86
  go_wp2_with (first | ((with_reducible refine gate_dst (N := 3) rfl ?_); refine boxT (N := 3) (cs := #[.slice A1_0 l1_0.length c1_0]) (t := 60) ?_; intro gb471 hg w95 hbox hb; have BK471 := asT hbox; have GW471 := asT (geT hg HB.out); have GE471 := GW471; replace HB := hS HB hb; clear hb hbox hg; obtain ⟨hcz96_0, hfz96_0⟩ := bx1 BK471.out) | ((with_reducible refine gate_callee (f := 85) rfl ?_); refine goesL_ (some 7) rfl rfl Tryz.func85 (by kernel_rfl) rfl #[.agg #[.slice A1_0 l1_0.length c1_0]] rfl eqT ?_; (with_reducible refine (impl_IsCandidate.calls k _ _ l1_0 false _ ?side1 ?side2 A3.out).mono ?_); (case side1 => exact crT HR1_0.out HB.out); (case side2 => exact HC1_0.out); rintro e w97 ⟨rfl, hb⟩; refine ⟨_, rfl, ?_⟩; replace BK471 := bS BK471 hb; replace HB := hS HB hb; (try clear hb hb2 hk hi)))
  go_ret
  exact ⟨rlT, hbT HB.out⟩
mutual
def impl_ProfileOf.j0 : Nat → List ByteArray → Bool → List (S109) → Option (List Int)
 | 0, _, _, _ => none
 | k + 1, x0, x15, x485000 => if x15 = true then (some ([] : List Int)) else (impl_ProfileOf.l0 k (([] : List Int)) x0 (x0.length : Int) 0 x485000)
def impl_ProfileOf.l0 : Nat → List Int → List ByteArray → Int → Int → List (S109) → Option (List Int)
 | 0, _, _, _, _, _ => none
 | k + 1, x5, x17, x18, x19, x485000 => if x19 < x18 then (if 0 ≤ x19 then (if x19 < (x17.length : Int) then ((impl_ViolationsOf.f k (rdOf ByteArray.empty x17 x19) x485000).bind fun t491 => (if x5.length < 17592186044416 then (impl_ProfileOf.l0 k (x5 ++ [t491]) x17 x18 (wrap64 (x19 + 1)) x485000) else (none))) else (none)) else (none)) else (some x5)
end
def impl_ProfileOf.f (k : Nat) (l0 : List ByteArray) (l1_0 : List (S109)) : Option (List Int) := (impl_AreConstraints.f k l0).bind fun t485 => (if t485 = true then ((impl_IsCandidate.f k l1_0).bind fun t486 => (impl_ProfileOf.j0 k l0 (!t486) l1_0)) else (impl_ProfileOf.j0 k l0 true l1_0))
theorem impl_ProfileOf.mono_l : ∀ k, (∀ y0 y1 y2, LeO (impl_ProfileOf.j0 k y0 y1 y2) (impl_ProfileOf.j0 (k + 1) y0 y1 y2)) ∧ (∀ y0 y1 y2 y3 y4, LeO (impl_ProfileOf.l0 k y0 y1 y2 y3 y4) (impl_ProfileOf.l0 (k + 1) y0 y1 y2 y3 y4))
 | 0 => ⟨fun _ _ _ r h => by simp [impl_ProfileOf.j0] at h, fun _ _ _ _ _ r h => by simp [impl_ProfileOf.l0] at h⟩
 | k + 1 => by
  obtain ⟨ih0, ih1⟩ := impl_ProfileOf.mono_l k; refine ⟨?_, ?_⟩
  ·intro y0 y1 y2
   unfold impl_ProfileOf.j0
   with_reducible repeat' first | exact ih0 _ _ _ | exact ih1 _ _ _ _ _ | exact impl_AreConstraints.mono _ _ | exact impl_IsCandidate.mono _ _ | exact impl_ViolationsOf.mono _ _ _ | exact LeO.refl _ | exact LeO.none _ | refine LeO.ite ?_ ?_ | refine LeO.bind ?_ (fun _ => ?_)
  ·intro y0 y1 y2 y3 y4
   unfold impl_ProfileOf.l0
   with_reducible repeat' first | exact ih0 _ _ _ | exact ih1 _ _ _ _ _ | exact impl_AreConstraints.mono _ _ | exact impl_IsCandidate.mono _ _ | exact impl_ViolationsOf.mono _ _ _ | exact LeO.refl _ | exact LeO.none _ | refine LeO.ite ?_ ?_ | refine LeO.bind ?_ (fun _ => ?_)
theorem impl_ProfileOf.mono : ∀ a0 a1 k, LeO (impl_ProfileOf.f k a0 a1) (impl_ProfileOf.f (k + 1) a0 a1) := by
 intro a0 a1 k
 obtain ⟨ih0, ih1⟩ := impl_ProfileOf.mono_l k
 unfold impl_ProfileOf.f
 with_reducible repeat' first | exact ih0 _ _ _ | exact ih1 _ _ _ _ _ | exact impl_AreConstraints.mono _ _ | exact impl_IsCandidate.mono _ _ | exact impl_ViolationsOf.mono _ _ _ | exact LeO.refl _ | exact LeO.none _ | refine LeO.ite ?_ ?_ | refine LeO.bind ?_ (fun _ => ?_)
theorem impl_ProfileOf.calls (k : Nat) (A0 : Option Addr) (c0 : Nat) (l0 : List ByteArray) (A1_0 : Option Addr) (c1_0 : Nat) (l1_0 : List (S109)) (r : List Int) (w : World) (hr0 : Kd.C Kd.string w A0 l0.length l0) (hc0 : l0.length ≤ c0) (hr1_0 : Kd.C k109 w A1_0 l1_0.length l1_0) (hc1_0 : l1_0.length ≤ c1_0) (h : impl_ProfileOf.f k l0 l1_0 = some r) :
  Calls Tryz.prog 43 #[.slice A0 l0.length c0, .agg #[.slice A1_0 l1_0.length c1_0]] w fun e w' => ∃ v0_ : Value, e = .returned (v0_) ∧ Kd.R (Kd.int .i64) 3 w' w.heap.size (fun _ => True) v0_ r ∧ Below w.heap.size w w' := by
 have hu60 := Tryz.underlying60; have HR0 := asT hr0; have HC0 := asT hc0; clear hr0 hc0; have HR1_0 := asT hr1_0; have HC1_0 := asT hc1_0; clear hr1_0 hc1_0; have HB := asT (Below.refl w.heap.size w); have H := h; unfold impl_ProfileOf.f at H; clear h; have HC3 := asT H; clear H
 go_enter Tryz.func43, Tryz.ntmps43
 go_upto_region 1 with (first | ((with_reducible refine gate_dst (N := 3) rfl ?_); refine boxT (N := 3) (cs := #[.slice A1_0 l1_0.length c1_0]) (t := 60) ?_; intro gb484 hg w4 hbox hb; have BK484 := asT hbox; have GW484 := asT (geT hg HB.out); have GE484 := GW484; replace HB := hS HB hb; clear hb hbox hg))
 (try simp only [Act.put, sA, sZ, sS])
 go_cut [15] (fun v15 wc => ∃ (kq : Nat) (x15_2 : Bool), v15 = .bool x15_2 ∧ Aside0 (impl_ProfileOf.j0 kq l0 x15_2 l1_0 = some r) ∧ Aside0 (kq ≤ k) ∧ Aside0 (wc.heap[gb484]? = some (.cells #[(.slice A1_0 l1_0.length c1_0)] 60 (0, 0))) ∧ Aside0 (Below w.heap.size w wc))
 case first =>
  have H := HC3.out; clear HC3; obtain ⟨t485, A5, H⟩ := be H
  by_cases c6 : t485 = true
  ·subst c6
   rw [if_pos rfl] at H; obtain ⟨t486, A7, H⟩ := be H; have H' := asT H; clear H
   go_wp2_with (first | ((with_reducible refine gate_callee (f := 39) rfl ?_); refine goesL_ (some 9) rfl rfl Tryz.func39 (by kernel_rfl) rfl #[.slice A0 l0.length c0] rfl eqT ?_; (with_reducible refine (impl_AreConstraints.calls k _ _ l0 true _ ?side1 ?side2 A5.out).mono ?_); (case side1 => exact crT HR0.out HB.out); (case side2 => exact HC0.out); rintro e w8 ⟨rfl, hb⟩; refine ⟨_, rfl, ?_⟩; replace BK484 := bS BK484 hb; replace HB := hS HB hb; (try clear hb hb2 hk hi); obtain ⟨hcz9_0, hfz9_0⟩ := bx1 BK484.out) | (go_at_call 85; (with_reducible refine (impl_IsCandidate.calls k _ _ l1_0 t486 _ ?side1 ?side2 A7.out).mono ?_); (case side1 => exact crT HR1_0.out HB.out); (case side2 => exact HC1_0.out); rintro e w10 ⟨rfl, hb⟩; replace BK484 := bS BK484 hb; replace HB := hS HB hb; (try clear hb hb2 hk hi)))
   go_meet
   case rel => exact ⟨_, (!t486), rdT, H', ⟨by first | omega | exact Nat.le_refl _⟩, kpT BK484.out, ⟨hbT HB.out⟩⟩
  ·replace c6 := eE c6
   subst c6; rw [if_neg nF] at H; have H' := asT H; clear H
   go_wp2_with (first | ((with_reducible refine gate_callee (f := 39) rfl ?_); refine goesL_ (some 9) rfl rfl Tryz.func39 (by kernel_rfl) rfl #[.slice A0 l0.length c0] rfl eqT ?_; (with_reducible refine (impl_AreConstraints.calls k _ _ l0 false _ ?side1 ?side2 A5.out).mono ?_); (case side1 => exact crT HR0.out HB.out); (case side2 => exact HC0.out); rintro e w11 ⟨rfl, hb⟩; refine ⟨_, rfl, ?_⟩; replace BK484 := bS BK484 hb; replace HB := hS HB hb; (try clear hb hb2 hk hi)))
   go_meet
   case rel => exact ⟨_, (true), rdT, H', ⟨by first | omega | exact Nat.le_refl _⟩, kpT BK484.out, ⟨hbT HB.out⟩⟩
 case rest =>
  clear HC3; (try clear c1 p2 c3 c4 c6 hcz9_0 hfz9_0); obtain ⟨kq, x15_2, rfl, HA, HJ2, BK484, HB⟩ := hcut
  cases kq with
  | zero => exact absurd HA.out (by simp [impl_ProfileOf.j0])
  | succ kj2 =>
   have H := HA.out; clear HA
   simp only [impl_ProfileOf.j0] at H
   by_cases c12 : x15_2 = true
   ·subst c12
    rw [if_pos rfl] at H; have H1 := H; clear H; have H := H1; clear H1
    obtain rfl := oI H
    go_wp2
    go_ret
    exact ⟨_, rlT, by first | exact Kd.R_nil _ _ _ _ _ | exact Kd.N_nil _ _ _ _ _ | exact Kd.V_nil _ _ _ _ _ | exact Kd.Q_nil _ _ _ _ _ | exact Kd.S_nil _ _ _ _ _, hbT HB.out⟩
   ·replace c12 := eE c12
    subst c12; rw [if_neg nF] at H; obtain ⟨y487, hy487⟩ : ∃ y_ : List Int, y_ = (([] : List Int)) := ⟨_, rfl⟩
    replace H : (impl_ProfileOf.l0 kj2 y487 l0 (l0.length : Int) 0 l1_0) = some r := by first | (rw [hy487]; with_reducible exact H) | (have H2_ := (Option.bind_some _ _).symm.trans H; rw [hy487]; with_reducible exact H2_) | (have H2_ := (Option.bind_some _ _).symm.trans H; with_reducible exact H2_) | with_reducible exact H | (rw [hy487]; exact H) | exact H
    have Ny487 := asT hy487; clear hy487; have H' := asT H; clear H
    go_wp2_with (first | ((with_reducible refine gate_dst (N := 16) rfl ?_); refine Kd.R_lit (Kd.int .i64) _ 3 ?hg (N := 16) ?hd (xs := ([] : List Int)) (inner := []) (ok := fun _ => True) (okp := fun _ => True) ?hr ?hp (fun _ hk => hk) trivial (Below.refl _ _) (Nat.le_refl _) (by simp) ?_; (case hd => rfl); (case hg => rfl); (case hr => first | (go_simp; done) | (go_simp; rfl)); (case hp => exact (Reps.none _ _)); intro v488 w13 ho14 hb hg_ hnew_; clear hg_ hnew_; (first | rw [← Ny487.out] at ho14 | (simp only [Int.reduceToNat] at ho14; rw [← Ny487.out] at ho14)); have HO489 := asT (Kd.R_lower ho14 (below_size (hbT HB.out))); replace BK484 := bS BK484 hb; replace HB := hS HB hb; clear hb ho14))
    go_loopg [5, 19] kj2 (fun kq v5 v19 w' => ∃ (x5_2 : List Int) (x19_2 : Int), v19 = .int .i64 x19_2 ∧ Aside0 (impl_ProfileOf.l0 kq x5_2 l0 (l0.length : Int) x19_2 l1_0 = some r) ∧ Aside0 (kq ≤ kj2) ∧ Aside0 (Kd.R (Kd.int .i64) 3 w' w.heap.size (fun _ => True) v5 x5_2) ∧ Aside0 (w'.heap[gb484]? = some (.cells #[(.slice A1_0 l1_0.length c1_0)] 60 (0, 0))) ∧ Aside0 (Below w.heap.size w w'))
    case atStart => exact ⟨(y487), (0), rdT, H', ⟨Nat.le_refl _⟩, ⟨by (with_reducible repeat (first | apply Kd.R_alloc | apply Kd.R_drewN | apply Kd.R_drew)); exact HO489.out⟩, kpT BK484.out, ⟨hbT HB.out⟩⟩
    case round =>
     clear H'; (try clear c1 p2 c3 c4 c6 c12 hcz9_0 hfz9_0 p2); obtain ⟨x5_2, x19_2, rfl, HA, HK2, HO_5, BK484, HB⟩ := hrel
     cases gk with
     | zero => exact absurd HA.out (by simp [impl_ProfileOf.l0])
     | succ k2 =>
      have H := HA.out; clear HA
      simp only [impl_ProfileOf.l0] at H
      by_cases c15 : x19_2 < (l0.length : Int)
      ·rw [if_pos c15] at H
       have c15b0 : decide (x19_2 < (l0.length : Int)) = true := dt c15
       clear c15
       by_cases c16 : 0 ≤ x19_2
       ·rw [if_pos c16] at H
        have c16b0 : decide (0 ≤ x19_2) = true := dt c16
        clear c16
        by_cases c17 : x19_2 < (l0.length : Int)
        ·rw [if_pos c17] at H
         have c17b0 : decide (x19_2 < (l0.length : Int)) = true := dt c17
         clear c17; obtain ⟨t491, A18, H⟩ := be H
         by_cases c19 : x5_2.length < 17592186044416
         ·rw [if_pos c19] at H
          have LMc19 := asT c19; clear c19; obtain ⟨y492, hy492⟩ : ∃ y_ : List Int, y_ = (x5_2 ++ [t491]) := ⟨_, rfl⟩
          replace H : (impl_ProfileOf.l0 k2 y492 l0 (l0.length : Int) (wrap64 (x19_2 + 1)) l1_0) = some r := by first | (rw [hy492]; with_reducible exact H) | (have H2_ := (Option.bind_some _ _).symm.trans H; rw [hy492]; with_reducible exact H2_) | (have H2_ := (Option.bind_some _ _).symm.trans H; with_reducible exact H2_) | with_reducible exact H | (rw [hy492]; exact H) | exact H
          have Ny492 := asT hy492; clear hy492; have H' := asT H; clear H
          have p490 : 0 ≤ (x19_2 : Int) := dT asmT
          have q490 : x19_2 < (l0.length : Int) := dT asmT
          obtain ⟨ad490, e490, hx490_0⟩ := Kd.at_string HR0.out x19_2 p490 q490
          cases e490
          replace hx490_0 := hbc HB.out hx490_0; replace p490 := eq_true p490; replace q490 := eq_true q490
          have hcz20_0 := bc0 BK484.out
          have hfz20_0 := blk_frozen BK484.out 0
          go_wp2_with (first | ((with_reducible refine gate_callee (f := 86) rfl ?_); refine goesL_ (some 26) rfl rfl Tryz.func86 (by kernel_rfl) rfl #[.string (rdOf ByteArray.empty l0 x19_2), .agg #[.slice A1_0 l1_0.length c1_0]] rfl eqT ?_; (with_reducible refine (impl_ViolationsOf.calls k2 (rdOf ByteArray.empty l0 x19_2) _ _ l1_0 t491 _ ?side1 ?side2 A18.out).mono ?_); (case side1 => exact crT HR1_0.out HB.out); (case side2 => exact HC1_0.out); rintro e w21 ⟨rfl, hb⟩; refine ⟨_, rfl, ?_⟩; replace HO_5 := asT (Kd.R_below (roT HO_5.out) hb); replace BK484 := bS BK484 hb; replace HB := hS HB hb; (try clear hb hb2 hk hi)) | ((with_reducible refine gate_builtin (b := .append) (xs := #[.tmp 23, .tmp 27]) rfl ?_); at_builtin; refine Kd.R_append (Kd.int .i64) (w0 := w) w.heap.size rfl (.tmp 23) (.tmp 27) 39 3 (.int .i64 0) 8 rfl Tryz.underlying39 info3 rfl (by decide) (by omega) u5 x5_2 t491 [.int .i64 t491] (fun _ => True) (fun _ => False) rfl rfl ?aP (fun _ hk => hk.elim) ?aF ?aO ?aB ?aS ?aL ?_; (case aP => exact rfl); (case aB => exact (hbT HB.out)); (case aF => exact (fun _ _ => trivial)); (case aO => exact (roT HO_5.out)); (case aS => exact (below_size (hbT HB.out))); (case aL => have := LMc19.out; omega); intro v493 w22 ho hb hg hat; rw [← Ny492.out] at ho; replace BK484 := asT (blk_grown (g := gb484) (o := .cells #[.slice A1_0 l1_0.length c1_0] 60 (0, 0)) (bkT BK484.out) hg (Kd.R_ne HO_5.out BK484.out (by decide))); replace HB := asT (hb); have HO494 := asT (ho); clear HO_5 ho hb hg hat))
          go_roundg k2
          case measure => have := HJ2.out; have := HK2.out; omega
          case rel => exact ⟨(y492), (wrap64 (x19_2 + 1)), rdT, H', ⟨by have := HJ2.out; have := HK2.out; omega⟩, ⟨by (with_reducible repeat (first | apply Kd.R_alloc | apply Kd.R_drewN | apply Kd.R_drew)); exact HO494.out⟩, kpT BK484.out, ⟨hbT HB.out⟩⟩
         ·rw [if_neg c19] at H
          exact absurd H (by simp)
        ·rw [if_neg c17] at H
         exact absurd H (by simp)
       ·rw [if_neg c16] at H
        exact absurd H (by simp)
      ·rw [if_neg c15] at H
       have c15b0 : decide (x19_2 < (l0.length : Int)) = false := df c15
       clear c15
       obtain rfl := oI H
       go_wp2
       go_ret
       exact ⟨_, rlT, by (with_reducible repeat (first | apply Kd.R_alloc | apply Kd.R_drewN | apply Kd.R_drew)); exact HO_5.out, hbT HB.out⟩
def slices_Equal_int_int.l0 : Nat → List Int → List Int → Int → Int → Option (Bool)
 | 0, _, _, _, _ => none
 | k + 1, x0, x1, x12, x13 => if x13 < x12 then (if 0 ≤ x13 then (if x13 < (x0.length : Int) then (if x13 < (x1.length : Int) then (if (rd x0 x13) = (rd x1 x13) then (slices_Equal_int_int.l0 k x0 x1 x12 (wrap64 (x13 + 1))) else (some false)) else (none)) else (none)) else (none)) else (some true)
def slices_Equal_int_int.f (k : Nat) (l0 : List Int) (l1 : List Int) : Option (Bool) := if (l0.length : Int) = (l1.length : Int) then (slices_Equal_int_int.l0 k l0 l1 (l0.length : Int) 0) else (some false)
theorem slices_Equal_int_int.mono_l : ∀ k, (∀ y0 y1 y2 y3, LeO (slices_Equal_int_int.l0 k y0 y1 y2 y3) (slices_Equal_int_int.l0 (k + 1) y0 y1 y2 y3))
 | 0 => fun _ _ _ _ r h => by simp [slices_Equal_int_int.l0] at h
 | k + 1 => by
  have ih0 := slices_Equal_int_int.mono_l k
  ·intro y0 y1 y2 y3
   unfold slices_Equal_int_int.l0
   with_reducible repeat' first | exact ih0 _ _ _ _ | exact LeO.refl _ | exact LeO.none _ | refine LeO.ite ?_ ?_ | refine LeO.bind ?_ (fun _ => ?_)
theorem slices_Equal_int_int.mono : ∀ a0 a1 k, LeO (slices_Equal_int_int.f k a0 a1) (slices_Equal_int_int.f (k + 1) a0 a1) := by
 intro a0 a1 k
 have ih0 := slices_Equal_int_int.mono_l k
 unfold slices_Equal_int_int.f
 with_reducible repeat' first | exact ih0 _ _ _ _ | exact LeO.refl _ | exact LeO.none _ | refine LeO.ite ?_ ?_ | refine LeO.bind ?_ (fun _ => ?_)
theorem slices_Equal_int_int.calls (k : Nat) (A0 : Option Addr) (c0 : Nat) (l0 : List Int) (A1 : Option Addr) (c1 : Nat) (l1 : List Int) (r : Bool) (w : World) (hr0 : Kd.C (Kd.int .i64) w A0 l0.length l0) (hc0 : l0.length ≤ c0) (hr1 : Kd.C (Kd.int .i64) w A1 l1.length l1) (hc1 : l1.length ≤ c1) (h : slices_Equal_int_int.f k l0 l1 = some r) :
  Calls Tryz.prog 60 #[.slice A0 l0.length c0, .slice A1 l1.length c1] w fun e w' => e = .returned (.bool r) ∧ Drawn0 w w' := by
 have HR0 := asT hr0; have HC0 := asT hc0; clear hr0 hc0; have HR1 := asT hr1; have HC1 := asT hc1; clear hr1 hc1; have H := h; unfold slices_Equal_int_int.f at H; clear h
 by_cases c3 : (l0.length : Int) = (l1.length : Int)
 ·rw [if_pos c3] at H
  have c3b0 : ((l0.length : Int) == (l1.length : Int)) = true := eC c3
  have c3b1 : ((l0.length : Int) != (l1.length : Int)) = false := eA c3
  have c3b2 : (l0.length == l1.length) = true := by first | simpa using c3 | (simp at c3 ⊢; omega)
  clear c3; have H' := asT H; clear H
  go_enter Tryz.func60, Tryz.ntmps60
  go_wp2
  repeat (go_quiet (fail); try go_wp2)
  go_loopg [13] k (fun kq v13 w' => ∃ (x13_1 : Int), v13 = .int .i64 x13_1 ∧ Aside0 (slices_Equal_int_int.l0 kq l0 l1 (l0.length : Int) x13_1 = some r) ∧ Aside0 (kq ≤ k) ∧ Drawn0 w w')
  case atStart => exact ⟨(0), rdT, H', ⟨Nat.le_refl _⟩, drT⟩
  case round =>
   clear H'; (try clear c1 p2 c3 c3b0 c3b1 c3b2); obtain ⟨x13_1, rfl, HA, HK1, ⟨m1, rfl⟩⟩ := hrel
   cases gk with
   | zero => exact absurd HA.out (by simp [slices_Equal_int_int.l0])
   | succ k1 =>
    have H := HA.out; clear HA
    simp only [slices_Equal_int_int.l0] at H
    by_cases c4 : x13_1 < (l0.length : Int)
    ·rw [if_pos c4] at H
     have c4b0 : decide (x13_1 < (l0.length : Int)) = true := dt c4
     clear c4
     by_cases c5 : 0 ≤ x13_1
     ·rw [if_pos c5] at H
      have c5b0 : decide (0 ≤ x13_1) = true := dt c5
      clear c5
      by_cases c6 : x13_1 < (l0.length : Int)
      ·rw [if_pos c6] at H
       have c6b0 : decide (x13_1 < (l0.length : Int)) = true := dt c6
       clear c6
       by_cases c7 : x13_1 < (l1.length : Int)
       ·rw [if_pos c7] at H
        have c7b0 : decide (x13_1 < (l1.length : Int)) = true := dt c7
        clear c7
        by_cases c8 : (rd l0 x13_1) = (rd l1 x13_1)
        ·rw [if_pos c8] at H
         have c8b0 : ((rd l0 x13_1) == (rd l1 x13_1)) = true := eC c8
         have c8b1 : ((rd l0 x13_1) != (rd l1 x13_1)) = false := eA c8
         clear c8; have H' := asT H; clear H
         have p495 : 0 ≤ (x13_1 : Int) := dT asmT
         have q495 : x13_1 < (l0.length : Int) := dT asmT
         obtain ⟨ad495, e495, hx495_0⟩ := Kd.at_int HR0.out x13_1 p495 q495
         cases e495
         replace p495 := eq_true p495; replace q495 := eq_true q495
         have p496 : 0 ≤ (x13_1 : Int) := dT asmT
         have q496 : x13_1 < (l1.length : Int) := dT asmT
         obtain ⟨ad496, e496, hx496_0⟩ := Kd.at_int HR1.out x13_1 p496 q496
         cases e496
         replace p496 := eq_true p496; replace q496 := eq_true q496
         go_wp2
         repeat (go_quiet (fail); try go_wp2)
         go_roundg k1
         case measure => have := HK1.out; omega
         case rel => exact ⟨(wrap64 (x13_1 + 1)), rdT, H', ⟨by have := HK1.out; omega⟩, drT⟩
        ·rw [if_neg c8] at H
         have c8b0 : ((rd l0 x13_1) == (rd l1 x13_1)) = false := eB c8
         have c8b1 : ((rd l0 x13_1) != (rd l1 x13_1)) = true := eD c8
         obtain rfl := oI H
         have p495 : 0 ≤ (x13_1 : Int) := dT asmT
         have q495 : x13_1 < (l0.length : Int) := dT asmT
         obtain ⟨ad495, e495, hx495_0⟩ := Kd.at_int HR0.out x13_1 p495 q495
         cases e495
         replace p495 := eq_true p495; replace q495 := eq_true q495
         have p496 : 0 ≤ (x13_1 : Int) := dT asmT
         have q496 : x13_1 < (l1.length : Int) := dT asmT
         obtain ⟨ad496, e496, hx496_0⟩ := Kd.at_int HR1.out x13_1 p496 q496
         cases e496
         replace p496 := eq_true p496; replace q496 := eq_true q496
         go_wp2
         repeat (go_quiet (fail); try go_wp2)
         go_ret
         exact ⟨rdT, drT⟩
       ·rw [if_neg c7] at H
        exact absurd H (by simp)
      ·rw [if_neg c6] at H
       exact absurd H (by simp)
     ·rw [if_neg c5] at H
      exact absurd H (by simp)
    ·rw [if_neg c4] at H
     have c4b0 : decide (x13_1 < (l0.length : Int)) = false := df c4
     clear c4
     obtain rfl := oI H
     go_wp2
     repeat (go_quiet (fail); try go_wp2)
     go_ret
     exact ⟨rdT, drT⟩
 ·rw [if_neg c3] at H
  have c3b0 : ((l0.length : Int) == (l1.length : Int)) = false := eB c3
  have c3b1 : ((l0.length : Int) != (l1.length : Int)) = true := eD c3
  have c3b2 : (l0.length == l1.length) = false := by first | simpa using c3 | (simp at c3 ⊢; omega)
  obtain rfl := oI H
  go_enter Tryz.func60, Tryz.ntmps60
  go_wp2
  repeat (go_quiet (fail); try go_wp2)
  go_ret
  exact ⟨rdT, drT⟩
def impl_InputOf.f (k : Nat) (l0_0 : List (S109)) : Option (ByteArray) := (impl_IsCandidate.f k l0_0).bind fun t498 => (if t498 = true then ((impl_sounds.f k l0_0 false).bind fun t499 => (some t499)) else (some (⟨#[]⟩ : ByteArray)))
theorem impl_InputOf.mono : ∀ a0 k, LeO (impl_InputOf.f k a0) (impl_InputOf.f (k + 1) a0) := by
 intro a0 k
 unfold impl_InputOf.f
 with_reducible repeat' first | exact impl_IsCandidate.mono _ _ | exact impl_sounds.mono _ _ _ | exact LeO.refl _ | exact LeO.none _ | refine LeO.ite ?_ ?_ | refine LeO.bind ?_ (fun _ => ?_)
theorem impl_InputOf.calls (k : Nat) (A0_0 : Option Addr) (c0_0 : Nat) (l0_0 : List (S109)) (r : ByteArray) (w : World) (hr0_0 : Kd.C k109 w A0_0 l0_0.length l0_0) (hc0_0 : l0_0.length ≤ c0_0) (h : impl_InputOf.f k l0_0 = some r) :
  Calls Tryz.prog 95 #[.agg #[.slice A0_0 l0_0.length c0_0]] w fun e w' => e = .returned (.string r) ∧ Below w.heap.size w w' := by
 have hu60 := Tryz.underlying60; have HR0_0 := asT hr0_0; have HC0_0 := asT hc0_0; clear hr0_0 hc0_0; have HB := asT (Below.refl w.heap.size w); have H := h; unfold impl_InputOf.f at H; clear h; obtain ⟨t498, A2, H⟩ := be H
 by_cases c3 : t498 = true
 ·subst c3
  rw [if_pos rfl] at H; obtain ⟨t499, A4, H⟩ := be H
  obtain rfl := oI H
  go_enter Tryz.func95, Tryz.ntmps95
  go_wp2_with (first | ((with_reducible refine gate_dst (N := 1) rfl ?_); refine boxT (N := 1) (cs := #[.slice A0_0 l0_0.length c0_0]) (t := 60) ?_; intro gb497 hg w5 hbox hb; have BK497 := asT hbox; have GW497 := asT (geT hg HB.out); have GE497 := GW497; replace HB := hS HB hb; clear hb hbox hg; obtain ⟨hcz6_0, hfz6_0⟩ := bx1 BK497.out) | ((with_reducible refine gate_callee (f := 85) rfl ?_); refine goesL_ (some 4) rfl rfl Tryz.func85 (by kernel_rfl) rfl #[.agg #[.slice A0_0 l0_0.length c0_0]] rfl eqT ?_; (with_reducible refine (impl_IsCandidate.calls k _ _ l0_0 true _ ?side1 ?side2 A2.out).mono ?_); (case side1 => exact crT HR0_0.out HB.out); (case side2 => exact HC0_0.out); rintro e w7 ⟨rfl, hb⟩; refine ⟨_, rfl, ?_⟩; replace BK497 := bS BK497 hb; replace HB := hS HB hb; (try clear hb hb2 hk hi); obtain ⟨hcz8_0, hfz8_0⟩ := bx1 BK497.out) | ((with_reducible refine gate_callee (f := 129) rfl ?_); refine goesL_ (some 7) rfl rfl Tryz.func129 (by kernel_rfl) rfl #[.agg #[.slice A0_0 l0_0.length c0_0], .bool false] rfl eqT ?_; (with_reducible refine (impl_sounds.calls k _ _ l0_0 false t499 _ ?side1 ?side2 A4.out).mono ?_); (case side1 => exact crT HR0_0.out HB.out); (case side2 => exact HC0_0.out); rintro e w9 ⟨rfl, hb⟩; refine ⟨_, rfl, ?_⟩; replace BK497 := bS BK497 hb; replace HB := hS HB hb; (try clear hb hb2 hk hi)))
  go_ret
  exact ⟨rlT, hbT HB.out⟩
 ·replace c3 := eE c3
  subst c3; rw [if_neg nF] at H; have H1 := H; clear H; have H := H1; clear H1
  obtain rfl := oI H
  go_enter Tryz.func95, Tryz.ntmps95
  go_wp2_with (first | ((with_reducible refine gate_dst (N := 1) rfl ?_); refine boxT (N := 1) (cs := #[.slice A0_0 l0_0.length c0_0]) (t := 60) ?_; intro gb497 hg w10 hbox hb; have BK497 := asT hbox; have GW497 := asT (geT hg HB.out); have GE497 := GW497; replace HB := hS HB hb; clear hb hbox hg; obtain ⟨hcz11_0, hfz11_0⟩ := bx1 BK497.out) | ((with_reducible refine gate_callee (f := 85) rfl ?_); refine goesL_ (some 4) rfl rfl Tryz.func85 (by kernel_rfl) rfl #[.agg #[.slice A0_0 l0_0.length c0_0]] rfl eqT ?_; (with_reducible refine (impl_IsCandidate.calls k _ _ l0_0 false _ ?side1 ?side2 A2.out).mono ?_); (case side1 => exact crT HR0_0.out HB.out); (case side2 => exact HC0_0.out); rintro e w12 ⟨rfl, hb⟩; refine ⟨_, rfl, ?_⟩; replace BK497 := bS BK497 hb; replace HB := hS HB hb; (try clear hb hb2 hk hi)))
  go_ret
  exact ⟨rlT, hbT HB.out⟩
end Go.Proofs.YtlmfpkiaikjlbaaGreat.PFnExactWinnersOf
