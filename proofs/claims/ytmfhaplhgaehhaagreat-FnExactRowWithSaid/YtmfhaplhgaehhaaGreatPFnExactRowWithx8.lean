-- Made by gen.py (a program of this session) out of the translation; Lean checks it.
import Derived.Test.YtmfhaplhgaehhaaGreatPFnExactRowWithx0
import Derived.Test.YtmfhaplhgaehhaaGreatPFnExactRowWithx6
import Derived.Test.YtmfhaplhgaehhaaGreatPFnExactRowWithx7
namespace Go.Proofs.YtmfhaplhgaehhaaGreat.PFnExactRowWith
open Go.RowKit Go.Proofs.YtmfhaplhgaehhaaGreatB Go.Proofs.YtmfhaplhgaehhaaGreatW.PrintWords Go.Proofs.YtmfhaplhgaehhaaGreatW.PrintLast Go.Proofs.YtmfhaplhgaehhaaGreatW.PrintMore
attribute [local go_sem] max2_int min2_int max_two min_two max_three min_three max_four min_four   -- for this text's walks alone
set_option linter.unusedVariables false
set_option linter.unusedSimpArgs false

/-! ### impl_links_at_CountInserted_1: an instance -/
def impl_links_at_CountInserted_1.f (k : Nat) (l0_0 : List (S70)) (a1 : Unit) : Option (Int) := impl_links_G.f impl_CountInserted_1.f k l0_0 a1
theorem impl_links_at_CountInserted_1.mono : ∀ a0 a1 k, LeO (impl_links_at_CountInserted_1.f k a0 a1) (impl_links_at_CountInserted_1.f (k + 1) a0 a1) := fun a0 a1 k => impl_links_G.mono impl_CountInserted_1.f a0 a1 k
theorem impl_links_at_CountInserted_1.calls (k : Nat) (A0_0 : Option Addr) (c0_0 : Nat) (l0_0 : List (S70)) (a1 : Unit) (r : Int) (w : World) (hr0_0 : Kd.C k70 w A0_0 l0_0.length l0_0) (hc0_0 : l0_0.length ≤ c0_0) (h : impl_links_at_CountInserted_1.f k l0_0 a1 = some r) :
  Calls Tryz.prog 130 #[.agg #[.slice A0_0 l0_0.length c0_0], .func (.func 132) #[] #[]] w fun e w' => e = .returned (.int .i64 r) ∧ Below w.heap.size w w' := impl_links_G.calls impl_CountInserted_1.f 132 _ Tryz.func132 (by kernel_rfl) rfl (fun a0_0 a0_1 r w h => impl_CountInserted_1.calls a0_0 a0_1 r w h) k A0_0 c0_0 l0_0 a1 r w hr0_0 hc0_0 h

/-! ### impl_CountInserted: function 107 -/
def impl_CountInserted.f (k : Nat) (l0_0 : List (S70)) : Option (Int) := (impl_links_at_CountInserted_1.f k l0_0 ()).bind fun t409 => (some t409)
theorem impl_CountInserted.mono : ∀ a0 k, LeO (impl_CountInserted.f k a0) (impl_CountInserted.f (k + 1) a0) := by
 intro a0 k
 unfold impl_CountInserted.f
 with_reducible repeat' first | exact impl_links_at_CountInserted_1.mono _ _ _ | exact LeO.refl _ | exact LeO.none _ | refine LeO.ite ?_ ?_ | refine LeO.bind ?_ (fun _ => ?_)
set_option maxHeartbeats 8000000 in
set_option maxRecDepth 100000 in
theorem impl_CountInserted.calls (k : Nat) (A0_0 : Option Addr) (c0_0 : Nat) (l0_0 : List (S70)) (r : Int) (w : World) (hr0_0 : Kd.C k70 w A0_0 l0_0.length l0_0) (hc0_0 : l0_0.length ≤ c0_0) (h : impl_CountInserted.f k l0_0 = some r) :
  Calls Tryz.prog 107 #[.agg #[.slice A0_0 l0_0.length c0_0]] w fun e w' => e = .returned (.int .i64 r) ∧ Below w.heap.size w w' := by
 have hu48 := Tryz.underlying48; have HR0_0 := Aside0.mk hr0_0; have HC0_0 := Aside0.mk hc0_0; clear hr0_0 hc0_0; have HB := asT (Below.refl w.heap.size w); have H := h; unfold impl_CountInserted.f at H; clear h; obtain ⟨t409, A2, H⟩ := be H
 obtain rfl := Option.some.inj H
 go_enter Tryz.func107, Tryz.ntmps107
 go_wp2_with (first | ((with_reducible refine gate_dst (N := 1) rfl ?_); refine boxT (N := 1) (cs := #[.slice A0_0 l0_0.length c0_0]) (t := 48) ?_; intro gb408 hg w3 hbox hb; have BK408 := asT hbox; have GW408 := asT (geT hg HB.out); have GE408 := GW408; replace HB := hS HB hb; clear hb hbox hg; obtain ⟨hcz4_0, hfz4_0⟩ := bx1 BK408.out) | ((with_reducible refine gate_callee (f := 130) rfl ?_); refine goesL_ (some 4) rfl rfl Tryz.func130 (by kernel_rfl) rfl #[.agg #[.slice A0_0 l0_0.length c0_0], .func (.func 132) #[] #[]] rfl eqT ?_; (with_reducible refine (impl_links_at_CountInserted_1.calls k _ _ l0_0 () t409 _ ?side1 ?side2 A2.out).mono ?_); (case side1 => exact crT HR0_0.out HB.out); (case side2 => exact HC0_0.out); rintro e w5 ⟨rfl, hb⟩; refine ⟨_, rfl, ?_⟩; replace BK408 := bS BK408 hb; replace HB := hS HB hb; (try clear hb hb2 hk hi)))
 go_ret
 exact ⟨rlT, hbT HB.out⟩

/-! ### impl_CountVoiceChanged_1: function 133 -/
def impl_CountVoiceChanged_1.f (a0_0 : Int) (a0_1 : Int) : Option (Bool) := if a0_0 = 0 then (some false) else (if a0_1 = 0 then (some false) else (some (a0_0 != a0_1)))
set_option maxHeartbeats 8000000 in
set_option maxRecDepth 100000 in
theorem impl_CountVoiceChanged_1.calls (a0_0 : Int) (a0_1 : Int) (r : Bool) (w : World) (h : impl_CountVoiceChanged_1.f a0_0 a0_1 = some r) :
  Calls Tryz.prog 133 #[.agg #[.int .u8 a0_0, .int .u8 a0_1]] w fun e w' => e = .returned (.bool r) ∧ Below w.heap.size w w' := by
 have hu70 := Tryz.underlying70; have HB := asT (Below.refl w.heap.size w); have H := h; unfold impl_CountVoiceChanged_1.f at H; clear h
 by_cases c2 : a0_0 = 0
 ·rw [if_pos c2] at H
  have c2b0 : (a0_0 == 0) = true := beq_iff_eq.mpr c2
  have c2b1 : (a0_0 != 0) = false := bne_eq_false_iff_eq.mpr c2
  clear c2
  obtain rfl := Option.some.inj H
  go_enter Tryz.func133, Tryz.ntmps133
  go_wp2_with (first | ((with_reducible refine gate_dst (N := 1) rfl ?_); refine boxT (N := 1) (cs := #[.int .u8 a0_0, .int .u8 a0_1]) (t := 70) ?_; intro gb410 hg w3 hbox hb; have BK410 := asT hbox; have GW410 := asT (geT hg HB.out); have GE410 := GW410; replace HB := hS HB hb; clear hb hbox hg; obtain ⟨hcz4_0, hcz4_1, hfz4_0, hfz4_1⟩ := bx2 BK410.out))
  go_ret
  exact ⟨rlT, hbT HB.out⟩
 ·rw [if_neg c2] at H
  have c2b0 : (a0_0 == 0) = false := beq_eq_false_iff_ne.mpr c2
  have c2b1 : (a0_0 != 0) = true := bne_iff_ne.mpr c2
  by_cases c5 : a0_1 = 0
  ·rw [if_pos c5] at H
   have c5b0 : (a0_1 == 0) = true := beq_iff_eq.mpr c5
   have c5b1 : (a0_1 != 0) = false := bne_eq_false_iff_eq.mpr c5
   clear c5
   obtain rfl := Option.some.inj H
   go_enter Tryz.func133, Tryz.ntmps133
   go_wp2_with (first | ((with_reducible refine gate_dst (N := 1) rfl ?_); refine boxT (N := 1) (cs := #[.int .u8 a0_0, .int .u8 a0_1]) (t := 70) ?_; intro gb410 hg w6 hbox hb; have BK410 := asT hbox; have GW410 := asT (geT hg HB.out); have GE410 := GW410; replace HB := hS HB hb; clear hb hbox hg; obtain ⟨hcz7_0, hcz7_1, hfz7_0, hfz7_1⟩ := bx2 BK410.out))
   go_ret
   exact ⟨rlT, hbT HB.out⟩
  ·rw [if_neg c5] at H
   have c5b0 : (a0_1 == 0) = false := beq_eq_false_iff_ne.mpr c5
   have c5b1 : (a0_1 != 0) = true := bne_iff_ne.mpr c5
   obtain rfl := Option.some.inj H
   go_enter Tryz.func133, Tryz.ntmps133
   go_wp2_with (first | ((with_reducible refine gate_dst (N := 1) rfl ?_); refine boxT (N := 1) (cs := #[.int .u8 a0_0, .int .u8 a0_1]) (t := 70) ?_; intro gb410 hg w8 hbox hb; have BK410 := asT hbox; have GW410 := asT (geT hg HB.out); have GE410 := GW410; replace HB := hS HB hb; clear hb hbox hg; obtain ⟨hcz9_0, hcz9_1, hfz9_0, hfz9_1⟩ := bx2 BK410.out))
   go_ret
   exact ⟨rlT, hbT HB.out⟩

/-! ### impl_links_at_CountVoiceChanged_1: an instance -/
def impl_links_at_CountVoiceChanged_1.f (k : Nat) (l0_0 : List (S70)) (a1 : Unit) : Option (Int) := impl_links_G.f impl_CountVoiceChanged_1.f k l0_0 a1
theorem impl_links_at_CountVoiceChanged_1.mono : ∀ a0 a1 k, LeO (impl_links_at_CountVoiceChanged_1.f k a0 a1) (impl_links_at_CountVoiceChanged_1.f (k + 1) a0 a1) := fun a0 a1 k => impl_links_G.mono impl_CountVoiceChanged_1.f a0 a1 k
theorem impl_links_at_CountVoiceChanged_1.calls (k : Nat) (A0_0 : Option Addr) (c0_0 : Nat) (l0_0 : List (S70)) (a1 : Unit) (r : Int) (w : World) (hr0_0 : Kd.C k70 w A0_0 l0_0.length l0_0) (hc0_0 : l0_0.length ≤ c0_0) (h : impl_links_at_CountVoiceChanged_1.f k l0_0 a1 = some r) :
  Calls Tryz.prog 130 #[.agg #[.slice A0_0 l0_0.length c0_0], .func (.func 133) #[] #[]] w fun e w' => e = .returned (.int .i64 r) ∧ Below w.heap.size w w' := impl_links_G.calls impl_CountVoiceChanged_1.f 133 _ Tryz.func133 (by kernel_rfl) rfl (fun a0_0 a0_1 r w h => impl_CountVoiceChanged_1.calls a0_0 a0_1 r w h) k A0_0 c0_0 l0_0 a1 r w hr0_0 hc0_0 h

/-! ### impl_CountVoiceChanged: function 108 -/
def impl_CountVoiceChanged.f (k : Nat) (l0_0 : List (S70)) : Option (Int) := (impl_links_at_CountVoiceChanged_1.f k l0_0 ()).bind fun t417 => (some t417)
theorem impl_CountVoiceChanged.mono : ∀ a0 k, LeO (impl_CountVoiceChanged.f k a0) (impl_CountVoiceChanged.f (k + 1) a0) := by
 intro a0 k
 unfold impl_CountVoiceChanged.f
 with_reducible repeat' first | exact impl_links_at_CountVoiceChanged_1.mono _ _ _ | exact LeO.refl _ | exact LeO.none _ | refine LeO.ite ?_ ?_ | refine LeO.bind ?_ (fun _ => ?_)
set_option maxHeartbeats 8000000 in
set_option maxRecDepth 100000 in
theorem impl_CountVoiceChanged.calls (k : Nat) (A0_0 : Option Addr) (c0_0 : Nat) (l0_0 : List (S70)) (r : Int) (w : World) (hr0_0 : Kd.C k70 w A0_0 l0_0.length l0_0) (hc0_0 : l0_0.length ≤ c0_0) (h : impl_CountVoiceChanged.f k l0_0 = some r) :
  Calls Tryz.prog 108 #[.agg #[.slice A0_0 l0_0.length c0_0]] w fun e w' => e = .returned (.int .i64 r) ∧ Below w.heap.size w w' := by
 have hu48 := Tryz.underlying48; have HR0_0 := Aside0.mk hr0_0; have HC0_0 := Aside0.mk hc0_0; clear hr0_0 hc0_0; have HB := asT (Below.refl w.heap.size w); have H := h; unfold impl_CountVoiceChanged.f at H; clear h; obtain ⟨t417, A2, H⟩ := be H
 obtain rfl := Option.some.inj H
 go_enter Tryz.func108, Tryz.ntmps108
 go_wp2_with (first | ((with_reducible refine gate_dst (N := 1) rfl ?_); refine boxT (N := 1) (cs := #[.slice A0_0 l0_0.length c0_0]) (t := 48) ?_; intro gb416 hg w3 hbox hb; have BK416 := asT hbox; have GW416 := asT (geT hg HB.out); have GE416 := GW416; replace HB := hS HB hb; clear hb hbox hg; obtain ⟨hcz4_0, hfz4_0⟩ := bx1 BK416.out) | ((with_reducible refine gate_callee (f := 130) rfl ?_); refine goesL_ (some 4) rfl rfl Tryz.func130 (by kernel_rfl) rfl #[.agg #[.slice A0_0 l0_0.length c0_0], .func (.func 133) #[] #[]] rfl eqT ?_; (with_reducible refine (impl_links_at_CountVoiceChanged_1.calls k _ _ l0_0 () t417 _ ?side1 ?side2 A2.out).mono ?_); (case side1 => exact crT HR0_0.out HB.out); (case side2 => exact HC0_0.out); rintro e w5 ⟨rfl, hb⟩; refine ⟨_, rfl, ?_⟩; replace BK416 := bS BK416 hb; replace HB := hS HB hb; (try clear hb hb2 hk hi)))
 go_ret
 exact ⟨rlT, hbT HB.out⟩

/-! ### impl_CountBreaks: function 109 -/
mutual
def impl_CountBreaks.l0 : Nat → Int → Int → Bool → List (S70) → Int → Int → List (S70) → Option (Int)
 | 0, _, _, _, _, _, _, _ => none
 | k + 1, x3, x4, x5, x9, x10, x11, x419000 => if x11 < x10 then (if 0 ≤ x11 then (if x11 < (x9.length : Int) then ((impl_IsCandidate.f k x419000).bind fun t421 => (if t421 = true then (if ((rd_T70 x9 x11).f0) = 0 then (impl_CountBreaks.j1 k x3 x4 x5 x9 x10 x11 false x419000) else (impl_CountBreaks.j1 k x3 x4 x5 x9 x10 x11 (((rd_T70 x9 x11).f1) != 0) x419000)) else (impl_CountBreaks.l0 k x3 x4 x5 x9 x10 (wrap64 (x11 + 1)) x419000))) else (none)) else (none)) else (some x3)
def impl_CountBreaks.j1 : Nat → Int → Int → Bool → List (S70) → Int → Int → Bool → List (S70) → Option (Int)
 | 0, _, _, _, _, _, _, _, _ => none
 | k + 1, x3, x4, x5, x9, x10, x11, x19, x419000 => if x19 = true then (impl_CountBreaks.l0 k (wrap64 (x3 + x4)) 0 true x9 x10 (wrap64 (x11 + 1)) x419000) else (if x5 = true then (impl_CountBreaks.l0 k x3 (wrap64 (x4 + 1)) x5 x9 x10 (wrap64 (x11 + 1)) x419000) else (impl_CountBreaks.l0 k x3 x4 x5 x9 x10 (wrap64 (x11 + 1)) x419000))
end
def impl_CountBreaks.f (k : Nat) (l0_0 : List (S70)) : Option (Int) := impl_CountBreaks.l0 k 0 0 false l0_0 (l0_0.length : Int) 0 l0_0
theorem impl_CountBreaks.mono_l : ∀ k, (∀ y0 y1 y2 y3 y4 y5 y6, LeO (impl_CountBreaks.l0 k y0 y1 y2 y3 y4 y5 y6) (impl_CountBreaks.l0 (k + 1) y0 y1 y2 y3 y4 y5 y6)) ∧ (∀ y0 y1 y2 y3 y4 y5 y6 y7, LeO (impl_CountBreaks.j1 k y0 y1 y2 y3 y4 y5 y6 y7) (impl_CountBreaks.j1 (k + 1) y0 y1 y2 y3 y4 y5 y6 y7))
 | 0 => ⟨fun _ _ _ _ _ _ _ r h => by simp [impl_CountBreaks.l0] at h, fun _ _ _ _ _ _ _ _ r h => by simp [impl_CountBreaks.j1] at h⟩
 | k + 1 => by
  obtain ⟨ih0, ih1⟩ := impl_CountBreaks.mono_l k; refine ⟨?_, ?_⟩
  ·intro y0 y1 y2 y3 y4 y5 y6
   unfold impl_CountBreaks.l0
   with_reducible repeat' first | exact ih0 _ _ _ _ _ _ _ | exact ih1 _ _ _ _ _ _ _ _ | exact impl_IsCandidate.mono _ _ | exact LeO.refl _ | exact LeO.none _ | refine LeO.ite ?_ ?_ | refine LeO.bind ?_ (fun _ => ?_)
  ·intro y0 y1 y2 y3 y4 y5 y6 y7
   unfold impl_CountBreaks.j1
   with_reducible repeat' first | exact ih0 _ _ _ _ _ _ _ | exact ih1 _ _ _ _ _ _ _ _ | exact impl_IsCandidate.mono _ _ | exact LeO.refl _ | exact LeO.none _ | refine LeO.ite ?_ ?_ | refine LeO.bind ?_ (fun _ => ?_)
theorem impl_CountBreaks.mono : ∀ a0 k, LeO (impl_CountBreaks.f k a0) (impl_CountBreaks.f (k + 1) a0) := by
 intro a0 k
 obtain ⟨ih0, ih1⟩ := impl_CountBreaks.mono_l k
 unfold impl_CountBreaks.f
 with_reducible repeat' first | exact ih0 _ _ _ _ _ _ _ | exact ih1 _ _ _ _ _ _ _ _ | exact impl_IsCandidate.mono _ _ | exact LeO.refl _ | exact LeO.none _ | refine LeO.ite ?_ ?_ | refine LeO.bind ?_ (fun _ => ?_)
set_option maxHeartbeats 8000000 in
set_option maxRecDepth 100000 in
theorem impl_CountBreaks.calls (k : Nat) (A0_0 : Option Addr) (c0_0 : Nat) (l0_0 : List (S70)) (r : Int) (w : World) (hr0_0 : Kd.C k70 w A0_0 l0_0.length l0_0) (hc0_0 : l0_0.length ≤ c0_0) (h : impl_CountBreaks.f k l0_0 = some r) :
  Calls Tryz.prog 109 #[.agg #[.slice A0_0 l0_0.length c0_0]] w fun e w' => e = .returned (.int .i64 r) ∧ Below w.heap.size w w' := by
 have hu48 := Tryz.underlying48; have hu70 := Tryz.underlying70; have HR0_0 := Aside0.mk hr0_0; have HC0_0 := Aside0.mk hc0_0; clear hr0_0 hc0_0; have HB := asT (Below.refl w.heap.size w); have H := h; unfold impl_CountBreaks.f at H; clear h; have H' := Aside0.mk H; clear H
 go_enter Tryz.func109, Tryz.ntmps109
 go_wp2_with (first | ((with_reducible refine gate_dst (N := 1) rfl ?_); refine boxT (N := 1) (cs := #[.slice A0_0 l0_0.length c0_0]) (t := 48) ?_; intro gb418 hg w2 hbox hb; have BK418 := asT hbox; have GW418 := asT (geT hg HB.out); have GE418 := GW418; replace HB := hS HB hb; clear hb hbox hg; obtain ⟨hcz3_0, hfz3_0⟩ := bx1 BK418.out))
 go_loopg [3, 4, 5, 11] k (fun kq v3 v4 v5 v11 w' => ∃ (x3_1 : Int) (x4_1 : Int) (x5_1 : Bool) (x11_1 : Int), v3 = .int .i64 x3_1 ∧ v4 = .int .i64 x4_1 ∧ v5 = .bool x5_1 ∧ v11 = .int .i64 x11_1 ∧ Aside0 (impl_CountBreaks.l0 kq x3_1 x4_1 x5_1 l0_0 (l0_0.length : Int) x11_1 l0_0 = some r) ∧ Aside0 (kq ≤ k) ∧ Aside0 (w'.heap[gb418]? = some (.cells #[(.slice A0_0 l0_0.length c0_0)] 48 (0, 0))) ∧ Aside0 (Below w.heap.size w w'))
 case atStart => exact ⟨(0), (0), (false), (0), rdT, rdT, rdT, rdT, H', ⟨Nat.le_refl _⟩, ⟨by (with_reducible repeat (first | refine blk_drewN ?_ _ | refine blk_drew ?_ | refine blk_alloc ?_ _)); exact BK418.out⟩, ⟨hbT HB.out⟩⟩
 case round =>
  clear H'; (try clear c1 p2 hcz3_0 hfz3_0); obtain ⟨x3_1, x4_1, x5_1, x11_1, rfl, rfl, rfl, rfl, HA, HK1, BK418, HB⟩ := hrel
  cases gk with
  | zero => exact absurd HA.out (by simp [impl_CountBreaks.l0])
  | succ k1 =>
   have H := HA.out; clear HA
   simp only [impl_CountBreaks.l0] at H
   by_cases c4 : x11_1 < (l0_0.length : Int)
   ·rw [if_pos c4] at H
    have c4b0 : decide (x11_1 < (l0_0.length : Int)) = true := decide_eq_true c4
    clear c4
    by_cases c5 : 0 ≤ x11_1
    ·rw [if_pos c5] at H
     have c5b0 : decide (0 ≤ x11_1) = true := decide_eq_true c5
     clear c5
     by_cases c6 : x11_1 < (l0_0.length : Int)
     ·rw [if_pos c6] at H
      have c6b0 : decide (x11_1 < (l0_0.length : Int)) = true := decide_eq_true c6
      clear c6; obtain ⟨t421, A7, H⟩ := be H
      by_cases c8 : t421 = true
      ·subst c8
       rw [if_pos rfl] at H; have HC9 := Aside0.mk H; clear H
       have p419 : 0 ≤ (x11_1 : Int) := of_decide_eq_true asmT
       have q419 : x11_1 < (l0_0.length : Int) := of_decide_eq_true asmT
       obtain ⟨ad419, e419, hx419_0, hx419_1⟩ := at_T70 HR0_0.out x11_1 p419 q419
       cases e419
       replace hx419_0 := hbc HB.out hx419_0; replace hx419_1 := hbc HB.out hx419_1; replace p419 := eq_true p419; replace q419 := eq_true q419
       go_upto_region 6 with (first | ((with_reducible refine gate_dst (N := 7) rfl ?_); refine boxT (N := 7) (cs := #[.int .u8 0, .int .u8 0]) (t := 70) ?_; intro gb420 hg w10 hbox hb; have BK420 := asT (hbox); have GW420 := asT (geT hg HB.out); have GE420 := asT (geT hg HB.out); replace HB := hS HB hb; have NB418_420 := asT ((by rw [hg]; exact Nat.ne_of_lt (blk_lt (g := gb418) (o := .cells #[.slice (some ad419) l0_0.length c0_0] 48 (0, 0)) (bkT BK418.out)) : gb418 ≠ gb420)); have NB420_418 := asT ((by rw [hg]; exact Nat.ne_of_gt (blk_lt (g := gb418) (o := .cells #[.slice (some ad419) l0_0.length c0_0] 48 (0, 0)) (bkT BK418.out)) : gb420 ≠ gb418)); replace BK418 := bS BK418 hb; clear hb hbox hg; have hnb11 := NB420_418.out; have hnc11 := NB418_420.out; obtain ⟨hcz12_0, hcz12_1, hfz12_0, hfz12_1⟩ := bx2 BK420.out; obtain ⟨hcz13_0, hfz13_0⟩ := bx1 BK418.out) | ((with_reducible refine gate_callee (f := 55) rfl ?_); refine goesL_ (some 17) rfl rfl Tryz.func55 (by kernel_rfl) rfl #[.agg #[.slice (some ad419) l0_0.length c0_0]] rfl eqT ?_; (with_reducible refine (impl_IsCandidate.calls k1 _ _ l0_0 true _ ?side1 ?side2 A7.out).mono ?_); (case side1 => exact Kd.C_below HR0_0.out (hbT HB.out)); (case side2 => exact HC0_0.out); rintro e w14 ⟨rfl, hb⟩; refine ⟨_, rfl, ?_⟩; replace BK418 := asT (blk_below (g := gb418) (o := .cells #[.slice (some ad419) l0_0.length c0_0] 48 (0, 0)) (by (with_reducible repeat (first | refine blk_drewN ?_ _ | refine blk_drew ?_ | refine blk_alloc ?_ _)); refine blk_far ?_ NB418_420.out _; (with_reducible repeat (first | refine blk_drewN ?_ _ | refine blk_drew ?_ | refine blk_alloc ?_ _)); refine blk_far ?_ NB418_420.out _; (with_reducible repeat (first | refine blk_drewN ?_ _ | refine blk_drew ?_ | refine blk_alloc ?_ _)); exact BK418.out) hb); replace BK420 := asT (blk_below (g := gb420) (o := .cells #[.int .u8 ((rd_T70 l0_0 x11_1).f0), .int .u8 ((rd_T70 l0_0 x11_1).f1)] 70 (0, 0)) (by (with_reducible repeat (first | refine blk_drewN ?_ _ | refine blk_drew ?_ | refine blk_alloc ?_ _)); refine blk_put (cs := #[.int .u8 ((rd_T70 l0_0 x11_1).f0), .int .u8 0]) ?_ 1 _ rfl; (with_reducible repeat (first | refine blk_drewN ?_ _ | refine blk_drew ?_ | refine blk_alloc ?_ _)); refine blk_put (cs := #[.int .u8 0, .int .u8 0]) ?_ 0 _ rfl; (with_reducible repeat (first | refine blk_drewN ?_ _ | refine blk_drew ?_ | refine blk_alloc ?_ _)); exact BK420.out) hb); replace HB := hS HB hb; (try clear hb hb2 hk hi)))
       (try simp only [Act.put, sA, sZ, sS])
       go_cut [19] (fun v19 wc => ∃ (kq : Nat) (x19_8 : Bool), v19 = .bool x19_8 ∧ Aside0 (impl_CountBreaks.j1 kq x3_1 x4_1 x5_1 l0_0 (l0_0.length : Int) x11_1 x19_8 l0_0 = some r) ∧ Aside0 (kq ≤ k1) ∧ Aside0 (wc.heap[gb418]? = some (.cells #[(.slice (some ad419) l0_0.length c0_0)] 48 (0, 0))) ∧ Aside0 (wc.heap[gb420]? = some (.cells #[.int .u8 ((rd_T70 l0_0 x11_1).f0), .int .u8 ((rd_T70 l0_0 x11_1).f1)] 70 (0, 0))) ∧ Aside0 (Below w.heap.size w wc))
       case first =>
        have H := HC9.out; clear HC9
        by_cases c15 : ((rd_T70 l0_0 x11_1).f0) = 0
        ·rw [if_pos c15] at H
         have c15b0 : (((rd_T70 l0_0 x11_1).f0) == 0) = true := beq_iff_eq.mpr c15
         have c15b1 : (((rd_T70 l0_0 x11_1).f0) != 0) = false := bne_eq_false_iff_eq.mpr c15
         clear c15
         (first | rw [c15b0] | (simp only [i64_w, i32_w]; rw [c15b0]) | skip)
         have H' := Aside0.mk H; clear H; have hnb16 := NB420_418.out; have hnc16 := NB418_420.out
         have hcz17_0 := bc0 BK420.out
         have hcz17_1 := bc1 BK420.out
         have hfz17_0 := blk_frozen BK420.out 0; have hfz17_1 := blk_frozen BK420.out 1
         go_wp2
         go_meet
         case rel => exact ⟨_, (false), rdT, H', ⟨by have := HK1.out; first | omega | exact Nat.le_refl _⟩, ⟨by (with_reducible repeat (first | refine blk_drewN ?_ _ | refine blk_drew ?_ | refine blk_alloc ?_ _)); exact BK418.out⟩, ⟨by (with_reducible repeat (first | refine blk_drewN ?_ _ | refine blk_drew ?_ | refine blk_alloc ?_ _)); exact BK420.out⟩, ⟨hbT HB.out⟩⟩
        ·rw [if_neg c15] at H
         have c15b0 : (((rd_T70 l0_0 x11_1).f0) == 0) = false := beq_eq_false_iff_ne.mpr c15
         have c15b1 : (((rd_T70 l0_0 x11_1).f0) != 0) = true := bne_iff_ne.mpr c15
         (first | rw [c15b0] | (simp only [i64_w, i32_w]; rw [c15b0]) | skip)
         have H' := Aside0.mk H; clear H; have hnb18 := NB420_418.out; have hnc18 := NB418_420.out
         have hcz19_0 := bc0 BK420.out
         have hcz19_1 := bc1 BK420.out
         have hfz19_0 := blk_frozen BK420.out 0; have hfz19_1 := blk_frozen BK420.out 1
         go_wp2
         go_meet
         case rel => exact ⟨_, ((((rd_T70 l0_0 x11_1).f1) != 0)), rdT, H', ⟨by have := HK1.out; first | omega | exact Nat.le_refl _⟩, ⟨by (with_reducible repeat (first | refine blk_drewN ?_ _ | refine blk_drew ?_ | refine blk_alloc ?_ _)); exact BK418.out⟩, ⟨by (with_reducible repeat (first | refine blk_drewN ?_ _ | refine blk_drew ?_ | refine blk_alloc ?_ _)); exact BK420.out⟩, ⟨hbT HB.out⟩⟩
       case rest =>
        clear HC9; (try clear c1 p2 c4 c4b0 p4 q4 hx4 c5 c5b0 c6 c6b0 p6 c8 c10 c11 c15 c15b0 c15b1 c16 c18 hcz12_0 hcz12_1 hcz13_0 hcz17_0 hcz17_1 hcz19_0 hcz19_1 hcz3_0 hfz12_0 hfz12_1 hfz13_0 hfz17_0 hfz17_1 hfz19_0 hfz19_1 hfz3_0 hx419_0 hx419_1 p2 p419 q419); obtain ⟨kq, x19_8, rfl, HA, HJ8, BK418, BK420, HB⟩ := hcut
        cases kq with
        | zero => exact absurd HA.out (by simp [impl_CountBreaks.j1])
        | succ kj8 =>
         have H := HA.out; clear HA
         simp only [impl_CountBreaks.j1] at H
         by_cases c20 : x19_8 = true
         ·subst c20
          rw [if_pos rfl] at H; have H' := Aside0.mk H; clear H
          go_wp2
          go_roundg kj8
          case measure => have := HK1.out; have := HJ8.out; omega
          case rel => exact ⟨(wrap64 (x3_1 + x4_1)), (0), (true), (wrap64 (x11_1 + 1)), rdT, rdT, rdT, rdT, H', ⟨by have := HK1.out; have := HJ8.out; omega⟩, ⟨by (with_reducible repeat (first | refine blk_drewN ?_ _ | refine blk_drew ?_ | refine blk_alloc ?_ _)); exact BK418.out⟩, ⟨hbT HB.out⟩⟩
         ·replace c20 := Bool.eq_false_iff.mpr c20
          subst c20; rw [if_neg nF] at H; have H1 := H; clear H; have H := H1; clear H1
          by_cases c21 : x5_1 = true
          ·subst c21
           rw [if_pos rfl] at H; have H' := Aside0.mk H; clear H
           go_wp2
           go_roundg kj8
           case measure => have := HK1.out; have := HJ8.out; omega
           case rel => exact ⟨(x3_1), (wrap64 (x4_1 + 1)), (true), (wrap64 (x11_1 + 1)), rdT, rdT, rdT, rdT, H', ⟨by have := HK1.out; have := HJ8.out; omega⟩, ⟨by (with_reducible repeat (first | refine blk_drewN ?_ _ | refine blk_drew ?_ | refine blk_alloc ?_ _)); exact BK418.out⟩, ⟨hbT HB.out⟩⟩
          ·replace c21 := Bool.eq_false_iff.mpr c21
           subst c21; rw [if_neg nF] at H; have H' := Aside0.mk H; clear H
           go_wp2
           go_roundg kj8
           case measure => have := HK1.out; have := HJ8.out; omega
           case rel => exact ⟨(x3_1), (x4_1), (false), (wrap64 (x11_1 + 1)), rdT, rdT, rdT, rdT, H', ⟨by have := HK1.out; have := HJ8.out; omega⟩, ⟨by (with_reducible repeat (first | refine blk_drewN ?_ _ | refine blk_drew ?_ | refine blk_alloc ?_ _)); exact BK418.out⟩, ⟨hbT HB.out⟩⟩
      ·replace c8 := Bool.eq_false_iff.mpr c8
       subst c8; rw [if_neg nF] at H; have H' := Aside0.mk H; clear H
       have p419 : 0 ≤ (x11_1 : Int) := of_decide_eq_true asmT
       have q419 : x11_1 < (l0_0.length : Int) := of_decide_eq_true asmT
       obtain ⟨ad419, e419, hx419_0, hx419_1⟩ := at_T70 HR0_0.out x11_1 p419 q419
       cases e419
       replace hx419_0 := hbc HB.out hx419_0; replace hx419_1 := hbc HB.out hx419_1; replace p419 := eq_true p419; replace q419 := eq_true q419
       go_wp2_with (first | ((with_reducible refine gate_dst (N := 7) rfl ?_); refine boxT (N := 7) (cs := #[.int .u8 0, .int .u8 0]) (t := 70) ?_; intro gb420 hg w22 hbox hb; have BK420 := asT (hbox); have GW420 := asT (geT hg HB.out); have GE420 := asT (geT hg HB.out); replace HB := hS HB hb; have NB418_420 := asT ((by rw [hg]; exact Nat.ne_of_lt (blk_lt (g := gb418) (o := .cells #[.slice (some ad419) l0_0.length c0_0] 48 (0, 0)) (bkT BK418.out)) : gb418 ≠ gb420)); have NB420_418 := asT ((by rw [hg]; exact Nat.ne_of_gt (blk_lt (g := gb418) (o := .cells #[.slice (some ad419) l0_0.length c0_0] 48 (0, 0)) (bkT BK418.out)) : gb420 ≠ gb418)); replace BK418 := bS BK418 hb; clear hb hbox hg; have hnb23 := NB420_418.out; have hnc23 := NB418_420.out; obtain ⟨hcz24_0, hcz24_1, hfz24_0, hfz24_1⟩ := bx2 BK420.out; obtain ⟨hcz25_0, hfz25_0⟩ := bx1 BK418.out) | ((with_reducible refine gate_callee (f := 55) rfl ?_); refine goesL_ (some 17) rfl rfl Tryz.func55 (by kernel_rfl) rfl #[.agg #[.slice (some ad419) l0_0.length c0_0]] rfl eqT ?_; (with_reducible refine (impl_IsCandidate.calls k1 _ _ l0_0 false _ ?side1 ?side2 A7.out).mono ?_); (case side1 => exact Kd.C_below HR0_0.out (hbT HB.out)); (case side2 => exact HC0_0.out); rintro e w26 ⟨rfl, hb⟩; refine ⟨_, rfl, ?_⟩; replace BK418 := asT (blk_below (g := gb418) (o := .cells #[.slice (some ad419) l0_0.length c0_0] 48 (0, 0)) (by (with_reducible repeat (first | refine blk_drewN ?_ _ | refine blk_drew ?_ | refine blk_alloc ?_ _)); refine blk_far ?_ NB418_420.out _; (with_reducible repeat (first | refine blk_drewN ?_ _ | refine blk_drew ?_ | refine blk_alloc ?_ _)); refine blk_far ?_ NB418_420.out _; (with_reducible repeat (first | refine blk_drewN ?_ _ | refine blk_drew ?_ | refine blk_alloc ?_ _)); exact BK418.out) hb); replace BK420 := asT (blk_below (g := gb420) (o := .cells #[.int .u8 ((rd_T70 l0_0 x11_1).f0), .int .u8 ((rd_T70 l0_0 x11_1).f1)] 70 (0, 0)) (by (with_reducible repeat (first | refine blk_drewN ?_ _ | refine blk_drew ?_ | refine blk_alloc ?_ _)); refine blk_put (cs := #[.int .u8 ((rd_T70 l0_0 x11_1).f0), .int .u8 0]) ?_ 1 _ rfl; (with_reducible repeat (first | refine blk_drewN ?_ _ | refine blk_drew ?_ | refine blk_alloc ?_ _)); refine blk_put (cs := #[.int .u8 0, .int .u8 0]) ?_ 0 _ rfl; (with_reducible repeat (first | refine blk_drewN ?_ _ | refine blk_drew ?_ | refine blk_alloc ?_ _)); exact BK420.out) hb); replace HB := hS HB hb; (try clear hb hb2 hk hi)))
       go_roundg k1
       case measure => have := HK1.out; omega
       case rel => exact ⟨(x3_1), (x4_1), (x5_1), (wrap64 (x11_1 + 1)), rdT, rdT, rdT, rdT, H', ⟨by have := HK1.out; omega⟩, ⟨by (with_reducible repeat (first | refine blk_drewN ?_ _ | refine blk_drew ?_ | refine blk_alloc ?_ _)); exact BK418.out⟩, ⟨hbT HB.out⟩⟩
     ·rw [if_neg c6] at H
      exact absurd H (by simp)
    ·rw [if_neg c5] at H
     exact absurd H (by simp)
   ·rw [if_neg c4] at H
    have c4b0 : decide (x11_1 < (l0_0.length : Int)) = false := decide_eq_false c4
    clear c4
    obtain rfl := Option.some.inj H
    go_wp2
    go_ret
    exact ⟨rlT, hbT HB.out⟩

/-! ### impl_ViolationsOf: function 70 -/
def impl_ViolationsOf.f (k : Nat) (a0 : ByteArray) (l1_0 : List (S70)) : Option (Int) := (impl_IsCandidate.f k l1_0).bind fun t423 => (if t423 = true then ((impl_OutputOf.f k l1_0).bind fun t424 => (if a0.toList = ([111, 110, 115, 101, 116] : List UInt8) then ((impl_CountOnsetless.f k t424).bind fun t425 => (some t425)) else (if a0.toList = ([110, 111, 99, 111, 100, 97] : List UInt8) then ((impl_CountCodas.f k t424).bind fun t426 => (some t426)) else (if a0.toList = ([99, 108, 117, 115, 116, 101, 114] : List UInt8) then ((impl_CountClusters.f k t424).bind fun t427 => (some t427)) else (if a0.toList = ([118, 111, 105, 99, 101] : List UInt8) then ((impl_CountVoiced.f k t424).bind fun t428 => (some t428)) else (if a0.toList = ([102, 105, 110, 97, 108] : List UInt8) then ((impl_CountFinalVoiced.f k t424).bind fun t429 => (some t429)) else (if a0.toList = ([110, 97, 115, 97, 108] : List UInt8) then ((impl_CountNasalVoiceless.f k t424).bind fun t430 => (some t430)) else (if a0.toList = ([109, 97, 120] : List UInt8) then ((impl_CountDeleted.f k l1_0).bind fun t431 => (some t431)) else (if a0.toList = ([100, 101, 112] : List UInt8) then ((impl_CountInserted.f k l1_0).bind fun t432 => (some t432)) else (if a0.toList = ([105, 100, 101, 110, 116] : List UInt8) then ((impl_CountVoiceChanged.f k l1_0).bind fun t433 => (some t433)) else (if a0.toList = ([99, 111, 110, 116, 105, 103] : List UInt8) then ((impl_CountBreaks.f k l1_0).bind fun t434 => (some t434)) else (some (-1))))))))))))) else (some (-1)))
theorem impl_ViolationsOf.mono : ∀ a0 a1 k, LeO (impl_ViolationsOf.f k a0 a1) (impl_ViolationsOf.f (k + 1) a0 a1) := by
 intro a0 a1 k
 unfold impl_ViolationsOf.f
 with_reducible repeat' first | exact impl_CountBreaks.mono _ _ | exact impl_CountClusters.mono _ _ | exact impl_CountCodas.mono _ _ | exact impl_CountDeleted.mono _ _ | exact impl_CountFinalVoiced.mono _ _ | exact impl_CountInserted.mono _ _ | exact impl_CountNasalVoiceless.mono _ _ | exact impl_CountOnsetless.mono _ _ | exact impl_CountVoiceChanged.mono _ _ | exact impl_CountVoiced.mono _ _ | exact impl_IsCandidate.mono _ _ | exact impl_OutputOf.mono _ _ | exact LeO.refl _ | exact LeO.none _ | refine LeO.ite ?_ ?_ | refine LeO.bind ?_ (fun _ => ?_)
set_option maxHeartbeats 8000000 in
set_option maxRecDepth 100000 in
theorem impl_ViolationsOf.calls (k : Nat) (a0 : ByteArray) (A1_0 : Option Addr) (c1_0 : Nat) (l1_0 : List (S70)) (r : Int) (w : World) (hr1_0 : Kd.C k70 w A1_0 l1_0.length l1_0) (hc1_0 : l1_0.length ≤ c1_0) (h : impl_ViolationsOf.f k a0 l1_0 = some r) :
  Calls Tryz.prog 70 #[.string a0, .agg #[.slice A1_0 l1_0.length c1_0]] w fun e w' => e = .returned (.int .i64 r) ∧ Below w.heap.size w w' := by
 have hu48 := Tryz.underlying48; have HR1_0 := Aside0.mk hr1_0; have HC1_0 := Aside0.mk hc1_0; clear hr1_0 hc1_0; have HB := asT (Below.refl w.heap.size w); have H := h; unfold impl_ViolationsOf.f at H; clear h; obtain ⟨t423, A3, H⟩ := be H
 by_cases c4 : t423 = true
 ·subst c4
  rw [if_pos rfl] at H; obtain ⟨t424, A5, H⟩ := be H
  by_cases c6 : a0.toList = ([111, 110, 115, 101, 116] : List UInt8)
  ·rw [if_pos c6] at H
   have c6b0 : (a0.toList == ([111, 110, 115, 101, 116] : List UInt8)) = true := beq_iff_eq.mpr c6
   have c6b1 : (a0.toList != ([111, 110, 115, 101, 116] : List UInt8)) = false := bne_eq_false_iff_eq.mpr c6
   clear c6; obtain ⟨t425, A7, H⟩ := be H
   obtain rfl := Option.some.inj H
   go_enter Tryz.func70, Tryz.ntmps70
   go_wp2_with (first | ((with_reducible refine gate_dst (N := 3) rfl ?_); refine boxT (N := 3) (cs := #[.slice A1_0 l1_0.length c1_0]) (t := 48) ?_; intro gb422 hg w8 hbox hb; have BK422 := asT hbox; have GW422 := asT (geT hg HB.out); have GE422 := GW422; replace HB := hS HB hb; clear hb hbox hg; obtain ⟨hcz9_0, hfz9_0⟩ := bx1 BK422.out) | ((with_reducible refine gate_callee (f := 55) rfl ?_); refine goesL_ (some 7) rfl rfl Tryz.func55 (by kernel_rfl) rfl #[.agg #[.slice A1_0 l1_0.length c1_0]] rfl eqT ?_; (with_reducible refine (impl_IsCandidate.calls k _ _ l1_0 true _ ?side1 ?side2 A3.out).mono ?_); (case side1 => exact crT HR1_0.out HB.out); (case side2 => exact HC1_0.out); rintro e w10 ⟨rfl, hb⟩; refine ⟨_, rfl, ?_⟩; replace BK422 := bS BK422 hb; replace HB := hS HB hb; (try clear hb hb2 hk hi); obtain ⟨hcz11_0, hfz11_0⟩ := bx1 BK422.out) | ((with_reducible refine gate_callee (f := 26) rfl ?_); refine goesL_ (some 10) rfl rfl Tryz.func26 (by kernel_rfl) rfl #[.agg #[.slice A1_0 l1_0.length c1_0]] rfl eqT ?_; (with_reducible refine (impl_OutputOf.calls k _ _ l1_0 t424 _ ?side1 ?side2 A5.out).mono ?_); (case side1 => exact crT HR1_0.out HB.out); (case side2 => exact HC1_0.out); rintro e w12 ⟨rfl, hb⟩; refine ⟨_, rfl, ?_⟩; replace BK422 := bS BK422 hb; replace HB := hS HB hb; (try clear hb hb2 hk hi)) | ((with_reducible refine gate_callee (f := 100) rfl ?_); refine goesL_ (some 15) rfl rfl Tryz.func100 (by kernel_rfl) rfl #[.string t424] rfl eqT ?_; (with_reducible refine (impl_CountOnsetless.calls k t424 t425 _ A7.out).mono ?_); rintro e w13 ⟨rfl, hb⟩; refine ⟨_, rfl, ?_⟩; replace BK422 := bS BK422 hb; replace HB := hS HB hb; (try clear hb hb2 hk hi)))
   go_ret
   exact ⟨rlT, hbT HB.out⟩
  ·rw [if_neg c6] at H
   have c6b0 : (a0.toList == ([111, 110, 115, 101, 116] : List UInt8)) = false := beq_eq_false_iff_ne.mpr c6
   have c6b1 : (a0.toList != ([111, 110, 115, 101, 116] : List UInt8)) = true := bne_iff_ne.mpr c6
   by_cases c14 : a0.toList = ([110, 111, 99, 111, 100, 97] : List UInt8)
   ·rw [if_pos c14] at H
    have c14b0 : (a0.toList == ([110, 111, 99, 111, 100, 97] : List UInt8)) = true := beq_iff_eq.mpr c14
    have c14b1 : (a0.toList != ([110, 111, 99, 111, 100, 97] : List UInt8)) = false := bne_eq_false_iff_eq.mpr c14
    clear c14; obtain ⟨t426, A15, H⟩ := be H
    obtain rfl := Option.some.inj H
    go_enter Tryz.func70, Tryz.ntmps70
    go_wp2_with (first | ((with_reducible refine gate_dst (N := 3) rfl ?_); refine boxT (N := 3) (cs := #[.slice A1_0 l1_0.length c1_0]) (t := 48) ?_; intro gb422 hg w16 hbox hb; have BK422 := asT hbox; have GW422 := asT (geT hg HB.out); have GE422 := GW422; replace HB := hS HB hb; clear hb hbox hg; obtain ⟨hcz17_0, hfz17_0⟩ := bx1 BK422.out) | ((with_reducible refine gate_callee (f := 55) rfl ?_); refine goesL_ (some 7) rfl rfl Tryz.func55 (by kernel_rfl) rfl #[.agg #[.slice A1_0 l1_0.length c1_0]] rfl eqT ?_; (with_reducible refine (impl_IsCandidate.calls k _ _ l1_0 true _ ?side1 ?side2 A3.out).mono ?_); (case side1 => exact crT HR1_0.out HB.out); (case side2 => exact HC1_0.out); rintro e w18 ⟨rfl, hb⟩; refine ⟨_, rfl, ?_⟩; replace BK422 := bS BK422 hb; replace HB := hS HB hb; (try clear hb hb2 hk hi); obtain ⟨hcz19_0, hfz19_0⟩ := bx1 BK422.out) | ((with_reducible refine gate_callee (f := 26) rfl ?_); refine goesL_ (some 10) rfl rfl Tryz.func26 (by kernel_rfl) rfl #[.agg #[.slice A1_0 l1_0.length c1_0]] rfl eqT ?_; (with_reducible refine (impl_OutputOf.calls k _ _ l1_0 t424 _ ?side1 ?side2 A5.out).mono ?_); (case side1 => exact crT HR1_0.out HB.out); (case side2 => exact HC1_0.out); rintro e w20 ⟨rfl, hb⟩; refine ⟨_, rfl, ?_⟩; replace BK422 := bS BK422 hb; replace HB := hS HB hb; (try clear hb hb2 hk hi)) | ((with_reducible refine gate_callee (f := 101) rfl ?_); refine goesL_ (some 19) rfl rfl Tryz.func101 (by kernel_rfl) rfl #[.string t424] rfl eqT ?_; (with_reducible refine (impl_CountCodas.calls k t424 t426 _ A15.out).mono ?_); rintro e w21 ⟨rfl, hb⟩; refine ⟨_, rfl, ?_⟩; replace BK422 := bS BK422 hb; replace HB := hS HB hb; (try clear hb hb2 hk hi)))
    go_ret
    exact ⟨rlT, hbT HB.out⟩
   ·rw [if_neg c14] at H
    have c14b0 : (a0.toList == ([110, 111, 99, 111, 100, 97] : List UInt8)) = false := beq_eq_false_iff_ne.mpr c14
    have c14b1 : (a0.toList != ([110, 111, 99, 111, 100, 97] : List UInt8)) = true := bne_iff_ne.mpr c14
    by_cases c22 : a0.toList = ([99, 108, 117, 115, 116, 101, 114] : List UInt8)
    ·rw [if_pos c22] at H
     have c22b0 : (a0.toList == ([99, 108, 117, 115, 116, 101, 114] : List UInt8)) = true := beq_iff_eq.mpr c22
     have c22b1 : (a0.toList != ([99, 108, 117, 115, 116, 101, 114] : List UInt8)) = false := bne_eq_false_iff_eq.mpr c22
     clear c22; obtain ⟨t427, A23, H⟩ := be H
     obtain rfl := Option.some.inj H
     go_enter Tryz.func70, Tryz.ntmps70
     go_wp2_with (first | ((with_reducible refine gate_dst (N := 3) rfl ?_); refine boxT (N := 3) (cs := #[.slice A1_0 l1_0.length c1_0]) (t := 48) ?_; intro gb422 hg w24 hbox hb; have BK422 := asT hbox; have GW422 := asT (geT hg HB.out); have GE422 := GW422; replace HB := hS HB hb; clear hb hbox hg; obtain ⟨hcz25_0, hfz25_0⟩ := bx1 BK422.out) | ((with_reducible refine gate_callee (f := 55) rfl ?_); refine goesL_ (some 7) rfl rfl Tryz.func55 (by kernel_rfl) rfl #[.agg #[.slice A1_0 l1_0.length c1_0]] rfl eqT ?_; (with_reducible refine (impl_IsCandidate.calls k _ _ l1_0 true _ ?side1 ?side2 A3.out).mono ?_); (case side1 => exact crT HR1_0.out HB.out); (case side2 => exact HC1_0.out); rintro e w26 ⟨rfl, hb⟩; refine ⟨_, rfl, ?_⟩; replace BK422 := bS BK422 hb; replace HB := hS HB hb; (try clear hb hb2 hk hi); obtain ⟨hcz27_0, hfz27_0⟩ := bx1 BK422.out) | ((with_reducible refine gate_callee (f := 26) rfl ?_); refine goesL_ (some 10) rfl rfl Tryz.func26 (by kernel_rfl) rfl #[.agg #[.slice A1_0 l1_0.length c1_0]] rfl eqT ?_; (with_reducible refine (impl_OutputOf.calls k _ _ l1_0 t424 _ ?side1 ?side2 A5.out).mono ?_); (case side1 => exact crT HR1_0.out HB.out); (case side2 => exact HC1_0.out); rintro e w28 ⟨rfl, hb⟩; refine ⟨_, rfl, ?_⟩; replace BK422 := bS BK422 hb; replace HB := hS HB hb; (try clear hb hb2 hk hi)) | ((with_reducible refine gate_callee (f := 102) rfl ?_); refine goesL_ (some 23) rfl rfl Tryz.func102 (by kernel_rfl) rfl #[.string t424] rfl eqT ?_; (with_reducible refine (impl_CountClusters.calls k t424 t427 _ A23.out).mono ?_); rintro e w29 ⟨rfl, hb⟩; refine ⟨_, rfl, ?_⟩; replace BK422 := bS BK422 hb; replace HB := hS HB hb; (try clear hb hb2 hk hi)))
     go_ret
     exact ⟨rlT, hbT HB.out⟩
    ·rw [if_neg c22] at H
     have c22b0 : (a0.toList == ([99, 108, 117, 115, 116, 101, 114] : List UInt8)) = false := beq_eq_false_iff_ne.mpr c22
     have c22b1 : (a0.toList != ([99, 108, 117, 115, 116, 101, 114] : List UInt8)) = true := bne_iff_ne.mpr c22
     by_cases c30 : a0.toList = ([118, 111, 105, 99, 101] : List UInt8)
     ·rw [if_pos c30] at H
      have c30b0 : (a0.toList == ([118, 111, 105, 99, 101] : List UInt8)) = true := beq_iff_eq.mpr c30
      have c30b1 : (a0.toList != ([118, 111, 105, 99, 101] : List UInt8)) = false := bne_eq_false_iff_eq.mpr c30
      clear c30; obtain ⟨t428, A31, H⟩ := be H
      obtain rfl := Option.some.inj H
      go_enter Tryz.func70, Tryz.ntmps70
      go_wp2_with (first | ((with_reducible refine gate_dst (N := 3) rfl ?_); refine boxT (N := 3) (cs := #[.slice A1_0 l1_0.length c1_0]) (t := 48) ?_; intro gb422 hg w32 hbox hb; have BK422 := asT hbox; have GW422 := asT (geT hg HB.out); have GE422 := GW422; replace HB := hS HB hb; clear hb hbox hg; obtain ⟨hcz33_0, hfz33_0⟩ := bx1 BK422.out) | ((with_reducible refine gate_callee (f := 55) rfl ?_); refine goesL_ (some 7) rfl rfl Tryz.func55 (by kernel_rfl) rfl #[.agg #[.slice A1_0 l1_0.length c1_0]] rfl eqT ?_; (with_reducible refine (impl_IsCandidate.calls k _ _ l1_0 true _ ?side1 ?side2 A3.out).mono ?_); (case side1 => exact crT HR1_0.out HB.out); (case side2 => exact HC1_0.out); rintro e w34 ⟨rfl, hb⟩; refine ⟨_, rfl, ?_⟩; replace BK422 := bS BK422 hb; replace HB := hS HB hb; (try clear hb hb2 hk hi); obtain ⟨hcz35_0, hfz35_0⟩ := bx1 BK422.out) | ((with_reducible refine gate_callee (f := 26) rfl ?_); refine goesL_ (some 10) rfl rfl Tryz.func26 (by kernel_rfl) rfl #[.agg #[.slice A1_0 l1_0.length c1_0]] rfl eqT ?_; (with_reducible refine (impl_OutputOf.calls k _ _ l1_0 t424 _ ?side1 ?side2 A5.out).mono ?_); (case side1 => exact crT HR1_0.out HB.out); (case side2 => exact HC1_0.out); rintro e w36 ⟨rfl, hb⟩; refine ⟨_, rfl, ?_⟩; replace BK422 := bS BK422 hb; replace HB := hS HB hb; (try clear hb hb2 hk hi)) | ((with_reducible refine gate_callee (f := 103) rfl ?_); refine goesL_ (some 27) rfl rfl Tryz.func103 (by kernel_rfl) rfl #[.string t424] rfl eqT ?_; (with_reducible refine (impl_CountVoiced.calls k t424 t428 _ A31.out).mono ?_); rintro e w37 ⟨rfl, hb⟩; refine ⟨_, rfl, ?_⟩; replace BK422 := bS BK422 hb; replace HB := hS HB hb; (try clear hb hb2 hk hi)))
      go_ret
      exact ⟨rlT, hbT HB.out⟩
     ·rw [if_neg c30] at H
      have c30b0 : (a0.toList == ([118, 111, 105, 99, 101] : List UInt8)) = false := beq_eq_false_iff_ne.mpr c30
      have c30b1 : (a0.toList != ([118, 111, 105, 99, 101] : List UInt8)) = true := bne_iff_ne.mpr c30
      by_cases c38 : a0.toList = ([102, 105, 110, 97, 108] : List UInt8)
      ·rw [if_pos c38] at H
       have c38b0 : (a0.toList == ([102, 105, 110, 97, 108] : List UInt8)) = true := beq_iff_eq.mpr c38
       have c38b1 : (a0.toList != ([102, 105, 110, 97, 108] : List UInt8)) = false := bne_eq_false_iff_eq.mpr c38
       clear c38; obtain ⟨t429, A39, H⟩ := be H
       obtain rfl := Option.some.inj H
       go_enter Tryz.func70, Tryz.ntmps70
       go_wp2_with (first | ((with_reducible refine gate_dst (N := 3) rfl ?_); refine boxT (N := 3) (cs := #[.slice A1_0 l1_0.length c1_0]) (t := 48) ?_; intro gb422 hg w40 hbox hb; have BK422 := asT hbox; have GW422 := asT (geT hg HB.out); have GE422 := GW422; replace HB := hS HB hb; clear hb hbox hg; obtain ⟨hcz41_0, hfz41_0⟩ := bx1 BK422.out) | ((with_reducible refine gate_callee (f := 55) rfl ?_); refine goesL_ (some 7) rfl rfl Tryz.func55 (by kernel_rfl) rfl #[.agg #[.slice A1_0 l1_0.length c1_0]] rfl eqT ?_; (with_reducible refine (impl_IsCandidate.calls k _ _ l1_0 true _ ?side1 ?side2 A3.out).mono ?_); (case side1 => exact crT HR1_0.out HB.out); (case side2 => exact HC1_0.out); rintro e w42 ⟨rfl, hb⟩; refine ⟨_, rfl, ?_⟩; replace BK422 := bS BK422 hb; replace HB := hS HB hb; (try clear hb hb2 hk hi); obtain ⟨hcz43_0, hfz43_0⟩ := bx1 BK422.out) | ((with_reducible refine gate_callee (f := 26) rfl ?_); refine goesL_ (some 10) rfl rfl Tryz.func26 (by kernel_rfl) rfl #[.agg #[.slice A1_0 l1_0.length c1_0]] rfl eqT ?_; (with_reducible refine (impl_OutputOf.calls k _ _ l1_0 t424 _ ?side1 ?side2 A5.out).mono ?_); (case side1 => exact crT HR1_0.out HB.out); (case side2 => exact HC1_0.out); rintro e w44 ⟨rfl, hb⟩; refine ⟨_, rfl, ?_⟩; replace BK422 := bS BK422 hb; replace HB := hS HB hb; (try clear hb hb2 hk hi)) | ((with_reducible refine gate_callee (f := 104) rfl ?_); refine goesL_ (some 31) rfl rfl Tryz.func104 (by kernel_rfl) rfl #[.string t424] rfl eqT ?_; (with_reducible refine (impl_CountFinalVoiced.calls k t424 t429 _ A39.out).mono ?_); rintro e w45 ⟨rfl, hb⟩; refine ⟨_, rfl, ?_⟩; replace BK422 := bS BK422 hb; replace HB := hS HB hb; (try clear hb hb2 hk hi)))
       go_ret
       exact ⟨rlT, hbT HB.out⟩
      ·rw [if_neg c38] at H
       have c38b0 : (a0.toList == ([102, 105, 110, 97, 108] : List UInt8)) = false := beq_eq_false_iff_ne.mpr c38
       have c38b1 : (a0.toList != ([102, 105, 110, 97, 108] : List UInt8)) = true := bne_iff_ne.mpr c38
       by_cases c46 : a0.toList = ([110, 97, 115, 97, 108] : List UInt8)
       ·rw [if_pos c46] at H
        have c46b0 : (a0.toList == ([110, 97, 115, 97, 108] : List UInt8)) = true := beq_iff_eq.mpr c46
        have c46b1 : (a0.toList != ([110, 97, 115, 97, 108] : List UInt8)) = false := bne_eq_false_iff_eq.mpr c46
        clear c46; obtain ⟨t430, A47, H⟩ := be H
        obtain rfl := Option.some.inj H
        go_enter Tryz.func70, Tryz.ntmps70
        go_wp2_with (first | ((with_reducible refine gate_dst (N := 3) rfl ?_); refine boxT (N := 3) (cs := #[.slice A1_0 l1_0.length c1_0]) (t := 48) ?_; intro gb422 hg w48 hbox hb; have BK422 := asT hbox; have GW422 := asT (geT hg HB.out); have GE422 := GW422; replace HB := hS HB hb; clear hb hbox hg; obtain ⟨hcz49_0, hfz49_0⟩ := bx1 BK422.out) | ((with_reducible refine gate_callee (f := 55) rfl ?_); refine goesL_ (some 7) rfl rfl Tryz.func55 (by kernel_rfl) rfl #[.agg #[.slice A1_0 l1_0.length c1_0]] rfl eqT ?_; (with_reducible refine (impl_IsCandidate.calls k _ _ l1_0 true _ ?side1 ?side2 A3.out).mono ?_); (case side1 => exact crT HR1_0.out HB.out); (case side2 => exact HC1_0.out); rintro e w50 ⟨rfl, hb⟩; refine ⟨_, rfl, ?_⟩; replace BK422 := bS BK422 hb; replace HB := hS HB hb; (try clear hb hb2 hk hi); obtain ⟨hcz51_0, hfz51_0⟩ := bx1 BK422.out) | ((with_reducible refine gate_callee (f := 26) rfl ?_); refine goesL_ (some 10) rfl rfl Tryz.func26 (by kernel_rfl) rfl #[.agg #[.slice A1_0 l1_0.length c1_0]] rfl eqT ?_; (with_reducible refine (impl_OutputOf.calls k _ _ l1_0 t424 _ ?side1 ?side2 A5.out).mono ?_); (case side1 => exact crT HR1_0.out HB.out); (case side2 => exact HC1_0.out); rintro e w52 ⟨rfl, hb⟩; refine ⟨_, rfl, ?_⟩; replace BK422 := bS BK422 hb; replace HB := hS HB hb; (try clear hb hb2 hk hi)) | ((with_reducible refine gate_callee (f := 105) rfl ?_); refine goesL_ (some 35) rfl rfl Tryz.func105 (by kernel_rfl) rfl #[.string t424] rfl eqT ?_; (with_reducible refine (impl_CountNasalVoiceless.calls k t424 t430 _ A47.out).mono ?_); rintro e w53 ⟨rfl, hb⟩; refine ⟨_, rfl, ?_⟩; replace BK422 := bS BK422 hb; replace HB := hS HB hb; (try clear hb hb2 hk hi)))
        go_ret
        exact ⟨rlT, hbT HB.out⟩
       ·rw [if_neg c46] at H
        have c46b0 : (a0.toList == ([110, 97, 115, 97, 108] : List UInt8)) = false := beq_eq_false_iff_ne.mpr c46
        have c46b1 : (a0.toList != ([110, 97, 115, 97, 108] : List UInt8)) = true := bne_iff_ne.mpr c46
        by_cases c54 : a0.toList = ([109, 97, 120] : List UInt8)
        ·rw [if_pos c54] at H
         have c54b0 : (a0.toList == ([109, 97, 120] : List UInt8)) = true := beq_iff_eq.mpr c54
         have c54b1 : (a0.toList != ([109, 97, 120] : List UInt8)) = false := bne_eq_false_iff_eq.mpr c54
         clear c54; obtain ⟨t431, A55, H⟩ := be H
         obtain rfl := Option.some.inj H
         go_enter Tryz.func70, Tryz.ntmps70
         go_wp2_with (first | ((with_reducible refine gate_dst (N := 3) rfl ?_); refine boxT (N := 3) (cs := #[.slice A1_0 l1_0.length c1_0]) (t := 48) ?_; intro gb422 hg w56 hbox hb; have BK422 := asT hbox; have GW422 := asT (geT hg HB.out); have GE422 := GW422; replace HB := hS HB hb; clear hb hbox hg; obtain ⟨hcz57_0, hfz57_0⟩ := bx1 BK422.out) | ((with_reducible refine gate_callee (f := 55) rfl ?_); refine goesL_ (some 7) rfl rfl Tryz.func55 (by kernel_rfl) rfl #[.agg #[.slice A1_0 l1_0.length c1_0]] rfl eqT ?_; (with_reducible refine (impl_IsCandidate.calls k _ _ l1_0 true _ ?side1 ?side2 A3.out).mono ?_); (case side1 => exact crT HR1_0.out HB.out); (case side2 => exact HC1_0.out); rintro e w58 ⟨rfl, hb⟩; refine ⟨_, rfl, ?_⟩; replace BK422 := bS BK422 hb; replace HB := hS HB hb; (try clear hb hb2 hk hi); obtain ⟨hcz59_0, hfz59_0⟩ := bx1 BK422.out) | ((with_reducible refine gate_callee (f := 26) rfl ?_); refine goesL_ (some 10) rfl rfl Tryz.func26 (by kernel_rfl) rfl #[.agg #[.slice A1_0 l1_0.length c1_0]] rfl eqT ?_; (with_reducible refine (impl_OutputOf.calls k _ _ l1_0 t424 _ ?side1 ?side2 A5.out).mono ?_); (case side1 => exact crT HR1_0.out HB.out); (case side2 => exact HC1_0.out); rintro e w60 ⟨rfl, hb⟩; refine ⟨_, rfl, ?_⟩; replace BK422 := bS BK422 hb; replace HB := hS HB hb; (try clear hb hb2 hk hi); obtain ⟨hcz61_0, hfz61_0⟩ := bx1 BK422.out) | ((with_reducible refine gate_callee (f := 106) rfl ?_); refine goesL_ (some 39) rfl rfl Tryz.func106 (by kernel_rfl) rfl #[.agg #[.slice A1_0 l1_0.length c1_0]] rfl eqT ?_; (with_reducible refine (impl_CountDeleted.calls k _ _ l1_0 t431 _ ?side1 ?side2 A55.out).mono ?_); (case side1 => exact crT HR1_0.out HB.out); (case side2 => exact HC1_0.out); rintro e w62 ⟨rfl, hb⟩; refine ⟨_, rfl, ?_⟩; replace BK422 := bS BK422 hb; replace HB := hS HB hb; (try clear hb hb2 hk hi)))
         go_ret
         exact ⟨rlT, hbT HB.out⟩
        ·rw [if_neg c54] at H
         have c54b0 : (a0.toList == ([109, 97, 120] : List UInt8)) = false := beq_eq_false_iff_ne.mpr c54
         have c54b1 : (a0.toList != ([109, 97, 120] : List UInt8)) = true := bne_iff_ne.mpr c54
         by_cases c63 : a0.toList = ([100, 101, 112] : List UInt8)
         ·rw [if_pos c63] at H
          have c63b0 : (a0.toList == ([100, 101, 112] : List UInt8)) = true := beq_iff_eq.mpr c63
          have c63b1 : (a0.toList != ([100, 101, 112] : List UInt8)) = false := bne_eq_false_iff_eq.mpr c63
          clear c63; obtain ⟨t432, A64, H⟩ := be H
          obtain rfl := Option.some.inj H
          go_enter Tryz.func70, Tryz.ntmps70
          go_wp2_with (first | ((with_reducible refine gate_dst (N := 3) rfl ?_); refine boxT (N := 3) (cs := #[.slice A1_0 l1_0.length c1_0]) (t := 48) ?_; intro gb422 hg w65 hbox hb; have BK422 := asT hbox; have GW422 := asT (geT hg HB.out); have GE422 := GW422; replace HB := hS HB hb; clear hb hbox hg; obtain ⟨hcz66_0, hfz66_0⟩ := bx1 BK422.out) | ((with_reducible refine gate_callee (f := 55) rfl ?_); refine goesL_ (some 7) rfl rfl Tryz.func55 (by kernel_rfl) rfl #[.agg #[.slice A1_0 l1_0.length c1_0]] rfl eqT ?_; (with_reducible refine (impl_IsCandidate.calls k _ _ l1_0 true _ ?side1 ?side2 A3.out).mono ?_); (case side1 => exact crT HR1_0.out HB.out); (case side2 => exact HC1_0.out); rintro e w67 ⟨rfl, hb⟩; refine ⟨_, rfl, ?_⟩; replace BK422 := bS BK422 hb; replace HB := hS HB hb; (try clear hb hb2 hk hi); obtain ⟨hcz68_0, hfz68_0⟩ := bx1 BK422.out) | ((with_reducible refine gate_callee (f := 26) rfl ?_); refine goesL_ (some 10) rfl rfl Tryz.func26 (by kernel_rfl) rfl #[.agg #[.slice A1_0 l1_0.length c1_0]] rfl eqT ?_; (with_reducible refine (impl_OutputOf.calls k _ _ l1_0 t424 _ ?side1 ?side2 A5.out).mono ?_); (case side1 => exact crT HR1_0.out HB.out); (case side2 => exact HC1_0.out); rintro e w69 ⟨rfl, hb⟩; refine ⟨_, rfl, ?_⟩; replace BK422 := bS BK422 hb; replace HB := hS HB hb; (try clear hb hb2 hk hi); obtain ⟨hcz70_0, hfz70_0⟩ := bx1 BK422.out) | ((with_reducible refine gate_callee (f := 107) rfl ?_); refine goesL_ (some 43) rfl rfl Tryz.func107 (by kernel_rfl) rfl #[.agg #[.slice A1_0 l1_0.length c1_0]] rfl eqT ?_; (with_reducible refine (impl_CountInserted.calls k _ _ l1_0 t432 _ ?side1 ?side2 A64.out).mono ?_); (case side1 => exact crT HR1_0.out HB.out); (case side2 => exact HC1_0.out); rintro e w71 ⟨rfl, hb⟩; refine ⟨_, rfl, ?_⟩; replace BK422 := bS BK422 hb; replace HB := hS HB hb; (try clear hb hb2 hk hi)))
          go_ret
          exact ⟨rlT, hbT HB.out⟩
         ·rw [if_neg c63] at H
          have c63b0 : (a0.toList == ([100, 101, 112] : List UInt8)) = false := beq_eq_false_iff_ne.mpr c63
          have c63b1 : (a0.toList != ([100, 101, 112] : List UInt8)) = true := bne_iff_ne.mpr c63
          by_cases c72 : a0.toList = ([105, 100, 101, 110, 116] : List UInt8)
          ·rw [if_pos c72] at H
           have c72b0 : (a0.toList == ([105, 100, 101, 110, 116] : List UInt8)) = true := beq_iff_eq.mpr c72
           have c72b1 : (a0.toList != ([105, 100, 101, 110, 116] : List UInt8)) = false := bne_eq_false_iff_eq.mpr c72
           clear c72; obtain ⟨t433, A73, H⟩ := be H
           obtain rfl := Option.some.inj H
           go_enter Tryz.func70, Tryz.ntmps70
           go_wp2_with (first | ((with_reducible refine gate_dst (N := 3) rfl ?_); refine boxT (N := 3) (cs := #[.slice A1_0 l1_0.length c1_0]) (t := 48) ?_; intro gb422 hg w74 hbox hb; have BK422 := asT hbox; have GW422 := asT (geT hg HB.out); have GE422 := GW422; replace HB := hS HB hb; clear hb hbox hg; obtain ⟨hcz75_0, hfz75_0⟩ := bx1 BK422.out) | ((with_reducible refine gate_callee (f := 55) rfl ?_); refine goesL_ (some 7) rfl rfl Tryz.func55 (by kernel_rfl) rfl #[.agg #[.slice A1_0 l1_0.length c1_0]] rfl eqT ?_; (with_reducible refine (impl_IsCandidate.calls k _ _ l1_0 true _ ?side1 ?side2 A3.out).mono ?_); (case side1 => exact crT HR1_0.out HB.out); (case side2 => exact HC1_0.out); rintro e w76 ⟨rfl, hb⟩; refine ⟨_, rfl, ?_⟩; replace BK422 := bS BK422 hb; replace HB := hS HB hb; (try clear hb hb2 hk hi); obtain ⟨hcz77_0, hfz77_0⟩ := bx1 BK422.out) | ((with_reducible refine gate_callee (f := 26) rfl ?_); refine goesL_ (some 10) rfl rfl Tryz.func26 (by kernel_rfl) rfl #[.agg #[.slice A1_0 l1_0.length c1_0]] rfl eqT ?_; (with_reducible refine (impl_OutputOf.calls k _ _ l1_0 t424 _ ?side1 ?side2 A5.out).mono ?_); (case side1 => exact crT HR1_0.out HB.out); (case side2 => exact HC1_0.out); rintro e w78 ⟨rfl, hb⟩; refine ⟨_, rfl, ?_⟩; replace BK422 := bS BK422 hb; replace HB := hS HB hb; (try clear hb hb2 hk hi); obtain ⟨hcz79_0, hfz79_0⟩ := bx1 BK422.out) | ((with_reducible refine gate_callee (f := 108) rfl ?_); refine goesL_ (some 47) rfl rfl Tryz.func108 (by kernel_rfl) rfl #[.agg #[.slice A1_0 l1_0.length c1_0]] rfl eqT ?_; (with_reducible refine (impl_CountVoiceChanged.calls k _ _ l1_0 t433 _ ?side1 ?side2 A73.out).mono ?_); (case side1 => exact crT HR1_0.out HB.out); (case side2 => exact HC1_0.out); rintro e w80 ⟨rfl, hb⟩; refine ⟨_, rfl, ?_⟩; replace BK422 := bS BK422 hb; replace HB := hS HB hb; (try clear hb hb2 hk hi)))
           go_ret
           exact ⟨rlT, hbT HB.out⟩
          ·rw [if_neg c72] at H
           have c72b0 : (a0.toList == ([105, 100, 101, 110, 116] : List UInt8)) = false := beq_eq_false_iff_ne.mpr c72
           have c72b1 : (a0.toList != ([105, 100, 101, 110, 116] : List UInt8)) = true := bne_iff_ne.mpr c72
           by_cases c81 : a0.toList = ([99, 111, 110, 116, 105, 103] : List UInt8)
           ·rw [if_pos c81] at H
            have c81b0 : (a0.toList == ([99, 111, 110, 116, 105, 103] : List UInt8)) = true := beq_iff_eq.mpr c81
            have c81b1 : (a0.toList != ([99, 111, 110, 116, 105, 103] : List UInt8)) = false := bne_eq_false_iff_eq.mpr c81
            clear c81; obtain ⟨t434, A82, H⟩ := be H
            obtain rfl := Option.some.inj H
            go_enter Tryz.func70, Tryz.ntmps70
            go_wp2_with (first | ((with_reducible refine gate_dst (N := 3) rfl ?_); refine boxT (N := 3) (cs := #[.slice A1_0 l1_0.length c1_0]) (t := 48) ?_; intro gb422 hg w83 hbox hb; have BK422 := asT hbox; have GW422 := asT (geT hg HB.out); have GE422 := GW422; replace HB := hS HB hb; clear hb hbox hg; obtain ⟨hcz84_0, hfz84_0⟩ := bx1 BK422.out) | ((with_reducible refine gate_callee (f := 55) rfl ?_); refine goesL_ (some 7) rfl rfl Tryz.func55 (by kernel_rfl) rfl #[.agg #[.slice A1_0 l1_0.length c1_0]] rfl eqT ?_; (with_reducible refine (impl_IsCandidate.calls k _ _ l1_0 true _ ?side1 ?side2 A3.out).mono ?_); (case side1 => exact crT HR1_0.out HB.out); (case side2 => exact HC1_0.out); rintro e w85 ⟨rfl, hb⟩; refine ⟨_, rfl, ?_⟩; replace BK422 := bS BK422 hb; replace HB := hS HB hb; (try clear hb hb2 hk hi); obtain ⟨hcz86_0, hfz86_0⟩ := bx1 BK422.out) | ((with_reducible refine gate_callee (f := 26) rfl ?_); refine goesL_ (some 10) rfl rfl Tryz.func26 (by kernel_rfl) rfl #[.agg #[.slice A1_0 l1_0.length c1_0]] rfl eqT ?_; (with_reducible refine (impl_OutputOf.calls k _ _ l1_0 t424 _ ?side1 ?side2 A5.out).mono ?_); (case side1 => exact crT HR1_0.out HB.out); (case side2 => exact HC1_0.out); rintro e w87 ⟨rfl, hb⟩; refine ⟨_, rfl, ?_⟩; replace BK422 := bS BK422 hb; replace HB := hS HB hb; (try clear hb hb2 hk hi); obtain ⟨hcz88_0, hfz88_0⟩ := bx1 BK422.out) | ((with_reducible refine gate_callee (f := 109) rfl ?_); refine goesL_ (some 51) rfl rfl Tryz.func109 (by kernel_rfl) rfl #[.agg #[.slice A1_0 l1_0.length c1_0]] rfl eqT ?_; (with_reducible refine (impl_CountBreaks.calls k _ _ l1_0 t434 _ ?side1 ?side2 A82.out).mono ?_); (case side1 => exact crT HR1_0.out HB.out); (case side2 => exact HC1_0.out); rintro e w89 ⟨rfl, hb⟩; refine ⟨_, rfl, ?_⟩; replace BK422 := bS BK422 hb; replace HB := hS HB hb; (try clear hb hb2 hk hi)))
            go_ret
            exact ⟨rlT, hbT HB.out⟩
           ·rw [if_neg c81] at H
            have c81b0 : (a0.toList == ([99, 111, 110, 116, 105, 103] : List UInt8)) = false := beq_eq_false_iff_ne.mpr c81
            have c81b1 : (a0.toList != ([99, 111, 110, 116, 105, 103] : List UInt8)) = true := bne_iff_ne.mpr c81
            obtain rfl := Option.some.inj H
            go_enter Tryz.func70, Tryz.ntmps70
            go_wp2_with (first | ((with_reducible refine gate_dst (N := 3) rfl ?_); refine boxT (N := 3) (cs := #[.slice A1_0 l1_0.length c1_0]) (t := 48) ?_; intro gb422 hg w90 hbox hb; have BK422 := asT hbox; have GW422 := asT (geT hg HB.out); have GE422 := GW422; replace HB := hS HB hb; clear hb hbox hg; obtain ⟨hcz91_0, hfz91_0⟩ := bx1 BK422.out) | ((with_reducible refine gate_callee (f := 55) rfl ?_); refine goesL_ (some 7) rfl rfl Tryz.func55 (by kernel_rfl) rfl #[.agg #[.slice A1_0 l1_0.length c1_0]] rfl eqT ?_; (with_reducible refine (impl_IsCandidate.calls k _ _ l1_0 true _ ?side1 ?side2 A3.out).mono ?_); (case side1 => exact crT HR1_0.out HB.out); (case side2 => exact HC1_0.out); rintro e w92 ⟨rfl, hb⟩; refine ⟨_, rfl, ?_⟩; replace BK422 := bS BK422 hb; replace HB := hS HB hb; (try clear hb hb2 hk hi); obtain ⟨hcz93_0, hfz93_0⟩ := bx1 BK422.out) | ((with_reducible refine gate_callee (f := 26) rfl ?_); refine goesL_ (some 10) rfl rfl Tryz.func26 (by kernel_rfl) rfl #[.agg #[.slice A1_0 l1_0.length c1_0]] rfl eqT ?_; (with_reducible refine (impl_OutputOf.calls k _ _ l1_0 t424 _ ?side1 ?side2 A5.out).mono ?_); (case side1 => exact crT HR1_0.out HB.out); (case side2 => exact HC1_0.out); rintro e w94 ⟨rfl, hb⟩; refine ⟨_, rfl, ?_⟩; replace BK422 := bS BK422 hb; replace HB := hS HB hb; (try clear hb hb2 hk hi)))
            go_ret
            exact ⟨rlT, hbT HB.out⟩
 ·replace c4 := Bool.eq_false_iff.mpr c4
  subst c4; rw [if_neg nF] at H; have H1 := H; clear H; have H := H1; clear H1
  obtain rfl := Option.some.inj H
  go_enter Tryz.func70, Tryz.ntmps70
  go_wp2_with (first | ((with_reducible refine gate_dst (N := 3) rfl ?_); refine boxT (N := 3) (cs := #[.slice A1_0 l1_0.length c1_0]) (t := 48) ?_; intro gb422 hg w95 hbox hb; have BK422 := asT hbox; have GW422 := asT (geT hg HB.out); have GE422 := GW422; replace HB := hS HB hb; clear hb hbox hg; obtain ⟨hcz96_0, hfz96_0⟩ := bx1 BK422.out) | ((with_reducible refine gate_callee (f := 55) rfl ?_); refine goesL_ (some 7) rfl rfl Tryz.func55 (by kernel_rfl) rfl #[.agg #[.slice A1_0 l1_0.length c1_0]] rfl eqT ?_; (with_reducible refine (impl_IsCandidate.calls k _ _ l1_0 false _ ?side1 ?side2 A3.out).mono ?_); (case side1 => exact crT HR1_0.out HB.out); (case side2 => exact HC1_0.out); rintro e w97 ⟨rfl, hb⟩; refine ⟨_, rfl, ?_⟩; replace BK422 := bS BK422 hb; replace HB := hS HB hb; (try clear hb hb2 hk hi)))
  go_ret
  exact ⟨rlT, hbT HB.out⟩

/-! ### impl_ProfileOf: function 38 -/
mutual
def impl_ProfileOf.j0 : Nat → List ByteArray → Bool → List (S70) → Option (List Int)
 | 0, _, _, _ => none
 | k + 1, x0, x15, x436000 => if x15 = true then (some ([] : List Int)) else (impl_ProfileOf.l0 k (([] : List Int)) x0 (x0.length : Int) 0 x436000)
def impl_ProfileOf.l0 : Nat → List Int → List ByteArray → Int → Int → List (S70) → Option (List Int)
 | 0, _, _, _, _, _ => none
 | k + 1, x5, x17, x18, x19, x436000 => if x19 < x18 then (if 0 ≤ x19 then (if x19 < (x17.length : Int) then ((impl_ViolationsOf.f k (rdOf ByteArray.empty x17 x19) x436000).bind fun t442 => (if x5.length < 17592186044416 then (impl_ProfileOf.l0 k (x5 ++ [t442]) x17 x18 (wrap64 (x19 + 1)) x436000) else (none))) else (none)) else (none)) else (some x5)
end
def impl_ProfileOf.f (k : Nat) (l0 : List ByteArray) (l1_0 : List (S70)) : Option (List Int) := (impl_AreConstraints.f k l0).bind fun t436 => (if t436 = true then ((impl_IsCandidate.f k l1_0).bind fun t437 => (impl_ProfileOf.j0 k l0 (!t437) l1_0)) else (impl_ProfileOf.j0 k l0 true l1_0))
theorem impl_ProfileOf.mono_l : ∀ k, (∀ y0 y1 y2, LeO (impl_ProfileOf.j0 k y0 y1 y2) (impl_ProfileOf.j0 (k + 1) y0 y1 y2)) ∧ (∀ y0 y1 y2 y3 y4, LeO (impl_ProfileOf.l0 k y0 y1 y2 y3 y4) (impl_ProfileOf.l0 (k + 1) y0 y1 y2 y3 y4))
 | 0 => ⟨fun _ _ _ r h => by simp [impl_ProfileOf.j0] at h, fun _ _ _ _ _ r h => by simp [impl_ProfileOf.l0] at h⟩
 | k + 1 => by
  obtain ⟨ih0, ih1⟩ := impl_ProfileOf.mono_l k; refine ⟨?_, ?_⟩
  ·intro y0 y1 y2
   unfold impl_ProfileOf.j0
   with_reducible repeat' first | exact ih0 _ _ _ | exact ih1 _ _ _ _ _ | exact impl_AreConstraints.mono _ _ | exact impl_IsCandidate.mono _ _ | exact impl_ViolationsOf.mono _ _ _ | exact LeO.refl _ | exact LeO.none _ | refine LeO.ite ?_ ?_ | refine LeO.bind ?_ (fun _ => ?_)
  ·intro y0 y1 y2 y3 y4
   unfold impl_ProfileOf.l0
   with_reducible repeat' first | exact ih0 _ _ _ | exact ih1 _ _ _ _ _ | exact impl_AreConstraints.mono _ _ | exact impl_IsCandidate.mono _ _ | exact impl_ViolationsOf.mono _ _ _ | exact LeO.refl _ | exact LeO.none _ | refine LeO.ite ?_ ?_ | refine LeO.bind ?_ (fun _ => ?_)
theorem impl_ProfileOf.mono : ∀ a0 a1 k, LeO (impl_ProfileOf.f k a0 a1) (impl_ProfileOf.f (k + 1) a0 a1) := by
 intro a0 a1 k
 obtain ⟨ih0, ih1⟩ := impl_ProfileOf.mono_l k
 unfold impl_ProfileOf.f
 with_reducible repeat' first | exact ih0 _ _ _ | exact ih1 _ _ _ _ _ | exact impl_AreConstraints.mono _ _ | exact impl_IsCandidate.mono _ _ | exact impl_ViolationsOf.mono _ _ _ | exact LeO.refl _ | exact LeO.none _ | refine LeO.ite ?_ ?_ | refine LeO.bind ?_ (fun _ => ?_)
set_option maxHeartbeats 8000000 in
set_option maxRecDepth 100000 in
theorem impl_ProfileOf.calls (k : Nat) (A0 : Option Addr) (c0 : Nat) (l0 : List ByteArray) (A1_0 : Option Addr) (c1_0 : Nat) (l1_0 : List (S70)) (r : List Int) (w : World) (hr0 : Kd.C Kd.string w A0 l0.length l0) (hc0 : l0.length ≤ c0) (hr1_0 : Kd.C k70 w A1_0 l1_0.length l1_0) (hc1_0 : l1_0.length ≤ c1_0) (h : impl_ProfileOf.f k l0 l1_0 = some r) :
  Calls Tryz.prog 38 #[.slice A0 l0.length c0, .agg #[.slice A1_0 l1_0.length c1_0]] w fun e w' => ∃ v0_ : Value, e = .returned (v0_) ∧ Kd.R (Kd.int .i64) 3 w' w.heap.size (fun _ => True) v0_ r ∧ Below w.heap.size w w' := by
 have hu48 := Tryz.underlying48; have HR0 := Aside0.mk hr0; have HC0 := Aside0.mk hc0; clear hr0 hc0; have HR1_0 := Aside0.mk hr1_0; have HC1_0 := Aside0.mk hc1_0; clear hr1_0 hc1_0; have HB := asT (Below.refl w.heap.size w); have H := h; unfold impl_ProfileOf.f at H; clear h; have HC3 := Aside0.mk H; clear H
 go_enter Tryz.func38, Tryz.ntmps38
 go_upto_region 1 with (first | ((with_reducible refine gate_dst (N := 3) rfl ?_); refine boxT (N := 3) (cs := #[.slice A1_0 l1_0.length c1_0]) (t := 48) ?_; intro gb435 hg w4 hbox hb; have BK435 := asT hbox; have GW435 := asT (geT hg HB.out); have GE435 := GW435; replace HB := hS HB hb; clear hb hbox hg))
 (try simp only [Act.put, sA, sZ, sS])
 go_cut [15] (fun v15 wc => ∃ (kq : Nat) (x15_2 : Bool), v15 = .bool x15_2 ∧ Aside0 (impl_ProfileOf.j0 kq l0 x15_2 l1_0 = some r) ∧ Aside0 (kq ≤ k) ∧ Aside0 (wc.heap[gb435]? = some (.cells #[(.slice A1_0 l1_0.length c1_0)] 48 (0, 0))) ∧ Aside0 (Below w.heap.size w wc))
 case first =>
  have H := HC3.out; clear HC3; obtain ⟨t436, A5, H⟩ := be H
  by_cases c6 : t436 = true
  ·subst c6
   rw [if_pos rfl] at H; obtain ⟨t437, A7, H⟩ := be H; have H' := Aside0.mk H; clear H
   go_wp2_with (first | ((with_reducible refine gate_callee (f := 34) rfl ?_); refine goesL_ (some 9) rfl rfl Tryz.func34 (by kernel_rfl) rfl #[.slice A0 l0.length c0] rfl eqT ?_; (with_reducible refine (impl_AreConstraints.calls k _ _ l0 true _ ?side1 ?side2 A5.out).mono ?_); (case side1 => exact crT HR0.out HB.out); (case side2 => exact HC0.out); rintro e w8 ⟨rfl, hb⟩; refine ⟨_, rfl, ?_⟩; replace BK435 := bS BK435 hb; replace HB := hS HB hb; (try clear hb hb2 hk hi); obtain ⟨hcz9_0, hfz9_0⟩ := bx1 BK435.out) | (go_at_call 55; (with_reducible refine (impl_IsCandidate.calls k _ _ l1_0 t437 _ ?side1 ?side2 A7.out).mono ?_); (case side1 => exact crT HR1_0.out HB.out); (case side2 => exact HC1_0.out); rintro e w10 ⟨rfl, hb⟩; replace BK435 := bS BK435 hb; replace HB := hS HB hb; (try clear hb hb2 hk hi)))
   go_meet
   case rel => exact ⟨_, (!t437), rdT, H', ⟨by first | omega | exact Nat.le_refl _⟩, ⟨by (with_reducible repeat (first | refine blk_drewN ?_ _ | refine blk_drew ?_ | refine blk_alloc ?_ _)); exact BK435.out⟩, ⟨hbT HB.out⟩⟩
  ·replace c6 := Bool.eq_false_iff.mpr c6
   subst c6; rw [if_neg nF] at H; have H' := Aside0.mk H; clear H
   go_wp2_with (first | ((with_reducible refine gate_callee (f := 34) rfl ?_); refine goesL_ (some 9) rfl rfl Tryz.func34 (by kernel_rfl) rfl #[.slice A0 l0.length c0] rfl eqT ?_; (with_reducible refine (impl_AreConstraints.calls k _ _ l0 false _ ?side1 ?side2 A5.out).mono ?_); (case side1 => exact crT HR0.out HB.out); (case side2 => exact HC0.out); rintro e w11 ⟨rfl, hb⟩; refine ⟨_, rfl, ?_⟩; replace BK435 := bS BK435 hb; replace HB := hS HB hb; (try clear hb hb2 hk hi)))
   go_meet
   case rel => exact ⟨_, (true), rdT, H', ⟨by first | omega | exact Nat.le_refl _⟩, ⟨by (with_reducible repeat (first | refine blk_drewN ?_ _ | refine blk_drew ?_ | refine blk_alloc ?_ _)); exact BK435.out⟩, ⟨hbT HB.out⟩⟩
 case rest =>
  clear HC3; (try clear c1 p2 c3 c6 hcz9_0 hfz9_0); obtain ⟨kq, x15_2, rfl, HA, HJ2, BK435, HB⟩ := hcut
  cases kq with
  | zero => exact absurd HA.out (by simp [impl_ProfileOf.j0])
  | succ kj2 =>
   have H := HA.out; clear HA
   simp only [impl_ProfileOf.j0] at H
   by_cases c12 : x15_2 = true
   ·subst c12
    rw [if_pos rfl] at H; have H1 := H; clear H; have H := H1; clear H1
    obtain rfl := Option.some.inj H
    go_wp2
    go_ret
    exact ⟨_, rlT, by first | exact Kd.R_nil _ _ _ _ _ | exact Kd.N_nil _ _ _ _ _ | exact Kd.V_nil _ _ _ _ _ | exact Kd.Q_nil _ _ _ _ _ | exact Kd.S_nil _ _ _ _ _, hbT HB.out⟩
   ·replace c12 := Bool.eq_false_iff.mpr c12
    subst c12; rw [if_neg nF] at H; obtain ⟨y438, hy438⟩ : ∃ y_ : List Int, y_ = (([] : List Int)) := ⟨_, rfl⟩
    replace H : (impl_ProfileOf.l0 kj2 y438 l0 (l0.length : Int) 0 l1_0) = some r := by first | (rw [hy438]; with_reducible exact H) | (have H2_ := (Option.bind_some _ _).symm.trans H; rw [hy438]; with_reducible exact H2_) | (have H2_ := (Option.bind_some _ _).symm.trans H; with_reducible exact H2_) | with_reducible exact H | (rw [hy438]; exact H) | exact H
    have Ny438 := Aside0.mk hy438; clear hy438; have H' := Aside0.mk H; clear H
    go_wp2_with (first | ((with_reducible refine gate_dst (N := 16) rfl ?_); refine Kd.R_lit (Kd.int .i64) _ 3 ?hg (N := 16) ?hd (xs := ([] : List Int)) (inner := []) (ok := fun _ => True) (okp := fun _ => True) ?hr ?hp (fun _ hk => hk) trivial (Below.refl _ _) (Nat.le_refl _) (by simp) ?_; (case hd => rfl); (case hg => rfl); (case hr => first | (go_simp; done) | (go_simp; rfl)); (case hp => exact (Reps.none _ _)); intro v439 w13 ho14 hb hg_ hnew_; clear hg_ hnew_; (first | rw [← Ny438.out] at ho14 | (simp only [Int.reduceToNat] at ho14; rw [← Ny438.out] at ho14)); have HO440 := asT (Kd.R_lower ho14 (below_size (hbT HB.out))); replace BK435 := bS BK435 hb; replace HB := hS HB hb; clear hb ho14))
    go_loopg [5, 19] kj2 (fun kq v5 v19 w' => ∃ (x5_2 : List Int) (x19_2 : Int), v19 = .int .i64 x19_2 ∧ Aside0 (impl_ProfileOf.l0 kq x5_2 l0 (l0.length : Int) x19_2 l1_0 = some r) ∧ Aside0 (kq ≤ kj2) ∧ Aside0 (Kd.R (Kd.int .i64) 3 w' w.heap.size (fun _ => True) v5 x5_2) ∧ Aside0 (w'.heap[gb435]? = some (.cells #[(.slice A1_0 l1_0.length c1_0)] 48 (0, 0))) ∧ Aside0 (Below w.heap.size w w'))
    case atStart => exact ⟨(y438), (0), rdT, H', ⟨Nat.le_refl _⟩, ⟨by (with_reducible repeat (first | apply Kd.R_alloc | apply Kd.R_drewN | apply Kd.R_drew)); exact HO440.out⟩, ⟨by (with_reducible repeat (first | refine blk_drewN ?_ _ | refine blk_drew ?_ | refine blk_alloc ?_ _)); exact BK435.out⟩, ⟨hbT HB.out⟩⟩
    case round =>
     clear H'; (try clear c1 p2 c3 c6 c12 hcz9_0 hfz9_0 p2); obtain ⟨x5_2, x19_2, rfl, HA, HK2, HO_5, BK435, HB⟩ := hrel
     cases gk with
     | zero => exact absurd HA.out (by simp [impl_ProfileOf.l0])
     | succ k2 =>
      have H := HA.out; clear HA
      simp only [impl_ProfileOf.l0] at H
      by_cases c15 : x19_2 < (l0.length : Int)
      ·rw [if_pos c15] at H
       have c15b0 : decide (x19_2 < (l0.length : Int)) = true := decide_eq_true c15
       clear c15
       by_cases c16 : 0 ≤ x19_2
       ·rw [if_pos c16] at H
        have c16b0 : decide (0 ≤ x19_2) = true := decide_eq_true c16
        clear c16
        by_cases c17 : x19_2 < (l0.length : Int)
        ·rw [if_pos c17] at H
         have c17b0 : decide (x19_2 < (l0.length : Int)) = true := decide_eq_true c17
         clear c17; obtain ⟨t442, A18, H⟩ := be H
         by_cases c19 : x5_2.length < 17592186044416
         ·rw [if_pos c19] at H
          have LMc19 := Aside0.mk c19; clear c19; obtain ⟨y443, hy443⟩ : ∃ y_ : List Int, y_ = (x5_2 ++ [t442]) := ⟨_, rfl⟩
          replace H : (impl_ProfileOf.l0 k2 y443 l0 (l0.length : Int) (wrap64 (x19_2 + 1)) l1_0) = some r := by first | (rw [hy443]; with_reducible exact H) | (have H2_ := (Option.bind_some _ _).symm.trans H; rw [hy443]; with_reducible exact H2_) | (have H2_ := (Option.bind_some _ _).symm.trans H; with_reducible exact H2_) | with_reducible exact H | (rw [hy443]; exact H) | exact H
          have Ny443 := Aside0.mk hy443; clear hy443; have H' := Aside0.mk H; clear H
          have p441 : 0 ≤ (x19_2 : Int) := of_decide_eq_true asmT
          have q441 : x19_2 < (l0.length : Int) := of_decide_eq_true asmT
          obtain ⟨ad441, e441, hx441_0⟩ := Kd.at_string HR0.out x19_2 p441 q441
          cases e441
          replace hx441_0 := hbc HB.out hx441_0; replace p441 := eq_true p441; replace q441 := eq_true q441
          have hcz20_0 := bc0 BK435.out
          have hfz20_0 := blk_frozen BK435.out 0
          go_wp2_with (first | ((with_reducible refine gate_callee (f := 70) rfl ?_); refine goesL_ (some 26) rfl rfl Tryz.func70 (by kernel_rfl) rfl #[.string (rdOf ByteArray.empty l0 x19_2), .agg #[.slice A1_0 l1_0.length c1_0]] rfl eqT ?_; (with_reducible refine (impl_ViolationsOf.calls k2 (rdOf ByteArray.empty l0 x19_2) _ _ l1_0 t442 _ ?side1 ?side2 A18.out).mono ?_); (case side1 => exact crT HR1_0.out HB.out); (case side2 => exact HC1_0.out); rintro e w21 ⟨rfl, hb⟩; refine ⟨_, rfl, ?_⟩; replace HO_5 := asT (Kd.R_below (roT HO_5.out) hb); replace BK435 := bS BK435 hb; replace HB := hS HB hb; (try clear hb hb2 hk hi)) | ((with_reducible refine gate_builtin (b := .append) (xs := #[.tmp 23, .tmp 27]) rfl ?_); at_builtin; refine Kd.R_append (Kd.int .i64) (w0 := w) w.heap.size rfl (.tmp 23) (.tmp 27) 57 3 (.int .i64 0) 8 rfl Tryz.underlying57 info3 rfl (by decide) (by omega) u5 x5_2 t442 [.int .i64 t442] (fun _ => True) (fun _ => False) rfl rfl ?aP (fun _ hk => hk.elim) ?aF ?aO ?aB ?aS ?aL ?_; (case aP => exact rfl); (case aB => exact (hbT HB.out)); (case aF => exact (fun _ _ => trivial)); (case aO => exact (roT HO_5.out)); (case aS => exact (below_size (hbT HB.out))); (case aL => have := LMc19.out; omega); intro v444 w22 ho hb hg hat; rw [← Ny443.out] at ho; replace BK435 := asT (blk_grown (g := gb435) (o := .cells #[.slice A1_0 l1_0.length c1_0] 48 (0, 0)) (bkT BK435.out) hg (Kd.R_ne HO_5.out BK435.out (by decide))); replace HB := asT (hb); have HO445 := asT (ho); clear HO_5 ho hb hg hat))
          go_roundg k2
          case measure => have := HJ2.out; have := HK2.out; omega
          case rel => exact ⟨(y443), (wrap64 (x19_2 + 1)), rdT, H', ⟨by have := HJ2.out; have := HK2.out; omega⟩, ⟨by (with_reducible repeat (first | apply Kd.R_alloc | apply Kd.R_drewN | apply Kd.R_drew)); exact HO445.out⟩, ⟨by (with_reducible repeat (first | refine blk_drewN ?_ _ | refine blk_drew ?_ | refine blk_alloc ?_ _)); exact BK435.out⟩, ⟨hbT HB.out⟩⟩
         ·rw [if_neg c19] at H
          exact absurd H (by simp)
        ·rw [if_neg c17] at H
         exact absurd H (by simp)
       ·rw [if_neg c16] at H
        exact absurd H (by simp)
      ·rw [if_neg c15] at H
       have c15b0 : decide (x19_2 < (l0.length : Int)) = false := decide_eq_false c15
       clear c15
       obtain rfl := Option.some.inj H
       go_wp2
       go_ret
       exact ⟨_, rlT, by (with_reducible repeat (first | apply Kd.R_alloc | apply Kd.R_drewN | apply Kd.R_drew)); exact HO_5.out, hbT HB.out⟩

/-! ### impl_InputOf: function 56 -/
def impl_InputOf.f (k : Nat) (l0_0 : List (S70)) : Option (ByteArray) := (impl_IsCandidate.f k l0_0).bind fun t447 => (if t447 = true then ((impl_sounds.f k l0_0 false).bind fun t448 => (some t448)) else (some (⟨#[]⟩ : ByteArray)))
theorem impl_InputOf.mono : ∀ a0 k, LeO (impl_InputOf.f k a0) (impl_InputOf.f (k + 1) a0) := by
 intro a0 k
 unfold impl_InputOf.f
 with_reducible repeat' first | exact impl_IsCandidate.mono _ _ | exact impl_sounds.mono _ _ _ | exact LeO.refl _ | exact LeO.none _ | refine LeO.ite ?_ ?_ | refine LeO.bind ?_ (fun _ => ?_)
set_option maxHeartbeats 8000000 in
set_option maxRecDepth 100000 in
theorem impl_InputOf.calls (k : Nat) (A0_0 : Option Addr) (c0_0 : Nat) (l0_0 : List (S70)) (r : ByteArray) (w : World) (hr0_0 : Kd.C k70 w A0_0 l0_0.length l0_0) (hc0_0 : l0_0.length ≤ c0_0) (h : impl_InputOf.f k l0_0 = some r) :
  Calls Tryz.prog 56 #[.agg #[.slice A0_0 l0_0.length c0_0]] w fun e w' => e = .returned (.string r) ∧ Below w.heap.size w w' := by
 have hu48 := Tryz.underlying48; have HR0_0 := Aside0.mk hr0_0; have HC0_0 := Aside0.mk hc0_0; clear hr0_0 hc0_0; have HB := asT (Below.refl w.heap.size w); have H := h; unfold impl_InputOf.f at H; clear h; obtain ⟨t447, A2, H⟩ := be H
 by_cases c3 : t447 = true
 ·subst c3
  rw [if_pos rfl] at H; obtain ⟨t448, A4, H⟩ := be H
  obtain rfl := Option.some.inj H
  go_enter Tryz.func56, Tryz.ntmps56
  go_wp2_with (first | ((with_reducible refine gate_dst (N := 1) rfl ?_); refine boxT (N := 1) (cs := #[.slice A0_0 l0_0.length c0_0]) (t := 48) ?_; intro gb446 hg w5 hbox hb; have BK446 := asT hbox; have GW446 := asT (geT hg HB.out); have GE446 := GW446; replace HB := hS HB hb; clear hb hbox hg; obtain ⟨hcz6_0, hfz6_0⟩ := bx1 BK446.out) | ((with_reducible refine gate_callee (f := 55) rfl ?_); refine goesL_ (some 4) rfl rfl Tryz.func55 (by kernel_rfl) rfl #[.agg #[.slice A0_0 l0_0.length c0_0]] rfl eqT ?_; (with_reducible refine (impl_IsCandidate.calls k _ _ l0_0 true _ ?side1 ?side2 A2.out).mono ?_); (case side1 => exact crT HR0_0.out HB.out); (case side2 => exact HC0_0.out); rintro e w7 ⟨rfl, hb⟩; refine ⟨_, rfl, ?_⟩; replace BK446 := bS BK446 hb; replace HB := hS HB hb; (try clear hb hb2 hk hi); obtain ⟨hcz8_0, hfz8_0⟩ := bx1 BK446.out) | ((with_reducible refine gate_callee (f := 58) rfl ?_); refine goesL_ (some 7) rfl rfl Tryz.func58 (by kernel_rfl) rfl #[.agg #[.slice A0_0 l0_0.length c0_0], .bool false] rfl eqT ?_; (with_reducible refine (impl_sounds.calls k _ _ l0_0 false t448 _ ?side1 ?side2 A4.out).mono ?_); (case side1 => exact crT HR0_0.out HB.out); (case side2 => exact HC0_0.out); rintro e w9 ⟨rfl, hb⟩; refine ⟨_, rfl, ?_⟩; replace BK446 := bS BK446 hb; replace HB := hS HB hb; (try clear hb hb2 hk hi)))
  go_ret
  exact ⟨rlT, hbT HB.out⟩
 ·replace c3 := Bool.eq_false_iff.mpr c3
  subst c3; rw [if_neg nF] at H; have H1 := H; clear H; have H := H1; clear H1
  obtain rfl := Option.some.inj H
  go_enter Tryz.func56, Tryz.ntmps56
  go_wp2_with (first | ((with_reducible refine gate_dst (N := 1) rfl ?_); refine boxT (N := 1) (cs := #[.slice A0_0 l0_0.length c0_0]) (t := 48) ?_; intro gb446 hg w10 hbox hb; have BK446 := asT hbox; have GW446 := asT (geT hg HB.out); have GE446 := GW446; replace HB := hS HB hb; clear hb hbox hg; obtain ⟨hcz11_0, hfz11_0⟩ := bx1 BK446.out) | ((with_reducible refine gate_callee (f := 55) rfl ?_); refine goesL_ (some 4) rfl rfl Tryz.func55 (by kernel_rfl) rfl #[.agg #[.slice A0_0 l0_0.length c0_0]] rfl eqT ?_; (with_reducible refine (impl_IsCandidate.calls k _ _ l0_0 false _ ?side1 ?side2 A2.out).mono ?_); (case side1 => exact crT HR0_0.out HB.out); (case side2 => exact HC0_0.out); rintro e w12 ⟨rfl, hb⟩; refine ⟨_, rfl, ?_⟩; replace BK446 := bS BK446 hb; replace HB := hS HB hb; (try clear hb hb2 hk hi)))
  go_ret
  exact ⟨rlT, hbT HB.out⟩

/-! ### slices_Equal_int_int: function 57 -/
def slices_Equal_int_int.l0 : Nat → List Int → List Int → Int → Int → Option (Bool)
 | 0, _, _, _, _ => none
 | k + 1, x0, x1, x12, x13 => if x13 < x12 then (if 0 ≤ x13 then (if x13 < (x0.length : Int) then (if x13 < (x1.length : Int) then (if (rd x0 x13) = (rd x1 x13) then (slices_Equal_int_int.l0 k x0 x1 x12 (wrap64 (x13 + 1))) else (some false)) else (none)) else (none)) else (none)) else (some true)
def slices_Equal_int_int.f (k : Nat) (l0 : List Int) (l1 : List Int) : Option (Bool) := if (l0.length : Int) = (l1.length : Int) then (slices_Equal_int_int.l0 k l0 l1 (l0.length : Int) 0) else (some false)
theorem slices_Equal_int_int.mono_l : ∀ k, (∀ y0 y1 y2 y3, LeO (slices_Equal_int_int.l0 k y0 y1 y2 y3) (slices_Equal_int_int.l0 (k + 1) y0 y1 y2 y3))
 | 0 => fun _ _ _ _ r h => by simp [slices_Equal_int_int.l0] at h
 | k + 1 => by
  have ih0 := slices_Equal_int_int.mono_l k
  ·intro y0 y1 y2 y3
   unfold slices_Equal_int_int.l0
   with_reducible repeat' first | exact ih0 _ _ _ _ | exact LeO.refl _ | exact LeO.none _ | refine LeO.ite ?_ ?_ | refine LeO.bind ?_ (fun _ => ?_)
theorem slices_Equal_int_int.mono : ∀ a0 a1 k, LeO (slices_Equal_int_int.f k a0 a1) (slices_Equal_int_int.f (k + 1) a0 a1) := by
 intro a0 a1 k
 have ih0 := slices_Equal_int_int.mono_l k
 unfold slices_Equal_int_int.f
 with_reducible repeat' first | exact ih0 _ _ _ _ | exact LeO.refl _ | exact LeO.none _ | refine LeO.ite ?_ ?_ | refine LeO.bind ?_ (fun _ => ?_)
set_option maxHeartbeats 8000000 in
set_option maxRecDepth 100000 in
theorem slices_Equal_int_int.calls (k : Nat) (A0 : Option Addr) (c0 : Nat) (l0 : List Int) (A1 : Option Addr) (c1 : Nat) (l1 : List Int) (r : Bool) (w : World) (hr0 : Kd.C (Kd.int .i64) w A0 l0.length l0) (hc0 : l0.length ≤ c0) (hr1 : Kd.C (Kd.int .i64) w A1 l1.length l1) (hc1 : l1.length ≤ c1) (h : slices_Equal_int_int.f k l0 l1 = some r) :
  Calls Tryz.prog 57 #[.slice A0 l0.length c0, .slice A1 l1.length c1] w fun e w' => e = .returned (.bool r) ∧ Drawn0 w w' := by
 have HR0 := Aside0.mk hr0; have HC0 := Aside0.mk hc0; clear hr0 hc0; have HR1 := Aside0.mk hr1; have HC1 := Aside0.mk hc1; clear hr1 hc1; have H := h; unfold slices_Equal_int_int.f at H; clear h
 by_cases c3 : (l0.length : Int) = (l1.length : Int)
 ·rw [if_pos c3] at H
  have c3b0 : ((l0.length : Int) == (l1.length : Int)) = true := beq_iff_eq.mpr c3
  have c3b1 : ((l0.length : Int) != (l1.length : Int)) = false := bne_eq_false_iff_eq.mpr c3
  have c3b2 : (l0.length == l1.length) = true := by first | simpa using c3 | (simp at c3 ⊢; omega)
  clear c3; have H' := Aside0.mk H; clear H
  go_enter Tryz.func57, Tryz.ntmps57
  go_wp2
  repeat (go_quiet (fail); try go_wp2)
  go_loopg [13] k (fun kq v13 w' => ∃ (x13_1 : Int), v13 = .int .i64 x13_1 ∧ Aside0 (slices_Equal_int_int.l0 kq l0 l1 (l0.length : Int) x13_1 = some r) ∧ Aside0 (kq ≤ k) ∧ Drawn0 w w')
  case atStart => exact ⟨(0), rdT, H', ⟨Nat.le_refl _⟩, drT⟩
  case round =>
   clear H'; (try clear c1 p2 c3 c3b0 c3b1 c3b2); obtain ⟨x13_1, rfl, HA, HK1, ⟨m1, rfl⟩⟩ := hrel
   cases gk with
   | zero => exact absurd HA.out (by simp [slices_Equal_int_int.l0])
   | succ k1 =>
    have H := HA.out; clear HA
    simp only [slices_Equal_int_int.l0] at H
    by_cases c4 : x13_1 < (l0.length : Int)
    ·rw [if_pos c4] at H
     have c4b0 : decide (x13_1 < (l0.length : Int)) = true := decide_eq_true c4
     clear c4
     by_cases c5 : 0 ≤ x13_1
     ·rw [if_pos c5] at H
      have c5b0 : decide (0 ≤ x13_1) = true := decide_eq_true c5
      clear c5
      by_cases c6 : x13_1 < (l0.length : Int)
      ·rw [if_pos c6] at H
       have c6b0 : decide (x13_1 < (l0.length : Int)) = true := decide_eq_true c6
       clear c6
       by_cases c7 : x13_1 < (l1.length : Int)
       ·rw [if_pos c7] at H
        have c7b0 : decide (x13_1 < (l1.length : Int)) = true := decide_eq_true c7
        clear c7
        by_cases c8 : (rd l0 x13_1) = (rd l1 x13_1)
        ·rw [if_pos c8] at H
         have c8b0 : ((rd l0 x13_1) == (rd l1 x13_1)) = true := beq_iff_eq.mpr c8
         have c8b1 : ((rd l0 x13_1) != (rd l1 x13_1)) = false := bne_eq_false_iff_eq.mpr c8
         clear c8; have H' := Aside0.mk H; clear H
         have p449 : 0 ≤ (x13_1 : Int) := of_decide_eq_true asmT
         have q449 : x13_1 < (l0.length : Int) := of_decide_eq_true asmT
         obtain ⟨ad449, e449, hx449_0⟩ := Kd.at_int HR0.out x13_1 p449 q449
         cases e449
         replace p449 := eq_true p449; replace q449 := eq_true q449
         have p450 : 0 ≤ (x13_1 : Int) := of_decide_eq_true asmT
         have q450 : x13_1 < (l1.length : Int) := of_decide_eq_true asmT
         obtain ⟨ad450, e450, hx450_0⟩ := Kd.at_int HR1.out x13_1 p450 q450
         cases e450
         replace p450 := eq_true p450; replace q450 := eq_true q450
         go_wp2
         repeat (go_quiet (fail); try go_wp2)
         go_roundg k1
         case measure => have := HK1.out; omega
         case rel => exact ⟨(wrap64 (x13_1 + 1)), rdT, H', ⟨by have := HK1.out; omega⟩, drT⟩
        ·rw [if_neg c8] at H
         have c8b0 : ((rd l0 x13_1) == (rd l1 x13_1)) = false := beq_eq_false_iff_ne.mpr c8
         have c8b1 : ((rd l0 x13_1) != (rd l1 x13_1)) = true := bne_iff_ne.mpr c8
         obtain rfl := Option.some.inj H
         have p449 : 0 ≤ (x13_1 : Int) := of_decide_eq_true asmT
         have q449 : x13_1 < (l0.length : Int) := of_decide_eq_true asmT
         obtain ⟨ad449, e449, hx449_0⟩ := Kd.at_int HR0.out x13_1 p449 q449
         cases e449
         replace p449 := eq_true p449; replace q449 := eq_true q449
         have p450 : 0 ≤ (x13_1 : Int) := of_decide_eq_true asmT
         have q450 : x13_1 < (l1.length : Int) := of_decide_eq_true asmT
         obtain ⟨ad450, e450, hx450_0⟩ := Kd.at_int HR1.out x13_1 p450 q450
         cases e450
         replace p450 := eq_true p450; replace q450 := eq_true q450
         go_wp2
         repeat (go_quiet (fail); try go_wp2)
         go_ret
         exact ⟨rdT, drT⟩
       ·rw [if_neg c7] at H
        exact absurd H (by simp)
      ·rw [if_neg c6] at H
       exact absurd H (by simp)
     ·rw [if_neg c5] at H
      exact absurd H (by simp)
    ·rw [if_neg c4] at H
     have c4b0 : decide (x13_1 < (l0.length : Int)) = false := decide_eq_false c4
     clear c4
     obtain rfl := Option.some.inj H
     go_wp2
     repeat (go_quiet (fail); try go_wp2)
     go_ret
     exact ⟨rdT, drT⟩
 ·rw [if_neg c3] at H
  have c3b0 : ((l0.length : Int) == (l1.length : Int)) = false := beq_eq_false_iff_ne.mpr c3
  have c3b1 : ((l0.length : Int) != (l1.length : Int)) = true := bne_iff_ne.mpr c3
  have c3b2 : (l0.length == l1.length) = false := by first | simpa using c3 | (simp at c3 ⊢; omega)
  obtain rfl := Option.some.inj H
  go_enter Tryz.func57, Tryz.ntmps57
  go_wp2
  repeat (go_quiet (fail); try go_wp2)
  go_ret
  exact ⟨rdT, drT⟩

end Go.Proofs.YtmfhaplhgaehhaaGreat.PFnExactRowWith
