-- Made by gen.py (a program of this session) out of the translation; Lean checks it.
import Derived.Test.YtmfhaplhgaehhaaPFnExactIsGeneratedx0
import Derived.Test.YtmfhaplhgaehhaaPFnExactIsGeneratedx2
namespace Go.Proofs.Ytmfhaplhgaehhaa.PFnExactIsGenerated
open Go.RowKit Go.Proofs.YtmfhaplhgaehhaaB Go.Proofs.YtmfhaplhgaehhaaW.PrintWords Go.Proofs.YtmfhaplhgaehhaaW.PrintLast Go.Proofs.YtmfhaplhgaehhaaW.PrintMore
attribute [local go_sem] max2_int min2_int max_two min_two max_three min_three max_four min_four   -- for this text's walks alone
set_option linter.unusedVariables false
set_option linter.unusedSimpArgs false

/-! ### impl_IsGenerated: function 34 -/
def impl_IsGenerated.l0 : Nat → List S26 → List S87 → Int → Option Bool
  | 0, _, _, _ => none
  | k + 1, xs, c, i => if i < (xs.length : Int) then (if 0 ≤ i then ((impl_EqualCandidates.f k ((xs.getD i.toNat z26).f0) c).bind fun b => if b = true then some true else impl_IsGenerated.l0 k xs c (wrap64 (i + 1))) else none) else some false
def impl_IsGenerated.f (k : Nat) (a0 : ByteArray) (l1_0 : List S87) : Option (Bool) := (impl_Generate.f k a0).bind fun t => impl_IsGenerated.l0 k t l1_0 0
theorem impl_IsGenerated.mono_l : ∀ k, (∀ y0 y1 y2, LeO (impl_IsGenerated.l0 k y0 y1 y2) (impl_IsGenerated.l0 (k + 1) y0 y1 y2))
  | 0 => fun _ _ _ r h => by simp [impl_IsGenerated.l0] at h
  | k + 1 => by
    have ih0 := impl_IsGenerated.mono_l k
    intro y0 y1 y2
    unfold impl_IsGenerated.l0
    with_reducible repeat' first | exact ih0 _ _ _ | exact impl_EqualCandidates.mono _ _ _ | exact LeO.refl _ | exact LeO.none _ | refine LeO.ite ?_ ?_ | refine LeO.bind ?_ (fun _ => ?_)
theorem impl_IsGenerated.mono : ∀ a0 a1 k, LeO (impl_IsGenerated.f k a0 a1) (impl_IsGenerated.f (k + 1) a0 a1) := by
  intro a0 a1 k
  unfold impl_IsGenerated.f
  exact LeO.bind (impl_Generate.mono a0 k) (fun _ => impl_IsGenerated.mono_l k _ _ _)
set_option maxHeartbeats 4000000 in
set_option maxRecDepth 100000 in
theorem isgen_clo (k : Nat) (A : Option Addr) (c : Nat) (l : List S87) (Ac : Option Addr) (cc : Nat) (lc : List S87) (Bc : Nat) (r : Bool) (w : World) (hbox : w.heap[Bc]? = some (.cells #[.slice Ac lc.length cc] 26 (0, 0))) (hr : Kd.C k87 w A l.length l) (hc : l.length ≤ c) (hrc : Kd.C k87 w Ac lc.length lc) (hcc : lc.length ≤ cc) (h : impl_EqualCandidates.f k l lc = some r) :
    Calls Try.prog 97 #[.agg #[.slice A l.length c], .pointer (some ⟨Bc, 0, none⟩)] w fun e w' => e = .returned (.bool r) ∧ Below w.heap.size w w' := by
  have hcb := asT (bc0 hbox)
  go_enter Try.func97, Try.ntmps97
  go_wp2_with (first
    | ((with_reducible refine gate_dst (N := 2) rfl ?_); refine boxT (N := 2) (cs := #[.slice A l.length c]) (t := 26) ?_; intro gx hgx w1 hb1 hb; clear hgx; have x0 := bc0 hb1; have x1 := bc0 (blk_below hbox hb); have hr1 := Kd.C_below hr hb; have hrc1 := Kd.C_below hrc hb)
    | (go_at_call 49; refine (impl_EqualCandidates.calls k _ _ l _ _ lc r w1 hr1 hc hrc1 hcc h).mono ?_; rintro e w2 ⟨rfl, hb2⟩))
  go_ret
  exact ⟨rfl, by first | exact below_step hb hb2 | exact below_step hb hb2.below⟩
set_option maxHeartbeats 4000000 in
set_option maxRecDepth 100000 in
theorem isgen_index (k : Nat) (A : Option Addr) (c : Nat) (l0 : List S26) (Ac : Option Addr) (cc : Nat) (lc : List S87) (Bc : Nat) (r : Bool) (w : World) (hbox : w.heap[Bc]? = some (.cells #[.slice Ac lc.length cc] 26 (0, 0))) (hr0 : Kd.C k26 w A l0.length l0) (hc0 : l0.length ≤ c) (hrc : Kd.C k87 w Ac lc.length lc) (hcc : lc.length ≤ cc) (h : impl_IsGenerated.l0 k l0 lc 0 = some r) :
    Calls Try.prog 136 #[.slice A l0.length c, .func (.func 97) #[] #[.pointer (some ⟨Bc, 0, none⟩)]] w fun e w' => (∃ q : Int, e = .returned (.int .i64 q) ∧ decide (0 ≤ q) = r) ∧ Below w.heap.size w w' := by
  have H' := Aside0.mk h
  have HR := Aside0.mk hr0
  have HC := Aside0.mk hc0
  have HX := Aside0.mk hbox
  have HRC := Aside0.mk hrc
  have HCC := Aside0.mk hcc
  clear h hr0 hc0 hbox hrc hcc
  go_enter Try.func136, Try.ntmps136
  go_wp2
  go_loopg [8] k (fun kq v8 wr => ∃ (i : Int), v8 = .int .i64 i ∧ Aside0 (impl_IsGenerated.l0 kq l0 lc i = some r) ∧ Aside0 (kq ≤ k) ∧ Aside0 (Below w.heap.size w wr))
  case atStart => exact ⟨0, rfl, H', ⟨Nat.le_refl _⟩, ⟨Below.refl _ _⟩⟩
  case round =>
    clear H'
    obtain ⟨i, rfl, HA, HK1, HB⟩ := hrel
    cases gk with
    | zero => exact absurd HA.out (by simp [impl_IsGenerated.l0])
    | succ k1 =>
      have H := HA.out
      clear HA
      simp only [impl_IsGenerated.l0] at H
      by_cases c3 : i < (l0.length : Int)
      · rw [if_pos c3] at H
        by_cases c4 : 0 ≤ i
        · rw [if_pos c4] at H
          replace H := Option.bind_eq_some_iff.mp H
          obtain ⟨b, hf, H⟩ := H
          have hf' := asT hf
          have H' := asT H
          clear hf H
          obtain ⟨ad, A2, c2, e1, hx, hl2, hC2⟩ := at_T26 HR.out i c4 c3
          subst e1
          have hxr := hbc HB.out hx
          have HC2 := asT (Kd.C_below hC2 HB.out)
          have HL2 := asT hl2
          clear hC2 hl2 hx
          have c3b : decide (i < (l0.length : Int)) = true := decide_eq_true c3
          have p : (0 ≤ i) = True := eq_true c4
          have q : (i < (l0.length : Int)) = True := eq_true c3
          clear c3 c4
          cases b with
          | true =>
            have hr2 := H'.out
            simp only [if_true] at hr2
            obtain rfl := Option.some.inj hr2
            go_wp2_with (first
              | (go_at_call 97; refine (isgen_clo k1 A2 c2 _ Ac cc lc Bc true wr (blk_below HX.out HB.out) HC2.out HL2.out (Kd.C_below HRC.out HB.out) HCC.out hf'.out).mono ?_; rintro e w2 ⟨rfl, hb2⟩; have HB2 := asT (below_step HB.out hb2); clear hb2))
            go_ret
            exact ⟨⟨i, rfl, decide_eq_true (of_eq_true p)⟩, HB2.out⟩
          | false =>
            go_wp2_with (first
              | (go_at_call 97; refine (isgen_clo k1 A2 c2 _ Ac cc lc Bc false wr (blk_below HX.out HB.out) HC2.out HL2.out (Kd.C_below HRC.out HB.out) HCC.out hf'.out).mono ?_; rintro e w2 ⟨rfl, hb2⟩; have HB2 := asT (below_step HB.out hb2); clear hb2))
            go_roundg k1
            case rel =>
              have hr2 := H'.out
              simp only [Bool.false_eq_true, if_false] at hr2
              exact ⟨wrap64 (i + 1), by first | rfl | (simp only [i64_w]; done), ⟨hr2⟩, ⟨by have := HK1.out; omega⟩, HB2⟩
            case measure => have := HK1.out; omega
        · rw [if_neg c4] at H
          cases H
      · rw [if_neg c3] at H
        obtain rfl := Option.some.inj H
        have c3b : decide (i < (l0.length : Int)) = false := decide_eq_false c3
        clear c3
        go_wp2
        go_ret
        exact ⟨⟨-1, rfl, by decide⟩, HB.out⟩
set_option maxHeartbeats 4000000 in
set_option maxRecDepth 100000 in
theorem isgen_contains (k : Nat) (A : Option Addr) (c : Nat) (l0 : List S26) (Ac : Option Addr) (cc : Nat) (lc : List S87) (Bc : Nat) (r : Bool) (w : World) (hbox : w.heap[Bc]? = some (.cells #[.slice Ac lc.length cc] 26 (0, 0))) (hr0 : Kd.C k26 w A l0.length l0) (hc0 : l0.length ≤ c) (hrc : Kd.C k87 w Ac lc.length lc) (hcc : lc.length ≤ cc) (h : impl_IsGenerated.l0 k l0 lc 0 = some r) :
    Calls Try.prog 96 #[.slice A l0.length c, .func (.func 97) #[] #[.pointer (some ⟨Bc, 0, none⟩)]] w fun e w' => e = .returned (.bool r) ∧ Below w.heap.size w w' := by
  go_enter Try.func96, Try.ntmps96
  go_wp2_with (first
    | (go_at_call 136; refine (isgen_index k A c l0 Ac cc lc Bc r w hbox hr0 hc0 hrc hcc h).mono ?_; rintro e w1 ⟨⟨q, rfl, hq⟩, hb⟩))
  go_ret
  subst hq
  exact ⟨rfl, hb⟩
set_option maxHeartbeats 4000000 in
set_option maxRecDepth 100000 in
theorem impl_IsGenerated.calls (k : Nat) (a0 : ByteArray) (A1_0 : Option Addr) (c1_0 : Nat) (l1_0 : List S87) (r : Bool) (w : World) (hr1_0 : Kd.C k87 w A1_0 l1_0.length l1_0) (hc1_0 : l1_0.length ≤ c1_0) (h : impl_IsGenerated.f k a0 l1_0 = some r) :
    Calls Try.prog 34 #[.string a0, .agg #[.slice A1_0 l1_0.length c1_0]] w fun e w' => e = .returned (.bool r) ∧ Below w.heap.size w w' := by
  unfold impl_IsGenerated.f at h
  replace h := Option.bind_eq_some_iff.mp h
  obtain ⟨t, hf, h⟩ := h
  have hf' := asT hf
  have h' := asT h
  clear hf h
  go_enter Try.func34, Try.ntmps34
  go_wp2_with (first
    | ((with_reducible refine gate_dst (N := 3) rfl ?_); refine boxT (N := 3) (cs := #[.slice A1_0 l1_0.length c1_0]) (t := 26) ?_; intro gx hgx w1 hb1 hb; clear hgx; have HB1 := asT hb; have HX1 := asT hb1; have HC1 := asT (Kd.C_below hr1_0 hb); clear hb hb1)
    | (go_at_call 27; refine (impl_Generate.calls k a0 t w1 hf'.out).mono ?_; rintro e w2 ⟨v, rfl, ho, hb⟩; obtain ⟨A2, c2, ev, hl2, hC2⟩ := Kd.S_reads ho; subst ev; have HB2 := asT (below_step HB1.out hb); have HX2 := asT (blk_below HX1.out hb); have HC2 := asT (Kd.C_below HC1.out hb); have HS2 := asT hC2; have HL2 := asT hl2; clear ho hb hC2 hl2)
    | (go_at_call 96; refine (isgen_contains k A2 c2 t A1_0 c1_0 l1_0 gx r w2 HX2.out HS2.out HL2.out HC2.out hc1_0 h'.out).mono ?_; rintro e w3 ⟨rfl, hb⟩; have HB3 := asT (below_step HB2.out hb); clear hb))
  go_ret
  exact ⟨rfl, HB3.out⟩

/-! ### spec_SwapVoice: function 84 -/
def spec_SwapVoice.f (a0 : Int) : Option (Int × Bool) := if a0 = 112 then (some (98, true)) else (if a0 = 98 then (some (112, true)) else (if a0 = 116 then (some (100, true)) else (if a0 = 100 then (some (116, true)) else (some (a0, false)))))
set_option maxHeartbeats 8000000 in
set_option maxRecDepth 100000 in
theorem spec_SwapVoice.calls (a0 : Int) (r1 : Int) (r2 : Bool) (w : World) (h : spec_SwapVoice.f a0 = some (r1, r2)) :
  Calls Try.prog 84 #[.int .u8 a0] w fun e w' => e = .returned (.tuple #[.int .u8 r1, .bool r2]) ∧ Drawn0 w w' := by
 have H := h; unfold spec_SwapVoice.f at H; clear h
 by_cases c2 : a0 = 112
 ·rw [if_pos c2] at H
  have c2b0 : (a0 == 112) = true := beq_iff_eq.mpr c2
  have c2b1 : (a0 != 112) = false := bne_eq_false_iff_eq.mpr c2
  clear c2
  simp only [Option.some.injEq, Prod.mk.injEq] at H
  obtain ⟨rfl, rfl⟩ := H
  go_enter Try.func84, Try.ntmps84
  go_wp2
  go_ret2
  exact ⟨rdT, drT⟩
 ·rw [if_neg c2] at H
  have c2b0 : (a0 == 112) = false := beq_eq_false_iff_ne.mpr c2
  have c2b1 : (a0 != 112) = true := bne_iff_ne.mpr c2
  by_cases c3 : a0 = 98
  ·rw [if_pos c3] at H
   have c3b0 : (a0 == 98) = true := beq_iff_eq.mpr c3
   have c3b1 : (a0 != 98) = false := bne_eq_false_iff_eq.mpr c3
   clear c3
   simp only [Option.some.injEq, Prod.mk.injEq] at H
   obtain ⟨rfl, rfl⟩ := H
   go_enter Try.func84, Try.ntmps84
   go_wp2
   go_ret2
   exact ⟨rdT, drT⟩
  ·rw [if_neg c3] at H
   have c3b0 : (a0 == 98) = false := beq_eq_false_iff_ne.mpr c3
   have c3b1 : (a0 != 98) = true := bne_iff_ne.mpr c3
   by_cases c4 : a0 = 116
   ·rw [if_pos c4] at H
    have c4b0 : (a0 == 116) = true := beq_iff_eq.mpr c4
    have c4b1 : (a0 != 116) = false := bne_eq_false_iff_eq.mpr c4
    clear c4
    simp only [Option.some.injEq, Prod.mk.injEq] at H
    obtain ⟨rfl, rfl⟩ := H
    go_enter Try.func84, Try.ntmps84
    go_wp2
    go_ret2
    exact ⟨rdT, drT⟩
   ·rw [if_neg c4] at H
    have c4b0 : (a0 == 116) = false := beq_eq_false_iff_ne.mpr c4
    have c4b1 : (a0 != 116) = true := bne_iff_ne.mpr c4
    by_cases c5 : a0 = 100
    ·rw [if_pos c5] at H
     have c5b0 : (a0 == 100) = true := beq_iff_eq.mpr c5
     have c5b1 : (a0 != 100) = false := bne_eq_false_iff_eq.mpr c5
     clear c5
     simp only [Option.some.injEq, Prod.mk.injEq] at H
     obtain ⟨rfl, rfl⟩ := H
     go_enter Try.func84, Try.ntmps84
     go_wp2
     go_ret2
     exact ⟨rdT, drT⟩
    ·rw [if_neg c5] at H
     have c5b0 : (a0 == 100) = false := beq_eq_false_iff_ne.mpr c5
     have c5b1 : (a0 != 100) = true := bne_iff_ne.mpr c5
     simp only [Option.some.injEq, Prod.mk.injEq] at H
     obtain ⟨rfl, rfl⟩ := H
     go_enter Try.func84, Try.ntmps84
     go_wp2
     go_ret2
     exact ⟨rdT, drT⟩

/-! ### spec_IsSound: function 85 -/
def spec_IsSound.l0 : Nat → Int → Int → Option (Bool)
 | 0, _, _ => none
 | k + 1, x0, x3 => if x3 < 7 then (if 0 ≤ x3 then (if (bt (⟨#[112, 116, 98, 100, 110, 97, 105]⟩ : ByteArray) x3) = x0 then (some true) else (spec_IsSound.l0 k x0 (wrap64 (x3 + 1)))) else (none)) else (some false)
def spec_IsSound.f (k : Nat) (a0 : Int) : Option (Bool) := spec_IsSound.l0 k a0 0
theorem spec_IsSound.mono_l : ∀ k, (∀ y0 y1, LeO (spec_IsSound.l0 k y0 y1) (spec_IsSound.l0 (k + 1) y0 y1))
 | 0 => fun _ _ r h => by simp [spec_IsSound.l0] at h
 | k + 1 => by
  have ih0 := spec_IsSound.mono_l k
  ·intro y0 y1
   unfold spec_IsSound.l0
   with_reducible repeat' first | exact ih0 _ _ | exact LeO.refl _ | exact LeO.none _ | refine LeO.ite ?_ ?_ | refine LeO.bind ?_ (fun _ => ?_)
theorem spec_IsSound.mono : ∀ a0 k, LeO (spec_IsSound.f k a0) (spec_IsSound.f (k + 1) a0) := by
 intro a0 k
 have ih0 := spec_IsSound.mono_l k
 unfold spec_IsSound.f
 with_reducible repeat' first | exact ih0 _ _ | exact LeO.refl _ | exact LeO.none _ | refine LeO.ite ?_ ?_ | refine LeO.bind ?_ (fun _ => ?_)
set_option maxHeartbeats 8000000 in
set_option maxRecDepth 100000 in
theorem spec_IsSound.calls (k : Nat) (a0 : Int) (r : Bool) (w : World) (h : spec_IsSound.f k a0 = some r) :
  Calls Try.prog 85 #[.int .u8 a0] w fun e w' => e = .returned (.bool r) ∧ Drawn0 w w' := by
 have H := h; unfold spec_IsSound.f at H; clear h; have H' := Aside0.mk H; clear H
 go_enter Try.func85, Try.ntmps85
 go_wp2
 go_loopg [3] k (fun kq v3 w' => ∃ (x3_1 : Int), v3 = .int .i64 x3_1 ∧ Aside0 (spec_IsSound.l0 kq a0 x3_1 = some r) ∧ Aside0 (kq ≤ k) ∧ Drawn0 w w')
 case atStart => exact ⟨(0), rdT, H', ⟨Nat.le_refl _⟩, drT⟩
 case round =>
  clear H'; obtain ⟨x3_1, rfl, HA, HK1, ⟨m1, rfl⟩⟩ := hrel
  cases gk with
  | zero => exact absurd HA.out (by simp [spec_IsSound.l0])
  | succ k1 =>
   have H := HA.out; clear HA
   simp only [spec_IsSound.l0] at H
   by_cases c2 : x3_1 < 7
   ·rw [if_pos c2] at H
    have c2b0 : decide (x3_1 < 7) = true := decide_eq_true c2
    clear c2
    by_cases c3 : 0 ≤ x3_1
    ·rw [if_pos c3] at H
     have c3b0 : decide (0 ≤ x3_1) = true := decide_eq_true c3
     clear c3
     by_cases c5 : (bt (⟨#[112, 116, 98, 100, 110, 97, 105]⟩ : ByteArray) x3_1) = a0
     ·rw [if_pos c5] at H
      have c5b0 : ((bt (⟨#[112, 116, 98, 100, 110, 97, 105]⟩ : ByteArray) x3_1) == a0) = true := beq_iff_eq.mpr c5
      have c5b1 : ((bt (⟨#[112, 116, 98, 100, 110, 97, 105]⟩ : ByteArray) x3_1) != a0) = false := bne_eq_false_iff_eq.mpr c5
      clear c5
      obtain rfl := Option.some.inj H
      have p4 : 0 ≤ (x3_1 : Int) := of_decide_eq_true asmT
      have q4 : x3_1 < (7 : Int) := of_decide_eq_true asmT
      have hx4 := bt_at (⟨#[112, 116, 98, 100, 110, 97, 105]⟩ : ByteArray) x3_1; replace p4 := eq_true p4; replace q4 := eq_true q4
      go_wp2
      go_ret
      exact ⟨rdT, drT⟩
     ·rw [if_neg c5] at H
      have c5b0 : ((bt (⟨#[112, 116, 98, 100, 110, 97, 105]⟩ : ByteArray) x3_1) == a0) = false := beq_eq_false_iff_ne.mpr c5
      have c5b1 : ((bt (⟨#[112, 116, 98, 100, 110, 97, 105]⟩ : ByteArray) x3_1) != a0) = true := bne_iff_ne.mpr c5
      have H' := Aside0.mk H; clear H
      have p4 : 0 ≤ (x3_1 : Int) := of_decide_eq_true asmT
      have q4 : x3_1 < (7 : Int) := of_decide_eq_true asmT
      have hx4 := bt_at (⟨#[112, 116, 98, 100, 110, 97, 105]⟩ : ByteArray) x3_1; replace p4 := eq_true p4; replace q4 := eq_true q4
      go_wp2
      go_roundg k1
      case measure => have := HK1.out; omega
      case rel => exact ⟨(wrap64 (x3_1 + 1)), rdT, H', ⟨by have := HK1.out; omega⟩, drT⟩
    ·rw [if_neg c3] at H
     exact absurd H (by simp)
   ·rw [if_neg c2] at H
    have c2b0 : decide (x3_1 < 7) = false := decide_eq_false c2
    clear c2
    obtain rfl := Option.some.inj H
    go_wp2
    go_ret
    exact ⟨rdT, drT⟩

/-! ### spec_l2Sounds: function 129 -/
def spec_l2Sounds.l0 : Nat → ByteArray → Int → Option (Bool)
 | 0, _, _ => none
 | k + 1, x0, x3 => if x3 < (x0.size : Int) then (if 0 ≤ x3 then ((spec_IsSound.f k (bt x0 x3)).bind fun t115 => (if t115 = true then (spec_l2Sounds.l0 k x0 (wrap64 (x3 + 1))) else (some false))) else (none)) else (some (decide ((x0.size : Int) ≤ 20)))
def spec_l2Sounds.f (k : Nat) (a0 : ByteArray) : Option (Bool) := spec_l2Sounds.l0 k a0 0
theorem spec_l2Sounds.mono_l : ∀ k, (∀ y0 y1, LeO (spec_l2Sounds.l0 k y0 y1) (spec_l2Sounds.l0 (k + 1) y0 y1))
 | 0 => fun _ _ r h => by simp [spec_l2Sounds.l0] at h
 | k + 1 => by
  have ih0 := spec_l2Sounds.mono_l k
  ·intro y0 y1
   unfold spec_l2Sounds.l0
   with_reducible repeat' first | exact ih0 _ _ | exact spec_IsSound.mono _ _ | exact LeO.refl _ | exact LeO.none _ | refine LeO.ite ?_ ?_ | refine LeO.bind ?_ (fun _ => ?_)
theorem spec_l2Sounds.mono : ∀ a0 k, LeO (spec_l2Sounds.f k a0) (spec_l2Sounds.f (k + 1) a0) := by
 intro a0 k
 have ih0 := spec_l2Sounds.mono_l k
 unfold spec_l2Sounds.f
 with_reducible repeat' first | exact ih0 _ _ | exact spec_IsSound.mono _ _ | exact LeO.refl _ | exact LeO.none _ | refine LeO.ite ?_ ?_ | refine LeO.bind ?_ (fun _ => ?_)
set_option maxHeartbeats 8000000 in
set_option maxRecDepth 100000 in
theorem spec_l2Sounds.calls (k : Nat) (a0 : ByteArray) (r : Bool) (w : World) (h : spec_l2Sounds.f k a0 = some r) :
  Calls Try.prog 129 #[.string a0] w fun e w' => e = .returned (.bool r) ∧ Drawn0 w w' := by
 have H := h; unfold spec_l2Sounds.f at H; clear h; have H' := Aside0.mk H; clear H
 go_enter Try.func129, Try.ntmps129
 go_wp2
 go_loopg [3] k (fun kq v3 w' => ∃ (x3_1 : Int), v3 = .int .i64 x3_1 ∧ Aside0 (spec_l2Sounds.l0 kq a0 x3_1 = some r) ∧ Aside0 (kq ≤ k) ∧ Drawn0 w w')
 case atStart => exact ⟨(0), rdT, H', ⟨Nat.le_refl _⟩, drT⟩
 case round =>
  clear H'; (try clear c1); obtain ⟨x3_1, rfl, HA, HK1, ⟨m1, rfl⟩⟩ := hrel
  cases gk with
  | zero => exact absurd HA.out (by simp [spec_l2Sounds.l0])
  | succ k1 =>
   have H := HA.out; clear HA
   simp only [spec_l2Sounds.l0] at H
   by_cases c2 : x3_1 < (a0.size : Int)
   ·rw [if_pos c2] at H
    have c2b0 : decide (x3_1 < (a0.size : Int)) = true := decide_eq_true c2
    clear c2
    by_cases c3 : 0 ≤ x3_1
    ·rw [if_pos c3] at H
     have c3b0 : decide (0 ≤ x3_1) = true := decide_eq_true c3
     clear c3; obtain ⟨t115, A5, H⟩ := be H
     by_cases c6 : t115 = true
     ·subst c6
      rw [if_pos rfl] at H; have H' := Aside0.mk H; clear H
      have p4 : 0 ≤ (x3_1 : Int) := of_decide_eq_true asmT
      have q4 : x3_1 < (a0.size : Int) := of_decide_eq_true asmT
      have hx4 := bt_at a0 x3_1; replace p4 := eq_true p4; replace q4 := eq_true q4
      go_wp2_with (first | ((with_reducible refine gate_callee (f := 85) rfl ?_); refine goesL_ (some 13) rfl rfl Try.func85 (by kernel_rfl) rfl #[.int .u8 (bt a0 x3_1)] rfl eqT ?_; (with_reducible refine (spec_IsSound.calls k1 (bt a0 x3_1) true _ A5.out).mono ?_); rintro e w' ⟨rfl, ⟨nd, rfl⟩⟩; refine ⟨_, rfl, ?_⟩))
      go_roundg k1
      case measure => have := HK1.out; omega
      case rel => exact ⟨(wrap64 (x3_1 + 1)), rdT, H', ⟨by have := HK1.out; omega⟩, drT⟩
     ·replace c6 := Bool.eq_false_iff.mpr c6
      subst c6; rw [if_neg nF] at H; have H1 := H; clear H; have H := H1; clear H1
      obtain rfl := Option.some.inj H
      have p4 : 0 ≤ (x3_1 : Int) := of_decide_eq_true asmT
      have q4 : x3_1 < (a0.size : Int) := of_decide_eq_true asmT
      have hx4 := bt_at a0 x3_1; replace p4 := eq_true p4; replace q4 := eq_true q4
      go_wp2_with (first | ((with_reducible refine gate_callee (f := 85) rfl ?_); refine goesL_ (some 13) rfl rfl Try.func85 (by kernel_rfl) rfl #[.int .u8 (bt a0 x3_1)] rfl eqT ?_; (with_reducible refine (spec_IsSound.calls k1 (bt a0 x3_1) false _ A5.out).mono ?_); rintro e w' ⟨rfl, ⟨nd, rfl⟩⟩; refine ⟨_, rfl, ?_⟩))
      go_ret
      exact ⟨rdT, drT⟩
    ·rw [if_neg c3] at H
     exact absurd H (by simp)
   ·rw [if_neg c2] at H
    have c2b0 : decide (x3_1 < (a0.size : Int)) = false := decide_eq_false c2
    clear c2
    obtain rfl := Option.some.inj H
    go_wp2
    go_ret
    exact ⟨rdT, drT⟩

/-! ### spec_IsForm: function 86 -/
def spec_IsForm.f (k : Nat) (a0 : ByteArray) : Option (Bool) := (spec_l2Sounds.f k a0).bind fun t116 => (if t116 = true then (some (decide ((a0.size : Int) ≤ 8))) else (some false))
theorem spec_IsForm.mono : ∀ a0 k, LeO (spec_IsForm.f k a0) (spec_IsForm.f (k + 1) a0) := by
 intro a0 k
 unfold spec_IsForm.f
 with_reducible repeat' first | exact spec_l2Sounds.mono _ _ | exact LeO.refl _ | exact LeO.none _ | refine LeO.ite ?_ ?_ | refine LeO.bind ?_ (fun _ => ?_)
set_option maxHeartbeats 8000000 in
set_option maxRecDepth 100000 in
theorem spec_IsForm.calls (k : Nat) (a0 : ByteArray) (r : Bool) (w : World) (h : spec_IsForm.f k a0 = some r) :
  Calls Try.prog 86 #[.string a0] w fun e w' => e = .returned (.bool r) ∧ Drawn0 w w' := by
 have H := h; unfold spec_IsForm.f at H; clear h; obtain ⟨t116, A2, H⟩ := be H
 by_cases c3 : t116 = true
 ·subst c3
  rw [if_pos rfl] at H; have H1 := H; clear H; have H := H1; clear H1
  obtain rfl := Option.some.inj H
  go_enter Try.func86, Try.ntmps86
  go_wp2_with (first | ((with_reducible refine gate_callee (f := 129) rfl ?_); refine goesL_ (some 4) rfl rfl Try.func129 (by kernel_rfl) rfl #[.string a0] rfl eqT ?_; (with_reducible refine (spec_l2Sounds.calls k a0 true _ A2.out).mono ?_); rintro e w' ⟨rfl, ⟨nd, rfl⟩⟩; refine ⟨_, rfl, ?_⟩))
  go_ret
  exact ⟨rdT, drT⟩
 ·replace c3 := Bool.eq_false_iff.mpr c3
  subst c3; rw [if_neg nF] at H; have H1 := H; clear H; have H := H1; clear H1
  obtain rfl := Option.some.inj H
  go_enter Try.func86, Try.ntmps86
  go_wp2_with (first | ((with_reducible refine gate_callee (f := 129) rfl ?_); refine goesL_ (some 4) rfl rfl Try.func129 (by kernel_rfl) rfl #[.string a0] rfl eqT ?_; (with_reducible refine (spec_l2Sounds.calls k a0 false _ A2.out).mono ?_); rintro e w' ⟨rfl, ⟨nd, rfl⟩⟩; refine ⟨_, rfl, ?_⟩))
  go_ret
  exact ⟨rdT, drT⟩

/-! ### spec_l6In: function 87 -/
def spec_l6In.l0 : Nat → List Int → Int → List (S87) → Option (ByteArray)
 | 0, _, _, _ => none
 | k + 1, x3, x4, x118000 => if x4 < (x118000.length : Int) then (if 0 ≤ x4 then (if ((rd_T87 x118000 x4).f0) = 0 then (spec_l6In.l0 k x3 (wrap64 (x4 + 1)) x118000) else (if x3.length < 140737488355328 then (spec_l6In.l0 k (x3 ++ [(rd_T87 x118000 x4).f0]) (wrap64 (x4 + 1)) x118000) else (none))) else (none)) else (some (strOfNums x3))
def spec_l6In.f (k : Nat) (l0_0 : List (S87)) : Option (ByteArray) := spec_l6In.l0 k (([] : List Int)) 0 l0_0
theorem spec_l6In.mono_l : ∀ k, (∀ y0 y1 y2, LeO (spec_l6In.l0 k y0 y1 y2) (spec_l6In.l0 (k + 1) y0 y1 y2))
 | 0 => fun _ _ _ r h => by simp [spec_l6In.l0] at h
 | k + 1 => by
  have ih0 := spec_l6In.mono_l k
  ·intro y0 y1 y2
   unfold spec_l6In.l0
   with_reducible repeat' first | exact ih0 _ _ _ | exact LeO.refl _ | exact LeO.none _ | refine LeO.ite ?_ ?_ | refine LeO.bind ?_ (fun _ => ?_)
theorem spec_l6In.mono : ∀ a0 k, LeO (spec_l6In.f k a0) (spec_l6In.f (k + 1) a0) := by
 intro a0 k
 have ih0 := spec_l6In.mono_l k
 unfold spec_l6In.f
 with_reducible repeat' first | exact ih0 _ _ _ | exact LeO.refl _ | exact LeO.none _ | refine LeO.ite ?_ ?_ | refine LeO.bind ?_ (fun _ => ?_)
set_option maxHeartbeats 8000000 in
set_option maxRecDepth 100000 in
theorem spec_l6In.calls (k : Nat) (A0_0 : Option Addr) (c0_0 : Nat) (l0_0 : List (S87)) (r : ByteArray) (w : World) (hr0_0 : Kd.C k87 w A0_0 l0_0.length l0_0) (hc0_0 : l0_0.length ≤ c0_0) (h : spec_l6In.f k l0_0 = some r) :
  Calls Try.prog 87 #[.agg #[.slice A0_0 l0_0.length c0_0]] w fun e w' => e = .returned (.string r) ∧ Below w.heap.size w w' := by
 have hu26 := Try.underlying26; have HR0_0 := Aside0.mk hr0_0; have HC0_0 := Aside0.mk hc0_0; clear hr0_0 hc0_0; have HB := asT (Below.refl w.heap.size w); have H := h; unfold spec_l6In.f at H; clear h; obtain ⟨y118, hy118⟩ : ∃ y_ : List Int, y_ = (([] : List Int)) := ⟨_, rfl⟩
 replace H : (spec_l6In.l0 k y118 0 l0_0) = some r := by first | (rw [hy118]; with_reducible exact H) | (have H2_ := (Option.bind_some _ _).symm.trans H; rw [hy118]; with_reducible exact H2_) | (have H2_ := (Option.bind_some _ _).symm.trans H; with_reducible exact H2_) | with_reducible exact H | (rw [hy118]; exact H) | exact H
 have Ny118 := Aside0.mk hy118; clear hy118; have H' := Aside0.mk H; clear H
 go_enter Try.func87, Try.ntmps87
 go_wp2_with (first | ((with_reducible refine gate_dst (N := 1) rfl ?_); refine boxT (N := 1) (cs := #[.slice A0_0 l0_0.length c0_0]) (t := 26) ?_; intro gb117 hg w2 hbox hb; have BK117 := asT hbox; have GW117 := asT (geT hg HB.out); have GE117 := GW117; replace HB := hS HB hb; clear hb hbox hg) | ((with_reducible refine gate_dst (N := 5) rfl ?_); refine Kd.R_lit (Kd.int .u8) _ 5 ?hg (N := 5) ?hd (xs := ([] : List Int)) (inner := []) (ok := fun _ => True) (okp := fun _ => True) ?hr ?hp (fun _ hk => hk) trivial (Below.refl _ _) (Nat.le_refl _) (by simp) ?_; (case hd => rfl); (case hg => rfl); (case hr => first | (go_simp; done) | (go_simp; rfl)); (case hp => exact (Reps.none _ _)); intro v119 w3 ho4 hb hg_ hnew_; clear hg_ hnew_; (first | rw [← Ny118.out] at ho4 | (simp only [Int.reduceToNat] at ho4; rw [← Ny118.out] at ho4)); have HO120 := asT (Kd.R_lower ho4 (below_size (hbT HB.out))); replace BK117 := bS BK117 hb; replace HB := hS HB hb; clear hb ho4))
 go_loopg [3, 4] k (fun kq v3 v4 w' => ∃ (x3_1 : List Int) (x4_1 : Int), v4 = .int .i64 x4_1 ∧ Aside0 (spec_l6In.l0 kq x3_1 x4_1 l0_0 = some r) ∧ Aside0 (kq ≤ k) ∧ Aside0 (Kd.R (Kd.int .u8) 5 w' w.heap.size (fun _ => True) v3 x3_1) ∧ Aside0 (w'.heap[gb117]? = some (.cells #[(.slice A0_0 l0_0.length c0_0)] 26 (0, 0))) ∧ Aside0 (Below w.heap.size w w'))
 case atStart => exact ⟨(y118), (0), rdT, H', ⟨Nat.le_refl _⟩, ⟨by (with_reducible repeat (first | apply Kd.R_alloc | apply Kd.R_drewN | apply Kd.R_drew)); exact HO120.out⟩, ⟨by (with_reducible repeat (first | refine blk_drewN ?_ _ | refine blk_drew ?_ | refine blk_alloc ?_ _)); exact BK117.out⟩, ⟨hbT HB.out⟩⟩
 case round =>
  clear H'; (try clear p2); obtain ⟨x3_1, x4_1, rfl, HA, HK1, HO_3, BK117, HB⟩ := hrel
  cases gk with
  | zero => exact absurd HA.out (by simp [spec_l6In.l0])
  | succ k1 =>
   have H := HA.out; clear HA
   simp only [spec_l6In.l0] at H
   by_cases c5 : x4_1 < (l0_0.length : Int)
   ·rw [if_pos c5] at H
    have c5b0 : decide (x4_1 < (l0_0.length : Int)) = true := decide_eq_true c5
    clear c5
    by_cases c6 : 0 ≤ x4_1
    ·rw [if_pos c6] at H
     have c6b0 : decide (0 ≤ x4_1) = true := decide_eq_true c6
     clear c6
     by_cases c7 : ((rd_T87 l0_0 x4_1).f0) = 0
     ·rw [if_pos c7] at H
      have c7b0 : (((rd_T87 l0_0 x4_1).f0) == 0) = true := beq_iff_eq.mpr c7
      have c7b1 : (((rd_T87 l0_0 x4_1).f0) != 0) = false := bne_eq_false_iff_eq.mpr c7
      clear c7; have H' := Aside0.mk H; clear H
      have hcz8_0 := bc0 BK117.out
      have hfz8_0 := blk_frozen BK117.out 0
      have p121 : 0 ≤ (x4_1 : Int) := of_decide_eq_true asmT
      have q121 : x4_1 < (l0_0.length : Int) := of_decide_eq_true asmT
      obtain ⟨ad121, e121, hx121_0, hx121_1⟩ := at_T87 HR0_0.out x4_1 p121 q121
      cases e121
      replace hx121_0 := hbc HB.out hx121_0; replace hx121_1 := hbc HB.out hx121_1; replace p121 := eq_true p121; replace q121 := eq_true q121
      go_wp2
      go_roundg k1
      case measure => have := HK1.out; omega
      case rel => exact ⟨(x3_1), (wrap64 (x4_1 + 1)), rdT, H', ⟨by have := HK1.out; omega⟩, ⟨by (with_reducible repeat (first | apply Kd.R_alloc | apply Kd.R_drewN | apply Kd.R_drew)); exact HO_3.out⟩, ⟨by (with_reducible repeat (first | refine blk_drewN ?_ _ | refine blk_drew ?_ | refine blk_alloc ?_ _)); exact BK117.out⟩, ⟨hbT HB.out⟩⟩
     ·rw [if_neg c7] at H
      have c7b0 : (((rd_T87 l0_0 x4_1).f0) == 0) = false := beq_eq_false_iff_ne.mpr c7
      have c7b1 : (((rd_T87 l0_0 x4_1).f0) != 0) = true := bne_iff_ne.mpr c7
      by_cases c9 : x3_1.length < 140737488355328
      ·rw [if_pos c9] at H
       have LMc9 := Aside0.mk c9; clear c9; obtain ⟨y123, hy123⟩ : ∃ y_ : List Int, y_ = (x3_1 ++ [(rd_T87 l0_0 x4_1).f0]) := ⟨_, rfl⟩
       replace H : (spec_l6In.l0 k1 y123 (wrap64 (x4_1 + 1)) l0_0) = some r := by first | (rw [hy123]; with_reducible exact H) | (have H2_ := (Option.bind_some _ _).symm.trans H; rw [hy123]; with_reducible exact H2_) | (have H2_ := (Option.bind_some _ _).symm.trans H; with_reducible exact H2_) | with_reducible exact H | (rw [hy123]; exact H) | exact H
       have Ny123 := Aside0.mk hy123; clear hy123; have H' := Aside0.mk H; clear H
       have hcz10_0 := bc0 BK117.out
       have hfz10_0 := blk_frozen BK117.out 0
       have p121 : 0 ≤ (x4_1 : Int) := of_decide_eq_true asmT
       have q121 : x4_1 < (l0_0.length : Int) := of_decide_eq_true asmT
       obtain ⟨ad121, e121, hx121_0, hx121_1⟩ := at_T87 HR0_0.out x4_1 p121 q121
       cases e121
       replace hx121_0 := hbc HB.out hx121_0; replace hx121_1 := hbc HB.out hx121_1; replace p121 := eq_true p121; replace q121 := eq_true q121
       have p122 : 0 ≤ (x4_1 : Int) := of_decide_eq_true asmT
       have q122 : x4_1 < (l0_0.length : Int) := of_decide_eq_true asmT
       obtain ⟨ad122, e122, hx122_0, hx122_1⟩ := at_T87 HR0_0.out x4_1 p122 q122
       obtain rfl : ad121 = ad122 := (by injection e122)
       replace hx122_0 := hbc HB.out hx122_0; replace hx122_1 := hbc HB.out hx122_1; replace p122 := eq_true p122; replace q122 := eq_true q122
       go_wp2_with (first | ((with_reducible refine gate_builtin (b := .append) (xs := #[.tmp 20, .tmp 27]) rfl ?_); at_builtin; refine Kd.R_append (Kd.int .u8) (w0 := w) w.heap.size rfl (.tmp 20) (.tmp 27) 22 5 (.int .u8 0) 1 rfl Try.underlying22 info5 rfl (by decide) (by omega) u3 x3_1 ((rd_T87 l0_0 x4_1).f0) [.int .u8 ((rd_T87 l0_0 x4_1).f0)] (fun _ => True) (fun _ => False) rfl rfl ?aP (fun _ hk => hk.elim) ?aF ?aO ?aB ?aS ?aL ?_; (case aP => exact rfl); (case aB => exact (hbT HB.out)); (case aF => exact (fun _ _ => trivial)); (case aO => exact (roT HO_3.out)); (case aS => exact (below_size (hbT HB.out))); (case aL => have := LMc9.out; omega); intro v124 w11 ho hb hg hat; rw [← Ny123.out] at ho; replace BK117 := asT (blk_grown (g := gb117) (o := .cells #[.slice (some ad121) l0_0.length c0_0] 26 (0, 0)) (bkT BK117.out) hg (Kd.R_ne HO_3.out BK117.out (by decide))); replace HB := asT (hb); have HO125 := asT (ho); clear HO_3 ho hb hg hat))
       go_roundg k1
       case measure => have := HK1.out; omega
       case rel => exact ⟨(y123), (wrap64 (x4_1 + 1)), rdT, H', ⟨by have := HK1.out; omega⟩, ⟨by (with_reducible repeat (first | apply Kd.R_alloc | apply Kd.R_drewN | apply Kd.R_drew)); exact HO125.out⟩, ⟨by (with_reducible repeat (first | refine blk_drewN ?_ _ | refine blk_drew ?_ | refine blk_alloc ?_ _)); exact BK117.out⟩, ⟨hbT HB.out⟩⟩
      ·rw [if_neg c9] at H
       exact absurd H (by simp)
    ·rw [if_neg c6] at H
     exact absurd H (by simp)
   ·rw [if_neg c5] at H
    have c5b0 : decide (x4_1 < (l0_0.length : Int)) = false := decide_eq_false c5
    clear c5
    obtain rfl := Option.some.inj H
    have hcz12_0 := bc0 BK117.out
    have hfz12_0 := blk_frozen BK117.out 0; have hcv13 := own_string (P := Try.prog) Try.underlying22 Try.underlying5 Try.underlying9 (Kd.own_of_R HO_3.out)
    go_wp2
    go_ret
    exact ⟨rlT, hbT HB.out⟩

/-! ### spec_l6Out: function 88 -/
def spec_l6Out.l0 : Nat → List Int → Int → List (S87) → Option (ByteArray)
 | 0, _, _, _ => none
 | k + 1, x3, x4, x127000 => if x4 < (x127000.length : Int) then (if 0 ≤ x4 then (if ((rd_T87 x127000 x4).f1) = 0 then (spec_l6Out.l0 k x3 (wrap64 (x4 + 1)) x127000) else (if x3.length < 140737488355328 then (spec_l6Out.l0 k (x3 ++ [(rd_T87 x127000 x4).f1]) (wrap64 (x4 + 1)) x127000) else (none))) else (none)) else (some (strOfNums x3))
def spec_l6Out.f (k : Nat) (l0_0 : List (S87)) : Option (ByteArray) := spec_l6Out.l0 k (([] : List Int)) 0 l0_0
theorem spec_l6Out.mono_l : ∀ k, (∀ y0 y1 y2, LeO (spec_l6Out.l0 k y0 y1 y2) (spec_l6Out.l0 (k + 1) y0 y1 y2))
 | 0 => fun _ _ _ r h => by simp [spec_l6Out.l0] at h
 | k + 1 => by
  have ih0 := spec_l6Out.mono_l k
  ·intro y0 y1 y2
   unfold spec_l6Out.l0
   with_reducible repeat' first | exact ih0 _ _ _ | exact LeO.refl _ | exact LeO.none _ | refine LeO.ite ?_ ?_ | refine LeO.bind ?_ (fun _ => ?_)
theorem spec_l6Out.mono : ∀ a0 k, LeO (spec_l6Out.f k a0) (spec_l6Out.f (k + 1) a0) := by
 intro a0 k
 have ih0 := spec_l6Out.mono_l k
 unfold spec_l6Out.f
 with_reducible repeat' first | exact ih0 _ _ _ | exact LeO.refl _ | exact LeO.none _ | refine LeO.ite ?_ ?_ | refine LeO.bind ?_ (fun _ => ?_)
set_option maxHeartbeats 8000000 in
set_option maxRecDepth 100000 in
theorem spec_l6Out.calls (k : Nat) (A0_0 : Option Addr) (c0_0 : Nat) (l0_0 : List (S87)) (r : ByteArray) (w : World) (hr0_0 : Kd.C k87 w A0_0 l0_0.length l0_0) (hc0_0 : l0_0.length ≤ c0_0) (h : spec_l6Out.f k l0_0 = some r) :
  Calls Try.prog 88 #[.agg #[.slice A0_0 l0_0.length c0_0]] w fun e w' => e = .returned (.string r) ∧ Below w.heap.size w w' := by
 have hu26 := Try.underlying26; have HR0_0 := Aside0.mk hr0_0; have HC0_0 := Aside0.mk hc0_0; clear hr0_0 hc0_0; have HB := asT (Below.refl w.heap.size w); have H := h; unfold spec_l6Out.f at H; clear h; obtain ⟨y127, hy127⟩ : ∃ y_ : List Int, y_ = (([] : List Int)) := ⟨_, rfl⟩
 replace H : (spec_l6Out.l0 k y127 0 l0_0) = some r := by first | (rw [hy127]; with_reducible exact H) | (have H2_ := (Option.bind_some _ _).symm.trans H; rw [hy127]; with_reducible exact H2_) | (have H2_ := (Option.bind_some _ _).symm.trans H; with_reducible exact H2_) | with_reducible exact H | (rw [hy127]; exact H) | exact H
 have Ny127 := Aside0.mk hy127; clear hy127; have H' := Aside0.mk H; clear H
 go_enter Try.func88, Try.ntmps88
 go_wp2_with (first | ((with_reducible refine gate_dst (N := 1) rfl ?_); refine boxT (N := 1) (cs := #[.slice A0_0 l0_0.length c0_0]) (t := 26) ?_; intro gb126 hg w2 hbox hb; have BK126 := asT hbox; have GW126 := asT (geT hg HB.out); have GE126 := GW126; replace HB := hS HB hb; clear hb hbox hg) | ((with_reducible refine gate_dst (N := 5) rfl ?_); refine Kd.R_lit (Kd.int .u8) _ 5 ?hg (N := 5) ?hd (xs := ([] : List Int)) (inner := []) (ok := fun _ => True) (okp := fun _ => True) ?hr ?hp (fun _ hk => hk) trivial (Below.refl _ _) (Nat.le_refl _) (by simp) ?_; (case hd => rfl); (case hg => rfl); (case hr => first | (go_simp; done) | (go_simp; rfl)); (case hp => exact (Reps.none _ _)); intro v128 w3 ho4 hb hg_ hnew_; clear hg_ hnew_; (first | rw [← Ny127.out] at ho4 | (simp only [Int.reduceToNat] at ho4; rw [← Ny127.out] at ho4)); have HO129 := asT (Kd.R_lower ho4 (below_size (hbT HB.out))); replace BK126 := bS BK126 hb; replace HB := hS HB hb; clear hb ho4))
 go_loopg [3, 4] k (fun kq v3 v4 w' => ∃ (x3_1 : List Int) (x4_1 : Int), v4 = .int .i64 x4_1 ∧ Aside0 (spec_l6Out.l0 kq x3_1 x4_1 l0_0 = some r) ∧ Aside0 (kq ≤ k) ∧ Aside0 (Kd.R (Kd.int .u8) 5 w' w.heap.size (fun _ => True) v3 x3_1) ∧ Aside0 (w'.heap[gb126]? = some (.cells #[(.slice A0_0 l0_0.length c0_0)] 26 (0, 0))) ∧ Aside0 (Below w.heap.size w w'))
 case atStart => exact ⟨(y127), (0), rdT, H', ⟨Nat.le_refl _⟩, ⟨by (with_reducible repeat (first | apply Kd.R_alloc | apply Kd.R_drewN | apply Kd.R_drew)); exact HO129.out⟩, ⟨by (with_reducible repeat (first | refine blk_drewN ?_ _ | refine blk_drew ?_ | refine blk_alloc ?_ _)); exact BK126.out⟩, ⟨hbT HB.out⟩⟩
 case round =>
  clear H'; (try clear p2); obtain ⟨x3_1, x4_1, rfl, HA, HK1, HO_3, BK126, HB⟩ := hrel
  cases gk with
  | zero => exact absurd HA.out (by simp [spec_l6Out.l0])
  | succ k1 =>
   have H := HA.out; clear HA
   simp only [spec_l6Out.l0] at H
   by_cases c5 : x4_1 < (l0_0.length : Int)
   ·rw [if_pos c5] at H
    have c5b0 : decide (x4_1 < (l0_0.length : Int)) = true := decide_eq_true c5
    clear c5
    by_cases c6 : 0 ≤ x4_1
    ·rw [if_pos c6] at H
     have c6b0 : decide (0 ≤ x4_1) = true := decide_eq_true c6
     clear c6
     by_cases c7 : ((rd_T87 l0_0 x4_1).f1) = 0
     ·rw [if_pos c7] at H
      have c7b0 : (((rd_T87 l0_0 x4_1).f1) == 0) = true := beq_iff_eq.mpr c7
      have c7b1 : (((rd_T87 l0_0 x4_1).f1) != 0) = false := bne_eq_false_iff_eq.mpr c7
      clear c7; have H' := Aside0.mk H; clear H
      have hcz8_0 := bc0 BK126.out
      have hfz8_0 := blk_frozen BK126.out 0
      have p130 : 0 ≤ (x4_1 : Int) := of_decide_eq_true asmT
      have q130 : x4_1 < (l0_0.length : Int) := of_decide_eq_true asmT
      obtain ⟨ad130, e130, hx130_0, hx130_1⟩ := at_T87 HR0_0.out x4_1 p130 q130
      cases e130
      replace hx130_0 := hbc HB.out hx130_0; replace hx130_1 := hbc HB.out hx130_1; replace p130 := eq_true p130; replace q130 := eq_true q130
      go_wp2
      go_roundg k1
      case measure => have := HK1.out; omega
      case rel => exact ⟨(x3_1), (wrap64 (x4_1 + 1)), rdT, H', ⟨by have := HK1.out; omega⟩, ⟨by (with_reducible repeat (first | apply Kd.R_alloc | apply Kd.R_drewN | apply Kd.R_drew)); exact HO_3.out⟩, ⟨by (with_reducible repeat (first | refine blk_drewN ?_ _ | refine blk_drew ?_ | refine blk_alloc ?_ _)); exact BK126.out⟩, ⟨hbT HB.out⟩⟩
     ·rw [if_neg c7] at H
      have c7b0 : (((rd_T87 l0_0 x4_1).f1) == 0) = false := beq_eq_false_iff_ne.mpr c7
      have c7b1 : (((rd_T87 l0_0 x4_1).f1) != 0) = true := bne_iff_ne.mpr c7
      by_cases c9 : x3_1.length < 140737488355328
      ·rw [if_pos c9] at H
       have LMc9 := Aside0.mk c9; clear c9; obtain ⟨y132, hy132⟩ : ∃ y_ : List Int, y_ = (x3_1 ++ [(rd_T87 l0_0 x4_1).f1]) := ⟨_, rfl⟩
       replace H : (spec_l6Out.l0 k1 y132 (wrap64 (x4_1 + 1)) l0_0) = some r := by first | (rw [hy132]; with_reducible exact H) | (have H2_ := (Option.bind_some _ _).symm.trans H; rw [hy132]; with_reducible exact H2_) | (have H2_ := (Option.bind_some _ _).symm.trans H; with_reducible exact H2_) | with_reducible exact H | (rw [hy132]; exact H) | exact H
       have Ny132 := Aside0.mk hy132; clear hy132; have H' := Aside0.mk H; clear H
       have hcz10_0 := bc0 BK126.out
       have hfz10_0 := blk_frozen BK126.out 0
       have p130 : 0 ≤ (x4_1 : Int) := of_decide_eq_true asmT
       have q130 : x4_1 < (l0_0.length : Int) := of_decide_eq_true asmT
       obtain ⟨ad130, e130, hx130_0, hx130_1⟩ := at_T87 HR0_0.out x4_1 p130 q130
       cases e130
       replace hx130_0 := hbc HB.out hx130_0; replace hx130_1 := hbc HB.out hx130_1; replace p130 := eq_true p130; replace q130 := eq_true q130
       have p131 : 0 ≤ (x4_1 : Int) := of_decide_eq_true asmT
       have q131 : x4_1 < (l0_0.length : Int) := of_decide_eq_true asmT
       obtain ⟨ad131, e131, hx131_0, hx131_1⟩ := at_T87 HR0_0.out x4_1 p131 q131
       obtain rfl : ad130 = ad131 := (by injection e131)
       replace hx131_0 := hbc HB.out hx131_0; replace hx131_1 := hbc HB.out hx131_1; replace p131 := eq_true p131; replace q131 := eq_true q131
       go_wp2_with (first | ((with_reducible refine gate_builtin (b := .append) (xs := #[.tmp 20, .tmp 27]) rfl ?_); at_builtin; refine Kd.R_append (Kd.int .u8) (w0 := w) w.heap.size rfl (.tmp 20) (.tmp 27) 22 5 (.int .u8 0) 1 rfl Try.underlying22 info5 rfl (by decide) (by omega) u3 x3_1 ((rd_T87 l0_0 x4_1).f1) [.int .u8 ((rd_T87 l0_0 x4_1).f1)] (fun _ => True) (fun _ => False) rfl rfl ?aP (fun _ hk => hk.elim) ?aF ?aO ?aB ?aS ?aL ?_; (case aP => exact rfl); (case aB => exact (hbT HB.out)); (case aF => exact (fun _ _ => trivial)); (case aO => exact (roT HO_3.out)); (case aS => exact (below_size (hbT HB.out))); (case aL => have := LMc9.out; omega); intro v133 w11 ho hb hg hat; rw [← Ny132.out] at ho; replace BK126 := asT (blk_grown (g := gb126) (o := .cells #[.slice (some ad130) l0_0.length c0_0] 26 (0, 0)) (bkT BK126.out) hg (Kd.R_ne HO_3.out BK126.out (by decide))); replace HB := asT (hb); have HO134 := asT (ho); clear HO_3 ho hb hg hat))
       go_roundg k1
       case measure => have := HK1.out; omega
       case rel => exact ⟨(y132), (wrap64 (x4_1 + 1)), rdT, H', ⟨by have := HK1.out; omega⟩, ⟨by (with_reducible repeat (first | apply Kd.R_alloc | apply Kd.R_drewN | apply Kd.R_drew)); exact HO134.out⟩, ⟨by (with_reducible repeat (first | refine blk_drewN ?_ _ | refine blk_drew ?_ | refine blk_alloc ?_ _)); exact BK126.out⟩, ⟨hbT HB.out⟩⟩
      ·rw [if_neg c9] at H
       exact absurd H (by simp)
    ·rw [if_neg c6] at H
     exact absurd H (by simp)
   ·rw [if_neg c5] at H
    have c5b0 : decide (x4_1 < (l0_0.length : Int)) = false := decide_eq_false c5
    clear c5
    obtain rfl := Option.some.inj H
    have hcz12_0 := bc0 BK126.out
    have hfz12_0 := blk_frozen BK126.out 0; have hcv13 := own_string (P := Try.prog) Try.underlying22 Try.underlying5 Try.underlying9 (Kd.own_of_R HO_3.out)
    go_wp2
    go_ret
    exact ⟨rlT, hbT HB.out⟩

/-! ### spec_IsCandidate: function 18 -/
mutual
def spec_IsCandidate.l0 : Nat → Int → List (S87) → Option (Bool)
 | 0, _, _ => none
 | k + 1, x3, x136000 => if x3 < (x136000.length : Int) then (if 0 ≤ x3 then ((spec_SwapVoice.f ((rd_T87 x136000 x3).f0)).bind fun bt138 => (if ((rd_T87 x136000 x3).f0) = 0 then (if ((rd_T87 x136000 x3).f1) = 0 then (spec_IsCandidate.j1 k x3 bt138.1 bt138.2 (((rd_T87 x136000 x3).f1) == 0) x136000 ((rd_T87 x136000 x3).f0) ((rd_T87 x136000 x3).f1)) else ((spec_IsSound.f k ((rd_T87 x136000 x3).f1)).bind fun t140 => (if t140 = true then (spec_IsCandidate.j1 k x3 bt138.1 bt138.2 (((rd_T87 x136000 x3).f1) == 0) x136000 ((rd_T87 x136000 x3).f0) ((rd_T87 x136000 x3).f1)) else (spec_IsCandidate.j1 k x3 bt138.1 bt138.2 true x136000 ((rd_T87 x136000 x3).f0) ((rd_T87 x136000 x3).f1))))) else ((spec_IsSound.f k ((rd_T87 x136000 x3).f0)).bind fun t141 => (if t141 = true then (if ((rd_T87 x136000 x3).f1) = 0 then (spec_IsCandidate.j1 k x3 bt138.1 bt138.2 false x136000 ((rd_T87 x136000 x3).f0) ((rd_T87 x136000 x3).f1)) else ((spec_IsSound.f k ((rd_T87 x136000 x3).f1)).bind fun t142 => (if t142 = true then (spec_IsCandidate.j1 k x3 bt138.1 bt138.2 false x136000 ((rd_T87 x136000 x3).f0) ((rd_T87 x136000 x3).f1)) else (spec_IsCandidate.j1 k x3 bt138.1 bt138.2 true x136000 ((rd_T87 x136000 x3).f0) ((rd_T87 x136000 x3).f1))))) else (spec_IsCandidate.j1 k x3 bt138.1 bt138.2 true x136000 ((rd_T87 x136000 x3).f0) ((rd_T87 x136000 x3).f1)))))) else (none)) else (if (x136000.length : Int) ≤ 16 then ((spec_l6In.f k x136000).bind fun t143 => ((spec_IsForm.f k t143).bind fun t144 => (if t144 = true then ((spec_l6Out.f k x136000).bind fun t145 => ((spec_IsForm.f k t145).bind fun t146 => (some t146))) else (some false)))) else (some false))
def spec_IsCandidate.j1 : Nat → Int → Int → Bool → Bool → List (S87) → Int → Int → Option (Bool)
 | 0, _, _, _, _, _, _, _ => none
 | k + 1, x3, x5, x6, x54, x136000, x138000, x138001 => if x54 = true then (some false) else (if x138000 = 0 then (spec_IsCandidate.l0 k (wrap64 (x3 + 1)) x136000) else (if x138001 = 0 then (spec_IsCandidate.l0 k (wrap64 (x3 + 1)) x136000) else (if x138000 = x138001 then (spec_IsCandidate.l0 k (wrap64 (x3 + 1)) x136000) else (if x6 = true then (if x5 = x138001 then (spec_IsCandidate.l0 k (wrap64 (x3 + 1)) x136000) else (some false)) else (some false)))))
end
def spec_IsCandidate.f (k : Nat) (l0_0 : List (S87)) : Option (Bool) := spec_IsCandidate.l0 k 0 l0_0
theorem spec_IsCandidate.mono_l : ∀ k, (∀ y0 y1, LeO (spec_IsCandidate.l0 k y0 y1) (spec_IsCandidate.l0 (k + 1) y0 y1)) ∧ (∀ y0 y1 y2 y3 y4 y5 y6, LeO (spec_IsCandidate.j1 k y0 y1 y2 y3 y4 y5 y6) (spec_IsCandidate.j1 (k + 1) y0 y1 y2 y3 y4 y5 y6))
 | 0 => ⟨fun _ _ r h => by simp [spec_IsCandidate.l0] at h, fun _ _ _ _ _ _ _ r h => by simp [spec_IsCandidate.j1] at h⟩
 | k + 1 => by
  obtain ⟨ih0, ih1⟩ := spec_IsCandidate.mono_l k; refine ⟨?_, ?_⟩
  ·intro y0 y1
   unfold spec_IsCandidate.l0
   with_reducible repeat' first | exact ih0 _ _ | exact ih1 _ _ _ _ _ _ _ | exact spec_IsForm.mono _ _ | exact spec_IsSound.mono _ _ | exact spec_l6In.mono _ _ | exact spec_l6Out.mono _ _ | exact LeO.refl _ | exact LeO.none _ | refine LeO.ite ?_ ?_ | refine LeO.bind ?_ (fun _ => ?_)
  ·intro y0 y1 y2 y3 y4 y5 y6
   unfold spec_IsCandidate.j1
   with_reducible repeat' first | exact ih0 _ _ | exact ih1 _ _ _ _ _ _ _ | exact spec_IsForm.mono _ _ | exact spec_IsSound.mono _ _ | exact spec_l6In.mono _ _ | exact spec_l6Out.mono _ _ | exact LeO.refl _ | exact LeO.none _ | refine LeO.ite ?_ ?_ | refine LeO.bind ?_ (fun _ => ?_)
theorem spec_IsCandidate.mono : ∀ a0 k, LeO (spec_IsCandidate.f k a0) (spec_IsCandidate.f (k + 1) a0) := by
 intro a0 k
 obtain ⟨ih0, ih1⟩ := spec_IsCandidate.mono_l k
 unfold spec_IsCandidate.f
 with_reducible repeat' first | exact ih0 _ _ | exact ih1 _ _ _ _ _ _ _ | exact spec_IsForm.mono _ _ | exact spec_IsSound.mono _ _ | exact spec_l6In.mono _ _ | exact spec_l6Out.mono _ _ | exact LeO.refl _ | exact LeO.none _ | refine LeO.ite ?_ ?_ | refine LeO.bind ?_ (fun _ => ?_)
set_option maxHeartbeats 8000000 in
set_option maxRecDepth 100000 in
theorem spec_IsCandidate.calls (k : Nat) (A0_0 : Option Addr) (c0_0 : Nat) (l0_0 : List (S87)) (r : Bool) (w : World) (hr0_0 : Kd.C k87 w A0_0 l0_0.length l0_0) (hc0_0 : l0_0.length ≤ c0_0) (h : spec_IsCandidate.f k l0_0 = some r) :
  Calls Try.prog 18 #[.agg #[.slice A0_0 l0_0.length c0_0]] w fun e w' => e = .returned (.bool r) ∧ Below w.heap.size w w' := by
 have hu26 := Try.underlying26; have hu87 := Try.underlying87; have HR0_0 := Aside0.mk hr0_0; have HC0_0 := Aside0.mk hc0_0; clear hr0_0 hc0_0; have HB := asT (Below.refl w.heap.size w); have H := h; unfold spec_IsCandidate.f at H; clear h; have H' := Aside0.mk H; clear H
 go_enter Try.func18, Try.ntmps18
 go_wp2_with (first | ((with_reducible refine gate_dst (N := 1) rfl ?_); refine boxT (N := 1) (cs := #[.slice A0_0 l0_0.length c0_0]) (t := 26) ?_; intro gb135 hg w2 hbox hb; have BK135 := asT hbox; have GW135 := asT (geT hg HB.out); have GE135 := GW135; replace HB := hS HB hb; clear hb hbox hg))
 go_loopg [3] k (fun kq v3 w' => ∃ (x3_1 : Int), v3 = .int .i64 x3_1 ∧ Aside0 (spec_IsCandidate.l0 kq x3_1 l0_0 = some r) ∧ Aside0 (kq ≤ k) ∧ Aside0 (w'.heap[gb135]? = some (.cells #[(.slice A0_0 l0_0.length c0_0)] 26 (0, 0))) ∧ Aside0 (Below w.heap.size w w'))
 case atStart => exact ⟨(0), rdT, H', ⟨Nat.le_refl _⟩, ⟨by (with_reducible repeat (first | refine blk_drewN ?_ _ | refine blk_drew ?_ | refine blk_alloc ?_ _)); exact BK135.out⟩, ⟨hbT HB.out⟩⟩
 case round =>
  clear H'; (try clear c1 p2); obtain ⟨x3_1, rfl, HA, HK1, BK135, HB⟩ := hrel
  cases gk with
  | zero => exact absurd HA.out (by simp [spec_IsCandidate.l0])
  | succ k1 =>
   have H := HA.out; clear HA
   simp only [spec_IsCandidate.l0] at H
   by_cases c3 : x3_1 < (l0_0.length : Int)
   ·rw [if_pos c3] at H
    have c3b0 : decide (x3_1 < (l0_0.length : Int)) = true := decide_eq_true c3
    clear c3
    by_cases c4 : 0 ≤ x3_1
    ·rw [if_pos c4] at H
     have c4b0 : decide (0 ≤ x3_1) = true := decide_eq_true c4
     clear c4; replace H := Option.bind_eq_some_iff.mp H; obtain ⟨⟨t138, t139⟩, A50, H⟩ := H; replace H : (if ((rd_T87 l0_0 x3_1).f0) = 0 then (if ((rd_T87 l0_0 x3_1).f1) = 0 then (spec_IsCandidate.j1 k1 x3_1 t138 t139 (((rd_T87 l0_0 x3_1).f1) == 0) l0_0 ((rd_T87 l0_0 x3_1).f0) ((rd_T87 l0_0 x3_1).f1)) else ((spec_IsSound.f k1 ((rd_T87 l0_0 x3_1).f1)).bind fun t140 => (if t140 = true then (spec_IsCandidate.j1 k1 x3_1 t138 t139 (((rd_T87 l0_0 x3_1).f1) == 0) l0_0 ((rd_T87 l0_0 x3_1).f0) ((rd_T87 l0_0 x3_1).f1)) else (spec_IsCandidate.j1 k1 x3_1 t138 t139 true l0_0 ((rd_T87 l0_0 x3_1).f0) ((rd_T87 l0_0 x3_1).f1))))) else ((spec_IsSound.f k1 ((rd_T87 l0_0 x3_1).f0)).bind fun t141 => (if t141 = true then (if ((rd_T87 l0_0 x3_1).f1) = 0 then (spec_IsCandidate.j1 k1 x3_1 t138 t139 false l0_0 ((rd_T87 l0_0 x3_1).f0) ((rd_T87 l0_0 x3_1).f1)) else ((spec_IsSound.f k1 ((rd_T87 l0_0 x3_1).f1)).bind fun t142 => (if t142 = true then (spec_IsCandidate.j1 k1 x3_1 t138 t139 false l0_0 ((rd_T87 l0_0 x3_1).f0) ((rd_T87 l0_0 x3_1).f1)) else (spec_IsCandidate.j1 k1 x3_1 t138 t139 true l0_0 ((rd_T87 l0_0 x3_1).f0) ((rd_T87 l0_0 x3_1).f1))))) else (spec_IsCandidate.j1 k1 x3_1 t138 t139 true l0_0 ((rd_T87 l0_0 x3_1).f0) ((rd_T87 l0_0 x3_1).f1))))) = some r := H; have A5 := Aside0.mk A50; clear A50; have HC6 := Aside0.mk H; clear H
     have hcz7_0 := bc0 BK135.out
     have hfz7_0 := blk_frozen BK135.out 0
     have p136 : 0 ≤ (x3_1 : Int) := of_decide_eq_true asmT
     have q136 : x3_1 < (l0_0.length : Int) := of_decide_eq_true asmT
     obtain ⟨ad136, e136, hx136_0, hx136_1⟩ := at_T87 HR0_0.out x3_1 p136 q136
     cases e136
     replace hx136_0 := hbc HB.out hx136_0; replace hx136_1 := hbc HB.out hx136_1; replace p136 := eq_true p136; replace q136 := eq_true q136
     go_upto_region 6 with (first | ((with_reducible refine gate_dst (N := 4) rfl ?_); refine boxT (N := 4) (cs := #[.int .u8 0, .int .u8 0]) (t := 87) ?_; intro gb137 hg w8 hbox hb; have BK137 := asT (hbox); have GW137 := asT (geT hg HB.out); have GE137 := asT (geT hg HB.out); replace HB := hS HB hb; have NB135_137 := asT ((by rw [hg]; exact Nat.ne_of_lt (blk_lt (g := gb135) (o := .cells #[.slice (some ad136) l0_0.length c0_0] 26 (0, 0)) (bkT BK135.out)) : gb135 ≠ gb137)); have NB137_135 := asT ((by rw [hg]; exact Nat.ne_of_gt (blk_lt (g := gb135) (o := .cells #[.slice (some ad136) l0_0.length c0_0] 26 (0, 0)) (bkT BK135.out)) : gb137 ≠ gb135)); replace BK135 := bS BK135 hb; clear hb hbox hg; have hnb9 := NB137_135.out; have hnc9 := NB135_137.out; obtain ⟨hcz10_0, hcz10_1, hfz10_0, hfz10_1⟩ := bx2 BK137.out) | ((with_reducible refine gate_callee (f := 84) rfl ?_); refine goesL_ (some 22) rfl rfl Try.func84 (by kernel_rfl) rfl #[.int .u8 ((rd_T87 l0_0 x3_1).f0)] rfl eqT ?_; (with_reducible refine (spec_SwapVoice.calls ((rd_T87 l0_0 x3_1).f0) t138 t139 _ A5.out).mono ?_); rintro e w' ⟨rfl, ⟨nd, rfl⟩⟩; refine ⟨_, rfl, ?_⟩))
     (try simp only [Act.put, sA, sZ, sS])
     go_cut [54] (fun v54 wc => ∃ (kq : Nat) (x54_5 : Bool), v54 = .bool x54_5 ∧ Aside0 (spec_IsCandidate.j1 kq x3_1 t138 t139 x54_5 l0_0 ((rd_T87 l0_0 x3_1).f0) ((rd_T87 l0_0 x3_1).f1) = some r) ∧ Aside0 (kq ≤ k1) ∧ Aside0 (wc.heap[gb135]? = some (.cells #[(.slice (some ad136) l0_0.length c0_0)] 26 (0, 0))) ∧ Aside0 (wc.heap[gb137]? = some (.cells #[.int .u8 ((rd_T87 l0_0 x3_1).f0), .int .u8 ((rd_T87 l0_0 x3_1).f1)] 87 (0, 0))) ∧ Aside0 (Below w.heap.size w wc))
     case first =>
      have H := HC6.out; clear HC6
      by_cases c11 : ((rd_T87 l0_0 x3_1).f0) = 0
      ·rw [if_pos c11] at H
       have c11b0 : (((rd_T87 l0_0 x3_1).f0) == 0) = true := beq_iff_eq.mpr c11
       have c11b1 : (((rd_T87 l0_0 x3_1).f0) != 0) = false := bne_eq_false_iff_eq.mpr c11
       clear c11
       (first | rw [c11b0] | (simp only [i64_w, i32_w]; rw [c11b0]) | skip)
       by_cases c12 : ((rd_T87 l0_0 x3_1).f1) = 0
       ·rw [if_pos c12] at H
        have c12b0 : (((rd_T87 l0_0 x3_1).f1) == 0) = true := beq_iff_eq.mpr c12
        have c12b1 : (((rd_T87 l0_0 x3_1).f1) != 0) = false := bne_eq_false_iff_eq.mpr c12
        clear c12; have H' := Aside0.mk H; clear H; have hnb13 := NB137_135.out; have hnc13 := NB135_137.out
        have hcz14_0 := bc0 BK137.out
        have hcz14_1 := bc1 BK137.out
        have hfz14_0 := blk_frozen BK137.out 0; have hfz14_1 := blk_frozen BK137.out 1
        go_wp2
        go_meet
        case rel => exact ⟨_, ((((rd_T87 l0_0 x3_1).f1) == 0)), rdT, H', ⟨by have := HK1.out; first | omega | exact Nat.le_refl _⟩, ⟨by (with_reducible repeat (first | refine blk_drewN ?_ _ | refine blk_drew ?_ | refine blk_alloc ?_ _)); refine blk_far ?_ NB135_137.out _; (with_reducible repeat (first | refine blk_drewN ?_ _ | refine blk_drew ?_ | refine blk_alloc ?_ _)); refine blk_far ?_ NB135_137.out _; (with_reducible repeat (first | refine blk_drewN ?_ _ | refine blk_drew ?_ | refine blk_alloc ?_ _)); exact BK135.out⟩, ⟨by (with_reducible repeat (first | refine blk_drewN ?_ _ | refine blk_drew ?_ | refine blk_alloc ?_ _)); refine blk_put (cs := #[.int .u8 ((rd_T87 l0_0 x3_1).f0), .int .u8 0]) ?_ 1 _ rfl; (with_reducible repeat (first | refine blk_drewN ?_ _ | refine blk_drew ?_ | refine blk_alloc ?_ _)); refine blk_put (cs := #[.int .u8 0, .int .u8 0]) ?_ 0 _ rfl; (with_reducible repeat (first | refine blk_drewN ?_ _ | refine blk_drew ?_ | refine blk_alloc ?_ _)); exact BK137.out⟩, ⟨hbT HB.out⟩⟩
       ·rw [if_neg c12] at H
        have c12b0 : (((rd_T87 l0_0 x3_1).f1) == 0) = false := beq_eq_false_iff_ne.mpr c12
        have c12b1 : (((rd_T87 l0_0 x3_1).f1) != 0) = true := bne_iff_ne.mpr c12
        obtain ⟨t140, A15, H⟩ := be H
        by_cases c16 : t140 = true
        ·subst c16
         rw [if_pos rfl] at H; have H' := Aside0.mk H; clear H; have hnb17 := NB137_135.out; have hnc17 := NB135_137.out
         have hcz18_0 := bc0 BK137.out
         have hcz18_1 := bc1 BK137.out
         have hfz18_0 := blk_frozen BK137.out 0; have hfz18_1 := blk_frozen BK137.out 1
         go_wp2_with (first | (go_at_call 85; (with_reducible refine (spec_IsSound.calls k1 ((rd_T87 l0_0 x3_1).f1) true _ A15.out).mono ?_); rintro e w' ⟨rfl, ⟨nd, rfl⟩⟩))
         go_meet
         case rel => exact ⟨_, ((((rd_T87 l0_0 x3_1).f1) == 0)), rdT, H', ⟨by have := HK1.out; first | omega | exact Nat.le_refl _⟩, ⟨by (with_reducible repeat (first | refine blk_drewN ?_ _ | refine blk_drew ?_ | refine blk_alloc ?_ _)); refine blk_far ?_ NB135_137.out _; (with_reducible repeat (first | refine blk_drewN ?_ _ | refine blk_drew ?_ | refine blk_alloc ?_ _)); refine blk_far ?_ NB135_137.out _; (with_reducible repeat (first | refine blk_drewN ?_ _ | refine blk_drew ?_ | refine blk_alloc ?_ _)); exact BK135.out⟩, ⟨by (with_reducible repeat (first | refine blk_drewN ?_ _ | refine blk_drew ?_ | refine blk_alloc ?_ _)); refine blk_put (cs := #[.int .u8 ((rd_T87 l0_0 x3_1).f0), .int .u8 0]) ?_ 1 _ rfl; (with_reducible repeat (first | refine blk_drewN ?_ _ | refine blk_drew ?_ | refine blk_alloc ?_ _)); refine blk_put (cs := #[.int .u8 0, .int .u8 0]) ?_ 0 _ rfl; (with_reducible repeat (first | refine blk_drewN ?_ _ | refine blk_drew ?_ | refine blk_alloc ?_ _)); exact BK137.out⟩, ⟨hbT HB.out⟩⟩
        ·replace c16 := Bool.eq_false_iff.mpr c16
         subst c16; rw [if_neg nF] at H; have H' := Aside0.mk H; clear H; have hnb19 := NB137_135.out; have hnc19 := NB135_137.out
         have hcz20_0 := bc0 BK137.out
         have hcz20_1 := bc1 BK137.out
         have hfz20_0 := blk_frozen BK137.out 0; have hfz20_1 := blk_frozen BK137.out 1
         go_wp2_with (first | (go_at_call 85; (with_reducible refine (spec_IsSound.calls k1 ((rd_T87 l0_0 x3_1).f1) false _ A15.out).mono ?_); rintro e w' ⟨rfl, ⟨nd, rfl⟩⟩))
         go_meet
         case rel => exact ⟨_, (true), rdT, H', ⟨by have := HK1.out; first | omega | exact Nat.le_refl _⟩, ⟨by (with_reducible repeat (first | refine blk_drewN ?_ _ | refine blk_drew ?_ | refine blk_alloc ?_ _)); refine blk_far ?_ NB135_137.out _; (with_reducible repeat (first | refine blk_drewN ?_ _ | refine blk_drew ?_ | refine blk_alloc ?_ _)); refine blk_far ?_ NB135_137.out _; (with_reducible repeat (first | refine blk_drewN ?_ _ | refine blk_drew ?_ | refine blk_alloc ?_ _)); exact BK135.out⟩, ⟨by (with_reducible repeat (first | refine blk_drewN ?_ _ | refine blk_drew ?_ | refine blk_alloc ?_ _)); refine blk_put (cs := #[.int .u8 ((rd_T87 l0_0 x3_1).f0), .int .u8 0]) ?_ 1 _ rfl; (with_reducible repeat (first | refine blk_drewN ?_ _ | refine blk_drew ?_ | refine blk_alloc ?_ _)); refine blk_put (cs := #[.int .u8 0, .int .u8 0]) ?_ 0 _ rfl; (with_reducible repeat (first | refine blk_drewN ?_ _ | refine blk_drew ?_ | refine blk_alloc ?_ _)); exact BK137.out⟩, ⟨hbT HB.out⟩⟩
      ·rw [if_neg c11] at H
       have c11b0 : (((rd_T87 l0_0 x3_1).f0) == 0) = false := beq_eq_false_iff_ne.mpr c11
       have c11b1 : (((rd_T87 l0_0 x3_1).f0) != 0) = true := bne_iff_ne.mpr c11
       (first | rw [c11b0] | (simp only [i64_w, i32_w]; rw [c11b0]) | skip)
       obtain ⟨t141, A21, H⟩ := be H
       by_cases c22 : t141 = true
       ·subst c22
        rw [if_pos rfl] at H; have H1 := H; clear H; have H := H1; clear H1
        by_cases c23 : ((rd_T87 l0_0 x3_1).f1) = 0
        ·rw [if_pos c23] at H
         have c23b0 : (((rd_T87 l0_0 x3_1).f1) == 0) = true := beq_iff_eq.mpr c23
         have c23b1 : (((rd_T87 l0_0 x3_1).f1) != 0) = false := bne_eq_false_iff_eq.mpr c23
         clear c23; have H' := Aside0.mk H; clear H; have hnb24 := NB137_135.out; have hnc24 := NB135_137.out
         have hcz25_0 := bc0 BK137.out
         have hcz25_1 := bc1 BK137.out
         have hfz25_0 := blk_frozen BK137.out 0; have hfz25_1 := blk_frozen BK137.out 1
         go_wp2_with (first | (go_at_call 85; (with_reducible refine (spec_IsSound.calls k1 ((rd_T87 l0_0 x3_1).f0) true _ A21.out).mono ?_); rintro e w' ⟨rfl, ⟨nd, rfl⟩⟩))
         go_meet
         case rel => exact ⟨_, (false), rdT, H', ⟨by have := HK1.out; first | omega | exact Nat.le_refl _⟩, ⟨by (with_reducible repeat (first | refine blk_drewN ?_ _ | refine blk_drew ?_ | refine blk_alloc ?_ _)); refine blk_far ?_ NB135_137.out _; (with_reducible repeat (first | refine blk_drewN ?_ _ | refine blk_drew ?_ | refine blk_alloc ?_ _)); refine blk_far ?_ NB135_137.out _; (with_reducible repeat (first | refine blk_drewN ?_ _ | refine blk_drew ?_ | refine blk_alloc ?_ _)); exact BK135.out⟩, ⟨by (with_reducible repeat (first | refine blk_drewN ?_ _ | refine blk_drew ?_ | refine blk_alloc ?_ _)); refine blk_put (cs := #[.int .u8 ((rd_T87 l0_0 x3_1).f0), .int .u8 0]) ?_ 1 _ rfl; (with_reducible repeat (first | refine blk_drewN ?_ _ | refine blk_drew ?_ | refine blk_alloc ?_ _)); refine blk_put (cs := #[.int .u8 0, .int .u8 0]) ?_ 0 _ rfl; (with_reducible repeat (first | refine blk_drewN ?_ _ | refine blk_drew ?_ | refine blk_alloc ?_ _)); exact BK137.out⟩, ⟨hbT HB.out⟩⟩
        ·rw [if_neg c23] at H
         have c23b0 : (((rd_T87 l0_0 x3_1).f1) == 0) = false := beq_eq_false_iff_ne.mpr c23
         have c23b1 : (((rd_T87 l0_0 x3_1).f1) != 0) = true := bne_iff_ne.mpr c23
         obtain ⟨t142, A26, H⟩ := be H
         by_cases c27 : t142 = true
         ·subst c27
          rw [if_pos rfl] at H; have H' := Aside0.mk H; clear H; have hnb28 := NB137_135.out; have hnc28 := NB135_137.out
          have hcz29_0 := bc0 BK137.out
          have hcz29_1 := bc1 BK137.out
          have hfz29_0 := blk_frozen BK137.out 0; have hfz29_1 := blk_frozen BK137.out 1
          go_wp2_with (first | (go_at_call 85; (with_reducible refine (spec_IsSound.calls k1 ((rd_T87 l0_0 x3_1).f0) true _ A21.out).mono ?_); rintro e w' ⟨rfl, ⟨nd, rfl⟩⟩) | (go_at_call 85; (with_reducible refine (spec_IsSound.calls k1 ((rd_T87 l0_0 x3_1).f1) true _ A26.out).mono ?_); rintro e w' ⟨rfl, ⟨nd, rfl⟩⟩))
          go_meet
          case rel => exact ⟨_, (false), rdT, H', ⟨by have := HK1.out; first | omega | exact Nat.le_refl _⟩, ⟨by (with_reducible repeat (first | refine blk_drewN ?_ _ | refine blk_drew ?_ | refine blk_alloc ?_ _)); refine blk_far ?_ NB135_137.out _; (with_reducible repeat (first | refine blk_drewN ?_ _ | refine blk_drew ?_ | refine blk_alloc ?_ _)); refine blk_far ?_ NB135_137.out _; (with_reducible repeat (first | refine blk_drewN ?_ _ | refine blk_drew ?_ | refine blk_alloc ?_ _)); exact BK135.out⟩, ⟨by (with_reducible repeat (first | refine blk_drewN ?_ _ | refine blk_drew ?_ | refine blk_alloc ?_ _)); refine blk_put (cs := #[.int .u8 ((rd_T87 l0_0 x3_1).f0), .int .u8 0]) ?_ 1 _ rfl; (with_reducible repeat (first | refine blk_drewN ?_ _ | refine blk_drew ?_ | refine blk_alloc ?_ _)); refine blk_put (cs := #[.int .u8 0, .int .u8 0]) ?_ 0 _ rfl; (with_reducible repeat (first | refine blk_drewN ?_ _ | refine blk_drew ?_ | refine blk_alloc ?_ _)); exact BK137.out⟩, ⟨hbT HB.out⟩⟩
         ·replace c27 := Bool.eq_false_iff.mpr c27
          subst c27; rw [if_neg nF] at H; have H' := Aside0.mk H; clear H; have hnb30 := NB137_135.out; have hnc30 := NB135_137.out
          have hcz31_0 := bc0 BK137.out
          have hcz31_1 := bc1 BK137.out
          have hfz31_0 := blk_frozen BK137.out 0; have hfz31_1 := blk_frozen BK137.out 1
          go_wp2_with (first | (go_at_call 85; (with_reducible refine (spec_IsSound.calls k1 ((rd_T87 l0_0 x3_1).f0) true _ A21.out).mono ?_); rintro e w' ⟨rfl, ⟨nd, rfl⟩⟩) | (go_at_call 85; (with_reducible refine (spec_IsSound.calls k1 ((rd_T87 l0_0 x3_1).f1) false _ A26.out).mono ?_); rintro e w' ⟨rfl, ⟨nd, rfl⟩⟩))
          go_meet
          case rel => exact ⟨_, (true), rdT, H', ⟨by have := HK1.out; first | omega | exact Nat.le_refl _⟩, ⟨by (with_reducible repeat (first | refine blk_drewN ?_ _ | refine blk_drew ?_ | refine blk_alloc ?_ _)); refine blk_far ?_ NB135_137.out _; (with_reducible repeat (first | refine blk_drewN ?_ _ | refine blk_drew ?_ | refine blk_alloc ?_ _)); refine blk_far ?_ NB135_137.out _; (with_reducible repeat (first | refine blk_drewN ?_ _ | refine blk_drew ?_ | refine blk_alloc ?_ _)); exact BK135.out⟩, ⟨by (with_reducible repeat (first | refine blk_drewN ?_ _ | refine blk_drew ?_ | refine blk_alloc ?_ _)); refine blk_put (cs := #[.int .u8 ((rd_T87 l0_0 x3_1).f0), .int .u8 0]) ?_ 1 _ rfl; (with_reducible repeat (first | refine blk_drewN ?_ _ | refine blk_drew ?_ | refine blk_alloc ?_ _)); refine blk_put (cs := #[.int .u8 0, .int .u8 0]) ?_ 0 _ rfl; (with_reducible repeat (first | refine blk_drewN ?_ _ | refine blk_drew ?_ | refine blk_alloc ?_ _)); exact BK137.out⟩, ⟨hbT HB.out⟩⟩
       ·replace c22 := Bool.eq_false_iff.mpr c22
        subst c22; rw [if_neg nF] at H; have H' := Aside0.mk H; clear H; have hnb32 := NB137_135.out; have hnc32 := NB135_137.out
        have hcz33_0 := bc0 BK137.out
        have hcz33_1 := bc1 BK137.out
        have hfz33_0 := blk_frozen BK137.out 0; have hfz33_1 := blk_frozen BK137.out 1
        go_wp2_with (first | (go_at_call 85; (with_reducible refine (spec_IsSound.calls k1 ((rd_T87 l0_0 x3_1).f0) false _ A21.out).mono ?_); rintro e w' ⟨rfl, ⟨nd, rfl⟩⟩))
        go_meet
        case rel => exact ⟨_, (true), rdT, H', ⟨by have := HK1.out; first | omega | exact Nat.le_refl _⟩, ⟨by (with_reducible repeat (first | refine blk_drewN ?_ _ | refine blk_drew ?_ | refine blk_alloc ?_ _)); refine blk_far ?_ NB135_137.out _; (with_reducible repeat (first | refine blk_drewN ?_ _ | refine blk_drew ?_ | refine blk_alloc ?_ _)); refine blk_far ?_ NB135_137.out _; (with_reducible repeat (first | refine blk_drewN ?_ _ | refine blk_drew ?_ | refine blk_alloc ?_ _)); exact BK135.out⟩, ⟨by (with_reducible repeat (first | refine blk_drewN ?_ _ | refine blk_drew ?_ | refine blk_alloc ?_ _)); refine blk_put (cs := #[.int .u8 ((rd_T87 l0_0 x3_1).f0), .int .u8 0]) ?_ 1 _ rfl; (with_reducible repeat (first | refine blk_drewN ?_ _ | refine blk_drew ?_ | refine blk_alloc ?_ _)); refine blk_put (cs := #[.int .u8 0, .int .u8 0]) ?_ 0 _ rfl; (with_reducible repeat (first | refine blk_drewN ?_ _ | refine blk_drew ?_ | refine blk_alloc ?_ _)); exact BK137.out⟩, ⟨hbT HB.out⟩⟩
     case rest =>
      clear HC6; (try clear c1 p1 q1 hx1 c2 p2 c3 c3b0 c4 c4b0 c8 c9 c11 c11b0 c11b1 c12 c12b0 c12b1 c13 p13 q13 hx13 c16 c17 c18 c19 c22 c23 c23b0 c23b1 c24 c27 c28 c30 c32 hcz10_0 hcz10_1 hcz14_0 hcz14_1 hcz18_0 hcz18_1 hcz20_0 hcz20_1 hcz25_0 hcz25_1 hcz29_0 hcz29_1 hcz31_0 hcz31_1 hcz33_0 hcz33_1 hcz7_0 hfz10_0 hfz10_1 hfz14_0 hfz14_1 hfz18_0 hfz18_1 hfz20_0 hfz20_1 hfz25_0 hfz25_1 hfz29_0 hfz29_1 hfz31_0 hfz31_1 hfz33_0 hfz33_1 hfz7_0 hx136_0 hx136_1 p136 p2 q136); obtain ⟨kq, x54_5, rfl, HA, HJ5, BK135, BK137, HB⟩ := hcut
      cases kq with
      | zero => exact absurd HA.out (by simp [spec_IsCandidate.j1])
      | succ kj5 =>
       have H := HA.out; clear HA
       simp only [spec_IsCandidate.j1] at H
       by_cases c34 : x54_5 = true
       ·subst c34
        rw [if_pos rfl] at H; have H1 := H; clear H; have H := H1; clear H1
        obtain rfl := Option.some.inj H
        go_wp2
        go_ret
        exact ⟨rlT, hbT HB.out⟩
       ·replace c34 := Bool.eq_false_iff.mpr c34
        subst c34; rw [if_neg nF] at H; have H1 := H; clear H; have H := H1; clear H1
        by_cases c35 : ((rd_T87 l0_0 x3_1).f0) = 0
        ·rw [if_pos c35] at H
         have c35b0 : (((rd_T87 l0_0 x3_1).f0) == 0) = true := beq_iff_eq.mpr c35
         have c35b1 : (((rd_T87 l0_0 x3_1).f0) != 0) = false := bne_eq_false_iff_eq.mpr c35
         clear c35; have H' := Aside0.mk H; clear H; have hnb36 := NB137_135.out; have hnc36 := NB135_137.out
         have hcz37_0 := bc0 BK137.out
         have hcz37_1 := bc1 BK137.out
         have hfz37_0 := blk_frozen BK137.out 0; have hfz37_1 := blk_frozen BK137.out 1
         go_wp2
         go_roundg kj5
         case measure => have := HK1.out; have := HJ5.out; omega
         case rel => exact ⟨(wrap64 (x3_1 + 1)), rdT, H', ⟨by have := HK1.out; have := HJ5.out; omega⟩, ⟨by (with_reducible repeat (first | refine blk_drewN ?_ _ | refine blk_drew ?_ | refine blk_alloc ?_ _)); exact BK135.out⟩, ⟨hbT HB.out⟩⟩
        ·rw [if_neg c35] at H
         have c35b0 : (((rd_T87 l0_0 x3_1).f0) == 0) = false := beq_eq_false_iff_ne.mpr c35
         have c35b1 : (((rd_T87 l0_0 x3_1).f0) != 0) = true := bne_iff_ne.mpr c35
         by_cases c38 : ((rd_T87 l0_0 x3_1).f1) = 0
         ·rw [if_pos c38] at H
          have c38b0 : (((rd_T87 l0_0 x3_1).f1) == 0) = true := beq_iff_eq.mpr c38
          have c38b1 : (((rd_T87 l0_0 x3_1).f1) != 0) = false := bne_eq_false_iff_eq.mpr c38
          clear c38; have H' := Aside0.mk H; clear H; have hnb39 := NB137_135.out; have hnc39 := NB135_137.out
          have hcz40_0 := bc0 BK137.out
          have hcz40_1 := bc1 BK137.out
          have hfz40_0 := blk_frozen BK137.out 0; have hfz40_1 := blk_frozen BK137.out 1
          go_wp2
          go_roundg kj5
          case measure => have := HK1.out; have := HJ5.out; omega
          case rel => exact ⟨(wrap64 (x3_1 + 1)), rdT, H', ⟨by have := HK1.out; have := HJ5.out; omega⟩, ⟨by (with_reducible repeat (first | refine blk_drewN ?_ _ | refine blk_drew ?_ | refine blk_alloc ?_ _)); exact BK135.out⟩, ⟨hbT HB.out⟩⟩
         ·rw [if_neg c38] at H
          have c38b0 : (((rd_T87 l0_0 x3_1).f1) == 0) = false := beq_eq_false_iff_ne.mpr c38
          have c38b1 : (((rd_T87 l0_0 x3_1).f1) != 0) = true := bne_iff_ne.mpr c38
          by_cases c41 : ((rd_T87 l0_0 x3_1).f0) = ((rd_T87 l0_0 x3_1).f1)
          ·rw [if_pos c41] at H
           have c41b0 : (((rd_T87 l0_0 x3_1).f0) == ((rd_T87 l0_0 x3_1).f1)) = true := beq_iff_eq.mpr c41
           have c41b1 : (((rd_T87 l0_0 x3_1).f0) != ((rd_T87 l0_0 x3_1).f1)) = false := bne_eq_false_iff_eq.mpr c41
           clear c41; have H' := Aside0.mk H; clear H; have hnb42 := NB137_135.out; have hnc42 := NB135_137.out
           have hcz43_0 := bc0 BK137.out
           have hcz43_1 := bc1 BK137.out
           have hfz43_0 := blk_frozen BK137.out 0; have hfz43_1 := blk_frozen BK137.out 1
           go_wp2
           go_roundg kj5
           case measure => have := HK1.out; have := HJ5.out; omega
           case rel => exact ⟨(wrap64 (x3_1 + 1)), rdT, H', ⟨by have := HK1.out; have := HJ5.out; omega⟩, ⟨by (with_reducible repeat (first | refine blk_drewN ?_ _ | refine blk_drew ?_ | refine blk_alloc ?_ _)); exact BK135.out⟩, ⟨hbT HB.out⟩⟩
          ·rw [if_neg c41] at H
           have c41b0 : (((rd_T87 l0_0 x3_1).f0) == ((rd_T87 l0_0 x3_1).f1)) = false := beq_eq_false_iff_ne.mpr c41
           have c41b1 : (((rd_T87 l0_0 x3_1).f0) != ((rd_T87 l0_0 x3_1).f1)) = true := bne_iff_ne.mpr c41
           by_cases c44 : t139 = true
           ·subst c44
            rw [if_pos rfl] at H; have H1 := H; clear H; have H := H1; clear H1
            by_cases c45 : t138 = ((rd_T87 l0_0 x3_1).f1)
            ·rw [if_pos c45] at H
             have c45b0 : (t138 == ((rd_T87 l0_0 x3_1).f1)) = true := beq_iff_eq.mpr c45
             have c45b1 : (t138 != ((rd_T87 l0_0 x3_1).f1)) = false := bne_eq_false_iff_eq.mpr c45
             clear c45; have H' := Aside0.mk H; clear H; have hnb46 := NB137_135.out; have hnc46 := NB135_137.out
             have hcz47_0 := bc0 BK137.out
             have hcz47_1 := bc1 BK137.out
             have hfz47_0 := blk_frozen BK137.out 0; have hfz47_1 := blk_frozen BK137.out 1
             go_wp2
             go_roundg kj5
             case measure => have := HK1.out; have := HJ5.out; omega
             case rel => exact ⟨(wrap64 (x3_1 + 1)), rdT, H', ⟨by have := HK1.out; have := HJ5.out; omega⟩, ⟨by (with_reducible repeat (first | refine blk_drewN ?_ _ | refine blk_drew ?_ | refine blk_alloc ?_ _)); exact BK135.out⟩, ⟨hbT HB.out⟩⟩
            ·rw [if_neg c45] at H
             have c45b0 : (t138 == ((rd_T87 l0_0 x3_1).f1)) = false := beq_eq_false_iff_ne.mpr c45
             have c45b1 : (t138 != ((rd_T87 l0_0 x3_1).f1)) = true := bne_iff_ne.mpr c45
             obtain rfl := Option.some.inj H
             have hnb48 := NB137_135.out; have hnc48 := NB135_137.out
             have hcz49_0 := bc0 BK137.out
             have hcz49_1 := bc1 BK137.out
             have hfz49_0 := blk_frozen BK137.out 0; have hfz49_1 := blk_frozen BK137.out 1
             go_wp2
             go_ret
             exact ⟨rlT, hbT HB.out⟩
           ·replace c44 := Bool.eq_false_iff.mpr c44
            subst c44; rw [if_neg nF] at H; have H1 := H; clear H; have H := H1; clear H1
            obtain rfl := Option.some.inj H
            have hnb50 := NB137_135.out; have hnc50 := NB135_137.out
            have hcz51_0 := bc0 BK137.out
            have hcz51_1 := bc1 BK137.out
            have hfz51_0 := blk_frozen BK137.out 0; have hfz51_1 := blk_frozen BK137.out 1
            go_wp2
            go_ret
            exact ⟨rlT, hbT HB.out⟩
    ·rw [if_neg c4] at H
     exact absurd H (by simp)
   ·rw [if_neg c3] at H
    have c3b0 : decide (x3_1 < (l0_0.length : Int)) = false := decide_eq_false c3
    clear c3
    by_cases c52 : (l0_0.length : Int) ≤ 16
    ·rw [if_pos c52] at H
     have c52b0 : decide ((l0_0.length : Int) ≤ 16) = true := decide_eq_true c52
     have c52b1 : decide (l0_0.length ≤ 16) = true := decide_eq_true (by omega)
     clear c52; obtain ⟨t143, A53, H⟩ := be H; obtain ⟨t144, A54, H⟩ := be H
     by_cases c55 : t144 = true
     ·subst c55
      rw [if_pos rfl] at H; obtain ⟨t145, A56, H⟩ := be H; obtain ⟨t146, A57, H⟩ := be H
      obtain rfl := Option.some.inj H
      have hcz58_0 := bc0 BK135.out
      have hfz58_0 := blk_frozen BK135.out 0
      go_wp2_with (first | (go_at_call 87; (with_reducible refine (spec_l6In.calls k1 _ _ l0_0 t143 _ ?side1 ?side2 A53.out).mono ?_); (case side1 => exact crT HR0_0.out HB.out); (case side2 => exact HC0_0.out); rintro e w59 ⟨rfl, hb⟩; replace BK135 := bS BK135 hb; replace HB := hS HB hb; (try clear hb hb2 hk hi)) | (go_at_call 86; (with_reducible refine (spec_IsForm.calls k1 t143 true _ A54.out).mono ?_); rintro e w' ⟨rfl, ⟨nd, rfl⟩⟩; obtain ⟨hcz60_0, hfz60_0⟩ := bx1 BK135.out) | (go_at_call 88; (with_reducible refine (spec_l6Out.calls k1 _ _ l0_0 t145 _ ?side1 ?side2 A56.out).mono ?_); (case side1 => exact crT HR0_0.out (hbT HB.out)); (case side2 => exact HC0_0.out); rintro e w61 ⟨rfl, hb⟩; replace BK135 := bS BK135 hb; replace HB := hS HB hb; (try clear hb hb2 hk hi)) | (go_at_call 86; (with_reducible refine (spec_IsForm.calls k1 t145 t146 _ A57.out).mono ?_); rintro e w' ⟨rfl, ⟨nd, rfl⟩⟩))
      go_ret
      exact ⟨rlT, hbT HB.out⟩
     ·replace c55 := Bool.eq_false_iff.mpr c55
      subst c55; rw [if_neg nF] at H; have H1 := H; clear H; have H := H1; clear H1
      obtain rfl := Option.some.inj H
      have hcz62_0 := bc0 BK135.out
      have hfz62_0 := blk_frozen BK135.out 0
      go_wp2_with (first | (go_at_call 87; (with_reducible refine (spec_l6In.calls k1 _ _ l0_0 t143 _ ?side1 ?side2 A53.out).mono ?_); (case side1 => exact crT HR0_0.out HB.out); (case side2 => exact HC0_0.out); rintro e w63 ⟨rfl, hb⟩; replace BK135 := bS BK135 hb; replace HB := hS HB hb; (try clear hb hb2 hk hi)) | (go_at_call 86; (with_reducible refine (spec_IsForm.calls k1 t143 false _ A54.out).mono ?_); rintro e w' ⟨rfl, ⟨nd, rfl⟩⟩))
      go_ret
      exact ⟨rlT, hbT HB.out⟩
    ·rw [if_neg c52] at H
     have c52b0 : decide ((l0_0.length : Int) ≤ 16) = false := decide_eq_false c52
     have c52b1 : decide (l0_0.length ≤ 16) = false := decide_eq_false (by omega)
     clear c52
     obtain rfl := Option.some.inj H
     have hcz64_0 := bc0 BK135.out
     have hfz64_0 := blk_frozen BK135.out 0
     go_wp2
     go_ret
     exact ⟨rlT, hbT HB.out⟩

/-! ### spec_InputOf: function 21 -/
def spec_InputOf.f (k : Nat) (l0_0 : List (S87)) : Option (ByteArray) := (spec_IsCandidate.f k l0_0).bind fun t148 => (if t148 = true then ((spec_l6In.f k l0_0).bind fun t149 => (some t149)) else (some (⟨#[]⟩ : ByteArray)))
theorem spec_InputOf.mono : ∀ a0 k, LeO (spec_InputOf.f k a0) (spec_InputOf.f (k + 1) a0) := by
 intro a0 k
 unfold spec_InputOf.f
 with_reducible repeat' first | exact spec_IsCandidate.mono _ _ | exact spec_l6In.mono _ _ | exact LeO.refl _ | exact LeO.none _ | refine LeO.ite ?_ ?_ | refine LeO.bind ?_ (fun _ => ?_)
set_option maxHeartbeats 8000000 in
set_option maxRecDepth 100000 in
theorem spec_InputOf.calls (k : Nat) (A0_0 : Option Addr) (c0_0 : Nat) (l0_0 : List (S87)) (r : ByteArray) (w : World) (hr0_0 : Kd.C k87 w A0_0 l0_0.length l0_0) (hc0_0 : l0_0.length ≤ c0_0) (h : spec_InputOf.f k l0_0 = some r) :
  Calls Try.prog 21 #[.agg #[.slice A0_0 l0_0.length c0_0]] w fun e w' => e = .returned (.string r) ∧ Below w.heap.size w w' := by
 have hu26 := Try.underlying26; have HR0_0 := Aside0.mk hr0_0; have HC0_0 := Aside0.mk hc0_0; clear hr0_0 hc0_0; have HB := asT (Below.refl w.heap.size w); have H := h; unfold spec_InputOf.f at H; clear h; obtain ⟨t148, A2, H⟩ := be H
 by_cases c3 : t148 = true
 ·subst c3
  rw [if_pos rfl] at H; obtain ⟨t149, A4, H⟩ := be H
  obtain rfl := Option.some.inj H
  go_enter Try.func21, Try.ntmps21
  go_wp2_with (first | ((with_reducible refine gate_dst (N := 1) rfl ?_); refine boxT (N := 1) (cs := #[.slice A0_0 l0_0.length c0_0]) (t := 26) ?_; intro gb147 hg w5 hbox hb; have BK147 := asT hbox; have GW147 := asT (geT hg HB.out); have GE147 := GW147; replace HB := hS HB hb; clear hb hbox hg; obtain ⟨hcz6_0, hfz6_0⟩ := bx1 BK147.out) | ((with_reducible refine gate_callee (f := 18) rfl ?_); refine goesL_ (some 4) rfl rfl Try.func18 (by kernel_rfl) rfl #[.agg #[.slice A0_0 l0_0.length c0_0]] rfl eqT ?_; (with_reducible refine (spec_IsCandidate.calls k _ _ l0_0 true _ ?side1 ?side2 A2.out).mono ?_); (case side1 => exact crT HR0_0.out HB.out); (case side2 => exact HC0_0.out); rintro e w7 ⟨rfl, hb⟩; refine ⟨_, rfl, ?_⟩; replace BK147 := bS BK147 hb; replace HB := hS HB hb; (try clear hb hb2 hk hi); obtain ⟨hcz8_0, hfz8_0⟩ := bx1 BK147.out) | ((with_reducible refine gate_callee (f := 87) rfl ?_); refine goesL_ (some 7) rfl rfl Try.func87 (by kernel_rfl) rfl #[.agg #[.slice A0_0 l0_0.length c0_0]] rfl eqT ?_; (with_reducible refine (spec_l6In.calls k _ _ l0_0 t149 _ ?side1 ?side2 A4.out).mono ?_); (case side1 => exact crT HR0_0.out HB.out); (case side2 => exact HC0_0.out); rintro e w9 ⟨rfl, hb⟩; refine ⟨_, rfl, ?_⟩; replace BK147 := bS BK147 hb; replace HB := hS HB hb; (try clear hb hb2 hk hi)))
  go_ret
  exact ⟨rlT, hbT HB.out⟩
 ·replace c3 := Bool.eq_false_iff.mpr c3
  subst c3; rw [if_neg nF] at H; have H1 := H; clear H; have H := H1; clear H1
  obtain rfl := Option.some.inj H
  go_enter Try.func21, Try.ntmps21
  go_wp2_with (first | ((with_reducible refine gate_dst (N := 1) rfl ?_); refine boxT (N := 1) (cs := #[.slice A0_0 l0_0.length c0_0]) (t := 26) ?_; intro gb147 hg w10 hbox hb; have BK147 := asT hbox; have GW147 := asT (geT hg HB.out); have GE147 := GW147; replace HB := hS HB hb; clear hb hbox hg; obtain ⟨hcz11_0, hfz11_0⟩ := bx1 BK147.out) | ((with_reducible refine gate_callee (f := 18) rfl ?_); refine goesL_ (some 4) rfl rfl Try.func18 (by kernel_rfl) rfl #[.agg #[.slice A0_0 l0_0.length c0_0]] rfl eqT ?_; (with_reducible refine (spec_IsCandidate.calls k _ _ l0_0 false _ ?side1 ?side2 A2.out).mono ?_); (case side1 => exact crT HR0_0.out HB.out); (case side2 => exact HC0_0.out); rintro e w12 ⟨rfl, hb⟩; refine ⟨_, rfl, ?_⟩; replace BK147 := bS BK147 hb; replace HB := hS HB hb; (try clear hb hb2 hk hi)))
  go_ret
  exact ⟨rlT, hbT HB.out⟩

end Go.Proofs.Ytmfhaplhgaehhaa.PFnExactIsGenerated
