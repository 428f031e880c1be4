-- Made by gen.py (a program of this session) out of the translation; Lean checks it.
import Derived.Test.YtmfhaplhgaehhaaPFnExactIsGeneratedx0
import Derived.Test.YtmfhaplhgaehhaaPFnExactIsGeneratedx1
namespace Go.Proofs.Ytmfhaplhgaehhaa.PFnExactIsGenerated
open Go.RowKit Go.Proofs.YtmfhaplhgaehhaaB Go.Proofs.YtmfhaplhgaehhaaW.PrintWords Go.Proofs.YtmfhaplhgaehhaaW.PrintLast Go.Proofs.YtmfhaplhgaehhaaW.PrintMore
attribute [local go_sem] max2_int min2_int max_two min_two max_three min_three max_four min_four   -- for this text's walks alone
set_option linter.unusedVariables false
set_option linter.unusedSimpArgs false

attribute [local go_sem high] eqA87
/-! ### impl_within: function 105 -/
def impl_within.f (a0 : Int) (a1 : Int) (a2 : Int) : Option (Bool) := if a1 ≤ a0 then (some (decide (a0 ≤ a2))) else (some false)
set_option maxHeartbeats 8000000 in
set_option maxRecDepth 100000 in
theorem impl_within.calls (a0 : Int) (a1 : Int) (a2 : Int) (r : Bool) (w : World) (h : impl_within.f a0 a1 a2 = some r) :
  Calls Try.prog 105 #[.int .i64 a0, .int .i64 a1, .int .i64 a2] w fun e w' => e = .returned (.bool r) ∧ Drawn0 w w' := by
 have H := h; unfold impl_within.f at H; clear h
 by_cases c4 : a1 ≤ a0
 ·rw [if_pos c4] at H
  have c4b0 : decide (a1 ≤ a0) = true := decide_eq_true c4
  clear c4
  obtain rfl := Option.some.inj H
  go_enter Try.func105, Try.ntmps105
  go_wp2
  go_ret
  exact ⟨rdT, drT⟩
 ·rw [if_neg c4] at H
  have c4b0 : decide (a1 ≤ a0) = false := decide_eq_false c4
  clear c4
  obtain rfl := Option.some.inj H
  go_enter Try.func105, Try.ntmps105
  go_wp2
  go_ret
  exact ⟨rdT, drT⟩

/-! ### strings_IndexByte: function 126 -/
set_option maxRecDepth 100000 in
theorem stringslite_IndexByte.calls (s : ByteArray) (c : Int) (w : World) :
    Calls Try.prog 145 #[.string s, .int .u8 c] w fun e w' => e = .returned (.int .i64 (Lib.indexByte s.data.toList c.toNat.toUInt8)) ∧ w' = w := by
  go_enter Try.func145, Try.ntmps145
  go_wp2
  rw [run_callFunc_extern Try.func148 (by kernel_rfl) (by kernel_rfl) (by kernel_rfl) (e := Extern.BytealgIndexByte.indexByte) (by kernel_rfl), Lib.run_indexByteString]
  simp only [Result.andThen]
  rw [Oper.upon_value]
  go_wp2
  go_ret
  exact ⟨rfl, rfl⟩
def strings_IndexByte.f (a0 : ByteArray) (a1 : Int) : Option (Int) := some (Lib.indexByte a0.data.toList a1.toNat.toUInt8)
set_option maxRecDepth 100000 in
theorem strings_IndexByte.calls (a0 : ByteArray) (a1 : Int) (r : Int) (w : World) (h : strings_IndexByte.f a0 a1 = some r) :
    Calls Try.prog 126 #[.string a0, .int .u8 a1] w fun e w' => e = .returned (.int .i64 r) ∧ Drawn0 w w' := by
  obtain rfl := Option.some.inj h
  go_enter Try.func126, Try.ntmps126
  go_wp2_with (go_at_call 145; refine (stringslite_IndexByte.calls _ _ _).mono ?_; rintro e w' ⟨rfl, rfl⟩)
  go_ret
  exact ⟨rfl, Drawn0.refl _⟩

/-! ### impl_IsSound: function 144 -/
def impl_IsSound.f (a0 : Int) : Option (Bool) := (strings_IndexByte.f (⟨#[112, 116, 98, 100, 110, 97, 105]⟩ : ByteArray) a0).bind fun t101 => (some (decide (t101 ≥ 0)))
set_option maxHeartbeats 8000000 in
set_option maxRecDepth 100000 in
theorem impl_IsSound.calls (a0 : Int) (r : Bool) (w : World) (h : impl_IsSound.f a0 = some r) :
  Calls Try.prog 144 #[.int .u8 a0] w fun e w' => e = .returned (.bool r) ∧ Drawn0 w w' := by
 have H := h; unfold impl_IsSound.f at H; clear h; obtain ⟨t101, A2, H⟩ := be H
 obtain rfl := Option.some.inj H
 go_enter Try.func144, Try.ntmps144
 go_wp2_with (first | ((with_reducible refine gate_callee (f := 126) rfl ?_); refine goesL_ (some 4) rfl rfl Try.func126 (by kernel_rfl) rfl #[.string (⟨#[112, 116, 98, 100, 110, 97, 105]⟩ : ByteArray), .int .u8 a0] rfl eqT ?_; (with_reducible refine (strings_IndexByte.calls (⟨#[112, 116, 98, 100, 110, 97, 105]⟩ : ByteArray) a0 t101 _ A2.out).mono ?_); rintro e w' ⟨rfl, ⟨nd, rfl⟩⟩; refine ⟨_, rfl, ?_⟩))
 go_ret
 exact ⟨rdT, drT⟩

/-! ### impl_areSounds: function 130 -/
def impl_areSounds.l0 : Nat → ByteArray → Int → Int → Option (Bool)
 | 0, _, _, _ => none
 | k + 1, x0, x5, x6 => if x6 < x5 then (if 0 ≤ x6 then (if x6 < (x0.size : Int) then ((impl_IsSound.f (bt x0 x6)).bind fun t102 => (if t102 = true then (impl_areSounds.l0 k x0 x5 (wrap64 (x6 + 1))) else (some false))) else (none)) else (none)) else ((impl_within.f (x0.size : Int) 1 20).bind fun t103 => (some t103))
def impl_areSounds.f (k : Nat) (a0 : ByteArray) : Option (Bool) := impl_areSounds.l0 k a0 (a0.size : Int) 0
theorem impl_areSounds.mono_l : ∀ k, (∀ y0 y1 y2, LeO (impl_areSounds.l0 k y0 y1 y2) (impl_areSounds.l0 (k + 1) y0 y1 y2))
 | 0 => fun _ _ _ r h => by simp [impl_areSounds.l0] at h
 | k + 1 => by
  have ih0 := impl_areSounds.mono_l k
  ·intro y0 y1 y2
   unfold impl_areSounds.l0
   with_reducible repeat' first | exact ih0 _ _ _ | exact LeO.refl _ | exact LeO.none _ | refine LeO.ite ?_ ?_ | refine LeO.bind ?_ (fun _ => ?_)
theorem impl_areSounds.mono : ∀ a0 k, LeO (impl_areSounds.f k a0) (impl_areSounds.f (k + 1) a0) := by
 intro a0 k
 have ih0 := impl_areSounds.mono_l k
 unfold impl_areSounds.f
 with_reducible repeat' first | exact ih0 _ _ _ | exact LeO.refl _ | exact LeO.none _ | refine LeO.ite ?_ ?_ | refine LeO.bind ?_ (fun _ => ?_)
set_option maxHeartbeats 8000000 in
set_option maxRecDepth 100000 in
theorem impl_areSounds.calls (k : Nat) (a0 : ByteArray) (r : Bool) (w : World) (h : impl_areSounds.f k a0 = some r) :
  Calls Try.prog 130 #[.string a0] w fun e w' => e = .returned (.bool r) ∧ Drawn0 w w' := by
 have H := h; unfold impl_areSounds.f at H; clear h; have H' := Aside0.mk H; clear H
 go_enter Try.func130, Try.ntmps130
 go_wp2
 go_loopg [6] k (fun kq v6 w' => ∃ (x6_1 : Int), v6 = .int .i64 x6_1 ∧ Aside0 (impl_areSounds.l0 kq a0 (a0.size : Int) x6_1 = some r) ∧ Aside0 (kq ≤ k) ∧ Drawn0 w w')
 case atStart => exact ⟨(0), rdT, H', ⟨Nat.le_refl _⟩, drT⟩
 case round =>
  clear H'; (try clear c1); obtain ⟨x6_1, rfl, HA, HK1, ⟨m1, rfl⟩⟩ := hrel
  cases gk with
  | zero => exact absurd HA.out (by simp [impl_areSounds.l0])
  | succ k1 =>
   have H := HA.out; clear HA
   simp only [impl_areSounds.l0] at H
   by_cases c2 : x6_1 < (a0.size : Int)
   ·rw [if_pos c2] at H
    have c2b0 : decide (x6_1 < (a0.size : Int)) = true := decide_eq_true c2
    clear c2
    by_cases c3 : 0 ≤ x6_1
    ·rw [if_pos c3] at H
     have c3b0 : decide (0 ≤ x6_1) = true := decide_eq_true c3
     clear c3
     by_cases c4 : x6_1 < (a0.size : Int)
     ·rw [if_pos c4] at H
      have c4b0 : decide (x6_1 < (a0.size : Int)) = true := decide_eq_true c4
      clear c4; obtain ⟨t102, A6, H⟩ := be H
      by_cases c7 : t102 = true
      ·subst c7
       rw [if_pos rfl] at H; have H' := Aside0.mk H; clear H
       have p5 : 0 ≤ (x6_1 : Int) := of_decide_eq_true asmT
       have q5 : x6_1 < (a0.size : Int) := of_decide_eq_true asmT
       have hx5 := bt_at a0 x6_1; replace p5 := eq_true p5; replace q5 := eq_true q5
       go_wp2_with (first | ((with_reducible refine gate_callee (f := 144) rfl ?_); refine goesL_ (some 12) rfl rfl Try.func144 (by kernel_rfl) rfl #[.int .u8 (bt a0 x6_1)] rfl eqT ?_; (with_reducible refine (impl_IsSound.calls (bt a0 x6_1) true _ A6.out).mono ?_); rintro e w' ⟨rfl, ⟨nd, rfl⟩⟩; refine ⟨_, rfl, ?_⟩))
       go_roundg k1
       case measure => have := HK1.out; omega
       case rel => exact ⟨(wrap64 (x6_1 + 1)), rdT, H', ⟨by have := HK1.out; omega⟩, drT⟩
      ·replace c7 := Bool.eq_false_iff.mpr c7
       subst c7; rw [if_neg nF] at H; have H1 := H; clear H; have H := H1; clear H1
       obtain rfl := Option.some.inj H
       have p5 : 0 ≤ (x6_1 : Int) := of_decide_eq_true asmT
       have q5 : x6_1 < (a0.size : Int) := of_decide_eq_true asmT
       have hx5 := bt_at a0 x6_1; replace p5 := eq_true p5; replace q5 := eq_true q5
       go_wp2_with (first | ((with_reducible refine gate_callee (f := 144) rfl ?_); refine goesL_ (some 12) rfl rfl Try.func144 (by kernel_rfl) rfl #[.int .u8 (bt a0 x6_1)] rfl eqT ?_; (with_reducible refine (impl_IsSound.calls (bt a0 x6_1) false _ A6.out).mono ?_); rintro e w' ⟨rfl, ⟨nd, rfl⟩⟩; refine ⟨_, rfl, ?_⟩))
       go_ret
       exact ⟨rdT, drT⟩
     ·rw [if_neg c4] at H
      exact absurd H (by simp)
    ·rw [if_neg c3] at H
     exact absurd H (by simp)
   ·rw [if_neg c2] at H
    have c2b0 : decide (x6_1 < (a0.size : Int)) = false := decide_eq_false c2
    clear c2; obtain ⟨t103, A8, H⟩ := be H
    obtain rfl := Option.some.inj H
    go_wp2_with (first | ((with_reducible refine gate_callee (f := 105) rfl ?_); refine goesL_ (some 17) rfl rfl Try.func105 (by kernel_rfl) rfl #[.int .i64 (a0.size : Int), .int .i64 1, .int .i64 20] rfl eqT ?_; (with_reducible refine (impl_within.calls (a0.size : Int) 1 20 t103 _ A8.out).mono ?_); rintro e w' ⟨rfl, ⟨nd, rfl⟩⟩; refine ⟨_, rfl, ?_⟩))
    go_ret
    exact ⟨rdT, drT⟩

/-! ### impl_IsForm: function 91 -/
def impl_IsForm.f (k : Nat) (a0 : ByteArray) : Option (Bool) := if a0.toList = ([] : List UInt8) then (some true) else (if (a0.size : Int) ≤ 8 then ((impl_areSounds.f k a0).bind fun t104 => (some t104)) else (some false))
theorem impl_IsForm.mono : ∀ a0 k, LeO (impl_IsForm.f k a0) (impl_IsForm.f (k + 1) a0) := by
 intro a0 k
 unfold impl_IsForm.f
 with_reducible repeat' first | exact impl_areSounds.mono _ _ | exact LeO.refl _ | exact LeO.none _ | refine LeO.ite ?_ ?_ | refine LeO.bind ?_ (fun _ => ?_)
set_option maxHeartbeats 8000000 in
set_option maxRecDepth 100000 in
theorem impl_IsForm.calls (k : Nat) (a0 : ByteArray) (r : Bool) (w : World) (h : impl_IsForm.f k a0 = some r) :
  Calls Try.prog 91 #[.string a0] w fun e w' => e = .returned (.bool r) ∧ Drawn0 w w' := by
 have H := h; unfold impl_IsForm.f at H; clear h
 by_cases c2 : a0.toList = ([] : List UInt8)
 ·rw [if_pos c2] at H
  have c2b0 : (a0.toList == ([] : List UInt8)) = true := beq_iff_eq.mpr c2
  have c2b1 : (a0.toList != ([] : List UInt8)) = false := bne_eq_false_iff_eq.mpr c2
  clear c2
  obtain rfl := Option.some.inj H
  go_enter Try.func91, Try.ntmps91
  go_wp2
  go_ret
  exact ⟨rdT, drT⟩
 ·rw [if_neg c2] at H
  have c2b0 : (a0.toList == ([] : List UInt8)) = false := beq_eq_false_iff_ne.mpr c2
  have c2b1 : (a0.toList != ([] : List UInt8)) = true := bne_iff_ne.mpr c2
  by_cases c3 : (a0.size : Int) ≤ 8
  ·rw [if_pos c3] at H
   have c3b0 : decide ((a0.size : Int) ≤ 8) = true := decide_eq_true c3
   have c3b1 : decide (a0.size ≤ 8) = true := decide_eq_true (by omega)
   clear c3; obtain ⟨t104, A4, H⟩ := be H
   obtain rfl := Option.some.inj H
   go_enter Try.func91, Try.ntmps91
   go_wp2_with (first | (go_at_call 130; (with_reducible refine (impl_areSounds.calls k a0 t104 _ A4.out).mono ?_); rintro e w' ⟨rfl, ⟨nd, rfl⟩⟩))
   go_ret
   exact ⟨rdT, drT⟩
  ·rw [if_neg c3] at H
   have c3b0 : decide ((a0.size : Int) ≤ 8) = false := decide_eq_false c3
   have c3b1 : decide (a0.size ≤ 8) = false := decide_eq_false (by omega)
   clear c3
   obtain rfl := Option.some.inj H
   go_enter Try.func91, Try.ntmps91
   go_wp2
   go_ret
   exact ⟨rdT, drT⟩

/-! ### impl_SwapVoice: function 80 -/
def impl_SwapVoice.f (a0 : Int) : Option (Int × Bool) := (strings_IndexByte.f (⟨#[112, 116, 98, 100]⟩ : ByteArray) a0).bind fun t105 => (if t105 < 0 then (some (a0, false)) else (if 0 ≤ t105 then (if t105 < 4 then (some (bt (⟨#[98, 100, 112, 116]⟩ : ByteArray) t105, true)) else (none)) else (none)))
set_option maxHeartbeats 8000000 in
set_option maxRecDepth 100000 in
theorem impl_SwapVoice.calls (a0 : Int) (r1 : Int) (r2 : Bool) (w : World) (h : impl_SwapVoice.f a0 = some (r1, r2)) :
  Calls Try.prog 80 #[.int .u8 a0] w fun e w' => e = .returned (.tuple #[.int .u8 r1, .bool r2]) ∧ Drawn0 w w' := by
 have H := h; unfold impl_SwapVoice.f at H; clear h; obtain ⟨t105, A2, H⟩ := be H
 by_cases c3 : t105 < 0
 ·rw [if_pos c3] at H
  have c3b0 : decide (t105 < 0) = true := decide_eq_true c3
  clear c3
  simp only [Option.some.injEq, Prod.mk.injEq] at H
  obtain ⟨rfl, rfl⟩ := H
  go_enter Try.func80, Try.ntmps80
  go_wp2_with (first | ((with_reducible refine gate_callee (f := 126) rfl ?_); refine goesL_ (some 6) rfl rfl Try.func126 (by kernel_rfl) rfl #[.string (⟨#[112, 116, 98, 100]⟩ : ByteArray), .int .u8 a0] rfl eqT ?_; (with_reducible refine (strings_IndexByte.calls (⟨#[112, 116, 98, 100]⟩ : ByteArray) a0 t105 _ A2.out).mono ?_); rintro e w' ⟨rfl, ⟨nd, rfl⟩⟩; refine ⟨_, rfl, ?_⟩))
  go_ret2
  exact ⟨rdT, drT⟩
 ·rw [if_neg c3] at H
  have c3b0 : decide (t105 < 0) = false := decide_eq_false c3
  clear c3
  by_cases c4 : 0 ≤ t105
  ·rw [if_pos c4] at H
   have c4b0 : decide (0 ≤ t105) = true := decide_eq_true c4
   clear c4
   by_cases c5 : t105 < 4
   ·rw [if_pos c5] at H
    have c5b0 : decide (t105 < 4) = true := decide_eq_true c5
    clear c5
    simp only [Option.some.injEq, Prod.mk.injEq] at H
    obtain ⟨rfl, rfl⟩ := H
    go_enter Try.func80, Try.ntmps80
    go_wp2_with (first | ((with_reducible refine gate_callee (f := 126) rfl ?_); refine goesL_ (some 6) rfl rfl Try.func126 (by kernel_rfl) rfl #[.string (⟨#[112, 116, 98, 100]⟩ : ByteArray), .int .u8 a0] rfl eqT ?_; (with_reducible refine (strings_IndexByte.calls (⟨#[112, 116, 98, 100]⟩ : ByteArray) a0 t105 _ A2.out).mono ?_); rintro e w' ⟨rfl, ⟨nd, rfl⟩⟩; refine ⟨_, rfl, ?_⟩; have p6 : 0 ≤ (t105 : Int) := of_decide_eq_true asmT; have q6 : t105 < (4 : Int) := of_decide_eq_true asmT; have hx6 := bt_at (⟨#[98, 100, 112, 116]⟩ : ByteArray) t105; replace p6 := eq_true p6; replace q6 := eq_true q6))
    go_ret2
    exact ⟨rdT, drT⟩
   ·rw [if_neg c5] at H
    exact absurd H (by simp)
  ·rw [if_neg c4] at H
   exact absurd H (by simp)

/-! ### impl_generate: function 92 -/
theorem genInfoC : (Try.prog.info? 26).map (fun i => (i.zero, i.size, i.bytes)) = some (some (.agg #[(.slice none 0 0)]), 1, 24) := by kernel_rfl
structure GInv (s : ByteArray) (Bl Br Bs Bo : Nat) (w0 w : World) (v : Value) (L : List S87) (u : Value) (O : List S26) : Prop where
  nl : w0.heap.size ≤ Bl
  no : w0.heap.size ≤ Bo
  hl : w.heap[Bl]? = some (.cells #[v] 24 (0, 0))
  hr : w.heap[Br]? = some (.cells #[.func (.func 131) #[] #[.pointer (some ⟨Bl, 0, none⟩), .pointer (some ⟨Br, 0, none⟩), .pointer (some ⟨Bs, 0, none⟩), .pointer (some ⟨Bo, 0, none⟩)]] 124 (0, 0))
  hs : w.heap[Bs]? = some (.cells #[.string s] 9 (0, 0))
  ho : w.heap[Bo]? = some (.cells #[u] 35 (0, 0))
  oL : Kd.R k87 87 w w0.heap.size (fun _ => True) v L
  oO : Kd.S k26 26 w w0.heap.size (fun k => some k ≠ v.ownBlock) u O
  bel : Below w0.heap.size w0 w
section
variable {s : ByteArray} {Bl Br Bs Bo : Nat} {w0 w w1 w2 : World} {v v1 u u1 : Value} {L : List S87} {O : List S26}
theorem GInv.below (I : GInv s Bl Br Bs Bo w0 w v L u O) (hb : Below w.heap.size w w1) : GInv s Bl Br Bs Bo w0 w1 v L u O :=
  ⟨I.nl, I.no, blk_below I.hl hb, blk_below I.hr hb, blk_below I.hs hb, blk_below I.ho hb, Kd.R_below I.oL hb, Kd.S_below I.oO hb, below_step I.bel hb⟩
theorem GInv.push (I : GInv s Bl Br Bs Bo w0 w v L u O) (x : S87) (hv : Kd.R k87 87 w1 w0.heap.size (fun _ => True) v1 (L ++ [x])) (hb : Below w0.heap.size w0 w1) (hg : w.grownBy w1 v.ownBlock) (hat : v1.ownBlock = v.ownBlock ∨ ∃ b, v1.ownBlock = some b ∧ w.heap.size ≤ b) :
    GInv s Bl Br Bs Bo w0 (w1.setCell ⟨Bl, 0, none⟩ v1) v1 (L ++ [x]) u O := by
  have el := blk_grown I.hl hg (Kd.R_ne I.oL I.hl (by decide))
  have er := blk_grown I.hr hg (Kd.R_ne I.oL I.hr (by decide))
  have es := blk_grown I.hs hg (Kd.R_ne I.oL I.hs (by decide))
  have eo := blk_grown I.ho hg (Kd.R_ne I.oL I.ho (by decide))
  refine ⟨I.nl, I.no, blk_set el 0 v1, blk_far er (blk_ne er el (by decide)) _, blk_far es (blk_ne es el (by decide)) _, blk_far eo (blk_ne eo el (by decide)) _, Kd.R_set hv el (by decide) 0 v1, ?_, hb.setCell (p := ⟨Bl, 0, none⟩) I.nl v1⟩
  exact Kd.S_mono (Kd.S_set (Kd.S_after (ok := fun _ => True) (Kd.S_mono I.oO (fun _ h => ⟨trivial, h⟩)) hg hat) el (by decide) 0 v1) (fun _ h => h.2)
theorem GInv.pop {A : Option Addr} {n c : Nat} {x : S87} (I : GInv s Bl Br Bs Bo w0 w (.slice A n c) (L ++ [x]) u O) :
    GInv s Bl Br Bs Bo w0 (w.setCell ⟨Bl, 0, none⟩ (.slice A L.length c)) (.slice A L.length c) L u O := by
  have hne : (Value.slice A L.length c).ownBlock = (Value.slice A n c).ownBlock := by cases A <;> rfl
  have ht := Kd.R_take I.oL (m := L.length) (by simp)
  rw [List.take_left'] at ht
  · refine ⟨I.nl, I.no, blk_set I.hl 0 _, blk_far I.hr (blk_ne I.hr I.hl (by decide)) _, blk_far I.hs (blk_ne I.hs I.hl (by decide)) _, blk_far I.ho (blk_ne I.ho I.hl (by decide)) _, Kd.R_set ht I.hl (by decide) 0 _, ?_, I.bel.setCell (p := ⟨Bl, 0, none⟩) I.nl _⟩
    rw [hne]
    exact Kd.S_set I.oO I.hl (by decide) 0 _
  · rfl
end
/-- what a call of rest(i, left) comes to -/
def GRest (s : ByteArray) (Bl Br Bs Bo : Nat) (w0 : World) (i left : Nat) (R : List (List S87)) : Prop :=
  ∀ (w : World) (v : Value) (L : List S87) (u : Value) (O : List S26), GInv s Bl Br Bs Bo w0 w v L u O → L.length + (s.size - i) + left < 1000 → O.length + R.length ≤ 1000000 →
    Calls Try.prog 131 #[.int .i64 (i : Int), .int .i64 (left : Int), .pointer (some ⟨Bl, 0, none⟩), .pointer (some ⟨Br, 0, none⟩), .pointer (some ⟨Bs, 0, none⟩), .pointer (some ⟨Bo, 0, none⟩)] w fun e w' =>
      e = .returned (.tuple #[]) ∧ ∃ v' u', GInv s Bl Br Bs Bo w0 w' v' L u' (O ++ R.map fun c => ⟨L ++ c⟩)
def GGo (s : ByteArray) (Bl Br Bs Bo : Nat) (w0 : World) (x : S87) (i left : Nat) (R : List (List S87)) : Prop :=
  ∀ (w : World) (v : Value) (L : List S87) (u : Value) (O : List S26), GInv s Bl Br Bs Bo w0 w v L u O → L.length + 1 + (s.size - i) + left < 1000 → O.length + R.length ≤ 1000000 →
    Calls Try.prog 132 #[.agg #[.int .u8 x.f0, .int .u8 x.f1], .int .i64 (i : Int), .int .i64 (left : Int), .pointer (some ⟨Bl, 0, none⟩), .pointer (some ⟨Br, 0, none⟩)] w fun e w' =>
      e = .returned (.tuple #[]) ∧ ∃ v' u', GInv s Bl Br Bs Bo w0 w' v' L u' (O ++ (R.map (x :: ·)).map fun c => ⟨L ++ c⟩)
set_option maxRecDepth 100000 in
set_option maxHeartbeats 4000000 in
theorem go1_any (s : ByteArray) (Bl Br Bs Bo : Nat) (w0 : World) (x : S87) (i left : Nat) (R : List (List S87)) (hR : GRest s Bl Br Bs Bo w0 i left R) : GGo s Bl Br Bs Bo w0 x i left R := by
  intro w v L u O I hL hO
  go_enter Try.func132, Try.ntmps132
  go_wp2_with (first
    | ((with_reducible refine gate_dst (N := 5) rfl ?_); refine boxT (N := 5) (cs := #[.int .u8 x.f0, .int .u8 x.f1]) (t := 87) ?_; intro gx hgx w1 hbox hb; have I1 := I.below hb; have x0 := bc0 hbox; have x1 := bc1 hbox; have cl := bc0 I1.hl; clear hb hgx)
    | ((with_reducible refine gate_builtin (b := .append) (xs := #[.tmp 8, .tmp 10]) rfl ?_); at_builtin; refine Kd.R_append k87 (w0 := w0) w0.heap.size rfl (.tmp 8) (.tmp 10) 24 87 (.agg #[(.int .u8 0), (.int .u8 0)]) 2 rfl Try.underlying24 info87 rfl (by decide) (by omega) v L x [.int .u8 x.f0, .int .u8 x.f1] (fun _ => True) (fun _ => False) rfl (by first | (go_simp; done) | (go_simp; rfl)) ?aP (fun _ hk => hk.elim) (fun _ _ => trivial) I1.oL I1.bel I1.bel.size (by omega) ?_; (case aP => exact k87_mkM _ _ _ x); intro v1_ w2 ho hb hg hat; obtain ⟨A1, c1, e1⟩ := Kd.R_slice ho; subst e1; have I2 := I1.push x ho hb hg hat; have f2 := blk_frozen (blk_grown I1.hl hg (Kd.R_ne I1.oL I1.hl (by decide))) 0; have c2 := bc0 (blk_grown I1.hl hg (Kd.R_ne I1.oL I1.hl (by decide))))
    | ((with_reducible refine gate_store (t := 24) (p := 3) rfl ?_); refine store_event (t := 24) (p := 3) (v := .tmp 11) (w1 := w2.setCell ⟨Bl, 0, none⟩ (.slice A1 (L ++ [x]).length c1)) ?hg ?ho ?hn ?hr ?_; (case ho => rfl); (case hg => rfl); (case hn => rfl); (case hr => first | (go_simp; done) | (go_simp; rfl)); intro w3 hw3; rw [← hw3] at I2; clear hw3; have cr := bc0 I2.hr)
    | (go_at_call 131; refine (hR w3 _ (L ++ [x]) u O I2 (by rw [List.length_append]; simp; omega) hO).mono ?_; rintro e w4 ⟨rfl, v4, u4, I4⟩; obtain ⟨A4, c4, e4, hc4, _⟩ := Kd.R_reads I4.oL; subst e4; have hc5 : L.length ≤ c4 := (by rw [List.length_append] at hc4; omega); have cl4 := bc0 I4.hl; have fl4 := blk_frozen I4.hl 0))
  go_end0
  refine ⟨rfl, .slice A4 L.length c4, u4, ?_⟩
  have h := I4.pop
  rw [List.map_map]
  simpa [Function.comp_def] using h
set_option maxRecDepth 100000 in
set_option maxHeartbeats 4000000 in
theorem cloneLinks (A : Option Addr) (c : Nat) (L : List S87) (w : World) (hr : Kd.C k87 w A L.length L) (hc : L.length ≤ c) (hl : L.length ≤ 1000) :
    Calls Try.prog 133 #[.slice A L.length c] w fun e w' => ∃ v, e = .returned v ∧ Kd.R k87 87 w' w.heap.size (fun _ => True) v L ∧ Below w.heap.size w w' := by
  have hq : ∀ (W : World) (a : Option Addr) (n c n' c' : Nat), (binOp .eql 24 (.slice a n c) (.slice none n' c')).run Try.prog W = .ok (.bool a.isNone) W := fun W a n c n' c' => Lib.run_eql_slice_nil W 24 87 a n c n' c' Try.underlying24
  cases A with
  | none =>
    have h0 : L = [] := by
      by_cases h : 0 < L.length
      · obtain ⟨ad, e, _⟩ := hr.2.2 h
        cases e
      · exact List.length_eq_zero_iff.1 (by omega)
    subst h0
    go_enter Try.func133, Try.ntmps133
    go_wp2_with fail
    go_ret
    exact ⟨_, rfl, Kd.R_nil _ _ _ _ _, Below.refl _ _⟩
  | some ad =>
    go_enter Try.func133, Try.ntmps133
    go_wp2_with (first
      | ((with_reducible refine gate_dst (N := 5) rfl ?_); refine Kd.R_lit k87 _ 87 ?hg (N := 5) ?hd (xs := ([] : List S87)) (inner := []) (ok := fun _ => True) (okp := fun _ => True) ?hr ?hp (fun _ hk => hk) trivial (Below.refl _ _) (Nat.le_refl _) (by simp) ?_; (case hd => rfl); (case hg => rfl); (case hr => first | (go_simp; done) | (go_simp; rfl)); (case hp => exact (Reps.none _ _)); intro v1 w1 ho hb hg1 hnew; obtain ⟨A1, c1, e1⟩ := Kd.R_slice ho; subst e1)
      | ((with_reducible refine gate_builtin (b := .append) (xs := #[.tmp 5, .tmp 6]) rfl ?_); at_builtin; refine Kd.R_append_rows k87 (w0 := w) (Rr := k87.K w1) w.heap.size rfl (.tmp 5) (.tmp 6) 24 87 (.agg #[(.int .u8 0), (.int .u8 0)]) 2 rfl Try.underlying24 info87 rfl (by decide) (by omega) _ [] L (some ad) L.length c (fun _ => True) (fun _ => False) rfl rfl ho (Kd.C_below hr hb) (fun _ _ h => h) (fun _ h => h.elim) (fun _ _ => trivial) hb hb.size (by simp; omega) ?_; intro v2 w2 ho2 hb2 hg2 hat2))
    go_ret
    exact ⟨_, rfl, ho2, hb2⟩
section
variable {s : ByteArray} {Bl Br Bs Bo : Nat} {w0 w w1 w2 : World} {v v1 u u1 cv : Value} {L : List S87} {O : List S26}
theorem GInv.emit (I : GInv s Bl Br Bs Bo w0 w1 v L u O) (ho : Kd.S k26 26 w2 w0.heap.size (fun k => some k ≠ v.ownBlock) u1 (O ++ [⟨L⟩])) (hB : Below w0.heap.size w0 w2) (hg : w1.grownBy w2 u.ownBlock) :
    GInv s Bl Br Bs Bo w0 (w2.setCell ⟨Bo, 0, none⟩ u1) v L u1 (O ++ [⟨L⟩]) := by
  have el := blk_grown I.hl hg (Kd.S_ne I.oO I.hl (by decide))
  have er := blk_grown I.hr hg (Kd.S_ne I.oO I.hr (by decide))
  have es := blk_grown I.hs hg (Kd.S_ne I.oO I.hs (by decide))
  have eo := blk_grown I.ho hg (Kd.S_ne I.oO I.ho (by decide))
  exact ⟨I.nl, I.no, blk_far el (blk_ne el eo (by decide)) _, blk_far er (blk_ne er eo (by decide)) _, blk_far es (blk_ne es eo (by decide)) _, blk_set eo 0 u1,
    Kd.R_set (Kd.R_over' I.oL (Kd.S_typed I.oO) (by decide) hg) eo (by decide) 0 u1, Kd.S_set ho eo (by decide) 0 u1, hB.setCell (p := ⟨Bo, 0, none⟩) I.no u1⟩
theorem emit_ok (I : GInv s Bl Br Bs Bo w0 w v L u O) (hc : Kd.R k87 87 w1 w.heap.size (fun _ => True) cv L) (k : Nat) (hk : some k = cv.ownBlock) : some k ≠ v.ownBlock ∧ some k ≠ u.ownBlock := by
  have h1 := Kd.R_base hc k hk.symm
  exact ⟨fun e => by have := Kd.R_lt I.oL k e.symm; omega, fun e => by have := Kd.S_lt I.oO k e.symm; omega⟩
theorem emit_row (I : GInv s Bl Br Bs Bo w0 w v L u O) (hb : Below w.heap.size w w1) (hc : Kd.R k87 87 w1 w.heap.size (fun _ => True) cv L) : Kd.S k26 26 w1 w0.heap.size (fun k => some k ≠ v.ownBlock ∧ ¬ some k = cv.ownBlock) u O :=
  Kd.S_below (Kd.S_mono (Kd.S_bound I.oO) (fun k hk => ⟨hk.1, fun e => by have := Kd.R_base hc k e.symm; have := hk.2.2.1; omega⟩)) hb
end
def restT8 : Bool × List (List Nat × List Nat) := (true, [([], []), ([], []), ([1], [1]), ([2], [2]), ([3], [3]), ([0, 4, 2], [0, 4]), ([5, 5, 0, 1, 2, 3, 4, 5], [5])])
theorem rest_tab8 : rtab .any (opsOf Try.f131 8) = restT8 := by kernel_rfl
theorem rest_bits8 : waitsOk restT8.2 [0, 0, 2, 6, 14, 31, 63] = true := by kernel_rfl
theorem bt_nat' (s : ByteArray) (i : Nat) : ∀ h : i < s.size, ((s[i]'h).toNat : Int) = bt s (i : Int) := fun h => by simp [bt, h]
theorem wrap_less {l : Nat} (h : l < 1000) : wrap64 (((l + 1 : Nat) : Int) - 1) = (l : Int) := by unfold wrap64; omega
set_option maxRecDepth 100000 in
set_option maxHeartbeats 4000000 in
theorem rest_in0 (s : ByteArray) (hsz : s.size ≤ 1000) (Bl Br Bs Bo : Nat) (w0 : World) (i : Nat) (hi : i < s.size) (R0 : List (List S87)) (hR0 : GGo s Bl Br Bs Bo w0 ⟨bt s i, bt s i⟩ (i + 1) 0 R0) : GRest s Bl Br Bs Bo w0 i 0 (R0.map ((⟨bt s i, bt s i⟩ : S87) :: ·)) := by
  intro w v L u O I hL hO
  have cl := bc0 I.hl
  have cs := bc0 I.hs
  have hx := bt_nat' s i
  have hw : wrap64 ((i : Int) + 1) = ((i + 1 : Nat) : Int) := by unfold wrap64; omega
  simp only [List.length_append, List.length_map, List.length_cons, List.length_nil] at hO
  go_enter Try.func131, Try.ntmps131
  go_wp2_with fail
  go_still_tail 11, (by kernel_rfl)
  change wpList _ _ _ _ _ w.drew
  have I0 := I.below (below_drew (Below.refl _ _))
  generalize w.drew = wa at I0
  go_wp2_with (first
    | (go_at_call 132; refine calls_of_args (args' := #[.agg #[.int .u8 (bt s i), .int .u8 (bt s i)], .int .i64 ((i + 1 : Nat) : Int), .int .i64 ((0 : Nat) : Int), .pointer (some ⟨Bl, 0, none⟩), .pointer (some ⟨Br, 0, none⟩)]) (by first | rfl | (rw [hw]; rfl) | (rw [hw, hv]) | (rw [hv]; rfl)) ?_; refine (hR0 wa v L u _ I0 (by omega) (by first | omega | (simp only [List.length_append, List.length_map, List.length_cons, List.length_nil]; omega))).mono ?_; rintro e w1 ⟨rfl, v1, u1, I1⟩; have cs1 := bc0 I1.hs))
  go_end0
  refine ⟨rfl, v1, u1, ?_⟩
  have h := I1
  try simp only [List.map_append, List.map_cons, List.map_nil, List.append_nil, List.append_assoc] at h ⊢
  exact h
set_option maxRecDepth 100000 in
set_option maxHeartbeats 4000000 in
theorem rest_in1 (s : ByteArray) (hsz : s.size ≤ 1000) (Bl Br Bs Bo : Nat) (w0 : World) (i l : Nat) (hi : i < s.size) (b : Int) (hb : impl_SwapVoice.f (bt s i) = some (b, true)) (R0 : List (List S87)) (hR0 : GGo s Bl Br Bs Bo w0 ⟨bt s i, bt s i⟩ (i + 1) (l + 1) R0) (R1 : List (List S87)) (hR1 : GGo s Bl Br Bs Bo w0 ⟨bt s i, 0⟩ (i + 1) l R1) (R2 : List (List S87)) (hR2 : GGo s Bl Br Bs Bo w0 ⟨bt s i, b⟩ (i + 1) l R2) (R3 : List (List S87)) (hR3 : GGo s Bl Br Bs Bo w0 ⟨0, 116⟩ (i) l R3) (R4 : List (List S87)) (hR4 : GGo s Bl Br Bs Bo w0 ⟨0, 105⟩ (i) l R4) : GRest s Bl Br Bs Bo w0 i (l + 1) ((R0.map ((⟨bt s i, bt s i⟩ : S87) :: ·)) ++ (R1.map ((⟨bt s i, 0⟩ : S87) :: ·)) ++ (R2.map ((⟨bt s i, b⟩ : S87) :: ·)) ++ (R3.map ((⟨0, 116⟩ : S87) :: ·)) ++ (R4.map ((⟨0, 105⟩ : S87) :: ·))) := by
  intro w v L u O I hL hO
  have cl := bc0 I.hl
  have cs := bc0 I.hs
  have hx := bt_nat' s i
  have hw : wrap64 ((i : Int) + 1) = ((i + 1 : Nat) : Int) := by unfold wrap64; omega
  simp only [List.length_append, List.length_map, List.length_cons, List.length_nil] at hO
  have hv : wrap64 (((l + 1 : Nat) : Int) - 1) = (l : Int) := wrap_less (by omega)
  have hl1 : decide ((0 : Int) < ((l + 1 : Nat) : Int)) = true := decide_eq_true (by omega)
  go_enter Try.func131, Try.ntmps131
  go_wp2_with fail
  go_still_tail 11, (by kernel_rfl)
  change wpList _ _ _ _ _ w.drew
  have I0 := I.below (below_drew (Below.refl _ _))
  generalize w.drew = wa at I0
  go_wp2_with (first
    | (go_at_call 132; refine calls_of_args (args' := #[.agg #[.int .u8 (bt s i), .int .u8 (bt s i)], .int .i64 ((i + 1 : Nat) : Int), .int .i64 (((l + 1) : Nat) : Int), .pointer (some ⟨Bl, 0, none⟩), .pointer (some ⟨Br, 0, none⟩)]) (by first | rfl | (rw [hw]; rfl) | (rw [hw, hv]) | (rw [hv]; rfl)) ?_; refine (hR0 wa v L u _ I0 (by omega) (by first | omega | (simp only [List.length_append, List.length_map, List.length_cons, List.length_nil]; omega))).mono ?_; rintro e w1 ⟨rfl, v1, u1, I1⟩; have cs1 := bc0 I1.hs)
    | (go_at_call 132; refine calls_of_args (args' := #[.agg #[.int .u8 (bt s i), .int .u8 (0)], .int .i64 ((i + 1 : Nat) : Int), .int .i64 ((l : Nat) : Int), .pointer (some ⟨Bl, 0, none⟩), .pointer (some ⟨Br, 0, none⟩)]) (by first | rfl | (rw [hw]; rfl) | (rw [hw, hv]) | (rw [hv]; rfl)) ?_; refine (hR1 w1 v1 L u1 _ I1 (by omega) (by first | omega | (simp only [List.length_append, List.length_map, List.length_cons, List.length_nil]; omega))).mono ?_; rintro e w2 ⟨rfl, v2, u2, I2⟩; have cs2 := bc0 I2.hs)
    | (go_at_call 80; refine (impl_SwapVoice.calls _ _ _ _ hb).mono ?_; rintro e wq ⟨rfl, hd⟩; obtain ⟨nq, hnq⟩ := hd.out; have Iq : GInv s Bl Br Bs Bo w0 wq v2 L u2 _ := (by rw [hnq]; exact I2.below (pw_below_drewN (Below.refl _ _) nq)); clear hnq hd; have csq := bc0 Iq.hs)
    | (go_at_call 132; refine calls_of_args (args' := #[.agg #[.int .u8 (bt s i), .int .u8 (b)], .int .i64 ((i + 1 : Nat) : Int), .int .i64 ((l : Nat) : Int), .pointer (some ⟨Bl, 0, none⟩), .pointer (some ⟨Br, 0, none⟩)]) (by first | rfl | (rw [hw]; rfl) | (rw [hw, hv]) | (rw [hv]; rfl)) ?_; refine (hR2 wq v2 L u2 _ Iq (by omega) (by first | omega | (simp only [List.length_append, List.length_map, List.length_cons, List.length_nil]; omega))).mono ?_; rintro e w3 ⟨rfl, v3, u3, I3⟩; have cs3 := bc0 I3.hs)
    | (go_at_call 132; refine calls_of_args (args' := #[.agg #[.int .u8 (0), .int .u8 (116)], .int .i64 ((i : Nat) : Int), .int .i64 ((l : Nat) : Int), .pointer (some ⟨Bl, 0, none⟩), .pointer (some ⟨Br, 0, none⟩)]) (by first | rfl | (rw [hw]; rfl) | (rw [hw, hv]) | (rw [hv]; rfl)) ?_; refine (hR3 w3 v3 L u3 _ I3 (by omega) (by first | omega | (simp only [List.length_append, List.length_map, List.length_cons, List.length_nil]; omega))).mono ?_; rintro e w4 ⟨rfl, v4, u4, I4⟩; have cs4 := bc0 I4.hs)
    | (go_at_call 132; refine calls_of_args (args' := #[.agg #[.int .u8 (0), .int .u8 (105)], .int .i64 ((i : Nat) : Int), .int .i64 ((l : Nat) : Int), .pointer (some ⟨Bl, 0, none⟩), .pointer (some ⟨Br, 0, none⟩)]) (by first | rfl | (rw [hw]; rfl) | (rw [hw, hv]) | (rw [hv]; rfl)) ?_; refine (hR4 w4 v4 L u4 _ I4 (by omega) (by first | omega | (simp only [List.length_append, List.length_map, List.length_cons, List.length_nil]; omega))).mono ?_; rintro e w5 ⟨rfl, v5, u5, I5⟩; have cs5 := bc0 I5.hs))
  go_end0
  refine ⟨rfl, v5, u5, ?_⟩
  have h := I5
  try simp only [List.map_append, List.map_cons, List.map_nil, List.append_nil, List.append_assoc] at h ⊢
  exact h
set_option maxRecDepth 100000 in
set_option maxHeartbeats 4000000 in
theorem rest_in2 (s : ByteArray) (hsz : s.size ≤ 1000) (Bl Br Bs Bo : Nat) (w0 : World) (i l : Nat) (hi : i < s.size) (b : Int) (hb : impl_SwapVoice.f (bt s i) = some (b, false)) (R0 : List (List S87)) (hR0 : GGo s Bl Br Bs Bo w0 ⟨bt s i, bt s i⟩ (i + 1) (l + 1) R0) (R1 : List (List S87)) (hR1 : GGo s Bl Br Bs Bo w0 ⟨bt s i, 0⟩ (i + 1) l R1) (R2 : List (List S87)) (hR2 : GGo s Bl Br Bs Bo w0 ⟨0, 116⟩ (i) l R2) (R3 : List (List S87)) (hR3 : GGo s Bl Br Bs Bo w0 ⟨0, 105⟩ (i) l R3) : GRest s Bl Br Bs Bo w0 i (l + 1) ((R0.map ((⟨bt s i, bt s i⟩ : S87) :: ·)) ++ (R1.map ((⟨bt s i, 0⟩ : S87) :: ·)) ++ (R2.map ((⟨0, 116⟩ : S87) :: ·)) ++ (R3.map ((⟨0, 105⟩ : S87) :: ·))) := by
  intro w v L u O I hL hO
  have cl := bc0 I.hl
  have cs := bc0 I.hs
  have hx := bt_nat' s i
  have hw : wrap64 ((i : Int) + 1) = ((i + 1 : Nat) : Int) := by unfold wrap64; omega
  simp only [List.length_append, List.length_map, List.length_cons, List.length_nil] at hO
  have hv : wrap64 (((l + 1 : Nat) : Int) - 1) = (l : Int) := wrap_less (by omega)
  have hl1 : decide ((0 : Int) < ((l + 1 : Nat) : Int)) = true := decide_eq_true (by omega)
  go_enter Try.func131, Try.ntmps131
  go_wp2_with fail
  go_still_tail 11, (by kernel_rfl)
  change wpList _ _ _ _ _ w.drew
  have I0 := I.below (below_drew (Below.refl _ _))
  generalize w.drew = wa at I0
  go_wp2_with (first
    | (go_at_call 132; refine calls_of_args (args' := #[.agg #[.int .u8 (bt s i), .int .u8 (bt s i)], .int .i64 ((i + 1 : Nat) : Int), .int .i64 (((l + 1) : Nat) : Int), .pointer (some ⟨Bl, 0, none⟩), .pointer (some ⟨Br, 0, none⟩)]) (by first | rfl | (rw [hw]; rfl) | (rw [hw, hv]) | (rw [hv]; rfl)) ?_; refine (hR0 wa v L u _ I0 (by omega) (by first | omega | (simp only [List.length_append, List.length_map, List.length_cons, List.length_nil]; omega))).mono ?_; rintro e w1 ⟨rfl, v1, u1, I1⟩; have cs1 := bc0 I1.hs)
    | (go_at_call 132; refine calls_of_args (args' := #[.agg #[.int .u8 (bt s i), .int .u8 (0)], .int .i64 ((i + 1 : Nat) : Int), .int .i64 ((l : Nat) : Int), .pointer (some ⟨Bl, 0, none⟩), .pointer (some ⟨Br, 0, none⟩)]) (by first | rfl | (rw [hw]; rfl) | (rw [hw, hv]) | (rw [hv]; rfl)) ?_; refine (hR1 w1 v1 L u1 _ I1 (by omega) (by first | omega | (simp only [List.length_append, List.length_map, List.length_cons, List.length_nil]; omega))).mono ?_; rintro e w2 ⟨rfl, v2, u2, I2⟩; have cs2 := bc0 I2.hs)
    | (go_at_call 80; refine (impl_SwapVoice.calls _ _ _ _ hb).mono ?_; rintro e wq ⟨rfl, hd⟩; obtain ⟨nq, hnq⟩ := hd.out; have Iq : GInv s Bl Br Bs Bo w0 wq v2 L u2 _ := (by rw [hnq]; exact I2.below (pw_below_drewN (Below.refl _ _) nq)); clear hnq hd; have csq := bc0 Iq.hs)
    | (go_at_call 132; refine calls_of_args (args' := #[.agg #[.int .u8 (0), .int .u8 (116)], .int .i64 ((i : Nat) : Int), .int .i64 ((l : Nat) : Int), .pointer (some ⟨Bl, 0, none⟩), .pointer (some ⟨Br, 0, none⟩)]) (by first | rfl | (rw [hw]; rfl) | (rw [hw, hv]) | (rw [hv]; rfl)) ?_; refine (hR2 wq v2 L u2 _ Iq (by omega) (by first | omega | (simp only [List.length_append, List.length_map, List.length_cons, List.length_nil]; omega))).mono ?_; rintro e w3 ⟨rfl, v3, u3, I3⟩; have cs3 := bc0 I3.hs)
    | (go_at_call 132; refine calls_of_args (args' := #[.agg #[.int .u8 (0), .int .u8 (105)], .int .i64 ((i : Nat) : Int), .int .i64 ((l : Nat) : Int), .pointer (some ⟨Bl, 0, none⟩), .pointer (some ⟨Br, 0, none⟩)]) (by first | rfl | (rw [hw]; rfl) | (rw [hw, hv]) | (rw [hv]; rfl)) ?_; refine (hR3 w3 v3 L u3 _ I3 (by omega) (by first | omega | (simp only [List.length_append, List.length_map, List.length_cons, List.length_nil]; omega))).mono ?_; rintro e w4 ⟨rfl, v4, u4, I4⟩; have cs4 := bc0 I4.hs))
  go_end0
  refine ⟨rfl, v4, u4, ?_⟩
  have h := I4
  try simp only [List.map_append, List.map_cons, List.map_nil, List.append_nil, List.append_assoc] at h ⊢
  exact h
set_option maxRecDepth 100000 in
set_option maxHeartbeats 4000000 in
theorem rest_out0 (s : ByteArray) (hsz : s.size ≤ 1000) (Bl Br Bs Bo : Nat) (w0 : World) (i : Nat) (hi : i = s.size) : GRest s Bl Br Bs Bo w0 i 0 ([[]]) := by
  intro w v L u O I hL hO
  have cl := bc0 I.hl
  have cs := bc0 I.hs
  have hx := bt_nat' s i
  have hw : wrap64 ((i : Int) + 1) = ((i + 1 : Nat) : Int) := by unfold wrap64; omega
  simp only [List.length_append, List.length_map, List.length_cons, List.length_nil] at hO
  have hi2 : ¬ ((i : Int) < (s.size : Int)) := by omega
  clear hi
  go_enter Try.func131, Try.ntmps131
  go_wp2_with fail
  obtain ⟨AL, cL, eL, hcL, hRL⟩ := Kd.R_reads I.oL
  subst eL
  have co := bc0 I.ho
  refine start_ (n := 7) (S := fun w' => w'.cell? ⟨Bo, 0, none⟩ = some u ∧ w'.cell? ⟨Bl, 0, none⟩ = some (.slice AL L.length cL)) (ds := [6]) (bA 7 0) (by kernel_rfl) rfl rfl ⟨co, cl⟩ (fun hHeld => ?_); refine with_tabW rest_tab8 rest_bits8 (fun HT_ HW_ => ?_)
  have I0 := I.below (below_drew (Below.refl _ _))
  have hRL0 := Kd.C_below hRL (below_drew (Below.refl _ _))
  generalize w.drew = wa at hHeld I0 hRL0 ⊢
  refine tA 0 59 7 1 HT_.out HW_.out hHeld ?_ rfl rfl; refine tA 1 60 7 3 HT_.out HW_.out hHeld ?_ rfl rfl
  refine oA 2 61 7 7 HT_.out (fun K hK => ?_) rfl rfl
  refine goes_ Try.func133 (by kernel_rfl) rfl #[.slice AL L.length cL] (by rfl) rfl rfl eqT ?_
  refine (cloneLinks AL cL L wa hRL0 hcL (by omega)).mono ?_; rintro e w1 ⟨cv, rfl, hcv, hb⟩; refine ⟨_, rfl, ?_⟩
  obtain ⟨Ac, cc, ec, _⟩ := Kd.R_reads hcv
  subst ec
  have I1 := I0.below hb
  refine hK.out _ _ ⟨bc0 I1.ho, bc0 I1.hl⟩ (fun hHeld => ?_)
  clear hK K
  refine nB 61 ?_ rfl; refine pA 3 62 7 15 HT_.out ?_ rfl rfl
  refine oA 4 63 7 31 HT_.out (fun K hK => ?_) rfl rfl
  refine value_ (w1 := ?_) (v := ?_) (by rfl) rfl ?_ ?_
  rotate_left 2
  · go_simp
    constructor
    · rfl
    · rfl
  refine hK.out _ _ ⟨bc0 (blk_alloc I1.ho _), bc0 (blk_alloc I1.hl _)⟩ (fun hHeld => ?_)
  clear hK K
  refine nB 63 ?_ rfl
  refine oA 5 64 7 63 HT_.out (fun K hK => ?_) rfl rfl
  refine Kd.S_append_step k26 (w0 := w0) w0.heap.size (by rfl) (.tmp 59) (.tmp 63) 35 26 (.agg #[(.slice none 0 0)]) 24 rfl Try.underlying35 genInfoC rfl (by decide) (by omega) u O (⟨L⟩ : S26) [.slice Ac L.length cc] (fun k => some k ≠ (Value.slice AL L.length cL).ownBlock) (fun k => some k = (Value.slice Ac L.length cc).ownBlock) rfl rfl
    (k26_mkM _ _ _ (⟨L⟩ : S26) (Kd.R_lower (Kd.R_tight rfl hcv) I0.bel.size)) (fun k hk => emit_ok I0 hcv k hk) (fun k hk e => by have := Kd.R_lt I1.oL k e.symm; omega) (emit_row I0 hb hcv) I1.bel I1.bel.size (by omega) ?_
  intro u8 w8 ho8 hb8 hg8 hat8
  have I9 := I1.emit ho8 hb8 hg8
  have e8 := bc0 (blk_grown I1.ho hg8 (Kd.S_ne I1.oO I1.ho (by decide)))
  have f8 := blk_frozen (blk_grown I1.ho hg8 (Kd.S_ne I1.oO I1.ho (by decide))) 0
  have l8 := bc0 (blk_grown I1.hl hg8 (Kd.S_ne I1.oO I1.hl (by decide)))
  refine hK.out _ _ ⟨e8, l8⟩ (fun hHeld => ?_)
  clear hK K
  refine nB 64 ?_ rfl
  refine last_ (i := 6) (N := none) (bA 7 127) rfl rfl (one_of HT_.out (by kernel_rfl)) (by decide) (fun K hK => ?_)
  obtain ⟨A8, c8, e8'⟩ := Kd.S_slice ho8
  subst e8'
  refine skip_ (w1 := w8.setCell ⟨Bo, 0, none⟩ (.slice A8 (O ++ [(⟨L⟩ : S26)]).length c8)) (by rfl) rfl (by first | (go_simp; done) | (go_simp; rfl)) ?_
  refine hK.out _ _ ?_
  clear hK K
  generalize w8.setCell ⟨Bo, 0, none⟩ (.slice A8 (O ++ [(⟨L⟩ : S26)]).length c8) = w9 at I9 ⊢
  refine done_ (done_of HT_.out (by kernel_rfl)) ?_

  go_wp2_with fail
  go_end0
  refine ⟨rfl, (.slice AL L.length cL), (.slice A8 (O ++ [(⟨L⟩ : S26)]).length c8), ?_⟩
  have h := I9
  try simp only [List.map_append, List.map_cons, List.map_nil, List.append_nil, List.append_assoc] at h ⊢
  exact h
set_option maxRecDepth 100000 in
set_option maxHeartbeats 4000000 in
theorem rest_out1 (s : ByteArray) (hsz : s.size ≤ 1000) (Bl Br Bs Bo : Nat) (w0 : World) (i l : Nat) (hi : i = s.size) (R0 : List (List S87)) (hR0 : GGo s Bl Br Bs Bo w0 ⟨0, 116⟩ (i) l R0) (R1 : List (List S87)) (hR1 : GGo s Bl Br Bs Bo w0 ⟨0, 105⟩ (i) l R1) : GRest s Bl Br Bs Bo w0 i (l + 1) ([[]] ++ (R0.map ((⟨0, 116⟩ : S87) :: ·)) ++ (R1.map ((⟨0, 105⟩ : S87) :: ·))) := by
  intro w v L u O I hL hO
  have cl := bc0 I.hl
  have cs := bc0 I.hs
  have hx := bt_nat' s i
  have hw : wrap64 ((i : Int) + 1) = ((i + 1 : Nat) : Int) := by unfold wrap64; omega
  simp only [List.length_append, List.length_map, List.length_cons, List.length_nil] at hO
  have hv : wrap64 (((l + 1 : Nat) : Int) - 1) = (l : Int) := wrap_less (by omega)
  have hl1 : decide ((0 : Int) < ((l + 1 : Nat) : Int)) = true := decide_eq_true (by omega)
  have hi2 : ¬ ((i : Int) < (s.size : Int)) := by omega
  clear hi
  go_enter Try.func131, Try.ntmps131
  go_wp2_with fail
  obtain ⟨AL, cL, eL, hcL, hRL⟩ := Kd.R_reads I.oL
  subst eL
  have co := bc0 I.ho
  refine start_ (n := 7) (S := fun w' => w'.cell? ⟨Bo, 0, none⟩ = some u ∧ w'.cell? ⟨Bl, 0, none⟩ = some (.slice AL L.length cL)) (ds := [6]) (bA 7 0) (by kernel_rfl) rfl rfl ⟨co, cl⟩ (fun hHeld => ?_); refine with_tabW rest_tab8 rest_bits8 (fun HT_ HW_ => ?_)
  have I0 := I.below (below_drew (Below.refl _ _))
  have hRL0 := Kd.C_below hRL (below_drew (Below.refl _ _))
  generalize w.drew = wa at hHeld I0 hRL0 ⊢
  refine tA 0 59 7 1 HT_.out HW_.out hHeld ?_ rfl rfl; refine tA 1 60 7 3 HT_.out HW_.out hHeld ?_ rfl rfl
  refine oA 2 61 7 7 HT_.out (fun K hK => ?_) rfl rfl
  refine goes_ Try.func133 (by kernel_rfl) rfl #[.slice AL L.length cL] (by rfl) rfl rfl eqT ?_
  refine (cloneLinks AL cL L wa hRL0 hcL (by omega)).mono ?_; rintro e w1 ⟨cv, rfl, hcv, hb⟩; refine ⟨_, rfl, ?_⟩
  obtain ⟨Ac, cc, ec, _⟩ := Kd.R_reads hcv
  subst ec
  have I1 := I0.below hb
  refine hK.out _ _ ⟨bc0 I1.ho, bc0 I1.hl⟩ (fun hHeld => ?_)
  clear hK K
  refine nB 61 ?_ rfl; refine pA 3 62 7 15 HT_.out ?_ rfl rfl
  refine oA 4 63 7 31 HT_.out (fun K hK => ?_) rfl rfl
  refine value_ (w1 := ?_) (v := ?_) (by rfl) rfl ?_ ?_
  rotate_left 2
  · go_simp
    constructor
    · rfl
    · rfl
  refine hK.out _ _ ⟨bc0 (blk_alloc I1.ho _), bc0 (blk_alloc I1.hl _)⟩ (fun hHeld => ?_)
  clear hK K
  refine nB 63 ?_ rfl
  refine oA 5 64 7 63 HT_.out (fun K hK => ?_) rfl rfl
  refine Kd.S_append_step k26 (w0 := w0) w0.heap.size (by rfl) (.tmp 59) (.tmp 63) 35 26 (.agg #[(.slice none 0 0)]) 24 rfl Try.underlying35 genInfoC rfl (by decide) (by omega) u O (⟨L⟩ : S26) [.slice Ac L.length cc] (fun k => some k ≠ (Value.slice AL L.length cL).ownBlock) (fun k => some k = (Value.slice Ac L.length cc).ownBlock) rfl rfl
    (k26_mkM _ _ _ (⟨L⟩ : S26) (Kd.R_lower (Kd.R_tight rfl hcv) I0.bel.size)) (fun k hk => emit_ok I0 hcv k hk) (fun k hk e => by have := Kd.R_lt I1.oL k e.symm; omega) (emit_row I0 hb hcv) I1.bel I1.bel.size (by omega) ?_
  intro u8 w8 ho8 hb8 hg8 hat8
  have I9 := I1.emit ho8 hb8 hg8
  have e8 := bc0 (blk_grown I1.ho hg8 (Kd.S_ne I1.oO I1.ho (by decide)))
  have f8 := blk_frozen (blk_grown I1.ho hg8 (Kd.S_ne I1.oO I1.ho (by decide))) 0
  have l8 := bc0 (blk_grown I1.hl hg8 (Kd.S_ne I1.oO I1.hl (by decide)))
  refine hK.out _ _ ⟨e8, l8⟩ (fun hHeld => ?_)
  clear hK K
  refine nB 64 ?_ rfl
  refine last_ (i := 6) (N := none) (bA 7 127) rfl rfl (one_of HT_.out (by kernel_rfl)) (by decide) (fun K hK => ?_)
  obtain ⟨A8, c8, e8'⟩ := Kd.S_slice ho8
  subst e8'
  refine skip_ (w1 := w8.setCell ⟨Bo, 0, none⟩ (.slice A8 (O ++ [(⟨L⟩ : S26)]).length c8)) (by rfl) rfl (by first | (go_simp; done) | (go_simp; rfl)) ?_
  refine hK.out _ _ ?_
  clear hK K
  generalize w8.setCell ⟨Bo, 0, none⟩ (.slice A8 (O ++ [(⟨L⟩ : S26)]).length c8) = w9 at I9 ⊢
  refine done_ (done_of HT_.out (by kernel_rfl)) ?_

  go_wp2_with (first
    | (go_at_call 132; refine calls_of_args (args' := #[.agg #[.int .u8 (0), .int .u8 (116)], .int .i64 ((i : Nat) : Int), .int .i64 ((l : Nat) : Int), .pointer (some ⟨Bl, 0, none⟩), .pointer (some ⟨Br, 0, none⟩)]) (by first | rfl | (rw [hw]; rfl) | (rw [hw, hv]) | (rw [hv]; rfl)) ?_; refine (hR0 w9 (.slice AL L.length cL) L (.slice A8 (O ++ [(⟨L⟩ : S26)]).length c8) _ I9 (by omega) (by first | omega | (simp only [List.length_append, List.length_map, List.length_cons, List.length_nil]; omega))).mono ?_; rintro e w1 ⟨rfl, v1, u1, I1⟩; have cs1 := bc0 I1.hs)
    | (go_at_call 132; refine calls_of_args (args' := #[.agg #[.int .u8 (0), .int .u8 (105)], .int .i64 ((i : Nat) : Int), .int .i64 ((l : Nat) : Int), .pointer (some ⟨Bl, 0, none⟩), .pointer (some ⟨Br, 0, none⟩)]) (by first | rfl | (rw [hw]; rfl) | (rw [hw, hv]) | (rw [hv]; rfl)) ?_; refine (hR1 w1 v1 L u1 _ I1 (by omega) (by first | omega | (simp only [List.length_append, List.length_map, List.length_cons, List.length_nil]; omega))).mono ?_; rintro e w2 ⟨rfl, v2, u2, I2⟩; have cs2 := bc0 I2.hs))
  go_end0
  refine ⟨rfl, v2, u2, ?_⟩
  have h := I2
  try simp only [List.map_append, List.map_cons, List.map_nil, List.append_nil, List.append_assoc] at h ⊢
  exact h
def genF (s : ByteArray) : Nat → Nat → Nat → List (List S87)
  | 0, _, _ => []
  | m + 1, i, l =>
    (if i < s.size then
      (genF s m (i + 1) l).map ((⟨bt s i, bt s i⟩ : S87) :: ·) ++
        (if 0 < l then (genF s m (i + 1) (l - 1)).map ((⟨bt s i, 0⟩ : S87) :: ·) ++
          (match impl_SwapVoice.f (bt s i) with
            | some (b, true) => (genF s m (i + 1) (l - 1)).map ((⟨bt s i, b⟩ : S87) :: ·)
            | _ => []) else [])
      else [[]]) ++
      (if 0 < l then (genF s m i (l - 1)).map ((⟨0, 116⟩ : S87) :: ·) ++ (genF s m i (l - 1)).map ((⟨0, 105⟩ : S87) :: ·) else [])
theorem swap_total : ∀ n : Fin 256, (impl_SwapVoice.f ((n.val : Nat) : Int)).isSome = true := by decide +kernel
theorem swap_bt (s : ByteArray) (i : Nat) : ∃ b ok, impl_SwapVoice.f (bt s i) = some (b, ok) := by
  have h : ∃ n : Fin 256, bt s i = ((n.val : Nat) : Int) := by
    unfold bt
    split
    · exact ⟨⟨_, UInt8.toNat_lt _⟩, rfl⟩
    · exact ⟨0, rfl⟩
  obtain ⟨n, hn⟩ := h
  have h2 := swap_total n
  rw [← hn] at h2
  cases h3 : impl_SwapVoice.f (bt s i) with
  | none => rw [h3] at h2; cases h2
  | some p => exact ⟨p.1, p.2, rfl⟩
theorem rest_all (s : ByteArray) (hsz : s.size ≤ 1000) (Bl Br Bs Bo : Nat) (w0 : World) : ∀ m i l, i ≤ s.size → (s.size - i) + l < m → GRest s Bl Br Bs Bo w0 i l (genF s m i l)
  | 0, _, _, _, h => by omega
  | m + 1, i, l, hi, h => by
    have ih : ∀ i l, i ≤ s.size → (s.size - i) + l < m → ∀ x, GGo s Bl Br Bs Bo w0 x i l (genF s m i l) := fun i l h1 h2 x => go1_any s Bl Br Bs Bo w0 x i l _ (rest_all s hsz Bl Br Bs Bo w0 m i l h1 h2)
    rw [genF]
    by_cases h1 : i < s.size
    · rw [if_pos h1]
      cases l with
      | zero =>
        simp only [Nat.lt_irrefl, if_false, List.append_nil]
        exact rest_in0 s hsz Bl Br Bs Bo w0 i h1 _ (ih _ _ (by omega) (by omega) _)
      | succ l =>
        simp only [Nat.zero_lt_succ, if_true, Nat.add_sub_cancel]
        obtain ⟨b, ok, hb⟩ := swap_bt s i
        cases ok with
        | true =>
          rw [hb]
          have hh := rest_in1 s hsz Bl Br Bs Bo w0 i l h1 b hb _ (ih _ _ (by omega) (by omega) _) _ (ih _ _ (by omega) (by omega) _) _ (ih _ _ (by omega) (by omega) _) _ (ih _ _ (by omega) (by omega) _) _ (ih _ _ (by omega) (by omega) _)
          simp only [List.append_assoc, List.nil_append] at hh ⊢
          exact hh
        | false =>
          rw [hb]
          have hh := rest_in2 s hsz Bl Br Bs Bo w0 i l h1 b hb _ (ih _ _ (by omega) (by omega) _) _ (ih _ _ (by omega) (by omega) _) _ (ih _ _ (by omega) (by omega) _) _ (ih _ _ (by omega) (by omega) _)
          simp only [List.append_assoc, List.nil_append] at hh ⊢
          exact hh
    · rw [if_neg h1]
      cases l with
      | zero =>
        simp only [Nat.lt_irrefl, if_false, List.append_nil]
        exact rest_out0 s hsz Bl Br Bs Bo w0 i (by omega)
      | succ l =>
        simp only [Nat.zero_lt_succ, if_true, Nat.add_sub_cancel]
        exact rest_out1 s hsz Bl Br Bs Bo w0 i l (by omega) _ (ih _ _ (by omega) (by omega) _) _ (ih _ _ (by omega) (by omega) _)
/-- how many -/
theorem genF_length (s : ByteArray) : ∀ m i l, (genF s m i l).length ≤ (5 * (s.size - i + 1)) ^ l
  | 0, _, _ => by simp [genF]
  | m + 1, i, l => by
    have ih := genF_length s m
    rw [genF]
    cases l with
    | zero =>
      simp only [Nat.lt_irrefl, if_false, List.append_nil]
      split
      · have := ih (i + 1) 0
        simpa using this
      · simp
    | succ l =>
      simp only [Nat.zero_lt_succ, if_true, Nat.add_sub_cancel, List.length_append, List.length_map]
      have hp : ∀ a b : Nat, a ≤ b → a ^ l ≤ b ^ l := fun a b h => Nat.pow_le_pow_left h l
      by_cases h1 : i < s.size
      · rw [if_pos h1]
        have hd : s.size - i = s.size - (i + 1) + 1 := by omega
        have e1 := ih (i + 1) (l + 1)
        have e2 := ih (i + 1) l
        have e3 := ih i l
        rw [hd] at e3 ⊢
        generalize s.size - (i + 1) = d at e1 e2 e3 ⊢
        have e4 := hp (5 * (d + 1)) (5 * (d + 1 + 1)) (by omega)
        have hm : (match impl_SwapVoice.f (bt s i) with
            | some (b, true) => (genF s m (i + 1) l).map ((⟨bt s i, b⟩ : S87) :: ·)
            | _ => []).length ≤ (genF s m (i + 1) l).length := by
          split
          · rw [List.length_map]; exact Nat.le_refl _
          · exact Nat.zero_le _
        simp only [List.length_append, List.length_map]
        rw [Nat.pow_succ] at e1 ⊢
        have e5 : (5 * (d + 1)) ^ l * (5 * (d + 1)) ≤ (5 * (d + 1 + 1)) ^ l * (5 * (d + 1)) := Nat.mul_le_mul_right _ e4
        have e6 : (5 * (d + 1 + 1)) ^ l * (5 * (d + 1 + 1)) = (5 * (d + 1 + 1)) ^ l * (5 * (d + 1)) + (5 * (d + 1 + 1)) ^ l * 5 := by rw [← Nat.mul_add]; congr 1
        omega
      · rw [if_neg h1]
        have e3 := ih i l
        rw [Nat.pow_succ]
        have h0 : 1 ≤ (5 * (s.size - i + 1)) ^ l := Nat.one_le_pow _ _ (by omega)
        have e6 : (5 * (s.size - i + 1)) ^ l * 5 ≤ (5 * (s.size - i + 1)) ^ l * (5 * (s.size - i + 1)) := Nat.mul_le_mul_left _ (by omega)
        simp only [List.length_cons, List.length_nil]
        omega
structure GPre (s : ByteArray) (Bl Bs Bo : Nat) (w0 w : World) (v u b : Value) : Prop where
  nl : w0.heap.size ≤ Bl
  no : w0.heap.size ≤ Bo
  hl : w.heap[Bl]? = some (.cells #[b] 24 (0, 0))
  hs : w.heap[Bs]? = some (.cells #[.string s] 9 (0, 0))
  ho : w.heap[Bo]? = some (.cells #[u] 35 (0, 0))
  oL : Kd.R k87 87 w w0.heap.size (fun _ => True) v []
  oO : Kd.S k26 26 w w0.heap.size (fun k => some k ≠ v.ownBlock) u []
  bel : Below w0.heap.size w0 w
section
variable {s : ByteArray} {Bl Br Bs Bo : Nat} {w0 w w1 w2 w3 w4 w5 : World} {v v1 u b : Value}
theorem pre_store (hb1 : Below w.heap.size w w1) (hs1 : w1.heap[Bs]? = some (.cells #[.string s] 9 (0, 0))) (hb2 : Below w1.heap.size w1 w2) (hoO : Kd.S k26 26 w2 w1.heap.size (fun _ => True) u []) (hb3 : Below w2.heap.size w2 w3) (hoL : Kd.R k87 87 w3 w2.heap.size (fun _ => True) v [])
    (hb4 : Below w3.heap.size w3 w4) (hbo : w4.heap[Bo]? = some (.cells #[.slice none 0 0] 35 (0, 0))) (hb5 : Below w4.heap.size w4 w5) (hbl : w5.heap[Bl]? = some (.cells #[.slice none 0 0] 24 (0, 0))) (nbo : w.heap.size ≤ Bo) (nbl : w.heap.size ≤ Bl) :
    GPre s Bl Bs Bo w (w5.setCell ⟨Bo, 0, none⟩ u) v u (.slice none 0 0) := by
  have eo := blk_below hbo hb5
  have es := blk_below (blk_below (blk_below (blk_below hs1 hb2) hb3) hb4) hb5
  have hB := below_step (below_step (below_step (below_step hb1 hb2) hb3) hb4) hb5
  have h1 := hb1.size
  have h2 := hb2.size
  refine ⟨nbl, nbo, blk_far hbl (blk_ne hbl eo (by decide)) _, blk_far es (blk_ne es eo (by decide)) _, blk_set eo 0 u, Kd.R_set (Kd.R_lower (Kd.R_below (Kd.R_below hoL hb4) hb5) (by omega)) eo (by decide) 0 u, ?_, hB.setCell (p := ⟨Bo, 0, none⟩) nbo u⟩
  refine Kd.S_set (Kd.S_mono (Kd.S_below (Kd.S_below (Kd.S_below (Kd.S_lower (Kd.S_bound hoO) (by omega)) hb3) hb4) hb5) (fun k hk e => ?_)) eo (by decide) 0 u
  have := Kd.R_base hoL k e.symm
  have := hk.2.2.1
  omega
theorem GPre.store (I : GPre s Bl Bs Bo w0 w v u b) : GPre s Bl Bs Bo w0 (w.setCell ⟨Bl, 0, none⟩ v) v u v :=
  ⟨I.nl, I.no, blk_set I.hl 0 v, blk_far I.hs (blk_ne I.hs I.hl (by decide)) _, blk_far I.ho (blk_ne I.ho I.hl (by decide)) _, Kd.R_set I.oL I.hl (by decide) 0 v, Kd.S_set I.oO I.hl (by decide) 0 v, I.bel.setCell (p := ⟨Bl, 0, none⟩) I.nl v⟩
theorem GPre.below (I : GPre s Bl Bs Bo w0 w v u b) (hb : Below w.heap.size w w1) : GPre s Bl Bs Bo w0 w1 v u b :=
  ⟨I.nl, I.no, blk_below I.hl hb, blk_below I.hs hb, blk_below I.ho hb, Kd.R_below I.oL hb, Kd.S_below I.oO hb, below_step I.bel hb⟩
theorem GPre.done {f : Value} (I : GPre s Bl Bs Bo w0 w v u v) (hr : w.heap[Br]? = some (.cells #[.nilFunc] 124 (0, 0))) (nr : w0.heap.size ≤ Br) (hf : f = .func (.func 131) #[] #[.pointer (some ⟨Bl, 0, none⟩), .pointer (some ⟨Br, 0, none⟩), .pointer (some ⟨Bs, 0, none⟩), .pointer (some ⟨Bo, 0, none⟩)]) :
    GInv s Bl Br Bs Bo w0 (w.setCell ⟨Br, 0, none⟩ f) v [] u [] := by
  subst hf
  exact ⟨I.nl, I.no, blk_far I.hl (blk_ne I.hl hr (by decide)) _, blk_set hr 0 _, blk_far I.hs (blk_ne I.hs hr (by decide)) _, blk_far I.ho (blk_ne I.ho hr (by decide)) _, Kd.R_set I.oL hr (by decide) 0 _, Kd.S_set I.oO hr (by decide) 0 _, I.bel.setCell (p := ⟨Br, 0, none⟩) nr _⟩
end
set_option maxRecDepth 100000 in
set_option maxHeartbeats 4000000 in
theorem generate_any (s : ByteArray) (hsz : s.size ≤ 16) (l : Nat) (hl : l ≤ 2) (w : World) :
    Calls Try.prog 92 #[.string s, .int .i64 (l : Int)] w fun e w' => ∃ v0_ : Value, e = .returned v0_ ∧ Kd.S k26 26 w' w.heap.size (fun _ => True) v0_ ((genF s (s.size + l + 1) 0 l).map fun c => (⟨c⟩ : S26)) ∧ Below w.heap.size w w' := by
  have hn : (genF s (s.size + l + 1) 0 l).length ≤ 1000000 := by
    refine Nat.le_trans (genF_length s _ 0 l) (Nat.le_trans (Nat.pow_le_pow_left (show 5 * (s.size - 0 + 1) ≤ 85 by omega) l) (Nat.le_trans (Nat.pow_le_pow_right (by omega) hl) (by decide)))
  go_enter Try.func92, Try.ntmps92
  go_wp2_with (first
    | ((with_reducible refine gate_dst (N := 2) rfl ?_); refine boxT (N := 2) (cs := #[.string s]) (t := 9) ?_; intro Bs hgs w1 hs1 hb1; clear hgs)
    | ((with_reducible refine gate_dst (N := 8) rfl ?_); refine Kd.S_lit k26 _ 26 ?hg (N := 8) ?hd (xs := ([] : List (S26))) (inner := []) (ok := fun _ => True) (okp := fun _ => True) ?hr ?hp (fun _ hk => hk) trivial (Below.refl _ _) (Nat.le_refl _) (by simp) ?_; (case hd => rfl); (case hg => rfl); (case hr => first | (go_simp; done) | (go_simp; rfl)); (case hp => exact (Reps.none _ _)); intro u w2 hoO hb2 hg2 hn2; obtain ⟨Au, cu, eu⟩ := Kd.S_slice hoO; subst eu; clear hg2 hn2)
    | ((with_reducible refine gate_dst (N := 9) rfl ?_); refine Kd.R_lit k87 _ 87 ?hg (N := 9) ?hd (xs := ([] : List (S87))) (inner := []) (ok := fun _ => True) (okp := fun _ => True) ?hr ?hp (fun _ hk => hk) trivial (Below.refl _ _) (Nat.le_refl _) (by simp) ?_; (case hd => rfl); (case hg => rfl); (case hr => first | (go_simp; done) | (go_simp; rfl)); (case hp => exact (Reps.none _ _)); intro v w3 hoL hb3 hg3 hn3; obtain ⟨Av, cv, ev⟩ := Kd.R_slice hoL; subst ev; clear hg3 hn3)
    | ((with_reducible refine gate_dst (N := 5) rfl ?_); refine boxT (N := 5) (cs := #[.slice none 0 0]) (t := 35) ?_; intro Bo hgo w4 hbo hb4; have nbo : w.heap.size ≤ Bo := (by have := hb1.size; have := hb2.size; have := hb3.size; omega); clear hgo)
    | ((with_reducible refine gate_dst (N := 6) rfl ?_); refine boxT (N := 6) (cs := #[.slice none 0 0]) (t := 24) ?_; intro Bl hgl w5 hbl hb5; have nbl : w.heap.size ≤ Bl := (by have := hb1.size; have := hb2.size; have := hb3.size; have := hb4.size; omega); clear hgl; have o1 := bc0 (blk_below hbo hb5); have o2 := blk_frozen (blk_below hbo hb5) 0)
    | ((with_reducible refine gate_store (t := 35) (p := 5) rfl ?_); refine store_event (t := 35) (p := 5) (v := .tmp 8) (w1 := w5.setCell ⟨Bo, 0, none⟩ (.slice Au 0 cu)) ?hg ?ho ?hn ?hr ?_; (case ho => rfl); (case hg => rfl); (case hn => rfl); (case hr => first | (go_simp; done) | (go_simp; rfl)); intro w6 hw6; have I6 : GPre s Bl Bs Bo w w6 _ _ _ := (by rw [hw6]; exact pre_store hb1 hs1 hb2 hoO hb3 hoL hb4 hbo hb5 hbl nbo nbl); clear hw6; have l2 := bc0 I6.hl; have l3 := blk_frozen I6.hl 0)
    | ((with_reducible refine gate_store (t := 24) (p := 6) rfl ?_); refine store_event (t := 24) (p := 6) (v := .tmp 9) (w1 := w6.setCell ⟨Bl, 0, none⟩ (.slice Av 0 cv)) ?hg ?ho ?hn ?hr ?_; (case ho => rfl); (case hg => rfl); (case hn => rfl); (case hr => first | (go_simp; done) | (go_simp; rfl)); intro w7 hw7; have I7 : GPre s Bl Bs Bo w w7 _ _ _ := (by rw [hw7]; exact I6.store); clear hw7)
    | ((with_reducible refine gate_dst (N := 7) rfl ?_); refine boxT (N := 7) (cs := #[.nilFunc]) (t := 124) ?_; intro Br hgr w8 hbr hb8; have nbr : w.heap.size ≤ Br := (by rw [hgr]; exact I7.bel.size); clear hgr; have I8 := I7.below hb8; have r1 := bc0 hbr; have r2 := blk_frozen hbr 0)
    | ((with_reducible refine gate_store (t := 124) (p := 7) rfl ?_); refine store_event (t := 124) (p := 7) (v := .tmp 10) (w1 := w8.setCell ⟨Br, 0, none⟩ (.func (.func 131) #[] #[.pointer (some ⟨Bl, 0, none⟩), .pointer (some ⟨Br, 0, none⟩), .pointer (some ⟨Bs, 0, none⟩), .pointer (some ⟨Bo, 0, none⟩)])) ?hg ?ho ?hn ?hr ?_; (case ho => rfl); (case hg => rfl); (case hn => rfl); (case hr => first | (go_simp; done) | (go_simp; rfl)); intro w9 hw9; have I9 : GInv s Bl Br Bs Bo w w9 _ [] _ [] := (by rw [hw9]; exact I8.done hbr nbr rfl); clear hw9; have r9 := bc0 I9.hr)
    | (go_at_call 131; refine calls_of_args (args' := #[.int .i64 ((0 : Nat) : Int), .int .i64 (l : Int), .pointer (some ⟨Bl, 0, none⟩), .pointer (some ⟨Br, 0, none⟩), .pointer (some ⟨Bs, 0, none⟩), .pointer (some ⟨Bo, 0, none⟩)]) (by rfl) ?_; refine (rest_all s (by omega) Bl Br Bs Bo w (s.size + l + 1) 0 l (Nat.zero_le _) (by omega) w9 _ [] _ [] I9 (by simp only [List.length_nil]; omega) (by simp only [List.length_nil]; omega)).mono ?_; rintro e w10 ⟨rfl, v10, u10, I10⟩; have e10 := bc0 I10.ho))
  go_ret
  refine ⟨_, rfl, ?_, I10.bel⟩
  have h := I10.oO
  rw [List.nil_append] at h
  exact Kd.S_mono h (fun _ _ => trivial)
def impl_generate.f (a0 : ByteArray) (a1 : Int) : Option (List S26) := if a0.size ≤ 16 ∧ 0 ≤ a1 ∧ a1 ≤ 2 then some ((genF a0 (a0.size + a1.toNat + 1) 0 a1.toNat).map fun c => ⟨c⟩) else none
theorem impl_generate.calls (a0 : ByteArray) (a1 : Int) (r : List S26) (w : World) (h : impl_generate.f a0 a1 = some r) :
    Calls Try.prog 92 #[.string a0, .int .i64 a1] w fun e w' => ∃ v0_ : Value, e = .returned (v0_) ∧ Kd.S k26 26 w' w.heap.size (fun _ => True) v0_ r ∧ Below w.heap.size w w' := by
  unfold impl_generate.f at h
  by_cases hc : a0.size ≤ 16 ∧ 0 ≤ a1 ∧ a1 ≤ 2
  · rw [if_pos hc] at h
    obtain rfl := Option.some.inj h
    obtain ⟨h1, h2, h3⟩ := hc
    obtain ⟨l, rfl⟩ := Int.eq_ofNat_of_zero_le h2
    exact generate_any a0 h1 l (by omega) w
  · rw [if_neg hc] at h
    cases h

/-! ### impl_Generate: function 27 -/
def impl_Generate.f (k : Nat) (a0 : ByteArray) : Option ((List (S26))) := (impl_IsForm.f k a0).bind fun t106 => (if t106 = true then (if (a0.size : Int) > 4 then (some ([] : List (S26))) else ((impl_generate.f a0 2).bind fun t107 => (some t107))) else (some ([] : List (S26))))
theorem impl_Generate.mono : ∀ a0 k, LeO (impl_Generate.f k a0) (impl_Generate.f (k + 1) a0) := by
 intro a0 k
 unfold impl_Generate.f
 with_reducible repeat' first | exact impl_IsForm.mono _ _ | exact LeO.refl _ | exact LeO.none _ | refine LeO.ite ?_ ?_ | refine LeO.bind ?_ (fun _ => ?_)
set_option maxHeartbeats 8000000 in
set_option maxRecDepth 100000 in
theorem impl_Generate.calls (k : Nat) (a0 : ByteArray) (r : List (S26)) (w : World) (h : impl_Generate.f k a0 = some r) :
  Calls Try.prog 27 #[.string a0] w fun e w' => ∃ v0_ : Value, e = .returned (v0_) ∧ Kd.S k26 26 w' w.heap.size (fun _ => True) v0_ r ∧ Below w.heap.size w w' := by
 have HB := asT (Below.refl w.heap.size w); have H := h; unfold impl_Generate.f at H; clear h; obtain ⟨t106, A2, H⟩ := be H
 by_cases c3 : t106 = true
 ·subst c3
  rw [if_pos rfl] at H; have H1 := H; clear H; have H := H1; clear H1
  by_cases c4 : (a0.size : Int) > 4
  ·rw [if_pos c4] at H
   have c4b0 : decide (4 < (a0.size : Int)) = true := decide_eq_true c4
   have c4b1 : decide (4 < a0.size) = true := decide_eq_true (by omega)
   clear c4
   obtain rfl := Option.some.inj H
   go_enter Try.func27, Try.ntmps27
   go_wp2_with (first | ((with_reducible refine gate_callee (f := 91) rfl ?_); refine goesL_ (some 4) rfl rfl Try.func91 (by kernel_rfl) rfl #[.string a0] rfl eqT ?_; (with_reducible refine (impl_IsForm.calls k a0 true _ A2.out).mono ?_); rintro e w' ⟨rfl, ⟨nd, rfl⟩⟩; refine ⟨_, rfl, ?_⟩))
   go_ret
   exact ⟨_, rlT, by first | exact Kd.S_nil _ _ _ _ _ | exact Kd.N_nil _ _ _ _ _ | exact Kd.V_nil _ _ _ _ _ | exact Kd.Q_nil _ _ _ _ _ | exact Kd.R_nil _ _ _ _ _, hbT HB.out⟩
  ·rw [if_neg c4] at H
   have c4b0 : decide (4 < (a0.size : Int)) = false := decide_eq_false c4
   have c4b1 : decide (4 < a0.size) = false := decide_eq_false (by omega)
   clear c4; obtain ⟨t107, A5, H⟩ := be H
   obtain rfl := Option.some.inj H
   go_enter Try.func27, Try.ntmps27
   go_wp2_with (first | ((with_reducible refine gate_callee (f := 91) rfl ?_); refine goesL_ (some 4) rfl rfl Try.func91 (by kernel_rfl) rfl #[.string a0] rfl eqT ?_; (with_reducible refine (impl_IsForm.calls k a0 true _ A2.out).mono ?_); rintro e w' ⟨rfl, ⟨nd, rfl⟩⟩; refine ⟨_, rfl, ?_⟩) | ((with_reducible refine gate_callee (f := 92) rfl ?_); refine goesL_ (some 12) rfl rfl Try.func92 (by kernel_rfl) rfl #[.string a0, .int .i64 2] rfl eqT ?_; (with_reducible refine (impl_generate.calls a0 2 t107 _ A5.out).mono ?_); rintro e w6 ⟨v108, rfl, ho0, hb⟩; refine ⟨_, rfl, ?_⟩; have HO109 := asT (Kd.S_lower ho0 (below_size (hbT HB.out))); replace HB := hS HB hb; (try clear hb hb2 hk hi ho0)))
   go_ret
   exact ⟨_, rlT, by (with_reducible repeat (first | apply Kd.S_alloc | apply Kd.S_drewN | apply Kd.S_drew)); exact HO109.out, hbT HB.out⟩
 ·replace c3 := Bool.eq_false_iff.mpr c3
  subst c3; rw [if_neg nF] at H; have H1 := H; clear H; have H := H1; clear H1
  obtain rfl := Option.some.inj H
  go_enter Try.func27, Try.ntmps27
  go_wp2_with (first | ((with_reducible refine gate_callee (f := 91) rfl ?_); refine goesL_ (some 4) rfl rfl Try.func91 (by kernel_rfl) rfl #[.string a0] rfl eqT ?_; (with_reducible refine (impl_IsForm.calls k a0 false _ A2.out).mono ?_); rintro e w' ⟨rfl, ⟨nd, rfl⟩⟩; refine ⟨_, rfl, ?_⟩))
  go_ret
  exact ⟨_, rlT, by first | exact Kd.S_nil _ _ _ _ _ | exact Kd.N_nil _ _ _ _ _ | exact Kd.V_nil _ _ _ _ _ | exact Kd.Q_nil _ _ _ _ _ | exact Kd.R_nil _ _ _ _ _, hbT HB.out⟩

/-! ### slices_Equal_impl_Link_impl_Link: function 102 -/
def slices_Equal_impl_Link_impl_Link.l0 : Nat → List (S87) → List (S87) → Int → Int → Option (Bool)
 | 0, _, _, _, _ => none
 | k + 1, x0, x1, x12, x13 => if x13 < x12 then (if 0 ≤ x13 then (if x13 < (x0.length : Int) then (if x13 < (x1.length : Int) then (if (!(((rd_T87 x0 x13).f0) == ((rd_T87 x1 x13).f0)) || (!(((rd_T87 x0 x13).f1) == ((rd_T87 x1 x13).f1)))) = true then (some false) else (slices_Equal_impl_Link_impl_Link.l0 k x0 x1 x12 (wrap64 (x13 + 1)))) else (none)) else (none)) else (none)) else (some true)
def slices_Equal_impl_Link_impl_Link.f (k : Nat) (l0 : List (S87)) (l1 : List (S87)) : Option (Bool) := if (l0.length : Int) = (l1.length : Int) then (slices_Equal_impl_Link_impl_Link.l0 k l0 l1 (l0.length : Int) 0) else (some false)
theorem slices_Equal_impl_Link_impl_Link.mono_l : ∀ k, (∀ y0 y1 y2 y3, LeO (slices_Equal_impl_Link_impl_Link.l0 k y0 y1 y2 y3) (slices_Equal_impl_Link_impl_Link.l0 (k + 1) y0 y1 y2 y3))
 | 0 => fun _ _ _ _ r h => by simp [slices_Equal_impl_Link_impl_Link.l0] at h
 | k + 1 => by
  have ih0 := slices_Equal_impl_Link_impl_Link.mono_l k
  ·intro y0 y1 y2 y3
   unfold slices_Equal_impl_Link_impl_Link.l0
   with_reducible repeat' first | exact ih0 _ _ _ _ | exact LeO.refl _ | exact LeO.none _ | refine LeO.ite ?_ ?_ | refine LeO.bind ?_ (fun _ => ?_)
theorem slices_Equal_impl_Link_impl_Link.mono : ∀ a0 a1 k, LeO (slices_Equal_impl_Link_impl_Link.f k a0 a1) (slices_Equal_impl_Link_impl_Link.f (k + 1) a0 a1) := by
 intro a0 a1 k
 have ih0 := slices_Equal_impl_Link_impl_Link.mono_l k
 unfold slices_Equal_impl_Link_impl_Link.f
 with_reducible repeat' first | exact ih0 _ _ _ _ | exact LeO.refl _ | exact LeO.none _ | refine LeO.ite ?_ ?_ | refine LeO.bind ?_ (fun _ => ?_)
set_option maxHeartbeats 8000000 in
set_option maxRecDepth 100000 in
theorem slices_Equal_impl_Link_impl_Link.calls (k : Nat) (A0 : Option Addr) (c0 : Nat) (l0 : List (S87)) (A1 : Option Addr) (c1 : Nat) (l1 : List (S87)) (r : Bool) (w : World) (hr0 : Kd.C k87 w A0 l0.length l0) (hc0 : l0.length ≤ c0) (hr1 : Kd.C k87 w A1 l1.length l1) (hc1 : l1.length ≤ c1) (h : slices_Equal_impl_Link_impl_Link.f k l0 l1 = some r) :
  Calls Try.prog 102 #[.slice A0 l0.length c0, .slice A1 l1.length c1] w fun e w' => e = .returned (.bool r) ∧ Drawn0 w w' := by
 have hu87 := Try.underlying87; have HR0 := Aside0.mk hr0; have HC0 := Aside0.mk hc0; clear hr0 hc0; have HR1 := Aside0.mk hr1; have HC1 := Aside0.mk hc1; clear hr1 hc1; have H := h; unfold slices_Equal_impl_Link_impl_Link.f at H; clear h
 by_cases c3 : (l0.length : Int) = (l1.length : Int)
 ·rw [if_pos c3] at H
  have c3b0 : ((l0.length : Int) == (l1.length : Int)) = true := beq_iff_eq.mpr c3
  have c3b1 : ((l0.length : Int) != (l1.length : Int)) = false := bne_eq_false_iff_eq.mpr c3
  have c3b2 : (l0.length == l1.length) = true := by first | simpa using c3 | (simp at c3 ⊢; omega)
  clear c3; have H' := Aside0.mk H; clear H
  go_enter Try.func102, Try.ntmps102
  go_wp2
  repeat (go_quiet (fail); try go_wp2)
  go_loopg [13] k (fun kq v13 w' => ∃ (x13_1 : Int), v13 = .int .i64 x13_1 ∧ Aside0 (slices_Equal_impl_Link_impl_Link.l0 kq l0 l1 (l0.length : Int) x13_1 = some r) ∧ Aside0 (kq ≤ k) ∧ Drawn0 w w')
  case atStart => exact ⟨(0), rdT, H', ⟨Nat.le_refl _⟩, drT⟩
  case round =>
   clear H'; (try clear c1 p2 c3 c3b0 c3b1 c3b2); obtain ⟨x13_1, rfl, HA, HK1, ⟨m1, rfl⟩⟩ := hrel
   cases gk with
   | zero => exact absurd HA.out (by simp [slices_Equal_impl_Link_impl_Link.l0])
   | succ k1 =>
    have H := HA.out; clear HA
    simp only [slices_Equal_impl_Link_impl_Link.l0] at H
    by_cases c4 : x13_1 < (l0.length : Int)
    ·rw [if_pos c4] at H
     have c4b0 : decide (x13_1 < (l0.length : Int)) = true := decide_eq_true c4
     clear c4
     by_cases c5 : 0 ≤ x13_1
     ·rw [if_pos c5] at H
      have c5b0 : decide (0 ≤ x13_1) = true := decide_eq_true c5
      clear c5
      by_cases c6 : x13_1 < (l0.length : Int)
      ·rw [if_pos c6] at H
       have c6b0 : decide (x13_1 < (l0.length : Int)) = true := decide_eq_true c6
       clear c6
       by_cases c7 : x13_1 < (l1.length : Int)
       ·rw [if_pos c7] at H
        have c7b0 : decide (x13_1 < (l1.length : Int)) = true := decide_eq_true c7
        clear c7
        by_cases c8 : (!(((rd_T87 l0 x13_1).f0) == ((rd_T87 l1 x13_1).f0)) || (!(((rd_T87 l0 x13_1).f1) == ((rd_T87 l1 x13_1).f1)))) = true
        ·rw [if_pos c8] at H
         have c8b0 : (!(((rd_T87 l0 x13_1).f0) == ((rd_T87 l1 x13_1).f0)) || (!(((rd_T87 l0 x13_1).f1) == ((rd_T87 l1 x13_1).f1)))) = true := c8
         clear c8
         obtain rfl := Option.some.inj H
         have p110 : 0 ≤ (x13_1 : Int) := of_decide_eq_true asmT
         have q110 : x13_1 < (l0.length : Int) := of_decide_eq_true asmT
         obtain ⟨ad110, e110, hx110_0, hx110_1⟩ := at_T87 HR0.out x13_1 p110 q110
         cases e110
         replace p110 := eq_true p110; replace q110 := eq_true q110
         have p111 : 0 ≤ (x13_1 : Int) := of_decide_eq_true asmT
         have q111 : x13_1 < (l1.length : Int) := of_decide_eq_true asmT
         obtain ⟨ad111, e111, hx111_0, hx111_1⟩ := at_T87 HR1.out x13_1 p111 q111
         cases e111
         replace p111 := eq_true p111; replace q111 := eq_true q111
         go_wp2
         repeat (go_quiet (fail); try go_wp2)
         go_ret
         exact ⟨rdT, drT⟩
        ·rw [if_neg c8] at H
         have c8b0 : (!(((rd_T87 l0 x13_1).f0) == ((rd_T87 l1 x13_1).f0)) || (!(((rd_T87 l0 x13_1).f1) == ((rd_T87 l1 x13_1).f1)))) = false := by simpa using c8
         clear c8; have H' := Aside0.mk H; clear H
         have p110 : 0 ≤ (x13_1 : Int) := of_decide_eq_true asmT
         have q110 : x13_1 < (l0.length : Int) := of_decide_eq_true asmT
         obtain ⟨ad110, e110, hx110_0, hx110_1⟩ := at_T87 HR0.out x13_1 p110 q110
         cases e110
         replace p110 := eq_true p110; replace q110 := eq_true q110
         have p111 : 0 ≤ (x13_1 : Int) := of_decide_eq_true asmT
         have q111 : x13_1 < (l1.length : Int) := of_decide_eq_true asmT
         obtain ⟨ad111, e111, hx111_0, hx111_1⟩ := at_T87 HR1.out x13_1 p111 q111
         cases e111
         replace p111 := eq_true p111; replace q111 := eq_true q111
         go_wp2
         repeat (go_quiet (fail); try go_wp2)
         go_roundg k1
         case measure => have := HK1.out; omega
         case rel => exact ⟨(wrap64 (x13_1 + 1)), rdT, H', ⟨by have := HK1.out; omega⟩, drT⟩
       ·rw [if_neg c7] at H
        exact absurd H (by simp)
      ·rw [if_neg c6] at H
       exact absurd H (by simp)
     ·rw [if_neg c5] at H
      exact absurd H (by simp)
    ·rw [if_neg c4] at H
     have c4b0 : decide (x13_1 < (l0.length : Int)) = false := decide_eq_false c4
     clear c4
     obtain rfl := Option.some.inj H
     go_wp2
     repeat (go_quiet (fail); try go_wp2)
     go_ret
     exact ⟨rdT, drT⟩
 ·rw [if_neg c3] at H
  have c3b0 : ((l0.length : Int) == (l1.length : Int)) = false := beq_eq_false_iff_ne.mpr c3
  have c3b1 : ((l0.length : Int) != (l1.length : Int)) = true := bne_iff_ne.mpr c3
  have c3b2 : (l0.length == l1.length) = false := by first | simpa using c3 | (simp at c3 ⊢; omega)
  obtain rfl := Option.some.inj H
  go_enter Try.func102, Try.ntmps102
  go_wp2
  repeat (go_quiet (fail); try go_wp2)
  go_ret
  exact ⟨rdT, drT⟩

/-! ### impl_EqualCandidates: function 49 -/
def impl_EqualCandidates.f (k : Nat) (l0_0 : List (S87)) (l1_0 : List (S87)) : Option (Bool) := (slices_Equal_impl_Link_impl_Link.f k l0_0 l1_0).bind fun t114 => (some t114)
theorem impl_EqualCandidates.mono : ∀ a0 a1 k, LeO (impl_EqualCandidates.f k a0 a1) (impl_EqualCandidates.f (k + 1) a0 a1) := by
 intro a0 a1 k
 unfold impl_EqualCandidates.f
 with_reducible repeat' first | exact slices_Equal_impl_Link_impl_Link.mono _ _ _ | exact LeO.refl _ | exact LeO.none _ | refine LeO.ite ?_ ?_ | refine LeO.bind ?_ (fun _ => ?_)
set_option maxHeartbeats 8000000 in
set_option maxRecDepth 100000 in
theorem impl_EqualCandidates.calls (k : Nat) (A0_0 : Option Addr) (c0_0 : Nat) (l0_0 : List (S87)) (A1_0 : Option Addr) (c1_0 : Nat) (l1_0 : List (S87)) (r : Bool) (w : World) (hr0_0 : Kd.C k87 w A0_0 l0_0.length l0_0) (hc0_0 : l0_0.length ≤ c0_0) (hr1_0 : Kd.C k87 w A1_0 l1_0.length l1_0) (hc1_0 : l1_0.length ≤ c1_0) (h : impl_EqualCandidates.f k l0_0 l1_0 = some r) :
  Calls Try.prog 49 #[.agg #[.slice A0_0 l0_0.length c0_0], .agg #[.slice A1_0 l1_0.length c1_0]] w fun e w' => e = .returned (.bool r) ∧ Below w.heap.size w w' := by
 have hu26 := Try.underlying26; have HR0_0 := Aside0.mk hr0_0; have HC0_0 := Aside0.mk hc0_0; clear hr0_0 hc0_0; have HR1_0 := Aside0.mk hr1_0; have HC1_0 := Aside0.mk hc1_0; clear hr1_0 hc1_0; have HB := asT (Below.refl w.heap.size w); have H := h; unfold impl_EqualCandidates.f at H; clear h; obtain ⟨t114, A3, H⟩ := be H
 obtain rfl := Option.some.inj H
 go_enter Try.func49, Try.ntmps49
 go_wp2_with (first | ((with_reducible refine gate_dst (N := 2) rfl ?_); refine boxT (N := 2) (cs := #[.slice A0_0 l0_0.length c0_0]) (t := 26) ?_; intro gb112 hg w4 hbox hb; have BK112 := asT hbox; have GW112 := asT (geT hg HB.out); have GE112 := GW112; replace HB := hS HB hb; clear hb hbox hg) | ((with_reducible refine gate_dst (N := 3) rfl ?_); refine boxT (N := 3) (cs := #[.slice A1_0 l1_0.length c1_0]) (t := 26) ?_; intro gb113 hg w5 hbox hb; have BK113 := asT (hbox); have GW113 := asT (geT hg HB.out); have GE113 := asT (geT hg HB.out); replace HB := hS HB hb; have NB112_113 := asT ((by rw [hg]; exact Nat.ne_of_lt (blk_lt (bkT BK112.out)) : gb112 ≠ gb113)); have NB113_112 := asT ((by rw [hg]; exact Nat.ne_of_gt (blk_lt (bkT BK112.out)) : gb113 ≠ gb112)); replace BK112 := bS BK112 hb; clear hb hbox hg; have hnb6 := NB112_113.out; have hnc6 := NB113_112.out; obtain ⟨hcz7_0, hfz7_0⟩ := bx1 BK112.out; obtain ⟨hcz8_0, hfz8_0⟩ := bx1 BK113.out) | ((with_reducible refine gate_callee (f := 102) rfl ?_); refine goesL_ (some 9) rfl rfl Try.func102 (by kernel_rfl) rfl #[.slice A0_0 l0_0.length c0_0, .slice A1_0 l1_0.length c1_0] rfl eqT ?_; (with_reducible refine (slices_Equal_impl_Link_impl_Link.calls k _ _ l0_0 _ _ l1_0 t114 _ ?side1 ?side2 ?side3 ?side4 A3.out).mono ?_); (case side1 => exact crT HR0_0.out HB.out); (case side2 => exact HC0_0.out); (case side3 => exact crT HR1_0.out HB.out); (case side4 => exact HC1_0.out); rintro e w' ⟨rfl, ⟨nd, rfl⟩⟩; refine ⟨_, rfl, ?_⟩))
 go_ret
 exact ⟨rlT, hbT HB.out⟩

end Go.Proofs.Ytmfhaplhgaehhaa.PFnExactIsGenerated
