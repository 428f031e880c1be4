-- Made by gen.py (a program of this session) out of the translation; Lean checks it.
import Derived.Test.YtlmfpkiaikjlbaaGreatPFnExactTableauOfx0
import Derived.Test.YtlmfpkiaikjlbaaGreatPFnExactTableauOfx5
namespace Go.Proofs.YtlmfpkiaikjlbaaGreat.PFnExactTableauOf
open Go.RowKit Go.Proofs.YtlmfpkiaikjlbaaGreatB Go.Proofs.YtlmfpkiaikjlbaaGreatW.PrintWords Go.Proofs.YtlmfpkiaikjlbaaGreatW.PrintLast Go.Proofs.YtlmfpkiaikjlbaaGreatW.PrintMore
attribute [local go_sem] max2_int min2_int max_two min_two max_three min_three max_four min_four   -- for this text's walks alone
set_option linter.unusedVariables false
set_option maxHeartbeats 8000000
set_option maxRecDepth 100000
set_option linter.unusedSimpArgs false
def impl_areSounds.l0 : Nat → ByteArray → Int → Int → Option (Bool)
 | 0, _, _, _ => none
 | k + 1, x0, x5, x6 => if x6 < x5 then (if 0 ≤ x6 then (if x6 < (x0.size : Int) then ((impl_IsSound.f (bt x0 x6)).bind fun t315 => (if t315 = true then (impl_areSounds.l0 k x0 x5 (wrap64 (x6 + 1))) else (some false))) else (none)) else (none)) else ((impl_within.f (x0.size : Int) 1 20).bind fun t316 => (some t316))
def impl_areSounds.f (k : Nat) (a0 : ByteArray) : Option (Bool) := impl_areSounds.l0 k a0 (a0.size : Int) 0
theorem impl_areSounds.mono_l : ∀ k, (∀ y0 y1 y2, LeO (impl_areSounds.l0 k y0 y1 y2) (impl_areSounds.l0 (k + 1) y0 y1 y2))
 | 0 => fun _ _ _ r h => by simp [impl_areSounds.l0] at h
 | k + 1 => by
  have ih0 := impl_areSounds.mono_l k
  ·intro y0 y1 y2; unfold impl_areSounds.l0
   with_reducible repeat' first | exact ih0 _ _ _ | exact LeO.refl _ | exact LeO.none _ | refine LeO.ite ?_ ?_ | refine LeO.bind ?_ (fun _ => ?_)
theorem impl_areSounds.mono : ∀ a0 k, LeO (impl_areSounds.f k a0) (impl_areSounds.f (k + 1) a0) := by
 intro a0 k; have ih0 := impl_areSounds.mono_l k; unfold impl_areSounds.f
 with_reducible repeat' first | exact ih0 _ _ _ | exact LeO.refl _ | exact LeO.none _ | refine LeO.ite ?_ ?_ | refine LeO.bind ?_ (fun _ => ?_)
theorem impl_areSounds.calls (k : Nat) (a0 : ByteArray) (r : Bool) (w : World) (h : impl_areSounds.f k a0 = some r) :
  Calls Tryz.prog 83 #[.string a0] w fun e w' => e = .returned (.bool r) ∧ Drawn0 w w' := by
 have H := h; unfold impl_areSounds.f at H; clear h; have H' := asT H; clear H; go_enter Tryz.func83, Tryz.ntmps83
 go_wp2
 go_loopg [6] k (fun kq v6 w' => ∃ (x6_1 : Int), v6 = .int .i64 x6_1 ∧ Aside0 (impl_areSounds.l0 kq a0 (a0.size : Int) x6_1 = some r) ∧ Aside0 (kq ≤ k) ∧ Drawn0 w w')
 case atStart => exact ⟨(0), rdT, H', ⟨Nat.le_refl _⟩, drT⟩
 case round =>
  clear H'; obtain ⟨x6_1, rfl, HA, HK1, ⟨m1, rfl⟩⟩ := hrel
  cases gk with
  | zero => exact absurd HA.out (by simp [impl_areSounds.l0])
  | succ k1 =>
   have H := HA.out; clear HA
   simp only [impl_areSounds.l0] at H
   by_cases c2 : x6_1 < (a0.size : Int)
   ·rw [if_pos c2] at H; have c2b0 := dt c2; clear c2; by_cases c3 : 0 ≤ x6_1
    ·rw [if_pos c3] at H; have c3b0 := dt c3; clear c3; by_cases c4 : x6_1 < (a0.size : Int)
     ·rw [if_pos c4] at H; have c4b0 := dt c4; clear c4; obtain ⟨t315, A6, H⟩ := be H; by_cases c7 : t315 = true
      ·subst c7; rw [if_pos rfl] at H; have H' := asT H; clear H; have p5 : 0 ≤ (x6_1 : Int) := dT asmT; have q5 : x6_1 < (a0.size : Int) := dT asmT; have hx5 := bt_at a0 x6_1; replace p5 := eq_true p5; replace q5 := eq_true q5
       go_wp2_with (first | ((with_reducible refine gate_callee (f := 123) rfl ?_); refine goesL_ (some 12) rfl rfl Tryz.func123 (by kernel_rfl) rfl #[.int .u8 (bt a0 x6_1)] rfl eqT ?_; (with_reducible refine (impl_IsSound.calls (bt a0 x6_1) true _ A6.out).mono ?_); rintro e w' ⟨rfl, ⟨nd, rfl⟩⟩; refine ⟨_, rfl, ?_⟩))
       go_roundg k1
       case measure => have := HK1.out; omega
       case rel => exact ⟨(wrap64 (x6_1 + 1)), rdT, H', ⟨by have := HK1.out; omega⟩, drT⟩
      ·replace c7 := eE c7; subst c7; rw [if_neg nF] at H; have H1 := H; clear H; have H := H1; clear H1; obtain rfl := oI H; have p5 : 0 ≤ (x6_1 : Int) := dT asmT; have q5 : x6_1 < (a0.size : Int) := dT asmT; have hx5 := bt_at a0 x6_1; replace p5 := eq_true p5; replace q5 := eq_true q5
       go_wp2_with (first | ((with_reducible refine gate_callee (f := 123) rfl ?_); refine goesL_ (some 12) rfl rfl Tryz.func123 (by kernel_rfl) rfl #[.int .u8 (bt a0 x6_1)] rfl eqT ?_; (with_reducible refine (impl_IsSound.calls (bt a0 x6_1) false _ A6.out).mono ?_); rintro e w' ⟨rfl, ⟨nd, rfl⟩⟩; refine ⟨_, rfl, ?_⟩))
       go_ret; exact ⟨rdT, drT⟩
     ·rw [if_neg c4] at H; exact absurd H (by simp)
    ·rw [if_neg c3] at H; exact absurd H (by simp)
   ·rw [if_neg c2] at H; have c2b0 := df c2; clear c2; obtain ⟨t316, A8, H⟩ := be H; obtain rfl := oI H
    go_wp2_with (first | ((with_reducible refine gate_callee (f := 82) rfl ?_); refine goesL_ (some 17) rfl rfl Tryz.func82 (by kernel_rfl) rfl #[.int .i64 (a0.size : Int), .int .i64 1, .int .i64 20] rfl eqT ?_; (with_reducible refine (impl_within.calls (a0.size : Int) 1 20 t316 _ A8.out).mono ?_); rintro e w' ⟨rfl, ⟨nd, rfl⟩⟩; refine ⟨_, rfl, ?_⟩))
    go_ret; exact ⟨rdT, drT⟩
def impl_IsForm.f (k : Nat) (a0 : ByteArray) : Option (Bool) := if a0.toList = ([] : List UInt8) then (some true) else (if (a0.size : Int) ≤ 8 then ((impl_areSounds.f k a0).bind fun t317 => (some t317)) else (some false))
theorem impl_IsForm.mono : ∀ a0 k, LeO (impl_IsForm.f k a0) (impl_IsForm.f (k + 1) a0) := by
 intro a0 k; unfold impl_IsForm.f
 with_reducible repeat' first | exact impl_areSounds.mono _ _ | exact LeO.refl _ | exact LeO.none _ | refine LeO.ite ?_ ?_ | refine LeO.bind ?_ (fun _ => ?_)
theorem impl_IsForm.calls (k : Nat) (a0 : ByteArray) (r : Bool) (w : World) (h : impl_IsForm.f k a0 = some r) :
  Calls Tryz.prog 40 #[.string a0] w fun e w' => e = .returned (.bool r) ∧ Drawn0 w w' := by
 have H := h; unfold impl_IsForm.f at H; clear h; by_cases c2 : a0.toList = ([] : List UInt8)
 ·rw [if_pos c2] at H; have c2b0 : (a0.toList == ([] : List UInt8)) = true := eC c2; have c2b1 : (a0.toList != ([] : List UInt8)) = false := eA c2; clear c2; obtain rfl := oI H; go_enter Tryz.func40, Tryz.ntmps40
  go_wp2
  go_ret; exact ⟨rdT, drT⟩
 ·rw [if_neg c2] at H; have c2b0 : (a0.toList == ([] : List UInt8)) = false := eB c2; have c2b1 : (a0.toList != ([] : List UInt8)) = true := eD c2; by_cases c3 : (a0.size : Int) ≤ 8
  ·rw [if_pos c3] at H; have c3b0 := dt c3; have c3b1 : decide (a0.size ≤ 8) = true := dt (by omega); clear c3; obtain ⟨t317, A4, H⟩ := be H; obtain rfl := oI H; go_enter Tryz.func40, Tryz.ntmps40
   go_wp2_with (first | (go_at_call 83; (with_reducible refine (impl_areSounds.calls k a0 t317 _ A4.out).mono ?_); rintro e w' ⟨rfl, ⟨nd, rfl⟩⟩))
   go_ret; exact ⟨rdT, drT⟩
  ·rw [if_neg c3] at H; have c3b0 := df c3; have c3b1 : decide (a0.size ≤ 8) = false := df (by omega); clear c3; obtain rfl := oI H; go_enter Tryz.func40, Tryz.ntmps40
   go_wp2
   go_ret; exact ⟨rdT, drT⟩
def slices_Clone_string_string.f (l0 : List ByteArray) : Option (List ByteArray) := if l0.length < 8796093022208 then some l0 else none
theorem slices_Clone_string_string.calls (A0 : Option Addr) (c0 : Nat) (l0 : List ByteArray) (r : List ByteArray) (w : World) (hr0 : Kd.C Kd.string w A0 l0.length l0) (hc0 : l0.length ≤ c0) (h : slices_Clone_string_string.f l0 = some r) :
    Calls Tryz.prog 41 #[.slice A0 l0.length c0] w fun e w' => ∃ v0_ : Value, e = .returned (v0_) ∧ Kd.R Kd.string 9 w' w.heap.size (fun _ => True) v0_ r ∧ Below w.heap.size w w' := by
  unfold slices_Clone_string_string.f at h
  split at h
  · rename_i hl
    obtain rfl := oI h
    have q22 : ∀ (w : World) (a : Option Addr) (n c n' c' : Nat), (binOp .eql 22 (.slice a n c) (.slice none n' c')).run Tryz.prog w = .ok (.bool a.isNone) w := fun w a n c n' c' => Lib.run_eql_slice_nil w _ _ a n c n' c' Tryz.underlying22
    have HR := asT hr0; have HL := asT hl; have HB := asT (Below.refl w.heap.size w); clear hr0 hl h
    cases A0 with
    | none =>
      have e : l0 = [] := by
        cases l0 with
        | nil => rfl
        | cons x t =>
          obtain ⟨ad, c, e, _⟩ := Kd.C_get HR.out ByteArray.empty 0 (Int.le_refl _) (by simp)
          cases e
      subst e; go_enter Tryz.func41, Tryz.ntmps41
      go_wp2
      go_ret; exact ⟨_, rfl, Kd.R_nil _ _ _ _ _, HB.out⟩
    | some ad =>
      go_enter Tryz.func41, Tryz.ntmps41
      go_wp2_with (first
        | ((with_reducible refine gate_dst (N := 5) rfl ?_); refine Kd.R_lit Kd.string _ 9 ?hg (N := 5) ?hd (xs := ([] : List ByteArray)) (inner := []) (ok := fun _ => True) (okp := fun _ => True) ?hr ?hp (fun _ hk => hk) trivial (Below.refl _ _) (Nat.le_refl _) (by simp) ?_; (case hd => rfl); (case hg => rfl); (case hr => first | (go_simp; done) | (go_simp; rfl)); (case hp => exact (Reps.none _ _)); intro v5 w3 ho hb hg_ hnew_; clear hg_ hnew_; have HO := asT (Kd.R_lower ho (below_size (hbT HB.out))); have HR3 := asT (Kd.C_below HR.out hb); replace HB := asT (below_step HB.out hb); clear ho hb)
        | ((with_reducible refine gate_builtin (b := .append) (xs := #[.tmp 5, .tmp 6]) rfl ?_); (try (refine gate_guard (by rfl) ?_; dsimp only)); at_builtin; refine Kd.R_append_rows Kd.string (w0 := w) w.heap.size rfl (.tmp 5) (.tmp 6) 22 9 (.string ⟨#[]⟩) 16 rfl Tryz.underlying22 info9 rfl (by decide) (by omega) v5 [] l0 _ _ _ (fun _ => True) (fun _ => False) rfl rfl ?aO ?aR (fun _ _ h => h) (fun _ h => h.elim) ?aF ?aB ?aS ?aL ?_; (case aR => exact HR3.out); (case aB => exact (hbT HB.out)); (case aF => exact (fun _ _ => trivial)); (case aO => exact (roT HO.out)); (case aS => exact (below_size (hbT HB.out))); (case aL => have := HL.out; simp only [List.length_nil]; omega); intro v7 w7 ho hb hg hat; have HB7 := asT hb; have HO7 := asT ho; clear ho hb hg hat))
      go_ret; exact ⟨_, rfl, HO7.out, HB7.out⟩
  · cases h
def impl_SwapVoice.f (a0 : Int) : Option (Int × Bool) := (strings_IndexByte.f (⟨#[112, 116, 98, 100]⟩ : ByteArray) a0).bind fun t318 => (if t318 < 0 then (some (a0, false)) else (if 0 ≤ t318 then (if t318 < 4 then (some (bt (⟨#[98, 100, 112, 116]⟩ : ByteArray) t318, true)) else (none)) else (none)))
theorem impl_SwapVoice.calls (a0 : Int) (r1 : Int) (r2 : Bool) (w : World) (h : impl_SwapVoice.f a0 = some (r1, r2)) :
  Calls Tryz.prog 126 #[.int .u8 a0] w fun e w' => e = .returned (.tuple #[.int .u8 r1, .bool r2]) ∧ Drawn0 w w' := by
 have H := h; unfold impl_SwapVoice.f at H; clear h; obtain ⟨t318, A2, H⟩ := be H; by_cases c3 : t318 < 0
 ·rw [if_pos c3] at H; have c3b0 := dt c3; clear c3
  simp only [Option.some.injEq, Prod.mk.injEq] at H
  obtain ⟨rfl, rfl⟩ := H; go_enter Tryz.func126, Tryz.ntmps126
  go_wp2_with (first | ((with_reducible refine gate_callee (f := 156) rfl ?_); refine goesL_ (some 6) rfl rfl Tryz.func156 (by kernel_rfl) rfl #[.string (⟨#[112, 116, 98, 100]⟩ : ByteArray), .int .u8 a0] rfl eqT ?_; (with_reducible refine (strings_IndexByte.calls (⟨#[112, 116, 98, 100]⟩ : ByteArray) a0 t318 _ A2.out).mono ?_); rintro e w' ⟨rfl, ⟨nd, rfl⟩⟩; refine ⟨_, rfl, ?_⟩))
  go_ret2
  exact ⟨rdT, drT⟩
 ·rw [if_neg c3] at H; have c3b0 := df c3; clear c3; by_cases c4 : 0 ≤ t318
  ·rw [if_pos c4] at H; have c4b0 := dt c4; clear c4; by_cases c5 : t318 < 4
   ·rw [if_pos c5] at H; have c5b0 := dt c5; clear c5
    simp only [Option.some.injEq, Prod.mk.injEq] at H
    obtain ⟨rfl, rfl⟩ := H; go_enter Tryz.func126, Tryz.ntmps126
    go_wp2_with (first | ((with_reducible refine gate_callee (f := 156) rfl ?_); refine goesL_ (some 6) rfl rfl Tryz.func156 (by kernel_rfl) rfl #[.string (⟨#[112, 116, 98, 100]⟩ : ByteArray), .int .u8 a0] rfl eqT ?_; (with_reducible refine (strings_IndexByte.calls (⟨#[112, 116, 98, 100]⟩ : ByteArray) a0 t318 _ A2.out).mono ?_); rintro e w' ⟨rfl, ⟨nd, rfl⟩⟩; refine ⟨_, rfl, ?_⟩; have p6 : 0 ≤ (t318 : Int) := dT asmT; have q6 : t318 < (4 : Int) := dT asmT; have hx6 := bt_at (⟨#[98, 100, 112, 116]⟩ : ByteArray) t318; replace p6 := eq_true p6; replace q6 := eq_true q6))
    go_ret2
    exact ⟨rdT, drT⟩
   ·rw [if_neg c5] at H; exact absurd H (by simp)
  ·rw [if_neg c4] at H; exact absurd H (by simp)
theorem genInfoC : (Tryz.prog.info? 60).map (fun i => (i.zero, i.size, i.bytes)) = some (some (.agg #[(.slice none 0 0)]), 1, 24) := by kernel_rfl
structure GInv (s : ByteArray) (Bl Br Bs Bo : Nat) (w0 w : World) (v : Value) (L : List S109) (u : Value) (O : List S60) : Prop where
  nl : w0.heap.size ≤ Bl
  no : w0.heap.size ≤ Bo
  hl : w.heap[Bl]? = some (.cells #[v] 58 (0, 0))
  hr : w.heap[Br]? = some (.cells #[.func (.func 124) #[] #[.pointer (some ⟨Bl, 0, none⟩), .pointer (some ⟨Br, 0, none⟩), .pointer (some ⟨Bs, 0, none⟩), .pointer (some ⟨Bo, 0, none⟩)]] 115 (0, 0))
  hs : w.heap[Bs]? = some (.cells #[.string s] 9 (0, 0))
  ho : w.heap[Bo]? = some (.cells #[u] 24 (0, 0))
  oL : Kd.R k109 109 w w0.heap.size (fun _ => True) v L
  oO : Kd.S k60 60 w w0.heap.size (fun k => some k ≠ v.ownBlock) u O
  bel : Below w0.heap.size w0 w
section
variable {s : ByteArray} {Bl Br Bs Bo : Nat} {w0 w w1 w2 : World} {v v1 u u1 : Value} {L : List S109} {O : List S60}
theorem GInv.below (I : GInv s Bl Br Bs Bo w0 w v L u O) (hb : Below w.heap.size w w1) : GInv s Bl Br Bs Bo w0 w1 v L u O :=
  ⟨I.nl, I.no, blk_below I.hl hb, blk_below I.hr hb, blk_below I.hs hb, blk_below I.ho hb, Kd.R_below I.oL hb, Kd.S_below I.oO hb, below_step I.bel hb⟩
theorem GInv.push (I : GInv s Bl Br Bs Bo w0 w v L u O) (x : S109) (hv : Kd.R k109 109 w1 w0.heap.size (fun _ => True) v1 (L ++ [x])) (hb : Below w0.heap.size w0 w1) (hg : w.grownBy w1 v.ownBlock) (hat : v1.ownBlock = v.ownBlock ∨ ∃ b, v1.ownBlock = some b ∧ w.heap.size ≤ b) :
    GInv s Bl Br Bs Bo w0 (w1.setCell ⟨Bl, 0, none⟩ v1) v1 (L ++ [x]) u O := by
  have el := blk_grown I.hl hg (Kd.R_ne I.oL I.hl (by decide)); have er := blk_grown I.hr hg (Kd.R_ne I.oL I.hr (by decide)); have es := blk_grown I.hs hg (Kd.R_ne I.oL I.hs (by decide)); have eo := blk_grown I.ho hg (Kd.R_ne I.oL I.ho (by decide)); refine ⟨I.nl, I.no, blk_set el 0 v1, blk_far er (blk_ne er el (by decide)) _, blk_far es (blk_ne es el (by decide)) _, blk_far eo (blk_ne eo el (by decide)) _, Kd.R_set hv el (by decide) 0 v1, ?_, hb.setCell (p := ⟨Bl, 0, none⟩) I.nl v1⟩; exact Kd.S_mono (Kd.S_set (Kd.S_after (ok := fun _ => True) (Kd.S_mono I.oO (fun _ h => ⟨trivial, h⟩)) hg hat) el (by decide) 0 v1) (fun _ h => h.2)
theorem GInv.pop {A : Option Addr} {n c : Nat} {x : S109} (I : GInv s Bl Br Bs Bo w0 w (.slice A n c) (L ++ [x]) u O) :
    GInv s Bl Br Bs Bo w0 (w.setCell ⟨Bl, 0, none⟩ (.slice A L.length c)) (.slice A L.length c) L u O := by
  have hne : (Value.slice A L.length c).ownBlock = (Value.slice A n c).ownBlock := by cases A <;> rfl
  have ht := Kd.R_take I.oL (m := L.length) (by simp); rw [List.take_left'] at ht
  · refine ⟨I.nl, I.no, blk_set I.hl 0 _, blk_far I.hr (blk_ne I.hr I.hl (by decide)) _, blk_far I.hs (blk_ne I.hs I.hl (by decide)) _, blk_far I.ho (blk_ne I.ho I.hl (by decide)) _, Kd.R_set ht I.hl (by decide) 0 _, ?_, I.bel.setCell (p := ⟨Bl, 0, none⟩) I.nl _⟩; rw [hne]; exact Kd.S_set I.oO I.hl (by decide) 0 _
  · rfl
end
/-- what a call of rest(i, left) comes to -/
def GRest (s : ByteArray) (Bl Br Bs Bo : Nat) (w0 : World) (i left : Nat) (R : List (List S109)) : Prop :=
  ∀ (w : World) (v : Value) (L : List S109) (u : Value) (O : List S60), GInv s Bl Br Bs Bo w0 w v L u O → L.length + (s.size - i) + left < 1000 → O.length + R.length ≤ 1000000 →
    Calls Tryz.prog 124 #[.int .i64 (i : Int), .int .i64 (left : Int), .pointer (some ⟨Bl, 0, none⟩), .pointer (some ⟨Br, 0, none⟩), .pointer (some ⟨Bs, 0, none⟩), .pointer (some ⟨Bo, 0, none⟩)] w fun e w' =>
      e = .returned (.tuple #[]) ∧ ∃ v' u', GInv s Bl Br Bs Bo w0 w' v' L u' (O ++ R.map fun c => ⟨L ++ c⟩)
def GGo (s : ByteArray) (Bl Br Bs Bo : Nat) (w0 : World) (x : S109) (i left : Nat) (R : List (List S109)) : Prop :=
  ∀ (w : World) (v : Value) (L : List S109) (u : Value) (O : List S60), GInv s Bl Br Bs Bo w0 w v L u O → L.length + 1 + (s.size - i) + left < 1000 → O.length + R.length ≤ 1000000 →
    Calls Tryz.prog 125 #[.agg #[.int .u8 x.f0, .int .u8 x.f1], .int .i64 (i : Int), .int .i64 (left : Int), .pointer (some ⟨Bl, 0, none⟩), .pointer (some ⟨Br, 0, none⟩)] w fun e w' =>
      e = .returned (.tuple #[]) ∧ ∃ v' u', GInv s Bl Br Bs Bo w0 w' v' L u' (O ++ (R.map (x :: ·)).map fun c => ⟨L ++ c⟩)
theorem go1_any (s : ByteArray) (Bl Br Bs Bo : Nat) (w0 : World) (x : S109) (i left : Nat) (R : List (List S109)) (hR : GRest s Bl Br Bs Bo w0 i left R) : GGo s Bl Br Bs Bo w0 x i left R := by
  intro w v L u O I hL hO; go_enter Tryz.func125, Tryz.ntmps125
  go_wp2_with (first
    | ((with_reducible refine gate_dst (N := 5) rfl ?_); refine boxT (N := 5) (cs := #[.int .u8 x.f0, .int .u8 x.f1]) (t := 109) ?_; intro gx hgx w1 hbox hb; have I1 := I.below hb; have x0 := bc0 hbox; have x1 := bc1 hbox; have cl := bc0 I1.hl; clear hb hgx)
    | ((with_reducible refine gate_builtin (b := .append) (xs := #[.tmp 8, .tmp 10]) rfl ?_); at_builtin; refine Kd.R_append k109 (w0 := w0) w0.heap.size rfl (.tmp 8) (.tmp 10) 58 109 (.agg #[(.int .u8 0), (.int .u8 0)]) 2 rfl Tryz.underlying58 info109 rfl (by decide) (by omega) v L x [.int .u8 x.f0, .int .u8 x.f1] (fun _ => True) (fun _ => False) rfl (by first | (go_simp; done) | (go_simp; rfl)) ?aP (fun _ hk => hk.elim) (fun _ _ => trivial) I1.oL I1.bel I1.bel.size (by omega) ?_; (case aP => exact k109_mkM _ _ _ x); intro v1_ w2 ho hb hg hat; obtain ⟨A1, c1, e1⟩ := Kd.R_slice ho; subst e1; have I2 := I1.push x ho hb hg hat; have f2 := blk_frozen (blk_grown I1.hl hg (Kd.R_ne I1.oL I1.hl (by decide))) 0; have c2 := bc0 (blk_grown I1.hl hg (Kd.R_ne I1.oL I1.hl (by decide))))
    | ((with_reducible refine gate_store (t := 58) (p := 3) rfl ?_); refine store_event (t := 58) (p := 3) (v := .tmp 11) (w1 := w2.setCell ⟨Bl, 0, none⟩ (.slice A1 (L ++ [x]).length c1)) ?hg ?ho ?hn ?hr ?_; (case ho => rfl); (case hg => rfl); (case hn => rfl); (case hr => first | (go_simp; done) | (go_simp; rfl)); intro w3 hw3; rw [← hw3] at I2; clear hw3; have cr := bc0 I2.hr)
    | (go_at_call 124; refine (hR w3 _ (L ++ [x]) u O I2 (by rw [List.length_append]; simp; omega) hO).mono ?_; rintro e w4 ⟨rfl, v4, u4, I4⟩; obtain ⟨A4, c4, e4, hc4, _⟩ := Kd.R_reads I4.oL; subst e4; have hc5 : L.length ≤ c4 := (by rw [List.length_append] at hc4; omega); have cl4 := bc0 I4.hl; have fl4 := blk_frozen I4.hl 0))
  go_end0
  refine ⟨rfl, .slice A4 L.length c4, u4, ?_⟩; have h := I4.pop; rw [List.map_map]
  simpa [Function.comp_def] using h
theorem cloneLinks (A : Option Addr) (c : Nat) (L : List S109) (w : World) (hr : Kd.C k109 w A L.length L) (hc : L.length ≤ c) (hl : L.length ≤ 1000) :
    Calls Tryz.prog 127 #[.slice A L.length c] w fun e w' => ∃ v, e = .returned v ∧ Kd.R k109 109 w' w.heap.size (fun _ => True) v L ∧ Below w.heap.size w w' := by
  have hq : ∀ (W : World) (a : Option Addr) (n c n' c' : Nat), (binOp .eql 58 (.slice a n c) (.slice none n' c')).run Tryz.prog W = .ok (.bool a.isNone) W := fun W a n c n' c' => Lib.run_eql_slice_nil W 58 109 a n c n' c' Tryz.underlying58
  cases A with
  | none =>
    have h0 : L = [] := by
      by_cases h : 0 < L.length
      · obtain ⟨ad, e, _⟩ := hr.2.2 h
        cases e
      · exact List.length_eq_zero_iff.1 (by omega)
    subst h0; go_enter Tryz.func127, Tryz.ntmps127
    go_wp2_with fail
    go_ret; exact ⟨_, rfl, Kd.R_nil _ _ _ _ _, Below.refl _ _⟩
  | some ad =>
    go_enter Tryz.func127, Tryz.ntmps127
    go_wp2_with (first
      | ((with_reducible refine gate_dst (N := 5) rfl ?_); refine Kd.R_lit k109 _ 109 ?hg (N := 5) ?hd (xs := ([] : List S109)) (inner := []) (ok := fun _ => True) (okp := fun _ => True) ?hr ?hp (fun _ hk => hk) trivial (Below.refl _ _) (Nat.le_refl _) (by simp) ?_; (case hd => rfl); (case hg => rfl); (case hr => first | (go_simp; done) | (go_simp; rfl)); (case hp => exact (Reps.none _ _)); intro v1 w1 ho hb hg1 hnew; obtain ⟨A1, c1, e1⟩ := Kd.R_slice ho; subst e1)
      | ((with_reducible refine gate_builtin (b := .append) (xs := #[.tmp 5, .tmp 6]) rfl ?_); at_builtin; refine Kd.R_append_rows k109 (w0 := w) (Rr := k109.K w1) w.heap.size rfl (.tmp 5) (.tmp 6) 58 109 (.agg #[(.int .u8 0), (.int .u8 0)]) 2 rfl Tryz.underlying58 info109 rfl (by decide) (by omega) _ [] L (some ad) L.length c (fun _ => True) (fun _ => False) rfl rfl ho (Kd.C_below hr hb) (fun _ _ h => h) (fun _ h => h.elim) (fun _ _ => trivial) hb hb.size (by simp; omega) ?_; intro v2 w2 ho2 hb2 hg2 hat2))
    go_ret; exact ⟨_, rfl, ho2, hb2⟩
section
variable {s : ByteArray} {Bl Br Bs Bo : Nat} {w0 w w1 w2 : World} {v v1 u u1 cv : Value} {L : List S109} {O : List S60}
theorem GInv.emit (I : GInv s Bl Br Bs Bo w0 w1 v L u O) (ho : Kd.S k60 60 w2 w0.heap.size (fun k => some k ≠ v.ownBlock) u1 (O ++ [⟨L⟩])) (hB : Below w0.heap.size w0 w2) (hg : w1.grownBy w2 u.ownBlock) :
    GInv s Bl Br Bs Bo w0 (w2.setCell ⟨Bo, 0, none⟩ u1) v L u1 (O ++ [⟨L⟩]) := by
  have el := blk_grown I.hl hg (Kd.S_ne I.oO I.hl (by decide)); have er := blk_grown I.hr hg (Kd.S_ne I.oO I.hr (by decide)); have es := blk_grown I.hs hg (Kd.S_ne I.oO I.hs (by decide)); have eo := blk_grown I.ho hg (Kd.S_ne I.oO I.ho (by decide))
  exact ⟨I.nl, I.no, blk_far el (blk_ne el eo (by decide)) _, blk_far er (blk_ne er eo (by decide)) _, blk_far es (blk_ne es eo (by decide)) _, blk_set eo 0 u1,
    Kd.R_set (Kd.R_over' I.oL (Kd.S_typed I.oO) (by decide) hg) eo (by decide) 0 u1, Kd.S_set ho eo (by decide) 0 u1, hB.setCell (p := ⟨Bo, 0, none⟩) I.no u1⟩
theorem emit_ok (I : GInv s Bl Br Bs Bo w0 w v L u O) (hc : Kd.R k109 109 w1 w.heap.size (fun _ => True) cv L) (k : Nat) (hk : some k = cv.ownBlock) : some k ≠ v.ownBlock ∧ some k ≠ u.ownBlock := by
  have h1 := Kd.R_base hc k hk.symm; exact ⟨fun e => by have := Kd.R_lt I.oL k e.symm; omega, fun e => by have := Kd.S_lt I.oO k e.symm; omega⟩
theorem emit_row (I : GInv s Bl Br Bs Bo w0 w v L u O) (hb : Below w.heap.size w w1) (hc : Kd.R k109 109 w1 w.heap.size (fun _ => True) cv L) : Kd.S k60 60 w1 w0.heap.size (fun k => some k ≠ v.ownBlock ∧ ¬ some k = cv.ownBlock) u O :=
  Kd.S_below (Kd.S_mono (Kd.S_bound I.oO) (fun k hk => ⟨hk.1, fun e => by have := Kd.R_base hc k e.symm; have := hk.2.2.1; omega⟩)) hb
end
def restT8 : Bool × List (List Nat × List Nat) := (true, [([], []), ([], []), ([1], [1]), ([2], [2]), ([3], [3]), ([0, 4, 2], [0, 4]), ([5, 5, 0, 1, 2, 3, 4, 5], [5])])
theorem rest_tab8 : rtab .any (opsOf Tryz.f124 8) = restT8 := by kernel_rfl
theorem rest_bits8 : waitsOk restT8.2 [0, 0, 2, 6, 14, 31, 63] = true := by kernel_rfl
theorem bt_nat' (s : ByteArray) (i : Nat) : ∀ h : i < s.size, ((s[i]'h).toNat : Int) = bt s (i : Int) := fun h => by simp [bt, h]
theorem wrap_less {l : Nat} (h : l < 1000) : wrap64 (((l + 1 : Nat) : Int) - 1) = (l : Int) := by unfold wrap64; omega
theorem rest_in0 (s : ByteArray) (hsz : s.size ≤ 1000) (Bl Br Bs Bo : Nat) (w0 : World) (i : Nat) (hi : i < s.size) (R0 : List (List S109)) (hR0 : GGo s Bl Br Bs Bo w0 ⟨bt s i, bt s i⟩ (i + 1) 0 R0) : GRest s Bl Br Bs Bo w0 i 0 (R0.map ((⟨bt s i, bt s i⟩ : S109) :: ·)) := by
  intro w v L u O I hL hO; have cl := bc0 I.hl; have cs := bc0 I.hs; have hx := bt_nat' s i
  have hw : wrap64 ((i : Int) + 1) = ((i + 1 : Nat) : Int) := by unfold wrap64; omega
  simp only [List.length_append, List.length_map, List.length_cons, List.length_nil] at hO
  go_enter Tryz.func124, Tryz.ntmps124
  go_wp2_with fail
  go_still_tail 11, (by kernel_rfl)
  change wpList _ _ _ _ _ w.drew
  have I0 := I.below (below_drew (Below.refl _ _)); generalize w.drew = wa at I0
  go_wp2_with (first
    | (go_at_call 125; refine calls_of_args (args' := #[.agg #[.int .u8 (bt s i), .int .u8 (bt s i)], .int .i64 ((i + 1 : Nat) : Int), .int .i64 ((0 : Nat) : Int), .pointer (some ⟨Bl, 0, none⟩), .pointer (some ⟨Br, 0, none⟩)]) (by first | rfl | (rw [hw]; rfl) | (rw [hw, hv]) | (rw [hv]; rfl)) ?_; refine (hR0 wa v L u _ I0 (by omega) (by first | omega | (simp only [List.length_append, List.length_map, List.length_cons, List.length_nil]; omega))).mono ?_; rintro e w1 ⟨rfl, v1, u1, I1⟩; have cs1 := bc0 I1.hs))
  go_end0
  refine ⟨rfl, v1, u1, ?_⟩; have h := I1
  try simp only [List.map_append, List.map_cons, List.map_nil, List.append_nil, List.append_assoc] at h ⊢
  exact h
theorem rest_in1 (s : ByteArray) (hsz : s.size ≤ 1000) (Bl Br Bs Bo : Nat) (w0 : World) (i l : Nat) (hi : i < s.size) (b : Int) (hb : impl_SwapVoice.f (bt s i) = some (b, true)) (R0 : List (List S109)) (hR0 : GGo s Bl Br Bs Bo w0 ⟨bt s i, bt s i⟩ (i + 1) (l + 1) R0) (R1 : List (List S109)) (hR1 : GGo s Bl Br Bs Bo w0 ⟨bt s i, 0⟩ (i + 1) l R1) (R2 : List (List S109)) (hR2 : GGo s Bl Br Bs Bo w0 ⟨bt s i, b⟩ (i + 1) l R2) (R3 : List (List S109)) (hR3 : GGo s Bl Br Bs Bo w0 ⟨0, 116⟩ (i) l R3) (R4 : List (List S109)) (hR4 : GGo s Bl Br Bs Bo w0 ⟨0, 105⟩ (i) l R4) : GRest s Bl Br Bs Bo w0 i (l + 1) ((R0.map ((⟨bt s i, bt s i⟩ : S109) :: ·)) ++ (R1.map ((⟨bt s i, 0⟩ : S109) :: ·)) ++ (R2.map ((⟨bt s i, b⟩ : S109) :: ·)) ++ (R3.map ((⟨0, 116⟩ : S109) :: ·)) ++ (R4.map ((⟨0, 105⟩ : S109) :: ·))) := by
  intro w v L u O I hL hO; have cl := bc0 I.hl; have cs := bc0 I.hs; have hx := bt_nat' s i
  have hw : wrap64 ((i : Int) + 1) = ((i + 1 : Nat) : Int) := by unfold wrap64; omega
  simp only [List.length_append, List.length_map, List.length_cons, List.length_nil] at hO
  have hv : wrap64 (((l + 1 : Nat) : Int) - 1) = (l : Int) := wrap_less (by omega); have hl1 : decide ((0 : Int) < ((l + 1 : Nat) : Int)) = true := dt (by omega); go_enter Tryz.func124, Tryz.ntmps124
  go_wp2_with fail
  go_still_tail 11, (by kernel_rfl)
  change wpList _ _ _ _ _ w.drew
  have I0 := I.below (below_drew (Below.refl _ _)); generalize w.drew = wa at I0
  go_wp2_with (first
    | (go_at_call 125; refine calls_of_args (args' := #[.agg #[.int .u8 (bt s i), .int .u8 (bt s i)], .int .i64 ((i + 1 : Nat) : Int), .int .i64 (((l + 1) : Nat) : Int), .pointer (some ⟨Bl, 0, none⟩), .pointer (some ⟨Br, 0, none⟩)]) (by first | rfl | (rw [hw]; rfl) | (rw [hw, hv]) | (rw [hv]; rfl)) ?_; refine (hR0 wa v L u _ I0 (by omega) (by first | omega | (simp only [List.length_append, List.length_map, List.length_cons, List.length_nil]; omega))).mono ?_; rintro e w1 ⟨rfl, v1, u1, I1⟩; have cs1 := bc0 I1.hs)
    | (go_at_call 125; refine calls_of_args (args' := #[.agg #[.int .u8 (bt s i), .int .u8 (0)], .int .i64 ((i + 1 : Nat) : Int), .int .i64 ((l : Nat) : Int), .pointer (some ⟨Bl, 0, none⟩), .pointer (some ⟨Br, 0, none⟩)]) (by first | rfl | (rw [hw]; rfl) | (rw [hw, hv]) | (rw [hv]; rfl)) ?_; refine (hR1 w1 v1 L u1 _ I1 (by omega) (by first | omega | (simp only [List.length_append, List.length_map, List.length_cons, List.length_nil]; omega))).mono ?_; rintro e w2 ⟨rfl, v2, u2, I2⟩; have cs2 := bc0 I2.hs)
    | (go_at_call 126; refine (impl_SwapVoice.calls _ _ _ _ hb).mono ?_; rintro e wq ⟨rfl, hd⟩; obtain ⟨nq, hnq⟩ := hd.out; have Iq : GInv s Bl Br Bs Bo w0 wq v2 L u2 _ := (by rw [hnq]; exact I2.below (pw_below_drewN (Below.refl _ _) nq)); clear hnq hd; have csq := bc0 Iq.hs)
    | (go_at_call 125; refine calls_of_args (args' := #[.agg #[.int .u8 (bt s i), .int .u8 (b)], .int .i64 ((i + 1 : Nat) : Int), .int .i64 ((l : Nat) : Int), .pointer (some ⟨Bl, 0, none⟩), .pointer (some ⟨Br, 0, none⟩)]) (by first | rfl | (rw [hw]; rfl) | (rw [hw, hv]) | (rw [hv]; rfl)) ?_; refine (hR2 wq v2 L u2 _ Iq (by omega) (by first | omega | (simp only [List.length_append, List.length_map, List.length_cons, List.length_nil]; omega))).mono ?_; rintro e w3 ⟨rfl, v3, u3, I3⟩; have cs3 := bc0 I3.hs)
    | (go_at_call 125; refine calls_of_args (args' := #[.agg #[.int .u8 (0), .int .u8 (116)], .int .i64 ((i : Nat) : Int), .int .i64 ((l : Nat) : Int), .pointer (some ⟨Bl, 0, none⟩), .pointer (some ⟨Br, 0, none⟩)]) (by first | rfl | (rw [hw]; rfl) | (rw [hw, hv]) | (rw [hv]; rfl)) ?_; refine (hR3 w3 v3 L u3 _ I3 (by omega) (by first | omega | (simp only [List.length_append, List.length_map, List.length_cons, List.length_nil]; omega))).mono ?_; rintro e w4 ⟨rfl, v4, u4, I4⟩; have cs4 := bc0 I4.hs)
    | (go_at_call 125; refine calls_of_args (args' := #[.agg #[.int .u8 (0), .int .u8 (105)], .int .i64 ((i : Nat) : Int), .int .i64 ((l : Nat) : Int), .pointer (some ⟨Bl, 0, none⟩), .pointer (some ⟨Br, 0, none⟩)]) (by first | rfl | (rw [hw]; rfl) | (rw [hw, hv]) | (rw [hv]; rfl)) ?_; refine (hR4 w4 v4 L u4 _ I4 (by omega) (by first | omega | (simp only [List.length_append, List.length_map, List.length_cons, List.length_nil]; omega))).mono ?_; rintro e w5 ⟨rfl, v5, u5, I5⟩; have cs5 := bc0 I5.hs))
  go_end0
  refine ⟨rfl, v5, u5, ?_⟩; have h := I5
  try simp only [List.map_append, List.map_cons, List.map_nil, List.append_nil, List.append_assoc] at h ⊢
  exact h
theorem rest_in2 (s : ByteArray) (hsz : s.size ≤ 1000) (Bl Br Bs Bo : Nat) (w0 : World) (i l : Nat) (hi : i < s.size) (b : Int) (hb : impl_SwapVoice.f (bt s i) = some (b, false)) (R0 : List (List S109)) (hR0 : GGo s Bl Br Bs Bo w0 ⟨bt s i, bt s i⟩ (i + 1) (l + 1) R0) (R1 : List (List S109)) (hR1 : GGo s Bl Br Bs Bo w0 ⟨bt s i, 0⟩ (i + 1) l R1) (R2 : List (List S109)) (hR2 : GGo s Bl Br Bs Bo w0 ⟨0, 116⟩ (i) l R2) (R3 : List (List S109)) (hR3 : GGo s Bl Br Bs Bo w0 ⟨0, 105⟩ (i) l R3) : GRest s Bl Br Bs Bo w0 i (l + 1) ((R0.map ((⟨bt s i, bt s i⟩ : S109) :: ·)) ++ (R1.map ((⟨bt s i, 0⟩ : S109) :: ·)) ++ (R2.map ((⟨0, 116⟩ : S109) :: ·)) ++ (R3.map ((⟨0, 105⟩ : S109) :: ·))) := by
  intro w v L u O I hL hO; have cl := bc0 I.hl; have cs := bc0 I.hs; have hx := bt_nat' s i
  have hw : wrap64 ((i : Int) + 1) = ((i + 1 : Nat) : Int) := by unfold wrap64; omega
  simp only [List.length_append, List.length_map, List.length_cons, List.length_nil] at hO
  have hv : wrap64 (((l + 1 : Nat) : Int) - 1) = (l : Int) := wrap_less (by omega); have hl1 : decide ((0 : Int) < ((l + 1 : Nat) : Int)) = true := dt (by omega); go_enter Tryz.func124, Tryz.ntmps124
  go_wp2_with fail
  go_still_tail 11, (by kernel_rfl)
  change wpList _ _ _ _ _ w.drew
  have I0 := I.below (below_drew (Below.refl _ _)); generalize w.drew = wa at I0
  go_wp2_with (first
    | (go_at_call 125; refine calls_of_args (args' := #[.agg #[.int .u8 (bt s i), .int .u8 (bt s i)], .int .i64 ((i + 1 : Nat) : Int), .int .i64 (((l + 1) : Nat) : Int), .pointer (some ⟨Bl, 0, none⟩), .pointer (some ⟨Br, 0, none⟩)]) (by first | rfl | (rw [hw]; rfl) | (rw [hw, hv]) | (rw [hv]; rfl)) ?_; refine (hR0 wa v L u _ I0 (by omega) (by first | omega | (simp only [List.length_append, List.length_map, List.length_cons, List.length_nil]; omega))).mono ?_; rintro e w1 ⟨rfl, v1, u1, I1⟩; have cs1 := bc0 I1.hs)
    | (go_at_call 125; refine calls_of_args (args' := #[.agg #[.int .u8 (bt s i), .int .u8 (0)], .int .i64 ((i + 1 : Nat) : Int), .int .i64 ((l : Nat) : Int), .pointer (some ⟨Bl, 0, none⟩), .pointer (some ⟨Br, 0, none⟩)]) (by first | rfl | (rw [hw]; rfl) | (rw [hw, hv]) | (rw [hv]; rfl)) ?_; refine (hR1 w1 v1 L u1 _ I1 (by omega) (by first | omega | (simp only [List.length_append, List.length_map, List.length_cons, List.length_nil]; omega))).mono ?_; rintro e w2 ⟨rfl, v2, u2, I2⟩; have cs2 := bc0 I2.hs)
    | (go_at_call 126; refine (impl_SwapVoice.calls _ _ _ _ hb).mono ?_; rintro e wq ⟨rfl, hd⟩; obtain ⟨nq, hnq⟩ := hd.out; have Iq : GInv s Bl Br Bs Bo w0 wq v2 L u2 _ := (by rw [hnq]; exact I2.below (pw_below_drewN (Below.refl _ _) nq)); clear hnq hd; have csq := bc0 Iq.hs)
    | (go_at_call 125; refine calls_of_args (args' := #[.agg #[.int .u8 (0), .int .u8 (116)], .int .i64 ((i : Nat) : Int), .int .i64 ((l : Nat) : Int), .pointer (some ⟨Bl, 0, none⟩), .pointer (some ⟨Br, 0, none⟩)]) (by first | rfl | (rw [hw]; rfl) | (rw [hw, hv]) | (rw [hv]; rfl)) ?_; refine (hR2 wq v2 L u2 _ Iq (by omega) (by first | omega | (simp only [List.length_append, List.length_map, List.length_cons, List.length_nil]; omega))).mono ?_; rintro e w3 ⟨rfl, v3, u3, I3⟩; have cs3 := bc0 I3.hs)
    | (go_at_call 125; refine calls_of_args (args' := #[.agg #[.int .u8 (0), .int .u8 (105)], .int .i64 ((i : Nat) : Int), .int .i64 ((l : Nat) : Int), .pointer (some ⟨Bl, 0, none⟩), .pointer (some ⟨Br, 0, none⟩)]) (by first | rfl | (rw [hw]; rfl) | (rw [hw, hv]) | (rw [hv]; rfl)) ?_; refine (hR3 w3 v3 L u3 _ I3 (by omega) (by first | omega | (simp only [List.length_append, List.length_map, List.length_cons, List.length_nil]; omega))).mono ?_; rintro e w4 ⟨rfl, v4, u4, I4⟩; have cs4 := bc0 I4.hs))
  go_end0
  refine ⟨rfl, v4, u4, ?_⟩; have h := I4
  try simp only [List.map_append, List.map_cons, List.map_nil, List.append_nil, List.append_assoc] at h ⊢
  exact h
theorem rest_out0 (s : ByteArray) (hsz : s.size ≤ 1000) (Bl Br Bs Bo : Nat) (w0 : World) (i : Nat) (hi : i = s.size) : GRest s Bl Br Bs Bo w0 i 0 ([[]]) := by
  intro w v L u O I hL hO; have cl := bc0 I.hl; have cs := bc0 I.hs; have hx := bt_nat' s i
  have hw : wrap64 ((i : Int) + 1) = ((i + 1 : Nat) : Int) := by unfold wrap64; omega
  simp only [List.length_append, List.length_map, List.length_cons, List.length_nil] at hO
  have hi2 : ¬ ((i : Int) < (s.size : Int)) := by omega
  clear hi; go_enter Tryz.func124, Tryz.ntmps124
  go_wp2_with fail
  obtain ⟨AL, cL, eL, hcL, hRL⟩ := Kd.R_reads I.oL; subst eL; have co := bc0 I.ho; refine start_ (n := 7) (S := fun w' => w'.cell? ⟨Bo, 0, none⟩ = some u ∧ w'.cell? ⟨Bl, 0, none⟩ = some (.slice AL L.length cL)) (ds := [6]) (bA 7 0) (by kernel_rfl) rfl rfl ⟨co, cl⟩ (fun hHeld => ?_); refine with_tabW rest_tab8 rest_bits8 (fun HT_ HW_ => ?_); have I0 := I.below (below_drew (Below.refl _ _)); have hRL0 := Kd.C_below hRL (below_drew (Below.refl _ _)); generalize w.drew = wa at hHeld I0 hRL0 ⊢; refine tA 0 59 7 1 HT_.out HW_.out hHeld ?_ rfl rfl; refine tA 1 60 7 3 HT_.out HW_.out hHeld ?_ rfl rfl; refine oA 2 61 7 7 HT_.out (fun K hK => ?_) rfl rfl; refine goes_ Tryz.func127 (by kernel_rfl) rfl #[.slice AL L.length cL] (by rfl) rfl rfl eqT ?_; refine (cloneLinks AL cL L wa hRL0 hcL (by omega)).mono ?_; rintro e w1 ⟨cv, rfl, hcv, hb⟩; refine ⟨_, rfl, ?_⟩; obtain ⟨Ac, cc, ec, _⟩ := Kd.R_reads hcv; subst ec; have I1 := I0.below hb; refine hK.out _ _ ⟨bc0 I1.ho, bc0 I1.hl⟩ (fun hHeld => ?_); clear hK K; refine nB 61 ?_ rfl; refine pA 3 62 7 15 HT_.out ?_ rfl rfl; refine oA 4 63 7 31 HT_.out (fun K hK => ?_) rfl rfl; refine value_ (w1 := ?_) (v := ?_) (by rfl) rfl ?_ ?_
  rotate_left 2
  · go_simp
    constructor
    · rfl
    · rfl
  refine hK.out _ _ ⟨bc0 (blk_alloc I1.ho _), bc0 (blk_alloc I1.hl _)⟩ (fun hHeld => ?_); clear hK K; refine nB 63 ?_ rfl; refine oA 5 64 7 63 HT_.out (fun K hK => ?_) rfl rfl; refine Kd.S_append_step k60 (w0 := w0) w0.heap.size (by rfl) (.tmp 59) (.tmp 63) 24 60 (.agg #[(.slice none 0 0)]) 24 rfl Tryz.underlying24 genInfoC rfl (by decide) (by omega) u O (⟨L⟩ : S60) [.slice Ac L.length cc] (fun k => some k ≠ (Value.slice AL L.length cL).ownBlock) (fun k => some k = (Value.slice Ac L.length cc).ownBlock) rfl rfl
    (k60_mkM _ _ _ (⟨L⟩ : S60) (Kd.R_lower (Kd.R_tight rfl hcv) I0.bel.size)) (fun k hk => emit_ok I0 hcv k hk) (fun k hk e => by have := Kd.R_lt I1.oL k e.symm; omega) (emit_row I0 hb hcv) I1.bel I1.bel.size (by omega) ?_
  intro u8 w8 ho8 hb8 hg8 hat8; have I9 := I1.emit ho8 hb8 hg8; have e8 := bc0 (blk_grown I1.ho hg8 (Kd.S_ne I1.oO I1.ho (by decide))); have f8 := blk_frozen (blk_grown I1.ho hg8 (Kd.S_ne I1.oO I1.ho (by decide))) 0; have l8 := bc0 (blk_grown I1.hl hg8 (Kd.S_ne I1.oO I1.hl (by decide))); refine hK.out _ _ ⟨e8, l8⟩ (fun hHeld => ?_); clear hK K; refine nB 64 ?_ rfl; refine last_ (i := 6) (N := none) (bA 7 127) rfl rfl (one_of HT_.out (by kernel_rfl)) (by decide) (fun K hK => ?_); obtain ⟨A8, c8, e8'⟩ := Kd.S_slice ho8; subst e8'; refine skip_ (w1 := w8.setCell ⟨Bo, 0, none⟩ (.slice A8 (O ++ [(⟨L⟩ : S60)]).length c8)) (by rfl) rfl (by first | (go_simp; done) | (go_simp; rfl)) ?_; refine hK.out _ _ ?_; clear hK K; generalize w8.setCell ⟨Bo, 0, none⟩ (.slice A8 (O ++ [(⟨L⟩ : S60)]).length c8) = w9 at I9 ⊢; refine done_ (done_of HT_.out (by kernel_rfl)) ?_
  go_wp2_with fail
  go_end0
  refine ⟨rfl, (.slice AL L.length cL), (.slice A8 (O ++ [(⟨L⟩ : S60)]).length c8), ?_⟩; have h := I9
  try simp only [List.map_append, List.map_cons, List.map_nil, List.append_nil, List.append_assoc] at h ⊢
  exact h
theorem rest_out1 (s : ByteArray) (hsz : s.size ≤ 1000) (Bl Br Bs Bo : Nat) (w0 : World) (i l : Nat) (hi : i = s.size) (R0 : List (List S109)) (hR0 : GGo s Bl Br Bs Bo w0 ⟨0, 116⟩ (i) l R0) (R1 : List (List S109)) (hR1 : GGo s Bl Br Bs Bo w0 ⟨0, 105⟩ (i) l R1) : GRest s Bl Br Bs Bo w0 i (l + 1) ([[]] ++ (R0.map ((⟨0, 116⟩ : S109) :: ·)) ++ (R1.map ((⟨0, 105⟩ : S109) :: ·))) := by
  intro w v L u O I hL hO; have cl := bc0 I.hl; have cs := bc0 I.hs; have hx := bt_nat' s i
  have hw : wrap64 ((i : Int) + 1) = ((i + 1 : Nat) : Int) := by unfold wrap64; omega
  simp only [List.length_append, List.length_map, List.length_cons, List.length_nil] at hO
  have hv : wrap64 (((l + 1 : Nat) : Int) - 1) = (l : Int) := wrap_less (by omega); have hl1 : decide ((0 : Int) < ((l + 1 : Nat) : Int)) = true := dt (by omega)
  have hi2 : ¬ ((i : Int) < (s.size : Int)) := by omega
  clear hi; go_enter Tryz.func124, Tryz.ntmps124
  go_wp2_with fail
  obtain ⟨AL, cL, eL, hcL, hRL⟩ := Kd.R_reads I.oL; subst eL; have co := bc0 I.ho; refine start_ (n := 7) (S := fun w' => w'.cell? ⟨Bo, 0, none⟩ = some u ∧ w'.cell? ⟨Bl, 0, none⟩ = some (.slice AL L.length cL)) (ds := [6]) (bA 7 0) (by kernel_rfl) rfl rfl ⟨co, cl⟩ (fun hHeld => ?_); refine with_tabW rest_tab8 rest_bits8 (fun HT_ HW_ => ?_); have I0 := I.below (below_drew (Below.refl _ _)); have hRL0 := Kd.C_below hRL (below_drew (Below.refl _ _)); generalize w.drew = wa at hHeld I0 hRL0 ⊢; refine tA 0 59 7 1 HT_.out HW_.out hHeld ?_ rfl rfl; refine tA 1 60 7 3 HT_.out HW_.out hHeld ?_ rfl rfl; refine oA 2 61 7 7 HT_.out (fun K hK => ?_) rfl rfl; refine goes_ Tryz.func127 (by kernel_rfl) rfl #[.slice AL L.length cL] (by rfl) rfl rfl eqT ?_; refine (cloneLinks AL cL L wa hRL0 hcL (by omega)).mono ?_; rintro e w1 ⟨cv, rfl, hcv, hb⟩; refine ⟨_, rfl, ?_⟩; obtain ⟨Ac, cc, ec, _⟩ := Kd.R_reads hcv; subst ec; have I1 := I0.below hb; refine hK.out _ _ ⟨bc0 I1.ho, bc0 I1.hl⟩ (fun hHeld => ?_); clear hK K; refine nB 61 ?_ rfl; refine pA 3 62 7 15 HT_.out ?_ rfl rfl; refine oA 4 63 7 31 HT_.out (fun K hK => ?_) rfl rfl; refine value_ (w1 := ?_) (v := ?_) (by rfl) rfl ?_ ?_
  rotate_left 2
  · go_simp
    constructor
    · rfl
    · rfl
  refine hK.out _ _ ⟨bc0 (blk_alloc I1.ho _), bc0 (blk_alloc I1.hl _)⟩ (fun hHeld => ?_); clear hK K; refine nB 63 ?_ rfl; refine oA 5 64 7 63 HT_.out (fun K hK => ?_) rfl rfl; refine Kd.S_append_step k60 (w0 := w0) w0.heap.size (by rfl) (.tmp 59) (.tmp 63) 24 60 (.agg #[(.slice none 0 0)]) 24 rfl Tryz.underlying24 genInfoC rfl (by decide) (by omega) u O (⟨L⟩ : S60) [.slice Ac L.length cc] (fun k => some k ≠ (Value.slice AL L.length cL).ownBlock) (fun k => some k = (Value.slice Ac L.length cc).ownBlock) rfl rfl
    (k60_mkM _ _ _ (⟨L⟩ : S60) (Kd.R_lower (Kd.R_tight rfl hcv) I0.bel.size)) (fun k hk => emit_ok I0 hcv k hk) (fun k hk e => by have := Kd.R_lt I1.oL k e.symm; omega) (emit_row I0 hb hcv) I1.bel I1.bel.size (by omega) ?_
  intro u8 w8 ho8 hb8 hg8 hat8; have I9 := I1.emit ho8 hb8 hg8; have e8 := bc0 (blk_grown I1.ho hg8 (Kd.S_ne I1.oO I1.ho (by decide))); have f8 := blk_frozen (blk_grown I1.ho hg8 (Kd.S_ne I1.oO I1.ho (by decide))) 0; have l8 := bc0 (blk_grown I1.hl hg8 (Kd.S_ne I1.oO I1.hl (by decide))); refine hK.out _ _ ⟨e8, l8⟩ (fun hHeld => ?_); clear hK K; refine nB 64 ?_ rfl; refine last_ (i := 6) (N := none) (bA 7 127) rfl rfl (one_of HT_.out (by kernel_rfl)) (by decide) (fun K hK => ?_); obtain ⟨A8, c8, e8'⟩ := Kd.S_slice ho8; subst e8'; refine skip_ (w1 := w8.setCell ⟨Bo, 0, none⟩ (.slice A8 (O ++ [(⟨L⟩ : S60)]).length c8)) (by rfl) rfl (by first | (go_simp; done) | (go_simp; rfl)) ?_; refine hK.out _ _ ?_; clear hK K; generalize w8.setCell ⟨Bo, 0, none⟩ (.slice A8 (O ++ [(⟨L⟩ : S60)]).length c8) = w9 at I9 ⊢; refine done_ (done_of HT_.out (by kernel_rfl)) ?_
  go_wp2_with (first
    | (go_at_call 125; refine calls_of_args (args' := #[.agg #[.int .u8 (0), .int .u8 (116)], .int .i64 ((i : Nat) : Int), .int .i64 ((l : Nat) : Int), .pointer (some ⟨Bl, 0, none⟩), .pointer (some ⟨Br, 0, none⟩)]) (by first | rfl | (rw [hw]; rfl) | (rw [hw, hv]) | (rw [hv]; rfl)) ?_; refine (hR0 w9 (.slice AL L.length cL) L (.slice A8 (O ++ [(⟨L⟩ : S60)]).length c8) _ I9 (by omega) (by first | omega | (simp only [List.length_append, List.length_map, List.length_cons, List.length_nil]; omega))).mono ?_; rintro e w1 ⟨rfl, v1, u1, I1⟩; have cs1 := bc0 I1.hs)
    | (go_at_call 125; refine calls_of_args (args' := #[.agg #[.int .u8 (0), .int .u8 (105)], .int .i64 ((i : Nat) : Int), .int .i64 ((l : Nat) : Int), .pointer (some ⟨Bl, 0, none⟩), .pointer (some ⟨Br, 0, none⟩)]) (by first | rfl | (rw [hw]; rfl) | (rw [hw, hv]) | (rw [hv]; rfl)) ?_; refine (hR1 w1 v1 L u1 _ I1 (by omega) (by first | omega | (simp only [List.length_append, List.length_map, List.length_cons, List.length_nil]; omega))).mono ?_; rintro e w2 ⟨rfl, v2, u2, I2⟩; have cs2 := bc0 I2.hs))
  go_end0
  refine ⟨rfl, v2, u2, ?_⟩; have h := I2
  try simp only [List.map_append, List.map_cons, List.map_nil, List.append_nil, List.append_assoc] at h ⊢
  exact h
def genF (s : ByteArray) : Nat → Nat → Nat → List (List S109)
  | 0, _, _ => []
  | m + 1, i, l =>
    (if i < s.size then
      (genF s m (i + 1) l).map ((⟨bt s i, bt s i⟩ : S109) :: ·) ++
        (if 0 < l then (genF s m (i + 1) (l - 1)).map ((⟨bt s i, 0⟩ : S109) :: ·) ++
          (match impl_SwapVoice.f (bt s i) with
            | some (b, true) => (genF s m (i + 1) (l - 1)).map ((⟨bt s i, b⟩ : S109) :: ·)
            | _ => []) else [])
      else [[]]) ++
      (if 0 < l then (genF s m i (l - 1)).map ((⟨0, 116⟩ : S109) :: ·) ++ (genF s m i (l - 1)).map ((⟨0, 105⟩ : S109) :: ·) else [])
theorem swap_total : ∀ n : Fin 256, (impl_SwapVoice.f ((n.val : Nat) : Int)).isSome = true := by decide +kernel
theorem swap_bt (s : ByteArray) (i : Nat) : ∃ b ok, impl_SwapVoice.f (bt s i) = some (b, ok) := by
  have h : ∃ n : Fin 256, bt s i = ((n.val : Nat) : Int) := by
    unfold bt
    split
    · exact ⟨⟨_, UInt8.toNat_lt _⟩, rfl⟩
    · exact ⟨0, rfl⟩
  obtain ⟨n, hn⟩ := h; have h2 := swap_total n; rw [← hn] at h2
  cases h3 : impl_SwapVoice.f (bt s i) with
  | none => rw [h3] at h2; cases h2
  | some p => exact ⟨p.1, p.2, rfl⟩
theorem rest_all (s : ByteArray) (hsz : s.size ≤ 1000) (Bl Br Bs Bo : Nat) (w0 : World) : ∀ m i l, i ≤ s.size → (s.size - i) + l < m → GRest s Bl Br Bs Bo w0 i l (genF s m i l)
  | 0, _, _, _, h => by omega
  | m + 1, i, l, hi, h => by
    have ih : ∀ i l, i ≤ s.size → (s.size - i) + l < m → ∀ x, GGo s Bl Br Bs Bo w0 x i l (genF s m i l) := fun i l h1 h2 x => go1_any s Bl Br Bs Bo w0 x i l _ (rest_all s hsz Bl Br Bs Bo w0 m i l h1 h2)
    rw [genF]; by_cases h1 : i < s.size
    · rw [if_pos h1]
      cases l with
      | zero =>
        simp only [Nat.lt_irrefl, if_false, List.append_nil]
        exact rest_in0 s hsz Bl Br Bs Bo w0 i h1 _ (ih _ _ (by omega) (by omega) _)
      | succ l =>
        simp only [Nat.zero_lt_succ, if_true, Nat.add_sub_cancel]
        obtain ⟨b, ok, hb⟩ := swap_bt s i
        cases ok with
        | true =>
          rw [hb]; have hh := rest_in1 s hsz Bl Br Bs Bo w0 i l h1 b hb _ (ih _ _ (by omega) (by omega) _) _ (ih _ _ (by omega) (by omega) _) _ (ih _ _ (by omega) (by omega) _) _ (ih _ _ (by omega) (by omega) _) _ (ih _ _ (by omega) (by omega) _)
          simp only [List.append_assoc, List.nil_append] at hh ⊢
          exact hh
        | false =>
          rw [hb]; have hh := rest_in2 s hsz Bl Br Bs Bo w0 i l h1 b hb _ (ih _ _ (by omega) (by omega) _) _ (ih _ _ (by omega) (by omega) _) _ (ih _ _ (by omega) (by omega) _) _ (ih _ _ (by omega) (by omega) _)
          simp only [List.append_assoc, List.nil_append] at hh ⊢
          exact hh
    · rw [if_neg h1]
      cases l with
      | zero =>
        simp only [Nat.lt_irrefl, if_false, List.append_nil]
        exact rest_out0 s hsz Bl Br Bs Bo w0 i (by omega)
      | succ l =>
        simp only [Nat.zero_lt_succ, if_true, Nat.add_sub_cancel]
        exact rest_out1 s hsz Bl Br Bs Bo w0 i l (by omega) _ (ih _ _ (by omega) (by omega) _) _ (ih _ _ (by omega) (by omega) _)
/-- how many -/
theorem genF_length (s : ByteArray) : ∀ m i l, (genF s m i l).length ≤ (5 * (s.size - i + 1)) ^ l
  | 0, _, _ => by simp [genF]
  | m + 1, i, l => by
    have ih := genF_length s m; rw [genF]
    cases l with
    | zero =>
      simp only [Nat.lt_irrefl, if_false, List.append_nil]
      split
      · have := ih (i + 1) 0
        simpa using this
      · simp
    | succ l =>
      simp only [Nat.zero_lt_succ, if_true, Nat.add_sub_cancel, List.length_append, List.length_map]
      have hp : ∀ a b : Nat, a ≤ b → a ^ l ≤ b ^ l := fun a b h => Nat.pow_le_pow_left h l
      by_cases h1 : i < s.size
      · rw [if_pos h1]
        have hd : s.size - i = s.size - (i + 1) + 1 := by omega
        have e1 := ih (i + 1) (l + 1); have e2 := ih (i + 1) l; have e3 := ih i l; rw [hd] at e3 ⊢; generalize s.size - (i + 1) = d at e1 e2 e3 ⊢; have e4 := hp (5 * (d + 1)) (5 * (d + 1 + 1)) (by omega)
        have hm : (match impl_SwapVoice.f (bt s i) with
            | some (b, true) => (genF s m (i + 1) l).map ((⟨bt s i, b⟩ : S109) :: ·)
            | _ => []).length ≤ (genF s m (i + 1) l).length := by
          split
          · rw [List.length_map]; exact Nat.le_refl _
          · exact Nat.zero_le _
        simp only [List.length_append, List.length_map]
        rw [Nat.pow_succ] at e1 ⊢; have e5 : (5 * (d + 1)) ^ l * (5 * (d + 1)) ≤ (5 * (d + 1 + 1)) ^ l * (5 * (d + 1)) := Nat.mul_le_mul_right _ e4
        have e6 : (5 * (d + 1 + 1)) ^ l * (5 * (d + 1 + 1)) = (5 * (d + 1 + 1)) ^ l * (5 * (d + 1)) + (5 * (d + 1 + 1)) ^ l * 5 := by rw [← Nat.mul_add]; congr 1
        omega
      · rw [if_neg h1]; have e3 := ih i l; rw [Nat.pow_succ]; have h0 : 1 ≤ (5 * (s.size - i + 1)) ^ l := Nat.one_le_pow _ _ (by omega); have e6 : (5 * (s.size - i + 1)) ^ l * 5 ≤ (5 * (s.size - i + 1)) ^ l * (5 * (s.size - i + 1)) := Nat.mul_le_mul_left _ (by omega)
        simp only [List.length_cons, List.length_nil]
        omega
structure GPre (s : ByteArray) (Bl Bs Bo : Nat) (w0 w : World) (v u b : Value) : Prop where
  nl : w0.heap.size ≤ Bl
  no : w0.heap.size ≤ Bo
  hl : w.heap[Bl]? = some (.cells #[b] 58 (0, 0))
  hs : w.heap[Bs]? = some (.cells #[.string s] 9 (0, 0))
  ho : w.heap[Bo]? = some (.cells #[u] 24 (0, 0))
  oL : Kd.R k109 109 w w0.heap.size (fun _ => True) v []
  oO : Kd.S k60 60 w w0.heap.size (fun k => some k ≠ v.ownBlock) u []
  bel : Below w0.heap.size w0 w
section
variable {s : ByteArray} {Bl Br Bs Bo : Nat} {w0 w w1 w2 w3 w4 w5 : World} {v v1 u b : Value}
theorem pre_store (hb1 : Below w.heap.size w w1) (hs1 : w1.heap[Bs]? = some (.cells #[.string s] 9 (0, 0))) (hb2 : Below w1.heap.size w1 w2) (hoO : Kd.S k60 60 w2 w1.heap.size (fun _ => True) u []) (hb3 : Below w2.heap.size w2 w3) (hoL : Kd.R k109 109 w3 w2.heap.size (fun _ => True) v [])
    (hb4 : Below w3.heap.size w3 w4) (hbo : w4.heap[Bo]? = some (.cells #[.slice none 0 0] 24 (0, 0))) (hb5 : Below w4.heap.size w4 w5) (hbl : w5.heap[Bl]? = some (.cells #[.slice none 0 0] 58 (0, 0))) (nbo : w.heap.size ≤ Bo) (nbl : w.heap.size ≤ Bl) :
    GPre s Bl Bs Bo w (w5.setCell ⟨Bo, 0, none⟩ u) v u (.slice none 0 0) := by
  have eo := blk_below hbo hb5; have es := blk_below (blk_below (blk_below (blk_below hs1 hb2) hb3) hb4) hb5; have hB := below_step (below_step (below_step (below_step hb1 hb2) hb3) hb4) hb5; have h1 := hb1.size; have h2 := hb2.size; refine ⟨nbl, nbo, blk_far hbl (blk_ne hbl eo (by decide)) _, blk_far es (blk_ne es eo (by decide)) _, blk_set eo 0 u, Kd.R_set (Kd.R_lower (Kd.R_below (Kd.R_below hoL hb4) hb5) (by omega)) eo (by decide) 0 u, ?_, hB.setCell (p := ⟨Bo, 0, none⟩) nbo u⟩; refine Kd.S_set (Kd.S_mono (Kd.S_below (Kd.S_below (Kd.S_below (Kd.S_lower (Kd.S_bound hoO) (by omega)) hb3) hb4) hb5) (fun k hk e => ?_)) eo (by decide) 0 u; have := Kd.R_base hoL k e.symm; have := hk.2.2.1
  omega
theorem GPre.store (I : GPre s Bl Bs Bo w0 w v u b) : GPre s Bl Bs Bo w0 (w.setCell ⟨Bl, 0, none⟩ v) v u v :=
  ⟨I.nl, I.no, blk_set I.hl 0 v, blk_far I.hs (blk_ne I.hs I.hl (by decide)) _, blk_far I.ho (blk_ne I.ho I.hl (by decide)) _, Kd.R_set I.oL I.hl (by decide) 0 v, Kd.S_set I.oO I.hl (by decide) 0 v, I.bel.setCell (p := ⟨Bl, 0, none⟩) I.nl v⟩
theorem GPre.below (I : GPre s Bl Bs Bo w0 w v u b) (hb : Below w.heap.size w w1) : GPre s Bl Bs Bo w0 w1 v u b :=
  ⟨I.nl, I.no, blk_below I.hl hb, blk_below I.hs hb, blk_below I.ho hb, Kd.R_below I.oL hb, Kd.S_below I.oO hb, below_step I.bel hb⟩
theorem GPre.done {f : Value} (I : GPre s Bl Bs Bo w0 w v u v) (hr : w.heap[Br]? = some (.cells #[.nilFunc] 115 (0, 0))) (nr : w0.heap.size ≤ Br) (hf : f = .func (.func 124) #[] #[.pointer (some ⟨Bl, 0, none⟩), .pointer (some ⟨Br, 0, none⟩), .pointer (some ⟨Bs, 0, none⟩), .pointer (some ⟨Bo, 0, none⟩)]) :
    GInv s Bl Br Bs Bo w0 (w.setCell ⟨Br, 0, none⟩ f) v [] u [] := by
  subst hf; exact ⟨I.nl, I.no, blk_far I.hl (blk_ne I.hl hr (by decide)) _, blk_set hr 0 _, blk_far I.hs (blk_ne I.hs hr (by decide)) _, blk_far I.ho (blk_ne I.ho hr (by decide)) _, Kd.R_set I.oL hr (by decide) 0 _, Kd.S_set I.oO hr (by decide) 0 _, I.bel.setCell (p := ⟨Br, 0, none⟩) nr _⟩
end
theorem generate_any (s : ByteArray) (hsz : s.size ≤ 16) (l : Nat) (hl : l ≤ 2) (w : World) :
    Calls Tryz.prog 84 #[.string s, .int .i64 (l : Int)] w fun e w' => ∃ v0_ : Value, e = .returned v0_ ∧ Kd.S k60 60 w' w.heap.size (fun _ => True) v0_ ((genF s (s.size + l + 1) 0 l).map fun c => (⟨c⟩ : S60)) ∧ Below w.heap.size w w' := by
  have hn : (genF s (s.size + l + 1) 0 l).length ≤ 1000000 := by
    refine Nat.le_trans (genF_length s _ 0 l) (Nat.le_trans (Nat.pow_le_pow_left (show 5 * (s.size - 0 + 1) ≤ 85 by omega) l) (Nat.le_trans (Nat.pow_le_pow_right (by omega) hl) (by decide)))
  go_enter Tryz.func84, Tryz.ntmps84
  go_wp2_with (first
    | ((with_reducible refine gate_dst (N := 2) rfl ?_); refine boxT (N := 2) (cs := #[.string s]) (t := 9) ?_; intro Bs hgs w1 hs1 hb1; clear hgs)
    | ((with_reducible refine gate_dst (N := 8) rfl ?_); refine Kd.S_lit k60 _ 60 ?hg (N := 8) ?hd (xs := ([] : List (S60))) (inner := []) (ok := fun _ => True) (okp := fun _ => True) ?hr ?hp (fun _ hk => hk) trivial (Below.refl _ _) (Nat.le_refl _) (by simp) ?_; (case hd => rfl); (case hg => rfl); (case hr => first | (go_simp; done) | (go_simp; rfl)); (case hp => exact (Reps.none _ _)); intro u w2 hoO hb2 hg2 hn2; obtain ⟨Au, cu, eu⟩ := Kd.S_slice hoO; subst eu; clear hg2 hn2)
    | ((with_reducible refine gate_dst (N := 9) rfl ?_); refine Kd.R_lit k109 _ 109 ?hg (N := 9) ?hd (xs := ([] : List (S109))) (inner := []) (ok := fun _ => True) (okp := fun _ => True) ?hr ?hp (fun _ hk => hk) trivial (Below.refl _ _) (Nat.le_refl _) (by simp) ?_; (case hd => rfl); (case hg => rfl); (case hr => first | (go_simp; done) | (go_simp; rfl)); (case hp => exact (Reps.none _ _)); intro v w3 hoL hb3 hg3 hn3; obtain ⟨Av, cv, ev⟩ := Kd.R_slice hoL; subst ev; clear hg3 hn3)
    | ((with_reducible refine gate_dst (N := 5) rfl ?_); refine boxT (N := 5) (cs := #[.slice none 0 0]) (t := 24) ?_; intro Bo hgo w4 hbo hb4; have nbo : w.heap.size ≤ Bo := (by have := hb1.size; have := hb2.size; have := hb3.size; omega); clear hgo)
    | ((with_reducible refine gate_dst (N := 6) rfl ?_); refine boxT (N := 6) (cs := #[.slice none 0 0]) (t := 58) ?_; intro Bl hgl w5 hbl hb5; have nbl : w.heap.size ≤ Bl := (by have := hb1.size; have := hb2.size; have := hb3.size; have := hb4.size; omega); clear hgl; have o1 := bc0 (blk_below hbo hb5); have o2 := blk_frozen (blk_below hbo hb5) 0)
    | ((with_reducible refine gate_store (t := 24) (p := 5) rfl ?_); refine store_event (t := 24) (p := 5) (v := .tmp 8) (w1 := w5.setCell ⟨Bo, 0, none⟩ (.slice Au 0 cu)) ?hg ?ho ?hn ?hr ?_; (case ho => rfl); (case hg => rfl); (case hn => rfl); (case hr => first | (go_simp; done) | (go_simp; rfl)); intro w6 hw6; have I6 : GPre s Bl Bs Bo w w6 _ _ _ := (by rw [hw6]; exact pre_store hb1 hs1 hb2 hoO hb3 hoL hb4 hbo hb5 hbl nbo nbl); clear hw6; have l2 := bc0 I6.hl; have l3 := blk_frozen I6.hl 0)
    | ((with_reducible refine gate_store (t := 58) (p := 6) rfl ?_); refine store_event (t := 58) (p := 6) (v := .tmp 9) (w1 := w6.setCell ⟨Bl, 0, none⟩ (.slice Av 0 cv)) ?hg ?ho ?hn ?hr ?_; (case ho => rfl); (case hg => rfl); (case hn => rfl); (case hr => first | (go_simp; done) | (go_simp; rfl)); intro w7 hw7; have I7 : GPre s Bl Bs Bo w w7 _ _ _ := (by rw [hw7]; exact I6.store); clear hw7)
    | ((with_reducible refine gate_dst (N := 7) rfl ?_); refine boxT (N := 7) (cs := #[.nilFunc]) (t := 115) ?_; intro Br hgr w8 hbr hb8; have nbr : w.heap.size ≤ Br := (by rw [hgr]; exact I7.bel.size); clear hgr; have I8 := I7.below hb8; have r1 := bc0 hbr; have r2 := blk_frozen hbr 0)
    | ((with_reducible refine gate_store (t := 115) (p := 7) rfl ?_); refine store_event (t := 115) (p := 7) (v := .tmp 10) (w1 := w8.setCell ⟨Br, 0, none⟩ (.func (.func 124) #[] #[.pointer (some ⟨Bl, 0, none⟩), .pointer (some ⟨Br, 0, none⟩), .pointer (some ⟨Bs, 0, none⟩), .pointer (some ⟨Bo, 0, none⟩)])) ?hg ?ho ?hn ?hr ?_; (case ho => rfl); (case hg => rfl); (case hn => rfl); (case hr => first | (go_simp; done) | (go_simp; rfl)); intro w9 hw9; have I9 : GInv s Bl Br Bs Bo w w9 _ [] _ [] := (by rw [hw9]; exact I8.done hbr nbr rfl); clear hw9; have r9 := bc0 I9.hr)
    | (go_at_call 124; refine calls_of_args (args' := #[.int .i64 ((0 : Nat) : Int), .int .i64 (l : Int), .pointer (some ⟨Bl, 0, none⟩), .pointer (some ⟨Br, 0, none⟩), .pointer (some ⟨Bs, 0, none⟩), .pointer (some ⟨Bo, 0, none⟩)]) (by rfl) ?_; refine (rest_all s (by omega) Bl Br Bs Bo w (s.size + l + 1) 0 l (Nat.zero_le _) (by omega) w9 _ [] _ [] I9 (by simp only [List.length_nil]; omega) (by simp only [List.length_nil]; omega)).mono ?_; rintro e w10 ⟨rfl, v10, u10, I10⟩; have e10 := bc0 I10.ho))
  go_ret; refine ⟨_, rfl, ?_, I10.bel⟩; have h := I10.oO; rw [List.nil_append] at h; exact Kd.S_mono h (fun _ _ => trivial)
def impl_generate.f (a0 : ByteArray) (a1 : Int) : Option (List S60) := if a0.size ≤ 16 ∧ 0 ≤ a1 ∧ a1 ≤ 2 then some ((genF a0 (a0.size + a1.toNat + 1) 0 a1.toNat).map fun c => ⟨c⟩) else none
theorem impl_generate.calls (a0 : ByteArray) (a1 : Int) (r : List S60) (w : World) (h : impl_generate.f a0 a1 = some r) :
    Calls Tryz.prog 84 #[.string a0, .int .i64 a1] w fun e w' => ∃ v0_ : Value, e = .returned (v0_) ∧ Kd.S k60 60 w' w.heap.size (fun _ => True) v0_ r ∧ Below w.heap.size w w' := by
  unfold impl_generate.f at h; by_cases hc : a0.size ≤ 16 ∧ 0 ≤ a1 ∧ a1 ≤ 2
  · rw [if_pos hc] at h; obtain rfl := oI h; obtain ⟨h1, h2, h3⟩ := hc; obtain ⟨l, rfl⟩ := Int.eq_ofNat_of_zero_le h2; exact generate_any a0 h1 l (by omega) w
  · rw [if_neg hc] at h
    cases h
def impl_Generate.f (k : Nat) (a0 : ByteArray) : Option ((List (S60))) := (impl_IsForm.f k a0).bind fun t319 => (if t319 = true then (if (a0.size : Int) > 4 then (some ([] : List (S60))) else ((impl_generate.f a0 2).bind fun t320 => (some t320))) else (some ([] : List (S60))))
theorem impl_Generate.mono : ∀ a0 k, LeO (impl_Generate.f k a0) (impl_Generate.f (k + 1) a0) := by
 intro a0 k; unfold impl_Generate.f
 with_reducible repeat' first | exact impl_IsForm.mono _ _ | exact LeO.refl _ | exact LeO.none _ | refine LeO.ite ?_ ?_ | refine LeO.bind ?_ (fun _ => ?_)
theorem impl_Generate.calls (k : Nat) (a0 : ByteArray) (r : List (S60)) (w : World) (h : impl_Generate.f k a0 = some r) :
  Calls Tryz.prog 42 #[.string a0] w fun e w' => ∃ v0_ : Value, e = .returned (v0_) ∧ Kd.S k60 60 w' w.heap.size (fun _ => True) v0_ r ∧ Below w.heap.size w w' := by
 have HB := asT (Below.refl w.heap.size w); have H := h; unfold impl_Generate.f at H; clear h; obtain ⟨t319, A2, H⟩ := be H; by_cases c3 : t319 = true
 ·subst c3; rw [if_pos rfl] at H; have H1 := H; clear H; have H := H1; clear H1; by_cases c4 : (a0.size : Int) > 4
  ·rw [if_pos c4] at H; have c4b0 : decide (4 < (a0.size : Int)) = true := dt c4; have c4b1 : decide (4 < a0.size) = true := dt (by omega); clear c4; obtain rfl := oI H; go_enter Tryz.func42, Tryz.ntmps42
   go_wp2_with (first | ((with_reducible refine gate_callee (f := 40) rfl ?_); refine goesL_ (some 4) rfl rfl Tryz.func40 (by kernel_rfl) rfl #[.string a0] rfl eqT ?_; (with_reducible refine (impl_IsForm.calls k a0 true _ A2.out).mono ?_); rintro e w' ⟨rfl, ⟨nd, rfl⟩⟩; refine ⟨_, rfl, ?_⟩))
   go_ret; exact ⟨_, rlT, by first | exact Kd.S_nil _ _ _ _ _ | exact Kd.N_nil _ _ _ _ _ | exact Kd.V_nil _ _ _ _ _ | exact Kd.Q_nil _ _ _ _ _ | exact Kd.R_nil _ _ _ _ _, hbT HB.out⟩
  ·rw [if_neg c4] at H; have c4b0 : decide (4 < (a0.size : Int)) = false := df c4; have c4b1 : decide (4 < a0.size) = false := df (by omega); clear c4; obtain ⟨t320, A5, H⟩ := be H; obtain rfl := oI H; go_enter Tryz.func42, Tryz.ntmps42
   go_wp2_with (first | ((with_reducible refine gate_callee (f := 40) rfl ?_); refine goesL_ (some 4) rfl rfl Tryz.func40 (by kernel_rfl) rfl #[.string a0] rfl eqT ?_; (with_reducible refine (impl_IsForm.calls k a0 true _ A2.out).mono ?_); rintro e w' ⟨rfl, ⟨nd, rfl⟩⟩; refine ⟨_, rfl, ?_⟩) | ((with_reducible refine gate_callee (f := 84) rfl ?_); refine goesL_ (some 12) rfl rfl Tryz.func84 (by kernel_rfl) rfl #[.string a0, .int .i64 2] rfl eqT ?_; (with_reducible refine (impl_generate.calls a0 2 t320 _ A5.out).mono ?_); rintro e w6 ⟨v321, rfl, ho0, hb⟩; refine ⟨_, rfl, ?_⟩; have HO322 := asT (Kd.S_lower ho0 (below_size (hbT HB.out))); replace HB := hS HB hb; (try clear hb hb2 hk hi ho0)))
   go_ret; exact ⟨_, rlT, soT HO322.out, hbT HB.out⟩
 ·replace c3 := eE c3; subst c3; rw [if_neg nF] at H; have H1 := H; clear H; have H := H1; clear H1; obtain rfl := oI H; go_enter Tryz.func42, Tryz.ntmps42
  go_wp2_with (first | ((with_reducible refine gate_callee (f := 40) rfl ?_); refine goesL_ (some 4) rfl rfl Tryz.func40 (by kernel_rfl) rfl #[.string a0] rfl eqT ?_; (with_reducible refine (impl_IsForm.calls k a0 false _ A2.out).mono ?_); rintro e w' ⟨rfl, ⟨nd, rfl⟩⟩; refine ⟨_, rfl, ?_⟩))
  go_ret; exact ⟨_, rlT, by first | exact Kd.S_nil _ _ _ _ _ | exact Kd.N_nil _ _ _ _ _ | exact Kd.V_nil _ _ _ _ _ | exact Kd.Q_nil _ _ _ _ _ | exact Kd.R_nil _ _ _ _ _, hbT HB.out⟩
def impl_isLink.f (a0_0 : Int) (a0_1 : Int) : Option (Bool) := if a0_0 = 0 then ((impl_IsSound.f a0_1).bind fun t324 => (some t324)) else ((impl_IsSound.f a0_0).bind fun t325 => (if t325 = true then (if a0_1 = 0 then (some true) else (if a0_1 = a0_0 then (some true) else ((impl_SwapVoice.f a0_0).bind fun bt326 => (if bt326.2 = true then (some (bt326.1 == a0_1)) else (some false))))) else (some false)))
theorem impl_isLink.calls (a0_0 : Int) (a0_1 : Int) (r : Bool) (w : World) (h : impl_isLink.f a0_0 a0_1 = some r) :
  Calls Tryz.prog 128 #[.agg #[.int .u8 a0_0, .int .u8 a0_1]] w fun e w' => e = .returned (.bool r) ∧ Below w.heap.size w w' := by
 have hu109 := Tryz.underlying109; have HB := asT (Below.refl w.heap.size w); have H := h; unfold impl_isLink.f at H; clear h; by_cases c2 : a0_0 = 0
 ·rw [if_pos c2] at H; have c2b0 : (a0_0 == 0) = true := eC c2; have c2b1 : (a0_0 != 0) = false := eA c2; clear c2; obtain ⟨t324, A3, H⟩ := be H; obtain rfl := oI H; go_enter Tryz.func128, Tryz.ntmps128
  go_wp2_with (first | ((with_reducible refine gate_dst (N := 1) rfl ?_); refine boxT (N := 1) (cs := #[.int .u8 a0_0, .int .u8 a0_1]) (t := 109) ?_; intro gb323 hg w4 hbox hb; have BK323 := asT hbox; have GW323 := asT (geT hg HB.out); have GE323 := GW323; replace HB := hS HB hb; clear hb hbox hg; obtain ⟨hcz5_0, hcz5_1, hfz5_0, hfz5_1⟩ := bx2 BK323.out) | ((with_reducible refine gate_callee (f := 123) rfl ?_); refine goesL_ (some 11) rfl rfl Tryz.func123 (by kernel_rfl) rfl #[.int .u8 a0_1] rfl eqT ?_; (with_reducible refine (impl_IsSound.calls a0_1 t324 _ A3.out).mono ?_); rintro e w' ⟨rfl, ⟨nd, rfl⟩⟩; refine ⟨_, rfl, ?_⟩))
  go_ret; exact ⟨rlT, hbT HB.out⟩
 ·rw [if_neg c2] at H; have c2b0 : (a0_0 == 0) = false := eB c2; have c2b1 : (a0_0 != 0) = true := eD c2; obtain ⟨t325, A6, H⟩ := be H; by_cases c7 : t325 = true
  ·subst c7; rw [if_pos rfl] at H; have H1 := H; clear H; have H := H1; clear H1; by_cases c8 : a0_1 = 0
   ·rw [if_pos c8] at H; have c8b0 : (a0_1 == 0) = true := eC c8; have c8b1 : (a0_1 != 0) = false := eA c8; clear c8; obtain rfl := oI H; go_enter Tryz.func128, Tryz.ntmps128
    go_wp2_with (first | ((with_reducible refine gate_dst (N := 1) rfl ?_); refine boxT (N := 1) (cs := #[.int .u8 a0_0, .int .u8 a0_1]) (t := 109) ?_; intro gb323 hg w9 hbox hb; have BK323 := asT hbox; have GW323 := asT (geT hg HB.out); have GE323 := GW323; replace HB := hS HB hb; clear hb hbox hg; obtain ⟨hcz10_0, hcz10_1, hfz10_0, hfz10_1⟩ := bx2 BK323.out) | ((with_reducible refine gate_callee (f := 123) rfl ?_); refine goesL_ (some 15) rfl rfl Tryz.func123 (by kernel_rfl) rfl #[.int .u8 a0_0] rfl eqT ?_; (with_reducible refine (impl_IsSound.calls a0_0 true _ A6.out).mono ?_); rintro e w' ⟨rfl, ⟨nd, rfl⟩⟩; refine ⟨_, rfl, ?_⟩))
    go_ret; exact ⟨rlT, hbT HB.out⟩
   ·rw [if_neg c8] at H; have c8b0 : (a0_1 == 0) = false := eB c8; have c8b1 : (a0_1 != 0) = true := eD c8; by_cases c11 : a0_1 = a0_0
    ·rw [if_pos c11] at H; have c11b0 : (a0_1 == a0_0) = true := eC c11; have c11b1 : (a0_1 != a0_0) = false := eA c11; clear c11; obtain rfl := oI H; go_enter Tryz.func128, Tryz.ntmps128
     go_wp2_with (first | ((with_reducible refine gate_dst (N := 1) rfl ?_); refine boxT (N := 1) (cs := #[.int .u8 a0_0, .int .u8 a0_1]) (t := 109) ?_; intro gb323 hg w12 hbox hb; have BK323 := asT hbox; have GW323 := asT (geT hg HB.out); have GE323 := GW323; replace HB := hS HB hb; clear hb hbox hg; obtain ⟨hcz13_0, hcz13_1, hfz13_0, hfz13_1⟩ := bx2 BK323.out) | ((with_reducible refine gate_callee (f := 123) rfl ?_); refine goesL_ (some 15) rfl rfl Tryz.func123 (by kernel_rfl) rfl #[.int .u8 a0_0] rfl eqT ?_; (with_reducible refine (impl_IsSound.calls a0_0 true _ A6.out).mono ?_); rintro e w' ⟨rfl, ⟨nd, rfl⟩⟩; refine ⟨_, rfl, ?_⟩))
     go_ret; exact ⟨rlT, hbT HB.out⟩
    ·rw [if_neg c11] at H; have c11b0 : (a0_1 == a0_0) = false := eB c11; have c11b1 : (a0_1 != a0_0) = true := eD c11; replace H := Option.bind_eq_some_iff.mp H; obtain ⟨⟨t326, t327⟩, A140, H⟩ := H; replace H : (if t327 = true then (some (t326 == a0_1)) else (some false)) = some r := H; have A14 := asT A140; clear A140; by_cases c15 : t327 = true
     ·subst c15; rw [if_pos rfl] at H; have H1 := H; clear H; have H := H1; clear H1; obtain rfl := oI H; go_enter Tryz.func128, Tryz.ntmps128
      go_wp2_with (first | ((with_reducible refine gate_dst (N := 1) rfl ?_); refine boxT (N := 1) (cs := #[.int .u8 a0_0, .int .u8 a0_1]) (t := 109) ?_; intro gb323 hg w16 hbox hb; have BK323 := asT hbox; have GW323 := asT (geT hg HB.out); have GE323 := GW323; replace HB := hS HB hb; clear hb hbox hg; obtain ⟨hcz17_0, hcz17_1, hfz17_0, hfz17_1⟩ := bx2 BK323.out) | ((with_reducible refine gate_callee (f := 123) rfl ?_); refine goesL_ (some 15) rfl rfl Tryz.func123 (by kernel_rfl) rfl #[.int .u8 a0_0] rfl eqT ?_; (with_reducible refine (impl_IsSound.calls a0_0 true _ A6.out).mono ?_); rintro e w' ⟨rfl, ⟨nd, rfl⟩⟩; refine ⟨_, rfl, ?_⟩) | ((with_reducible refine gate_callee (f := 126) rfl ?_); refine goesL_ (some 31) rfl rfl Tryz.func126 (by kernel_rfl) rfl #[.int .u8 a0_0] rfl eqT ?_; (with_reducible refine (impl_SwapVoice.calls a0_0 t326 true _ A14.out).mono ?_); rintro e w' ⟨rfl, ⟨nd, rfl⟩⟩; refine ⟨_, rfl, ?_⟩))
      go_ret; exact ⟨rlT, hbT HB.out⟩
     ·replace c15 := eE c15; subst c15; rw [if_neg nF] at H; have H1 := H; clear H; have H := H1; clear H1; obtain rfl := oI H; go_enter Tryz.func128, Tryz.ntmps128
      go_wp2_with (first | ((with_reducible refine gate_dst (N := 1) rfl ?_); refine boxT (N := 1) (cs := #[.int .u8 a0_0, .int .u8 a0_1]) (t := 109) ?_; intro gb323 hg w18 hbox hb; have BK323 := asT hbox; have GW323 := asT (geT hg HB.out); have GE323 := GW323; replace HB := hS HB hb; clear hb hbox hg; obtain ⟨hcz19_0, hcz19_1, hfz19_0, hfz19_1⟩ := bx2 BK323.out) | ((with_reducible refine gate_callee (f := 123) rfl ?_); refine goesL_ (some 15) rfl rfl Tryz.func123 (by kernel_rfl) rfl #[.int .u8 a0_0] rfl eqT ?_; (with_reducible refine (impl_IsSound.calls a0_0 true _ A6.out).mono ?_); rintro e w' ⟨rfl, ⟨nd, rfl⟩⟩; refine ⟨_, rfl, ?_⟩) | ((with_reducible refine gate_callee (f := 126) rfl ?_); refine goesL_ (some 31) rfl rfl Tryz.func126 (by kernel_rfl) rfl #[.int .u8 a0_0] rfl eqT ?_; (with_reducible refine (impl_SwapVoice.calls a0_0 t326 false _ A14.out).mono ?_); rintro e w' ⟨rfl, ⟨nd, rfl⟩⟩; refine ⟨_, rfl, ?_⟩))
      go_ret; exact ⟨rlT, hbT HB.out⟩
  ·replace c7 := eE c7; subst c7; rw [if_neg nF] at H; have H1 := H; clear H; have H := H1; clear H1; obtain rfl := oI H; go_enter Tryz.func128, Tryz.ntmps128
   go_wp2_with (first | ((with_reducible refine gate_dst (N := 1) rfl ?_); refine boxT (N := 1) (cs := #[.int .u8 a0_0, .int .u8 a0_1]) (t := 109) ?_; intro gb323 hg w20 hbox hb; have BK323 := asT hbox; have GW323 := asT (geT hg HB.out); have GE323 := GW323; replace HB := hS HB hb; clear hb hbox hg; obtain ⟨hcz21_0, hcz21_1, hfz21_0, hfz21_1⟩ := bx2 BK323.out) | ((with_reducible refine gate_callee (f := 123) rfl ?_); refine goesL_ (some 15) rfl rfl Tryz.func123 (by kernel_rfl) rfl #[.int .u8 a0_0] rfl eqT ?_; (with_reducible refine (impl_IsSound.calls a0_0 false _ A6.out).mono ?_); rintro e w' ⟨rfl, ⟨nd, rfl⟩⟩; refine ⟨_, rfl, ?_⟩))
   go_ret; exact ⟨rlT, hbT HB.out⟩
end Go.Proofs.YtlmfpkiaikjlbaaGreat.PFnExactTableauOf
