-- Made by gen.py (a program of this session) out of the translation; Lean checks it.
import Derived.Test.YtdamagcfmhimfabPFnExactIsPerfectx0
import Derived.Test.YtdamagcfmhimfabPFnExactIsPerfectx2
import Derived.Test.YtdamagcfmhimfabPFnExactIsPerfectx3
import Derived.Test.YtdamagcfmhimfabPFnExactIsPerfectx4
import Derived.Test.YtdamagcfmhimfabPFnExactIsPerfectx5
namespace Go.Proofs.Ytdamagcfmhimfab.PFnExactIsPerfect
open Go.RowKit Go.Proofs.YtdamagcfmhimfabB Go.Proofs.YtdamagcfmhimfabW.PrintWords Go.Proofs.YtdamagcfmhimfabW.PrintLast Go.Proofs.YtdamagcfmhimfabW.PrintMore
attribute [local go_sem] max2_int min2_int max_two min_two max_three min_three max_four min_four   -- for this text's walks alone
set_option linter.unusedVariables false
set_option linter.unusedSimpArgs false

/-! ### impl_IsPerfect: function 45 -/
def impl_IsPerfect.f (k : Nat) (a0 : ByteArray) : Option (Bool) := (impl_IsForm.f k a0).bind fun t169 => (if t169 = true then ((impl_CountOnsetless.f k a0).bind fun t170 => ((impl_CountCodas.f k a0).bind fun t171 => ((impl_CountClusters.f k a0).bind fun t172 => ((impl_CountVoiced.f k a0).bind fun t173 => ((impl_CountNasalVoiceless.f k a0).bind fun t174 => (some ((wrap64 ((wrap64 ((wrap64 ((wrap64 (t170 + t171)) + t172)) + t173)) + t174)) == 0))))))) else (some false))
theorem impl_IsPerfect.mono : ∀ a0 k, LeO (impl_IsPerfect.f k a0) (impl_IsPerfect.f (k + 1) a0) := by
  intro a0 k
  unfold impl_IsPerfect.f
  repeat' first
      | (with_reducible exact impl_CountClusters.mono _ _)
      | (with_reducible exact impl_CountCodas.mono _ _)
      | (with_reducible exact impl_CountNasalVoiceless.mono _ _)
      | (with_reducible exact impl_CountOnsetless.mono _ _)
      | (with_reducible exact impl_CountVoiced.mono _ _)
      | (with_reducible exact impl_IsForm.mono _ _)
      | (with_reducible exact LeO.refl _)
      | (with_reducible exact LeO.none _)
      | (with_reducible refine LeO.ite ?_ ?_)
      | (with_reducible refine LeO.bind ?_ (fun _ => ?_))
      | exact impl_CountClusters.mono _ _
      | exact impl_CountCodas.mono _ _
      | exact impl_CountNasalVoiceless.mono _ _
      | exact impl_CountOnsetless.mono _ _
      | exact impl_CountVoiced.mono _ _
      | exact impl_IsForm.mono _ _
      | exact LeO.none _
      | refine LeO.ite ?_ ?_
      | refine LeO.bind ?_ (fun _ => ?_)
set_option maxHeartbeats 8000000 in
set_option maxRecDepth 100000 in
theorem impl_IsPerfect.calls (k : Nat) (a0 : ByteArray) (r : Bool) (w : World) (h : impl_IsPerfect.f k a0 = some r) :
    Calls Try.prog 45 #[.string a0] w fun e w' => e = .returned (.bool r) ∧ Below w.heap.size w w' := by
  have HB := Aside0.mk (Below.refl w.heap.size w)
  have H : ((impl_IsForm.f k a0).bind fun t169 => (if t169 = true then ((impl_CountOnsetless.f k a0).bind fun t170 => ((impl_CountCodas.f k a0).bind fun t171 => ((impl_CountClusters.f k a0).bind fun t172 => ((impl_CountVoiced.f k a0).bind fun t173 => ((impl_CountNasalVoiceless.f k a0).bind fun t174 => (some ((wrap64 ((wrap64 ((wrap64 ((wrap64 (t170 + t171)) + t172)) + t173)) + t174)) == 0))))))) else (some false))) = some r := h
  clear h
  replace H := Option.bind_eq_some_iff.mp H
  obtain ⟨t169, A20, H⟩ := H
  replace H : (if t169 = true then ((impl_CountOnsetless.f k a0).bind fun t170 => ((impl_CountCodas.f k a0).bind fun t171 => ((impl_CountClusters.f k a0).bind fun t172 => ((impl_CountVoiced.f k a0).bind fun t173 => ((impl_CountNasalVoiceless.f k a0).bind fun t174 => (some ((wrap64 ((wrap64 ((wrap64 ((wrap64 (t170 + t171)) + t172)) + t173)) + t174)) == 0))))))) else (some false)) = some r := H
  have A2 := Aside0.mk A20
  clear A20
  by_cases c3 : t169 = true
  · subst c3
    have H1 : ((impl_CountOnsetless.f k a0).bind fun t170 => ((impl_CountCodas.f k a0).bind fun t171 => ((impl_CountClusters.f k a0).bind fun t172 => ((impl_CountVoiced.f k a0).bind fun t173 => ((impl_CountNasalVoiceless.f k a0).bind fun t174 => (some ((wrap64 ((wrap64 ((wrap64 ((wrap64 (t170 + t171)) + t172)) + t173)) + t174)) == 0))))))) = some r := by rw [if_pos rfl] at H; exact H
    clear H
    have H := H1
    clear H1
    replace H := Option.bind_eq_some_iff.mp H
    obtain ⟨t170, A40, H⟩ := H
    replace H : ((impl_CountCodas.f k a0).bind fun t171 => ((impl_CountClusters.f k a0).bind fun t172 => ((impl_CountVoiced.f k a0).bind fun t173 => ((impl_CountNasalVoiceless.f k a0).bind fun t174 => (some ((wrap64 ((wrap64 ((wrap64 ((wrap64 (t170 + t171)) + t172)) + t173)) + t174)) == 0)))))) = some r := H
    have A4 := Aside0.mk A40
    clear A40
    replace H := Option.bind_eq_some_iff.mp H
    obtain ⟨t171, A50, H⟩ := H
    replace H : ((impl_CountClusters.f k a0).bind fun t172 => ((impl_CountVoiced.f k a0).bind fun t173 => ((impl_CountNasalVoiceless.f k a0).bind fun t174 => (some ((wrap64 ((wrap64 ((wrap64 ((wrap64 (t170 + t171)) + t172)) + t173)) + t174)) == 0))))) = some r := H
    have A5 := Aside0.mk A50
    clear A50
    replace H := Option.bind_eq_some_iff.mp H
    obtain ⟨t172, A60, H⟩ := H
    replace H : ((impl_CountVoiced.f k a0).bind fun t173 => ((impl_CountNasalVoiceless.f k a0).bind fun t174 => (some ((wrap64 ((wrap64 ((wrap64 ((wrap64 (t170 + t171)) + t172)) + t173)) + t174)) == 0)))) = some r := H
    have A6 := Aside0.mk A60
    clear A60
    replace H := Option.bind_eq_some_iff.mp H
    obtain ⟨t173, A70, H⟩ := H
    replace H : ((impl_CountNasalVoiceless.f k a0).bind fun t174 => (some ((wrap64 ((wrap64 ((wrap64 ((wrap64 (t170 + t171)) + t172)) + t173)) + t174)) == 0))) = some r := H
    have A7 := Aside0.mk A70
    clear A70
    replace H := Option.bind_eq_some_iff.mp H
    obtain ⟨t174, A80, H⟩ := H
    replace H : (some ((wrap64 ((wrap64 ((wrap64 ((wrap64 (t170 + t171)) + t172)) + t173)) + t174)) == 0)) = some r := H
    have A8 := Aside0.mk A80
    clear A80
    obtain rfl := Option.some.inj H
    go_enter Try.func45, Try.ntmps45
    go_wp2_with (first | ((with_reducible refine gate_callee (f := 85) rfl ?_); refine goesL_ (some 4) rfl rfl Try.func85 (by kernel_rfl) rfl #[.string a0] rfl (by (try simp only [List.map_toArray, List.map_cons, List.map_nil]); first | done | rfl | (simp only [List.length_drop, List.length_take]; rfl)) ?_; (with_reducible refine (impl_IsForm.calls k a0 true _ A2.out).mono ?_); rintro e w' ⟨rfl, ⟨nd, rfl⟩⟩; refine ⟨_, rfl, ?_⟩) | (go_at_call 20; (with_reducible refine (impl_CountOnsetless.calls k a0 t170 _ A4.out).mono ?_); rintro e w9 ⟨rfl, hb⟩; have n0_ := Aside0.mk (below_step (by repeat (first | (with_reducible first | exact HB.out | apply below_alloc | apply pw_below_drewN | apply below_drew1) | exact HB.out)) hb); clear HB; have HB := n0_; clear n0_; (try clear hb); (try clear hb2); (try clear hk); (try clear hi)) | (go_at_call 18; (with_reducible refine (impl_CountCodas.calls k a0 t171 _ A5.out).mono ?_); rintro e w10 ⟨rfl, hb⟩; have n0_ := Aside0.mk (below_step (by repeat (first | (with_reducible first | exact HB.out | apply below_alloc | apply pw_below_drewN | apply below_drew1) | exact HB.out)) hb); clear HB; have HB := n0_; clear n0_; (try clear hb); (try clear hb2); (try clear hk); (try clear hi)) | (go_at_call 16; (with_reducible refine (impl_CountClusters.calls k a0 t172 _ A6.out).mono ?_); rintro e w11 ⟨rfl, hb⟩; have n0_ := Aside0.mk (below_step (by repeat (first | (with_reducible first | exact HB.out | apply below_alloc | apply pw_below_drewN | apply below_drew1) | exact HB.out)) hb); clear HB; have HB := n0_; clear n0_; (try clear hb); (try clear hb2); (try clear hk); (try clear hi)) | (go_at_call 86; (with_reducible refine (impl_CountVoiced.calls k a0 t173 _ A7.out).mono ?_); rintro e w12 ⟨rfl, hb⟩; have n0_ := Aside0.mk (below_step (by repeat (first | (with_reducible first | exact HB.out | apply below_alloc | apply pw_below_drewN | apply below_drew1) | exact HB.out)) hb); clear HB; have HB := n0_; clear n0_; (try clear hb); (try clear hb2); (try clear hk); (try clear hi)) | (go_at_call 87; (with_reducible refine (impl_CountNasalVoiceless.calls k a0 t174 _ A8.out).mono ?_); rintro e w13 ⟨rfl, hb⟩; have n0_ := Aside0.mk (below_step (by repeat (first | (with_reducible first | exact HB.out | apply below_alloc | apply pw_below_drewN | apply below_drew1) | exact HB.out)) hb); clear HB; have HB := n0_; clear n0_; (try clear hb); (try clear hb2); (try clear hk); (try clear hi)))
    go_ret
    exact ⟨by first | rfl | (simp [errW_none, errW_some] <;> rfl) | (simp [*, errW_none, errW_some] <;> rfl), by repeat (first | (with_reducible first | exact HB.out | apply below_alloc | apply pw_below_drewN | apply below_drew1) | exact HB.out)⟩
  · replace c3 := Bool.eq_false_iff.mpr c3
    subst c3
    have H1 : (some false) = some r := by rw [if_neg (show ¬ (false = true) by decide)] at H; exact H
    clear H
    have H := H1
    clear H1
    obtain rfl := Option.some.inj H
    go_enter Try.func45, Try.ntmps45
    go_wp2_with (first | ((with_reducible refine gate_callee (f := 85) rfl ?_); refine goesL_ (some 4) rfl rfl Try.func85 (by kernel_rfl) rfl #[.string a0] rfl (by (try simp only [List.map_toArray, List.map_cons, List.map_nil]); first | done | rfl | (simp only [List.length_drop, List.length_take]; rfl)) ?_; (with_reducible refine (impl_IsForm.calls k a0 false _ A2.out).mono ?_); rintro e w' ⟨rfl, ⟨nd, rfl⟩⟩; refine ⟨_, rfl, ?_⟩))
    go_ret
    exact ⟨by first | rfl | (simp [errW_none, errW_some] <;> rfl) | (simp [*, errW_none, errW_some] <;> rfl), by repeat (first | (with_reducible first | exact HB.out | apply below_alloc | apply pw_below_drewN | apply below_drew1) | exact HB.out)⟩

/-! ### laws_FnExactIsPerfect: function 12 -/
def laws_FnExactIsPerfect.f (k : Nat) (a0 : ByteArray) : Option (Bool) := if (a0.size : Int) > 1048576 then (some true) else ((spec_IsPerfect.f k a0).bind fun t175 => ((impl_IsPerfect.f k a0).bind fun t176 => (if (t176 != t175) = true then (some false) else (some true))))
theorem laws_FnExactIsPerfect.mono : ∀ a0 k, LeO (laws_FnExactIsPerfect.f k a0) (laws_FnExactIsPerfect.f (k + 1) a0) := by
  intro a0 k
  unfold laws_FnExactIsPerfect.f
  repeat' first
      | (with_reducible exact impl_IsPerfect.mono _ _)
      | (with_reducible exact spec_IsPerfect.mono _ _)
      | (with_reducible exact LeO.refl _)
      | (with_reducible exact LeO.none _)
      | (with_reducible refine LeO.ite ?_ ?_)
      | (with_reducible refine LeO.bind ?_ (fun _ => ?_))
      | exact impl_IsPerfect.mono _ _
      | exact spec_IsPerfect.mono _ _
      | exact LeO.none _
      | refine LeO.ite ?_ ?_
      | refine LeO.bind ?_ (fun _ => ?_)
set_option maxHeartbeats 8000000 in
set_option maxRecDepth 100000 in
theorem laws_FnExactIsPerfect.calls (k : Nat) (a0 : ByteArray) (r : Bool) (w : World) (h : laws_FnExactIsPerfect.f k a0 = some r) :
    Calls Try.prog 12 #[.string a0] w fun e w' => e = .returned (.bool r) ∧ Below w.heap.size w w' := by
  have HB := Aside0.mk (Below.refl w.heap.size w)
  have H : (if (a0.size : Int) > 1048576 then (some true) else ((spec_IsPerfect.f k a0).bind fun t175 => ((impl_IsPerfect.f k a0).bind fun t176 => (if (t176 != t175) = true then (some false) else (some true))))) = some r := h
  clear h
  by_cases c2 : (a0.size : Int) > 1048576
  · rw [if_pos c2] at H
    have c2b0 : decide (1048576 < (a0.size : Int)) = true := decide_eq_true c2
    have c2b1 : decide (1048576 < a0.size) = true := decide_eq_true (by omega)
    clear c2
    obtain rfl := Option.some.inj H
    go_enter Try.func12, Try.ntmps12
    go_wp2
    go_ret
    exact ⟨by first | rfl | (simp [errW_none, errW_some] <;> rfl) | (simp [*, errW_none, errW_some] <;> rfl), by repeat (first | (with_reducible first | exact HB.out | apply below_alloc | apply pw_below_drewN | apply below_drew1) | exact HB.out)⟩
  · rw [if_neg c2] at H
    have c2b0 : decide (1048576 < (a0.size : Int)) = false := decide_eq_false c2
    have c2b1 : decide (1048576 < a0.size) = false := decide_eq_false (by omega)
    clear c2
    replace H := Option.bind_eq_some_iff.mp H
    obtain ⟨t175, A30, H⟩ := H
    replace H : ((impl_IsPerfect.f k a0).bind fun t176 => (if (t176 != t175) = true then (some false) else (some true))) = some r := H
    have A3 := Aside0.mk A30
    clear A30
    replace H := Option.bind_eq_some_iff.mp H
    obtain ⟨t176, A40, H⟩ := H
    replace H : (if (t176 != t175) = true then (some false) else (some true)) = some r := H
    have A4 := Aside0.mk A40
    clear A40
    by_cases c5 : (t176 != t175) = true
    · rw [if_pos c5] at H
      have c5b0 : (t176 != t175) = true := c5
      (try (have c5b1 : decide (t176 = t175) = false := by simpa using c5))
      (try (have c5b2 : (t176 == t175) = false := by simpa using c5))
      (try (have c5b3 : ¬ (t176 = t175) := by simpa using c5))
      clear c5
      obtain rfl := Option.some.inj H
      go_enter Try.func12, Try.ntmps12
      go_wp2_with (first | ((with_reducible refine gate_callee (f := 44) rfl ?_); refine goesL_ (some 9) rfl rfl Try.func44 (by kernel_rfl) rfl #[.string a0] rfl (by (try simp only [List.map_toArray, List.map_cons, List.map_nil]); first | done | rfl | (simp only [List.length_drop, List.length_take]; rfl)) ?_; (with_reducible refine (spec_IsPerfect.calls k a0 t175 _ A3.out).mono ?_); rintro e w' ⟨rfl, ⟨nd, rfl⟩⟩; refine ⟨_, rfl, ?_⟩) | ((with_reducible refine gate_callee (f := 45) rfl ?_); refine goesL_ (some 11) rfl rfl Try.func45 (by kernel_rfl) rfl #[.string a0] rfl (by (try simp only [List.map_toArray, List.map_cons, List.map_nil]); first | done | rfl | (simp only [List.length_drop, List.length_take]; rfl)) ?_; (with_reducible refine (impl_IsPerfect.calls k a0 t176 _ A4.out).mono ?_); rintro e w6 ⟨rfl, hb⟩; refine ⟨_, rfl, ?_⟩; have n0_ := Aside0.mk (below_step (by repeat (first | (with_reducible first | exact HB.out | apply below_alloc | apply pw_below_drewN | apply below_drew1) | exact HB.out)) hb); clear HB; have HB := n0_; clear n0_; (try clear hb); (try clear hb2); (try clear hk); (try clear hi)))
      go_ret
      exact ⟨by first | rfl | (simp [errW_none, errW_some] <;> rfl) | (simp [*, errW_none, errW_some] <;> rfl), by repeat (first | (with_reducible first | exact HB.out | apply below_alloc | apply pw_below_drewN | apply below_drew1) | exact HB.out)⟩
    · rw [if_neg c5] at H
      have c5b0 : (t176 != t175) = false := by simpa using c5
      (try (have c5b1 : decide (t176 = t175) = true := by simpa using c5))
      (try (have c5b2 : (t176 == t175) = true := by simpa using c5))
      clear c5
      obtain rfl := Option.some.inj H
      go_enter Try.func12, Try.ntmps12
      go_wp2_with (first | ((with_reducible refine gate_callee (f := 44) rfl ?_); refine goesL_ (some 9) rfl rfl Try.func44 (by kernel_rfl) rfl #[.string a0] rfl (by (try simp only [List.map_toArray, List.map_cons, List.map_nil]); first | done | rfl | (simp only [List.length_drop, List.length_take]; rfl)) ?_; (with_reducible refine (spec_IsPerfect.calls k a0 t175 _ A3.out).mono ?_); rintro e w' ⟨rfl, ⟨nd, rfl⟩⟩; refine ⟨_, rfl, ?_⟩) | ((with_reducible refine gate_callee (f := 45) rfl ?_); refine goesL_ (some 11) rfl rfl Try.func45 (by kernel_rfl) rfl #[.string a0] rfl (by (try simp only [List.map_toArray, List.map_cons, List.map_nil]); first | done | rfl | (simp only [List.length_drop, List.length_take]; rfl)) ?_; (with_reducible refine (impl_IsPerfect.calls k a0 t176 _ A4.out).mono ?_); rintro e w7 ⟨rfl, hb⟩; refine ⟨_, rfl, ?_⟩; have n0_ := Aside0.mk (below_step (by repeat (first | (with_reducible first | exact HB.out | apply below_alloc | apply pw_below_drewN | apply below_drew1) | exact HB.out)) hb); clear HB; have HB := n0_; clear n0_; (try clear hb); (try clear hb2); (try clear hk); (try clear hi)))
      go_ret
      exact ⟨by first | rfl | (simp [errW_none, errW_some] <;> rfl) | (simp [*, errW_none, errW_some] <;> rfl), by repeat (first | (with_reducible first | exact HB.out | apply below_alloc | apply pw_below_drewN | apply below_drew1) | exact HB.out)⟩


/-- THE ONE PURE STATEMENT of laws_FnExactIsPerfect -/
def laws_FnExactIsPerfect.Pure : Prop := ∀ (a0 : ByteArray), BdStr a0 → ∃ k, laws_FnExactIsPerfect.f k a0 = some true

end Go.Proofs.Ytdamagcfmhimfab.PFnExactIsPerfect
