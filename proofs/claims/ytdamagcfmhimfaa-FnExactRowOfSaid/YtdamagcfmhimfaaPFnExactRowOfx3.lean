-- Made by gen.py (a program of this session) out of the translation; Lean checks it.
import Derived.Test.YtdamagcfmhimfaaPFnExactRowOfx0
import Derived.Test.YtdamagcfmhimfaaPFnExactRowOfx1
import Derived.Test.YtdamagcfmhimfaaPFnExactRowOfx2
namespace Go.Proofs.Ytdamagcfmhimfaa.PFnExactRowOf
open Go.RowKit Go.Proofs.YtdamagcfmhimfaaB Go.Proofs.YtdamagcfmhimfaaW.PrintWords Go.Proofs.YtdamagcfmhimfaaW.PrintLast Go.Proofs.YtdamagcfmhimfaaW.PrintMore
attribute [local go_sem] max2_int min2_int max_two min_two max_three min_three max_four min_four   -- for this text's walks alone
set_option linter.unusedVariables false
set_option linter.unusedSimpArgs false

/-! ### laws_FnExactRowOf: function 10 -/
mutual
def laws_FnExactRowOf.j0 : Nat → List Int → List Int → Bool → List Int → List Int → Bool → Bool → List Int → List Int → Option (Bool)
  | 0, _, _, _, _, _, _, _, _, _ => none
  | k + 1, x0, x1, x6, x7, x8, x10, x48, x161000, x172000 => if x48 = true then (none) else ((laws_toIntS.f k x0).bind fun t173 => ((laws_eqIntS.f k x7 t173).bind fun t176 => (if t176 = true then ((laws_toIntS.f k x1).bind fun t177 => ((laws_eqIntS.f k x8 t177).bind fun t180 => (if t180 = true then ((laws_markIntS.f k x7 1).bind fun bt181 => ((laws_markIntS.f k x8 bt181.1).bind fun bt183 => (if bt183.1 < 0 then (laws_FnExactRowOf.j1 k x0 x1 x6 true x161000 x172000) else ((laws_eqRow.f k x172000 x161000).bind fun t185 => (if t185 = true then (laws_FnExactRowOf.j1 k x0 x1 x6 (x10 != x6) x161000 x172000) else (laws_FnExactRowOf.j1 k x0 x1 x6 true x161000 x172000)))))) else (none)))) else (none))))
def laws_FnExactRowOf.j1 : Nat → List Int → List Int → Bool → Bool → List Int → List Int → Option (Bool)
  | 0, _, _, _, _, _, _ => none
  | k + 1, x0, x1, x6, x77, x161000, x172000 => if x77 = true then (none) else ((laws_markRow.f k x172000 1).bind fun bt186 => ((laws_heldRow.f k bt186.2 1).bind fun t188 => (if t188 < 0 then (none) else (if t188 = bt186.1 then ((laws_toIntS.f k x0).bind fun t189 => ((laws_toIntS.f k x1).bind fun t192 => ((impl_RowOf.f k t189 t192).bind fun bt195 => ((laws_eqRow.f k bt195.1 x161000).bind fun t200 => (if t200 = true then (laws_FnExactRowOf.j2 k bt186.1 (bt195.2 != x6) bt186.2) else (laws_FnExactRowOf.j2 k bt186.1 true bt186.2)))))) else (none)))))
def laws_FnExactRowOf.j2 : Nat → Int → Bool → List Int → Option (Bool)
  | 0, _, _, _ => none
  | k + 1, x12, x105, x172000 => if x105 = true then (none) else ((laws_heldRow.f k x172000 1).bind fun t201 => (if t201 < 0 then (none) else (if t201 = x12 then (some true) else (none))))
end
def laws_FnExactRowOf.f (k : Nat) (l0 : List Int) (l1 : List Int) : Option (Bool) := if (l0.length : Int) > 1048576 then (some true) else (if (l1.length : Int) > 1048576 then (some true) else ((laws_toIntS.f k l0).bind fun t150 => ((laws_toIntS.f k l1).bind fun t153 => ((spec_RowOf.f k t150 t153).bind fun bt156 => ((laws_toIntS.f k l0).bind fun t161 => ((laws_toIntS.f k l1).bind fun t164 => ((impl_RowOf.f k t161 t164).bind fun bt167 => ((laws_eqRow.f k bt167.1 bt156.1).bind fun t172 => (if t172 = true then (laws_FnExactRowOf.j0 k l0 l1 bt156.2 t161 t164 bt167.2 (bt167.2 != bt156.2) bt156.1 bt167.1) else (laws_FnExactRowOf.j0 k l0 l1 bt156.2 t161 t164 bt167.2 true bt156.1 bt167.1))))))))))
theorem laws_FnExactRowOf.mono_l : ∀ k, (∀ y0 y1 y2 y3 y4 y5 y6 y7 y8, LeO (laws_FnExactRowOf.j0 k y0 y1 y2 y3 y4 y5 y6 y7 y8) (laws_FnExactRowOf.j0 (k + 1) y0 y1 y2 y3 y4 y5 y6 y7 y8)) ∧ (∀ y0 y1 y2 y3 y4 y5, LeO (laws_FnExactRowOf.j1 k y0 y1 y2 y3 y4 y5) (laws_FnExactRowOf.j1 (k + 1) y0 y1 y2 y3 y4 y5)) ∧ (∀ y0 y1 y2, LeO (laws_FnExactRowOf.j2 k y0 y1 y2) (laws_FnExactRowOf.j2 (k + 1) y0 y1 y2))
  | 0 => ⟨fun _ _ _ _ _ _ _ _ _ r h => by simp [laws_FnExactRowOf.j0] at h, fun _ _ _ _ _ _ r h => by simp [laws_FnExactRowOf.j1] at h, fun _ _ _ r h => by simp [laws_FnExactRowOf.j2] at h⟩
  | k + 1 => by
    obtain ⟨ih0, ih1, ih2⟩ := laws_FnExactRowOf.mono_l k
    refine ⟨?_, ?_, ?_⟩
    · intro y0 y1 y2 y3 y4 y5 y6 y7 y8
      unfold laws_FnExactRowOf.j0
      repeat' first
      | (with_reducible exact ih0 _ _ _ _ _ _ _ _ _)
      | (with_reducible exact ih1 _ _ _ _ _ _)
      | (with_reducible exact ih2 _ _ _)
      | (with_reducible exact impl_RowOf.mono _ _ _)
      | (with_reducible exact laws_eqIntS.mono _ _ _)
      | (with_reducible exact laws_eqRow.mono _ _ _)
      | (with_reducible exact laws_heldRow.mono _ _ _)
      | (with_reducible exact laws_markIntS.mono _ _ _)
      | (with_reducible exact laws_markRow.mono _ _ _)
      | (with_reducible exact laws_toIntS.mono _ _)
      | (with_reducible exact spec_RowOf.mono _ _ _)
      | (with_reducible exact LeO.refl _)
      | (with_reducible exact LeO.none _)
      | (with_reducible refine LeO.ite ?_ ?_)
      | (with_reducible refine LeO.bind ?_ (fun _ => ?_))
      | exact ih0 _ _ _ _ _ _ _ _ _
      | exact ih1 _ _ _ _ _ _
      | exact ih2 _ _ _
      | exact impl_RowOf.mono _ _ _
      | exact laws_eqIntS.mono _ _ _
      | exact laws_eqRow.mono _ _ _
      | exact laws_heldRow.mono _ _ _
      | exact laws_markIntS.mono _ _ _
      | exact laws_markRow.mono _ _ _
      | exact laws_toIntS.mono _ _
      | exact spec_RowOf.mono _ _ _
      | exact LeO.none _
      | refine LeO.ite ?_ ?_
      | refine LeO.bind ?_ (fun _ => ?_)
    · intro y0 y1 y2 y3 y4 y5
      unfold laws_FnExactRowOf.j1
      repeat' first
      | (with_reducible exact ih0 _ _ _ _ _ _ _ _ _)
      | (with_reducible exact ih1 _ _ _ _ _ _)
      | (with_reducible exact ih2 _ _ _)
      | (with_reducible exact impl_RowOf.mono _ _ _)
      | (with_reducible exact laws_eqIntS.mono _ _ _)
      | (with_reducible exact laws_eqRow.mono _ _ _)
      | (with_reducible exact laws_heldRow.mono _ _ _)
      | (with_reducible exact laws_markIntS.mono _ _ _)
      | (with_reducible exact laws_markRow.mono _ _ _)
      | (with_reducible exact laws_toIntS.mono _ _)
      | (with_reducible exact spec_RowOf.mono _ _ _)
      | (with_reducible exact LeO.refl _)
      | (with_reducible exact LeO.none _)
      | (with_reducible refine LeO.ite ?_ ?_)
      | (with_reducible refine LeO.bind ?_ (fun _ => ?_))
      | exact ih0 _ _ _ _ _ _ _ _ _
      | exact ih1 _ _ _ _ _ _
      | exact ih2 _ _ _
      | exact impl_RowOf.mono _ _ _
      | exact laws_eqIntS.mono _ _ _
      | exact laws_eqRow.mono _ _ _
      | exact laws_heldRow.mono _ _ _
      | exact laws_markIntS.mono _ _ _
      | exact laws_markRow.mono _ _ _
      | exact laws_toIntS.mono _ _
      | exact spec_RowOf.mono _ _ _
      | exact LeO.none _
      | refine LeO.ite ?_ ?_
      | refine LeO.bind ?_ (fun _ => ?_)
    · intro y0 y1 y2
      unfold laws_FnExactRowOf.j2
      repeat' first
      | (with_reducible exact ih0 _ _ _ _ _ _ _ _ _)
      | (with_reducible exact ih1 _ _ _ _ _ _)
      | (with_reducible exact ih2 _ _ _)
      | (with_reducible exact impl_RowOf.mono _ _ _)
      | (with_reducible exact laws_eqIntS.mono _ _ _)
      | (with_reducible exact laws_eqRow.mono _ _ _)
      | (with_reducible exact laws_heldRow.mono _ _ _)
      | (with_reducible exact laws_markIntS.mono _ _ _)
      | (with_reducible exact laws_markRow.mono _ _ _)
      | (with_reducible exact laws_toIntS.mono _ _)
      | (with_reducible exact spec_RowOf.mono _ _ _)
      | (with_reducible exact LeO.refl _)
      | (with_reducible exact LeO.none _)
      | (with_reducible refine LeO.ite ?_ ?_)
      | (with_reducible refine LeO.bind ?_ (fun _ => ?_))
      | exact ih0 _ _ _ _ _ _ _ _ _
      | exact ih1 _ _ _ _ _ _
      | exact ih2 _ _ _
      | exact impl_RowOf.mono _ _ _
      | exact laws_eqIntS.mono _ _ _
      | exact laws_eqRow.mono _ _ _
      | exact laws_heldRow.mono _ _ _
      | exact laws_markIntS.mono _ _ _
      | exact laws_markRow.mono _ _ _
      | exact laws_toIntS.mono _ _
      | exact spec_RowOf.mono _ _ _
      | exact LeO.none _
      | refine LeO.ite ?_ ?_
      | refine LeO.bind ?_ (fun _ => ?_)
theorem laws_FnExactRowOf.mono : ∀ a0 a1 k, LeO (laws_FnExactRowOf.f k a0 a1) (laws_FnExactRowOf.f (k + 1) a0 a1) := by
  intro a0 a1 k
  obtain ⟨ih0, ih1, ih2⟩ := laws_FnExactRowOf.mono_l k
  unfold laws_FnExactRowOf.f
  repeat' first
      | (with_reducible exact ih0 _ _ _ _ _ _ _ _ _)
      | (with_reducible exact ih1 _ _ _ _ _ _)
      | (with_reducible exact ih2 _ _ _)
      | (with_reducible exact impl_RowOf.mono _ _ _)
      | (with_reducible exact laws_eqIntS.mono _ _ _)
      | (with_reducible exact laws_eqRow.mono _ _ _)
      | (with_reducible exact laws_heldRow.mono _ _ _)
      | (with_reducible exact laws_markIntS.mono _ _ _)
      | (with_reducible exact laws_markRow.mono _ _ _)
      | (with_reducible exact laws_toIntS.mono _ _)
      | (with_reducible exact spec_RowOf.mono _ _ _)
      | (with_reducible exact LeO.refl _)
      | (with_reducible exact LeO.none _)
      | (with_reducible refine LeO.ite ?_ ?_)
      | (with_reducible refine LeO.bind ?_ (fun _ => ?_))
      | exact ih0 _ _ _ _ _ _ _ _ _
      | exact ih1 _ _ _ _ _ _
      | exact ih2 _ _ _
      | exact impl_RowOf.mono _ _ _
      | exact laws_eqIntS.mono _ _ _
      | exact laws_eqRow.mono _ _ _
      | exact laws_heldRow.mono _ _ _
      | exact laws_markIntS.mono _ _ _
      | exact laws_markRow.mono _ _ _
      | exact laws_toIntS.mono _ _
      | exact spec_RowOf.mono _ _ _
      | exact LeO.none _
      | refine LeO.ite ?_ ?_
      | refine LeO.bind ?_ (fun _ => ?_)
set_option maxHeartbeats 8000000 in
set_option maxRecDepth 100000 in
theorem laws_FnExactRowOf.calls (k : Nat) (A0 : Option Addr) (c0 : Nat) (l0 : List Int) (A1 : Option Addr) (c1 : Nat) (l1 : List Int) (r : Bool) (w : World) (hr0 : Kd.C (Kd.int .i64) w A0 l0.length l0) (hc0 : l0.length ≤ c0) (hr1 : Kd.C (Kd.int .i64) w A1 l1.length l1) (hc1 : l1.length ≤ c1) (h : laws_FnExactRowOf.f k l0 l1 = some r) :
    Calls Try.prog 10 #[.slice A0 l0.length c0, .slice A1 l1.length c1] w fun e w' => e = .returned (.bool r) ∧ Below w.heap.size w w' := by
  have hu33 := Try.underlying33
  have HR0 := Aside0.mk hr0
  have HC0 := Aside0.mk hc0
  clear hr0 hc0
  have HR1 := Aside0.mk hr1
  have HC1 := Aside0.mk hc1
  clear hr1 hc1
  have HB := Aside0.mk (Below.refl w.heap.size w)
  have H : (if (l0.length : Int) > 1048576 then (some true) else (if (l1.length : Int) > 1048576 then (some true) else ((laws_toIntS.f k l0).bind fun t150 => ((laws_toIntS.f k l1).bind fun t153 => ((spec_RowOf.f k t150 t153).bind fun bt156 => ((laws_toIntS.f k l0).bind fun t161 => ((laws_toIntS.f k l1).bind fun t164 => ((impl_RowOf.f k t161 t164).bind fun bt167 => ((laws_eqRow.f k bt167.1 bt156.1).bind fun t172 => (if t172 = true then (laws_FnExactRowOf.j0 k l0 l1 bt156.2 t161 t164 bt167.2 (bt167.2 != bt156.2) bt156.1 bt167.1) else (laws_FnExactRowOf.j0 k l0 l1 bt156.2 t161 t164 bt167.2 true bt156.1 bt167.1))))))))))) = some r := h
  clear h
  by_cases c3 : (l0.length : Int) > 1048576
  · rw [if_pos c3] at H
    have c3b0 : decide (1048576 < (l0.length : Int)) = true := decide_eq_true c3
    have c3b1 : decide (1048576 < l0.length) = true := decide_eq_true (by omega)
    clear c3
    obtain rfl := Option.some.inj H
    go_enter Try.func10, Try.ntmps10
    go_wp2
    go_ret
    exact ⟨by first | rfl | (simp [errW_none, errW_some] <;> rfl) | (simp [*, errW_none, errW_some] <;> rfl), by repeat (first | (with_reducible first | exact HB.out | apply below_alloc | apply pw_below_drewN | apply below_drew1) | exact HB.out)⟩
  · rw [if_neg c3] at H
    have c3b0 : decide (1048576 < (l0.length : Int)) = false := decide_eq_false c3
    have c3b1 : decide (1048576 < l0.length) = false := decide_eq_false (by omega)
    clear c3
    by_cases c4 : (l1.length : Int) > 1048576
    · rw [if_pos c4] at H
      have c4b0 : decide (1048576 < (l1.length : Int)) = true := decide_eq_true c4
      have c4b1 : decide (1048576 < l1.length) = true := decide_eq_true (by omega)
      clear c4
      obtain rfl := Option.some.inj H
      go_enter Try.func10, Try.ntmps10
      go_wp2
      go_ret
      exact ⟨by first | rfl | (simp [errW_none, errW_some] <;> rfl) | (simp [*, errW_none, errW_some] <;> rfl), by repeat (first | (with_reducible first | exact HB.out | apply below_alloc | apply pw_below_drewN | apply below_drew1) | exact HB.out)⟩
    · rw [if_neg c4] at H
      have c4b0 : decide (1048576 < (l1.length : Int)) = false := decide_eq_false c4
      have c4b1 : decide (1048576 < l1.length) = false := decide_eq_false (by omega)
      clear c4
      replace H := Option.bind_eq_some_iff.mp H
      obtain ⟨t150, A50, H⟩ := H
      replace H : ((laws_toIntS.f k l1).bind fun t153 => ((spec_RowOf.f k t150 t153).bind fun bt156 => ((laws_toIntS.f k l0).bind fun t161 => ((laws_toIntS.f k l1).bind fun t164 => ((impl_RowOf.f k t161 t164).bind fun bt167 => ((laws_eqRow.f k bt167.1 bt156.1).bind fun t172 => (if t172 = true then (laws_FnExactRowOf.j0 k l0 l1 bt156.2 t161 t164 bt167.2 (bt167.2 != bt156.2) bt156.1 bt167.1) else (laws_FnExactRowOf.j0 k l0 l1 bt156.2 t161 t164 bt167.2 true bt156.1 bt167.1)))))))) = some r := H
      have A5 := Aside0.mk A50
      clear A50
      replace H := Option.bind_eq_some_iff.mp H
      obtain ⟨t153, A60, H⟩ := H
      replace H : ((spec_RowOf.f k t150 t153).bind fun bt156 => ((laws_toIntS.f k l0).bind fun t161 => ((laws_toIntS.f k l1).bind fun t164 => ((impl_RowOf.f k t161 t164).bind fun bt167 => ((laws_eqRow.f k bt167.1 bt156.1).bind fun t172 => (if t172 = true then (laws_FnExactRowOf.j0 k l0 l1 bt156.2 t161 t164 bt167.2 (bt167.2 != bt156.2) bt156.1 bt167.1) else (laws_FnExactRowOf.j0 k l0 l1 bt156.2 t161 t164 bt167.2 true bt156.1 bt167.1))))))) = some r := H
      have A6 := Aside0.mk A60
      clear A60
      replace H := Option.bind_eq_some_iff.mp H
      obtain ⟨⟨t156, t159⟩, A70, H⟩ := H
      replace H : ((laws_toIntS.f k l0).bind fun t161 => ((laws_toIntS.f k l1).bind fun t164 => ((impl_RowOf.f k t161 t164).bind fun bt167 => ((laws_eqRow.f k bt167.1 t156).bind fun t172 => (if t172 = true then (laws_FnExactRowOf.j0 k l0 l1 t159 t161 t164 bt167.2 (bt167.2 != t159) t156 bt167.1) else (laws_FnExactRowOf.j0 k l0 l1 t159 t161 t164 bt167.2 true t156 bt167.1)))))) = some r := H
      have A7 := Aside0.mk A70
      clear A70
      replace H := Option.bind_eq_some_iff.mp H
      obtain ⟨t161, A80, H⟩ := H
      replace H : ((laws_toIntS.f k l1).bind fun t164 => ((impl_RowOf.f k t161 t164).bind fun bt167 => ((laws_eqRow.f k bt167.1 t156).bind fun t172 => (if t172 = true then (laws_FnExactRowOf.j0 k l0 l1 t159 t161 t164 bt167.2 (bt167.2 != t159) t156 bt167.1) else (laws_FnExactRowOf.j0 k l0 l1 t159 t161 t164 bt167.2 true t156 bt167.1))))) = some r := H
      have A8 := Aside0.mk A80
      clear A80
      replace H := Option.bind_eq_some_iff.mp H
      obtain ⟨t164, A90, H⟩ := H
      replace H : ((impl_RowOf.f k t161 t164).bind fun bt167 => ((laws_eqRow.f k bt167.1 t156).bind fun t172 => (if t172 = true then (laws_FnExactRowOf.j0 k l0 l1 t159 t161 t164 bt167.2 (bt167.2 != t159) t156 bt167.1) else (laws_FnExactRowOf.j0 k l0 l1 t159 t161 t164 bt167.2 true t156 bt167.1)))) = some r := H
      have A9 := Aside0.mk A90
      clear A90
      replace H := Option.bind_eq_some_iff.mp H
      obtain ⟨⟨t167, t170⟩, A100, H⟩ := H
      replace H : ((laws_eqRow.f k t167 t156).bind fun t172 => (if t172 = true then (laws_FnExactRowOf.j0 k l0 l1 t159 t161 t164 t170 (t170 != t159) t156 t167) else (laws_FnExactRowOf.j0 k l0 l1 t159 t161 t164 t170 true t156 t167))) = some r := H
      have A10 := Aside0.mk A100
      clear A100
      have HC11 := Aside0.mk H
      clear H
      go_enter Try.func10, Try.ntmps10
      go_upto_region 9 with (first | ((with_reducible refine gate_callee (f := 75) rfl ?_); refine goesL_ (some 24) rfl rfl Try.func75 (by kernel_rfl) rfl #[.slice A0 l0.length c0] rfl (by (try simp only [List.map_toArray, List.map_cons, List.map_nil]); first | done | rfl | (simp only [List.length_drop, List.length_take]; rfl)) ?_; (with_reducible refine (laws_toIntS.calls k _ _ l0 t150 _ ?side1 ?side2 A5.out).mono ?_); (case side1 => repeat (first | exact HR0.out | (with_reducible refine Kd.C_alloc ?_ _) | (with_reducible refine Kd.C_drewN ?_ _) | (with_reducible refine Kd.C_drew ?_))); (case side2 => exact HC0.out); rintro e w12 ⟨v151, rfl, ho0, hb⟩; refine ⟨_, rfl, ?_⟩; have n0_ := Aside0.mk (Kd.R_lower ho0 (below_size (by repeat (first | (with_reducible first | exact HB.out | apply below_alloc | apply pw_below_drewN | apply below_drew1) | exact HB.out)))); have n1_ := Aside0.mk (below_step (by repeat (first | (with_reducible first | exact HB.out | apply below_alloc | apply pw_below_drewN | apply below_drew1) | exact HB.out)) hb); clear HB; have HO152 := n0_; have HB := n1_; clear n0_ n1_; (try clear hb); (try clear hb2); (try clear hk); (try clear hi); (try clear ho0)) | ((with_reducible refine gate_callee (f := 75) rfl ?_); refine goesL_ (some 26) rfl rfl Try.func75 (by kernel_rfl) rfl #[.slice A1 l1.length c1] rfl (by (try simp only [List.map_toArray, List.map_cons, List.map_nil]); first | done | rfl | (simp only [List.length_drop, List.length_take]; rfl)) ?_; (with_reducible refine (laws_toIntS.calls k _ _ l1 t153 _ ?side1 ?side2 A6.out).mono ?_); (case side1 => repeat (first | exact (Kd.C_below HR1.out HB.out) | (with_reducible refine Kd.C_alloc ?_ _) | (with_reducible refine Kd.C_drewN ?_ _) | (with_reducible refine Kd.C_drew ?_))); (case side2 => exact HC1.out); rintro e w13 ⟨v154, rfl, ho0, hb⟩; refine ⟨_, rfl, ?_⟩; have n0_ := Aside0.mk (Kd.R_elder' (by (with_reducible repeat (first | apply Kd.R_alloc | apply Kd.R_drewN | apply Kd.R_drew)); exact HO152.out) (Kd.R_base ho0) hb); have n1_ := Aside0.mk (Kd.R_lower (Kd.R_new' ho0 (Kd.R_lt (by (with_reducible repeat (first | apply Kd.R_alloc | apply Kd.R_drewN | apply Kd.R_drew)); exact HO152.out))) (below_size (by repeat (first | (with_reducible first | exact HB.out | apply below_alloc | apply pw_below_drewN | apply below_drew1) | exact HB.out)))); have n2_ := Aside0.mk (below_step (by repeat (first | (with_reducible first | exact HB.out | apply below_alloc | apply pw_below_drewN | apply below_drew1) | exact HB.out)) hb); clear HO152; clear HB; have HO152 := n0_; have HO155 := n1_; have HB := n2_; clear n0_ n1_ n2_; (try clear hb); (try clear hb2); (try clear hk); (try clear hi); (try clear ho0); obtain ⟨Ao14, co14, eo14⟩ := Kd.R_slice HO152.out; subst eo14; obtain ⟨Ao15, co15, eo15⟩ := Kd.R_slice HO155.out; subst eo15) | ((with_reducible refine gate_callee (f := 74) rfl ?_); refine goesL_ (some 27) rfl rfl Try.func74 (by kernel_rfl) rfl #[.slice Ao14 t150.length co14, .slice Ao15 t153.length co15] rfl (by (try simp only [List.map_toArray, List.map_cons, List.map_nil]); first | done | rfl | (simp only [List.length_drop, List.length_take]; rfl)) ?_; (with_reducible refine (spec_RowOf.calls k _ _ t150 _ _ t153 t156 t159 _ ?side1 ?side2 ?side3 ?side4 A7.out).mono ?_); (case side1 => repeat (first | exact (Kd.R_reads' HO152.out).2.2 | (with_reducible refine Kd.C_alloc ?_ _) | (with_reducible refine Kd.C_drewN ?_ _) | (with_reducible refine Kd.C_drew ?_))); (case side2 => exact (Kd.R_reads' HO152.out).2.1); (case side3 => repeat (first | exact (Kd.R_reads' HO155.out).2.2 | (with_reducible refine Kd.C_alloc ?_ _) | (with_reducible refine Kd.C_drewN ?_ _) | (with_reducible refine Kd.C_drew ?_))); (case side4 => exact (Kd.R_reads' HO155.out).2.1); rintro e w16 ⟨v157, rfl, ho0, hb⟩; refine ⟨_, rfl, ?_⟩; have n0_ := Aside0.mk (Kd.R_elder' (by (with_reducible repeat (first | apply Kd.R_alloc | apply Kd.R_drewN | apply Kd.R_drew)); exact HO152.out) (Kd.R_base ho0) hb); have n1_ := Aside0.mk (Kd.R_elder' (by (with_reducible repeat (first | apply Kd.R_alloc | apply Kd.R_drewN | apply Kd.R_drew)); exact HO155.out) (Kd.R_base ho0) hb); have n2_ := Aside0.mk (Kd.R_lower (Kd.R_new' (Kd.R_new' ho0 (Kd.R_lt (by (with_reducible repeat (first | apply Kd.R_alloc | apply Kd.R_drewN | apply Kd.R_drew)); exact HO152.out))) (Kd.R_lt (by (with_reducible repeat (first | apply Kd.R_alloc | apply Kd.R_drewN | apply Kd.R_drew)); exact HO155.out))) (below_size (by repeat (first | (with_reducible first | exact HB.out | apply below_alloc | apply pw_below_drewN | apply below_drew1) | exact HB.out)))); have n3_ := Aside0.mk (below_step (by repeat (first | (with_reducible first | exact HB.out | apply below_alloc | apply pw_below_drewN | apply below_drew1) | exact HB.out)) hb); clear HO152; clear HO155; clear HB; have HO152 := n0_; have HO155 := n1_; have HO158 := n2_; have HB := n3_; clear n0_ n1_ n2_ n3_; (try clear hb); (try clear hb2); (try clear hk); (try clear hi); (try clear ho0)) | ((with_reducible refine gate_dst (N := 5) rfl ?_); refine box_event ?hg (N := 5) ?hd (cs := #[.slice none 0 0]) (t := 33) ?hr ?_; (case hd => rfl); (case hg => rfl); (case hr => first | (go_simp; done) | (go_simp; rfl)); intro gb160 hg w17 hbox hb; have n0_ := Aside0.mk (Kd.R_below (by (with_reducible repeat (first | apply Kd.R_alloc | apply Kd.R_drewN | apply Kd.R_drew)); exact HO152.out) hb); have n1_ := Aside0.mk (Kd.R_below (by (with_reducible repeat (first | apply Kd.R_alloc | apply Kd.R_drewN | apply Kd.R_drew)); exact HO155.out) hb); have n2_ := Aside0.mk (Kd.R_below (by (with_reducible repeat (first | apply Kd.R_alloc | apply Kd.R_drewN | apply Kd.R_drew)); exact HO158.out) hb); have n3_ := Aside0.mk (below_step (by repeat (first | (with_reducible first | exact HB.out | apply below_alloc | apply pw_below_drewN | apply below_drew1) | exact HB.out)) hb); have n4_ := Aside0.mk (hbox); have n5_ := Aside0.mk ((by rw [hg]; exact (below_size (by repeat (first | (with_reducible first | exact HB.out | apply below_alloc | apply pw_below_drewN | apply below_drew1) | exact HB.out))) : w.heap.size ≤ gb160)); have n6_ := Aside0.mk ((by rw [hg]; exact (below_size (by repeat (first | (with_reducible first | exact HB.out | apply below_alloc | apply pw_below_drewN | apply below_drew1) | exact HB.out))) : w.heap.size ≤ gb160)); clear HO152; clear HO155; clear HO158; clear HB; have HO152 := n0_; have HO155 := n1_; have HO158 := n2_; have HB := n3_; have BK160 := n4_; have GW160 := n5_; have GE160 := n6_; clear n0_ n1_ n2_ n3_ n4_ n5_ n6_; clear hb hbox hg; obtain ⟨Ao18, co18, eo18⟩ := Kd.R_slice HO158.out; subst eo18; have hcz19_0 : w17.cell? ⟨gb160, 0, none⟩ = some (.slice none 0 0) := (blk_cell BK160.out 0).trans rfl; have hfz19_0 := blk_frozen BK160.out 0) | ((with_reducible refine gate_callee (f := 75) rfl ?_); refine goesL_ (some 31) rfl rfl Try.func75 (by kernel_rfl) rfl #[.slice A0 l0.length c0] rfl (by (try simp only [List.map_toArray, List.map_cons, List.map_nil]); first | done | rfl | (simp only [List.length_drop, List.length_take]; rfl)) ?_; (with_reducible refine (laws_toIntS.calls k _ _ l0 t161 _ ?side1 ?side2 A8.out).mono ?_); (case side1 => exact Kd.C_below HR0.out (by repeat (first | (with_reducible first | exact HB.out | apply below_alloc | apply pw_below_drewN | apply below_drew1 | refine below_set ?_ GE160.out) | exact HB.out))); (case side2 => exact HC0.out); rintro e w20 ⟨v162, rfl, ho0, hb⟩; refine ⟨_, rfl, ?_⟩; have n0_ := Aside0.mk (Kd.R_elder' (by (with_reducible repeat (first | apply Kd.R_alloc | apply Kd.R_drewN | apply Kd.R_drew)); exact (Kd.R_mono (Kd.R_far (p := ⟨gb160, 0, none⟩) (Kd.R_types HO152.out BK160.out (by decide)) (fun _ hk => hk.2) (.slice Ao18 t156.length co18)) (fun _ h_ => h_.1))) (Kd.R_base ho0) hb); have n1_ := Aside0.mk (Kd.R_elder' (by (with_reducible repeat (first | apply Kd.R_alloc | apply Kd.R_drewN | apply Kd.R_drew)); exact (Kd.R_mono (Kd.R_far (p := ⟨gb160, 0, none⟩) (Kd.R_types HO155.out BK160.out (by decide)) (fun _ hk => hk.2) (.slice Ao18 t156.length co18)) (fun _ h_ => h_.1))) (Kd.R_base ho0) hb); have n2_ := Aside0.mk (Kd.R_elder' (by (with_reducible repeat (first | apply Kd.R_alloc | apply Kd.R_drewN | apply Kd.R_drew)); exact (Kd.R_mono (Kd.R_far (p := ⟨gb160, 0, none⟩) (Kd.R_types HO158.out BK160.out (by decide)) (fun _ hk => hk.2) (.slice Ao18 t156.length co18)) (fun _ h_ => h_.1))) (Kd.R_base ho0) hb); have n3_ := Aside0.mk (Kd.R_lower (Kd.R_new' (Kd.R_new' (Kd.R_new' ho0 (Kd.R_lt (by (with_reducible repeat (first | apply Kd.R_alloc | apply Kd.R_drewN | apply Kd.R_drew)); exact (Kd.R_mono (Kd.R_far (p := ⟨gb160, 0, none⟩) (Kd.R_types HO152.out BK160.out (by decide)) (fun _ hk => hk.2) (.slice Ao18 t156.length co18)) (fun _ h_ => h_.1))))) (Kd.R_lt (by (with_reducible repeat (first | apply Kd.R_alloc | apply Kd.R_drewN | apply Kd.R_drew)); exact (Kd.R_mono (Kd.R_far (p := ⟨gb160, 0, none⟩) (Kd.R_types HO155.out BK160.out (by decide)) (fun _ hk => hk.2) (.slice Ao18 t156.length co18)) (fun _ h_ => h_.1))))) (Kd.R_lt (by (with_reducible repeat (first | apply Kd.R_alloc | apply Kd.R_drewN | apply Kd.R_drew)); exact (Kd.R_mono (Kd.R_far (p := ⟨gb160, 0, none⟩) (Kd.R_types HO158.out BK160.out (by decide)) (fun _ hk => hk.2) (.slice Ao18 t156.length co18)) (fun _ h_ => h_.1))))) (below_size (by repeat (first | (with_reducible first | exact HB.out | apply below_alloc | apply pw_below_drewN | apply below_drew1 | refine below_set ?_ GE160.out) | exact HB.out)))); have n4_ := Aside0.mk (blk_below (g := gb160) (o := .cells #[.slice Ao18 t156.length co18] 33 (0, 0)) (by (with_reducible repeat (first | refine blk_drewN ?_ _ | refine blk_drew ?_ | refine blk_alloc ?_ _)); refine blk_put (cs := #[.slice none 0 0]) ?_ 0 _ rfl; (with_reducible repeat (first | refine blk_drewN ?_ _ | refine blk_drew ?_ | refine blk_alloc ?_ _)); exact BK160.out) hb); have n5_ := Aside0.mk (below_step (by repeat (first | (with_reducible first | exact HB.out | apply below_alloc | apply pw_below_drewN | apply below_drew1 | refine below_set ?_ GE160.out) | exact HB.out)) hb); clear HO152; clear HO155; clear HO158; clear BK160; clear HB; have HO152 := n0_; have HO155 := n1_; have HO158 := n2_; have HO163 := n3_; have BK160 := n4_; have HB := n5_; clear n0_ n1_ n2_ n3_ n4_ n5_; (try clear hb); (try clear hb2); (try clear hk); (try clear hi); (try clear ho0)) | ((with_reducible refine gate_callee (f := 75) rfl ?_); refine goesL_ (some 33) rfl rfl Try.func75 (by kernel_rfl) rfl #[.slice A1 l1.length c1] rfl (by (try simp only [List.map_toArray, List.map_cons, List.map_nil]); first | done | rfl | (simp only [List.length_drop, List.length_take]; rfl)) ?_; (with_reducible refine (laws_toIntS.calls k _ _ l1 t164 _ ?side1 ?side2 A9.out).mono ?_); (case side1 => repeat (first | exact (Kd.C_below HR1.out HB.out) | (with_reducible refine Kd.C_alloc ?_ _) | (with_reducible refine Kd.C_drewN ?_ _) | (with_reducible refine Kd.C_drew ?_))); (case side2 => exact HC1.out); rintro e w21 ⟨v165, rfl, ho0, hb⟩; refine ⟨_, rfl, ?_⟩; have n0_ := Aside0.mk (Kd.R_elder' (by (with_reducible repeat (first | apply Kd.R_alloc | apply Kd.R_drewN | apply Kd.R_drew)); exact HO152.out) (Kd.R_base ho0) hb); have n1_ := Aside0.mk (Kd.R_elder' (by (with_reducible repeat (first | apply Kd.R_alloc | apply Kd.R_drewN | apply Kd.R_drew)); exact HO155.out) (Kd.R_base ho0) hb); have n2_ := Aside0.mk (Kd.R_elder' (by (with_reducible repeat (first | apply Kd.R_alloc | apply Kd.R_drewN | apply Kd.R_drew)); exact HO158.out) (Kd.R_base ho0) hb); have n3_ := Aside0.mk (Kd.R_elder' (by (with_reducible repeat (first | apply Kd.R_alloc | apply Kd.R_drewN | apply Kd.R_drew)); exact HO163.out) (Kd.R_base ho0) hb); have n4_ := Aside0.mk (Kd.R_lower (Kd.R_new' (Kd.R_new' (Kd.R_new' (Kd.R_new' ho0 (Kd.R_lt (by (with_reducible repeat (first | apply Kd.R_alloc | apply Kd.R_drewN | apply Kd.R_drew)); exact HO152.out))) (Kd.R_lt (by (with_reducible repeat (first | apply Kd.R_alloc | apply Kd.R_drewN | apply Kd.R_drew)); exact HO155.out))) (Kd.R_lt (by (with_reducible repeat (first | apply Kd.R_alloc | apply Kd.R_drewN | apply Kd.R_drew)); exact HO158.out))) (Kd.R_lt (by (with_reducible repeat (first | apply Kd.R_alloc | apply Kd.R_drewN | apply Kd.R_drew)); exact HO163.out))) (below_size (by repeat (first | (with_reducible first | exact HB.out | apply below_alloc | apply pw_below_drewN | apply below_drew1 | refine below_set ?_ GE160.out) | exact HB.out)))); have n5_ := Aside0.mk (blk_below (g := gb160) (o := .cells #[.slice Ao18 t156.length co18] 33 (0, 0)) (by (with_reducible repeat (first | refine blk_drewN ?_ _ | refine blk_drew ?_ | refine blk_alloc ?_ _)); exact BK160.out) hb); have n6_ := Aside0.mk (below_step (by repeat (first | (with_reducible first | exact HB.out | apply below_alloc | apply pw_below_drewN | apply below_drew1 | refine below_set ?_ GE160.out) | exact HB.out)) hb); clear HO152; clear HO155; clear HO158; clear HO163; clear BK160; clear HB; have HO152 := n0_; have HO155 := n1_; have HO158 := n2_; have HO163 := n3_; have HO166 := n4_; have BK160 := n5_; have HB := n6_; clear n0_ n1_ n2_ n3_ n4_ n5_ n6_; (try clear hb); (try clear hb2); (try clear hk); (try clear hi); (try clear ho0); obtain ⟨Ao22, co22, eo22⟩ := Kd.R_slice HO163.out; subst eo22; obtain ⟨Ao23, co23, eo23⟩ := Kd.R_slice HO166.out; subst eo23) | ((with_reducible refine gate_callee (f := 76) rfl ?_); refine goesL_ (some 37) rfl rfl Try.func76 (by kernel_rfl) rfl #[.slice Ao22 t161.length co22, .slice Ao23 t164.length co23] rfl (by (try simp only [List.map_toArray, List.map_cons, List.map_nil]); first | done | rfl | (simp only [List.length_drop, List.length_take]; rfl)) ?_; (with_reducible refine (impl_RowOf.calls k _ _ t161 _ _ t164 t167 t170 _ ?side1 ?side2 ?side3 ?side4 A10.out).mono ?_); (case side1 => repeat (first | exact (Kd.R_reads' HO163.out).2.2 | (with_reducible refine Kd.C_alloc ?_ _) | (with_reducible refine Kd.C_drewN ?_ _) | (with_reducible refine Kd.C_drew ?_))); (case side2 => exact (Kd.R_reads' HO163.out).2.1); (case side3 => repeat (first | exact (Kd.R_reads' HO166.out).2.2 | (with_reducible refine Kd.C_alloc ?_ _) | (with_reducible refine Kd.C_drewN ?_ _) | (with_reducible refine Kd.C_drew ?_))); (case side4 => exact (Kd.R_reads' HO166.out).2.1); rintro e w24 ⟨v168, rfl, ho0, hb⟩; refine ⟨_, rfl, ?_⟩; have n0_ := Aside0.mk (Kd.R_elder' (by (with_reducible repeat (first | apply Kd.R_alloc | apply Kd.R_drewN | apply Kd.R_drew)); exact HO152.out) (Kd.R_base ho0) hb); have n1_ := Aside0.mk (Kd.R_elder' (by (with_reducible repeat (first | apply Kd.R_alloc | apply Kd.R_drewN | apply Kd.R_drew)); exact HO155.out) (Kd.R_base ho0) hb); have n2_ := Aside0.mk (Kd.R_elder' (by (with_reducible repeat (first | apply Kd.R_alloc | apply Kd.R_drewN | apply Kd.R_drew)); exact HO158.out) (Kd.R_base ho0) hb); have n3_ := Aside0.mk (Kd.R_elder' (by (with_reducible repeat (first | apply Kd.R_alloc | apply Kd.R_drewN | apply Kd.R_drew)); exact HO163.out) (Kd.R_base ho0) hb); have n4_ := Aside0.mk (Kd.R_elder' (by (with_reducible repeat (first | apply Kd.R_alloc | apply Kd.R_drewN | apply Kd.R_drew)); exact HO166.out) (Kd.R_base ho0) hb); have n5_ := Aside0.mk (Kd.R_lower (Kd.R_new' (Kd.R_new' (Kd.R_new' (Kd.R_new' (Kd.R_new' ho0 (Kd.R_lt (by (with_reducible repeat (first | apply Kd.R_alloc | apply Kd.R_drewN | apply Kd.R_drew)); exact HO152.out))) (Kd.R_lt (by (with_reducible repeat (first | apply Kd.R_alloc | apply Kd.R_drewN | apply Kd.R_drew)); exact HO155.out))) (Kd.R_lt (by (with_reducible repeat (first | apply Kd.R_alloc | apply Kd.R_drewN | apply Kd.R_drew)); exact HO158.out))) (Kd.R_lt (by (with_reducible repeat (first | apply Kd.R_alloc | apply Kd.R_drewN | apply Kd.R_drew)); exact HO163.out))) (Kd.R_lt (by (with_reducible repeat (first | apply Kd.R_alloc | apply Kd.R_drewN | apply Kd.R_drew)); exact HO166.out))) (below_size (by repeat (first | (with_reducible first | exact HB.out | apply below_alloc | apply pw_below_drewN | apply below_drew1 | refine below_set ?_ GE160.out) | exact HB.out)))); have n6_ := Aside0.mk (blk_below (g := gb160) (o := .cells #[.slice Ao18 t156.length co18] 33 (0, 0)) (by (with_reducible repeat (first | refine blk_drewN ?_ _ | refine blk_drew ?_ | refine blk_alloc ?_ _)); exact BK160.out) hb); have n7_ := Aside0.mk (below_step (by repeat (first | (with_reducible first | exact HB.out | apply below_alloc | apply pw_below_drewN | apply below_drew1 | refine below_set ?_ GE160.out) | exact HB.out)) hb); clear HO152; clear HO155; clear HO158; clear HO163; clear HO166; clear BK160; clear HB; have HO152 := n0_; have HO155 := n1_; have HO158 := n2_; have HO163 := n3_; have HO166 := n4_; have HO169 := n5_; have BK160 := n6_; have HB := n7_; clear n0_ n1_ n2_ n3_ n4_ n5_ n6_ n7_; (try clear hb); (try clear hb2); (try clear hk); (try clear hi); (try clear ho0)) | ((with_reducible refine gate_dst (N := 9) rfl ?_); refine box_event ?hg (N := 9) ?hd (cs := #[.slice none 0 0]) (t := 33) ?hr ?_; (case hd => rfl); (case hg => rfl); (case hr => first | (go_simp; done) | (go_simp; rfl)); intro gb171 hg w25 hbox hb; have n0_ := Aside0.mk (Kd.R_below (by (with_reducible repeat (first | apply Kd.R_alloc | apply Kd.R_drewN | apply Kd.R_drew)); exact HO152.out) hb); have n1_ := Aside0.mk (Kd.R_below (by (with_reducible repeat (first | apply Kd.R_alloc | apply Kd.R_drewN | apply Kd.R_drew)); exact HO155.out) hb); have n2_ := Aside0.mk (Kd.R_below (by (with_reducible repeat (first | apply Kd.R_alloc | apply Kd.R_drewN | apply Kd.R_drew)); exact HO158.out) hb); have n3_ := Aside0.mk (Kd.R_below (by (with_reducible repeat (first | apply Kd.R_alloc | apply Kd.R_drewN | apply Kd.R_drew)); exact HO163.out) hb); have n4_ := Aside0.mk (Kd.R_below (by (with_reducible repeat (first | apply Kd.R_alloc | apply Kd.R_drewN | apply Kd.R_drew)); exact HO166.out) hb); have n5_ := Aside0.mk (Kd.R_below (by (with_reducible repeat (first | apply Kd.R_alloc | apply Kd.R_drewN | apply Kd.R_drew)); exact HO169.out) hb); have n6_ := Aside0.mk (blk_below (g := gb160) (o := .cells #[.slice Ao18 t156.length co18] 33 (0, 0)) (by (with_reducible repeat (first | refine blk_drewN ?_ _ | refine blk_drew ?_ | refine blk_alloc ?_ _)); exact BK160.out) hb); have n7_ := Aside0.mk (below_step (by repeat (first | (with_reducible first | exact HB.out | apply below_alloc | apply pw_below_drewN | apply below_drew1 | refine below_set ?_ GE160.out) | exact HB.out)) hb); have n8_ := Aside0.mk (hbox); have n9_ := Aside0.mk ((by rw [hg]; exact (below_size (by repeat (first | (with_reducible first | exact HB.out | apply below_alloc | apply pw_below_drewN | apply below_drew1 | refine below_set ?_ GE160.out) | exact HB.out))) : w.heap.size ≤ gb171)); have n10_ := Aside0.mk ((by rw [hg]; exact (below_size (by repeat (first | (with_reducible first | exact HB.out | apply below_alloc | apply pw_below_drewN | apply below_drew1 | refine below_set ?_ GE160.out) | exact HB.out))) : w.heap.size ≤ gb171)); have n11_ := Aside0.mk ((by rw [hg]; exact Nat.ne_of_lt (blk_lt (g := gb160) (o := .cells #[.slice Ao18 t156.length co18] 33 (0, 0)) (by (with_reducible repeat (first | refine blk_drewN ?_ _ | refine blk_drew ?_ | refine blk_alloc ?_ _)); exact BK160.out)) : gb160 ≠ gb171)); have n12_ := Aside0.mk ((by rw [hg]; exact Nat.ne_of_gt (blk_lt (g := gb160) (o := .cells #[.slice Ao18 t156.length co18] 33 (0, 0)) (by (with_reducible repeat (first | refine blk_drewN ?_ _ | refine blk_drew ?_ | refine blk_alloc ?_ _)); exact BK160.out)) : gb171 ≠ gb160)); clear HO152; clear HO155; clear HO158; clear HO163; clear HO166; clear HO169; clear BK160; clear HB; have HO152 := n0_; have HO155 := n1_; have HO158 := n2_; have HO163 := n3_; have HO166 := n4_; have HO169 := n5_; have BK160 := n6_; have HB := n7_; have BK171 := n8_; have GW171 := n9_; have GE171 := n10_; have NB160_171 := n11_; have NB171_160 := n12_; clear n0_ n1_ n2_ n3_ n4_ n5_ n6_ n7_ n8_ n9_ n10_ n11_ n12_; clear hb hbox hg; obtain ⟨Ao26, co26, eo26⟩ := Kd.R_slice HO169.out; subst eo26; have hnb27 := NB171_160.out; have hnc27 := NB160_171.out; have hcz28_0 : w25.cell? ⟨gb171, 0, none⟩ = some (.slice none 0 0) := (blk_cell BK171.out 0).trans rfl; have hfz28_0 := blk_frozen BK171.out 0))
      (try simp only [Act.put, List.setIfInBounds_toArray, List.set_cons_zero, List.set_cons_succ])
      go_cut [48] (fun v48 wc => ∃ (kq : Nat) (x48_10 : Bool), v48 = .bool x48_10 ∧ Aside0 (laws_FnExactRowOf.j0 kq l0 l1 t159 t161 t164 t170 x48_10 t156 t167 = some r) ∧ Aside0 (kq ≤ k) ∧ Aside0 (Kd.R (Kd.int .i64) 3 wc w.heap.size (fun k_ => some k_ ≠ ((.slice Ao23 t164.length co23) : Value).ownBlock ∧ some k_ ≠ ((.slice Ao18 t156.length co18) : Value).ownBlock ∧ some k_ ≠ ((.slice Ao26 t167.length co26) : Value).ownBlock) (.slice Ao22 t161.length co22) t161) ∧ Aside0 (Kd.R (Kd.int .i64) 3 wc w.heap.size (fun k_ => some k_ ≠ ((.slice Ao22 t161.length co22) : Value).ownBlock ∧ some k_ ≠ ((.slice Ao18 t156.length co18) : Value).ownBlock ∧ some k_ ≠ ((.slice Ao26 t167.length co26) : Value).ownBlock) (.slice Ao23 t164.length co23) t164) ∧ Aside0 (Kd.R (Kd.int .i64) 3 wc w.heap.size (fun k_ => some k_ ≠ ((.slice Ao22 t161.length co22) : Value).ownBlock ∧ some k_ ≠ ((.slice Ao23 t164.length co23) : Value).ownBlock ∧ some k_ ≠ ((.slice Ao26 t167.length co26) : Value).ownBlock) (.slice Ao18 t156.length co18) t156) ∧ Aside0 (Kd.R (Kd.int .i64) 3 wc w.heap.size (fun k_ => some k_ ≠ ((.slice Ao22 t161.length co22) : Value).ownBlock ∧ some k_ ≠ ((.slice Ao23 t164.length co23) : Value).ownBlock ∧ some k_ ≠ ((.slice Ao18 t156.length co18) : Value).ownBlock) (.slice Ao26 t167.length co26) t167) ∧ Aside0 (wc.heap[gb160]? = some (.cells #[(.slice Ao18 t156.length co18)] 33 (0, 0))) ∧ Aside0 (wc.heap[gb171]? = some (.cells #[(.slice Ao26 t167.length co26)] 33 (0, 0))) ∧ Aside0 (Below w.heap.size w wc))
      case first =>
        have H := HC11.out
        clear HC11
        replace H := Option.bind_eq_some_iff.mp H
        obtain ⟨t172, A290, H⟩ := H
        replace H : (if t172 = true then (laws_FnExactRowOf.j0 k l0 l1 t159 t161 t164 t170 (t170 != t159) t156 t167) else (laws_FnExactRowOf.j0 k l0 l1 t159 t161 t164 t170 true t156 t167)) = some r := H
        have A29 := Aside0.mk A290
        clear A290
        by_cases c30 : t172 = true
        · subst c30
          have H1 : (laws_FnExactRowOf.j0 k l0 l1 t159 t161 t164 t170 (t170 != t159) t156 t167) = some r := by rw [if_pos rfl] at H; exact H
          clear H
          have H := H1
          clear H1
          have H' := Aside0.mk H
          clear H
          have hnb31 := NB171_160.out
          have hnc31 := NB160_171.out
          have hcz32_0 : w25.cell? ⟨gb171, 0, none⟩ = some (.slice none 0 0) := (blk_cell BK171.out 0).trans rfl
          have hfz32_0 := blk_frozen BK171.out 0
          have hcz33_0 : w25.cell? ⟨gb160, 0, none⟩ = some (.slice Ao18 t156.length co18) := (blk_cell BK160.out 0).trans rfl
          have hfz33_0 := blk_frozen BK160.out 0
          go_wp2_with (first | ((with_reducible refine gate_callee (f := 26) rfl ?_); refine goesL_ (some 42) rfl rfl Try.func26 (by kernel_rfl) rfl #[.agg #[.slice Ao26 t167.length co26], .agg #[.slice Ao18 t156.length co18]] rfl (by (try simp only [List.map_toArray, List.map_cons, List.map_nil]); first | done | rfl | (simp only [List.length_drop, List.length_take]; rfl)) ?_; (with_reducible refine (laws_eqRow.calls k _ _ t167 _ _ t156 true _ ?side1 ?side2 ?side3 ?side4 A29.out).mono ?_); (case side1 => refine (Kd.R_reads' (e := 3) (base := w.heap.size) (ok := fun k_ => (((((True ∧ some k_ ≠ (.slice Ao14 t150.length co14 : Value).ownBlock) ∧ some k_ ≠ (.slice Ao15 t153.length co15 : Value).ownBlock) ∧ some k_ ≠ (.slice Ao18 t156.length co18 : Value).ownBlock) ∧ some k_ ≠ (.slice Ao22 t161.length co22 : Value).ownBlock) ∧ some k_ ≠ (.slice Ao23 t164.length co23 : Value).ownBlock)) (n := t167.length) (c := co26) ?_).2.2; exact (by (with_reducible repeat (first | apply Kd.R_alloc | apply Kd.R_drewN | apply Kd.R_drew)); exact (Kd.R_mono (Kd.R_far (p := ⟨gb171, 0, none⟩) (Kd.R_types HO169.out BK171.out (by decide)) (fun _ hk => hk.2) (.slice Ao26 t167.length co26)) (fun _ h_ => h_.1)))); (case side2 => exact (Kd.R_reads' HO169.out).2.1); (case side3 => refine (Kd.R_reads' (e := 3) (base := w.heap.size) (ok := fun k_ => (((((True ∧ some k_ ≠ (.slice Ao14 t150.length co14 : Value).ownBlock) ∧ some k_ ≠ (.slice Ao15 t153.length co15 : Value).ownBlock) ∧ some k_ ≠ (.slice Ao22 t161.length co22 : Value).ownBlock) ∧ some k_ ≠ (.slice Ao23 t164.length co23 : Value).ownBlock) ∧ some k_ ≠ (.slice Ao26 t167.length co26 : Value).ownBlock)) (n := t156.length) (c := co18) ?_).2.2; exact (by (with_reducible repeat (first | apply Kd.R_alloc | apply Kd.R_drewN | apply Kd.R_drew)); exact (Kd.R_mono (Kd.R_far (p := ⟨gb171, 0, none⟩) (Kd.R_types HO158.out BK171.out (by decide)) (fun _ hk => hk.2) (.slice Ao26 t167.length co26)) (fun _ h_ => h_.1)))); (case side4 => exact (Kd.R_reads' HO158.out).2.1); rintro e w34 ⟨rfl, hb⟩; refine ⟨_, rfl, ?_⟩; have n0_ := Aside0.mk (Kd.R_below (by (with_reducible repeat (first | apply Kd.R_alloc | apply Kd.R_drewN | apply Kd.R_drew)); exact (Kd.R_mono (Kd.R_far (p := ⟨gb171, 0, none⟩) (Kd.R_types HO152.out BK171.out (by decide)) (fun _ hk => hk.2) (.slice Ao26 t167.length co26)) (fun _ h_ => h_.1))) hb); have n1_ := Aside0.mk (Kd.R_below (by (with_reducible repeat (first | apply Kd.R_alloc | apply Kd.R_drewN | apply Kd.R_drew)); exact (Kd.R_mono (Kd.R_far (p := ⟨gb171, 0, none⟩) (Kd.R_types HO155.out BK171.out (by decide)) (fun _ hk => hk.2) (.slice Ao26 t167.length co26)) (fun _ h_ => h_.1))) hb); have n2_ := Aside0.mk (Kd.R_below (by (with_reducible repeat (first | apply Kd.R_alloc | apply Kd.R_drewN | apply Kd.R_drew)); exact (Kd.R_mono (Kd.R_far (p := ⟨gb171, 0, none⟩) (Kd.R_types HO158.out BK171.out (by decide)) (fun _ hk => hk.2) (.slice Ao26 t167.length co26)) (fun _ h_ => h_.1))) hb); have n3_ := Aside0.mk (Kd.R_below (by (with_reducible repeat (first | apply Kd.R_alloc | apply Kd.R_drewN | apply Kd.R_drew)); exact (Kd.R_mono (Kd.R_far (p := ⟨gb171, 0, none⟩) (Kd.R_types HO163.out BK171.out (by decide)) (fun _ hk => hk.2) (.slice Ao26 t167.length co26)) (fun _ h_ => h_.1))) hb); have n4_ := Aside0.mk (Kd.R_below (by (with_reducible repeat (first | apply Kd.R_alloc | apply Kd.R_drewN | apply Kd.R_drew)); exact (Kd.R_mono (Kd.R_far (p := ⟨gb171, 0, none⟩) (Kd.R_types HO166.out BK171.out (by decide)) (fun _ hk => hk.2) (.slice Ao26 t167.length co26)) (fun _ h_ => h_.1))) hb); have n5_ := Aside0.mk (Kd.R_below (by (with_reducible repeat (first | apply Kd.R_alloc | apply Kd.R_drewN | apply Kd.R_drew)); exact (Kd.R_mono (Kd.R_far (p := ⟨gb171, 0, none⟩) (Kd.R_types HO169.out BK171.out (by decide)) (fun _ hk => hk.2) (.slice Ao26 t167.length co26)) (fun _ h_ => h_.1))) hb); have n6_ := Aside0.mk (blk_below (g := gb160) (o := .cells #[.slice Ao18 t156.length co18] 33 (0, 0)) (by (with_reducible repeat (first | refine blk_drewN ?_ _ | refine blk_drew ?_ | refine blk_alloc ?_ _)); refine blk_far ?_ NB160_171.out _; (with_reducible repeat (first | refine blk_drewN ?_ _ | refine blk_drew ?_ | refine blk_alloc ?_ _)); exact BK160.out) hb); have n7_ := Aside0.mk (blk_below (g := gb171) (o := .cells #[.slice Ao26 t167.length co26] 33 (0, 0)) (by (with_reducible repeat (first | refine blk_drewN ?_ _ | refine blk_drew ?_ | refine blk_alloc ?_ _)); refine blk_put (cs := #[.slice none 0 0]) ?_ 0 _ rfl; (with_reducible repeat (first | refine blk_drewN ?_ _ | refine blk_drew ?_ | refine blk_alloc ?_ _)); exact BK171.out) hb); have n8_ := Aside0.mk (below_step (by repeat (first | (with_reducible first | exact HB.out | apply below_alloc | apply pw_below_drewN | apply below_drew1 | refine below_set ?_ GE160.out | refine below_set ?_ GE171.out) | exact HB.out)) hb); clear HO152; clear HO155; clear HO158; clear HO163; clear HO166; clear HO169; clear BK160; clear BK171; clear HB; have HO152 := n0_; have HO155 := n1_; have HO158 := n2_; have HO163 := n3_; have HO166 := n4_; have HO169 := n5_; have BK160 := n6_; have BK171 := n7_; have HB := n8_; clear n0_ n1_ n2_ n3_ n4_ n5_ n6_ n7_ n8_; (try clear hb); (try clear hb2); (try clear hk); (try clear hi)))
          go_meet
          case rel => exact ⟨_, ((t170 != t159)), (by first | rfl | (simp; done) | (simp [*]; done)), H', ⟨by first | omega | exact Nat.le_refl _⟩, ⟨by (with_reducible repeat (first | apply Kd.R_alloc | apply Kd.R_drewN | apply Kd.R_drew)); exact Kd.R_mono HO163.out (fun _ hk => ⟨hk.1.2, ⟨hk.1.1.2, hk.2⟩⟩)⟩, ⟨by (with_reducible repeat (first | apply Kd.R_alloc | apply Kd.R_drewN | apply Kd.R_drew)); exact Kd.R_mono HO166.out (fun _ hk => ⟨hk.1.2, ⟨hk.1.1.2, hk.2⟩⟩)⟩, ⟨by (with_reducible repeat (first | apply Kd.R_alloc | apply Kd.R_drewN | apply Kd.R_drew)); exact Kd.R_mono HO158.out (fun _ hk => ⟨hk.1.1.2, ⟨hk.1.2, hk.2⟩⟩)⟩, ⟨by (with_reducible repeat (first | apply Kd.R_alloc | apply Kd.R_drewN | apply Kd.R_drew)); exact Kd.R_mono HO169.out (fun _ hk => ⟨hk.1.2, ⟨hk.2, hk.1.1.2⟩⟩)⟩, ⟨by (with_reducible repeat (first | refine blk_drewN ?_ _ | refine blk_drew ?_ | refine blk_alloc ?_ _)); exact BK160.out⟩, ⟨by (with_reducible repeat (first | refine blk_drewN ?_ _ | refine blk_drew ?_ | refine blk_alloc ?_ _)); exact BK171.out⟩, ⟨by repeat (first | (with_reducible first | exact HB.out | apply below_alloc | apply pw_below_drewN | apply below_drew1 | refine below_set ?_ GE160.out | refine below_set ?_ GE171.out) | exact HB.out)⟩⟩
        · replace c30 := Bool.eq_false_iff.mpr c30
          subst c30
          have H1 : (laws_FnExactRowOf.j0 k l0 l1 t159 t161 t164 t170 true t156 t167) = some r := by rw [if_neg (show ¬ (false = true) by decide)] at H; exact H
          clear H
          have H := H1
          clear H1
          have H' := Aside0.mk H
          clear H
          have hnb35 := NB171_160.out
          have hnc35 := NB160_171.out
          have hcz36_0 : w25.cell? ⟨gb171, 0, none⟩ = some (.slice none 0 0) := (blk_cell BK171.out 0).trans rfl
          have hfz36_0 := blk_frozen BK171.out 0
          have hcz37_0 : w25.cell? ⟨gb160, 0, none⟩ = some (.slice Ao18 t156.length co18) := (blk_cell BK160.out 0).trans rfl
          have hfz37_0 := blk_frozen BK160.out 0
          go_wp2_with (first | ((with_reducible refine gate_callee (f := 26) rfl ?_); refine goesL_ (some 42) rfl rfl Try.func26 (by kernel_rfl) rfl #[.agg #[.slice Ao26 t167.length co26], .agg #[.slice Ao18 t156.length co18]] rfl (by (try simp only [List.map_toArray, List.map_cons, List.map_nil]); first | done | rfl | (simp only [List.length_drop, List.length_take]; rfl)) ?_; (with_reducible refine (laws_eqRow.calls k _ _ t167 _ _ t156 false _ ?side1 ?side2 ?side3 ?side4 A29.out).mono ?_); (case side1 => refine (Kd.R_reads' (e := 3) (base := w.heap.size) (ok := fun k_ => (((((True ∧ some k_ ≠ (.slice Ao14 t150.length co14 : Value).ownBlock) ∧ some k_ ≠ (.slice Ao15 t153.length co15 : Value).ownBlock) ∧ some k_ ≠ (.slice Ao18 t156.length co18 : Value).ownBlock) ∧ some k_ ≠ (.slice Ao22 t161.length co22 : Value).ownBlock) ∧ some k_ ≠ (.slice Ao23 t164.length co23 : Value).ownBlock)) (n := t167.length) (c := co26) ?_).2.2; exact (by (with_reducible repeat (first | apply Kd.R_alloc | apply Kd.R_drewN | apply Kd.R_drew)); exact (Kd.R_mono (Kd.R_far (p := ⟨gb171, 0, none⟩) (Kd.R_types HO169.out BK171.out (by decide)) (fun _ hk => hk.2) (.slice Ao26 t167.length co26)) (fun _ h_ => h_.1)))); (case side2 => exact (Kd.R_reads' HO169.out).2.1); (case side3 => refine (Kd.R_reads' (e := 3) (base := w.heap.size) (ok := fun k_ => (((((True ∧ some k_ ≠ (.slice Ao14 t150.length co14 : Value).ownBlock) ∧ some k_ ≠ (.slice Ao15 t153.length co15 : Value).ownBlock) ∧ some k_ ≠ (.slice Ao22 t161.length co22 : Value).ownBlock) ∧ some k_ ≠ (.slice Ao23 t164.length co23 : Value).ownBlock) ∧ some k_ ≠ (.slice Ao26 t167.length co26 : Value).ownBlock)) (n := t156.length) (c := co18) ?_).2.2; exact (by (with_reducible repeat (first | apply Kd.R_alloc | apply Kd.R_drewN | apply Kd.R_drew)); exact (Kd.R_mono (Kd.R_far (p := ⟨gb171, 0, none⟩) (Kd.R_types HO158.out BK171.out (by decide)) (fun _ hk => hk.2) (.slice Ao26 t167.length co26)) (fun _ h_ => h_.1)))); (case side4 => exact (Kd.R_reads' HO158.out).2.1); rintro e w38 ⟨rfl, hb⟩; refine ⟨_, rfl, ?_⟩; have n0_ := Aside0.mk (Kd.R_below (by (with_reducible repeat (first | apply Kd.R_alloc | apply Kd.R_drewN | apply Kd.R_drew)); exact (Kd.R_mono (Kd.R_far (p := ⟨gb171, 0, none⟩) (Kd.R_types HO152.out BK171.out (by decide)) (fun _ hk => hk.2) (.slice Ao26 t167.length co26)) (fun _ h_ => h_.1))) hb); have n1_ := Aside0.mk (Kd.R_below (by (with_reducible repeat (first | apply Kd.R_alloc | apply Kd.R_drewN | apply Kd.R_drew)); exact (Kd.R_mono (Kd.R_far (p := ⟨gb171, 0, none⟩) (Kd.R_types HO155.out BK171.out (by decide)) (fun _ hk => hk.2) (.slice Ao26 t167.length co26)) (fun _ h_ => h_.1))) hb); have n2_ := Aside0.mk (Kd.R_below (by (with_reducible repeat (first | apply Kd.R_alloc | apply Kd.R_drewN | apply Kd.R_drew)); exact (Kd.R_mono (Kd.R_far (p := ⟨gb171, 0, none⟩) (Kd.R_types HO158.out BK171.out (by decide)) (fun _ hk => hk.2) (.slice Ao26 t167.length co26)) (fun _ h_ => h_.1))) hb); have n3_ := Aside0.mk (Kd.R_below (by (with_reducible repeat (first | apply Kd.R_alloc | apply Kd.R_drewN | apply Kd.R_drew)); exact (Kd.R_mono (Kd.R_far (p := ⟨gb171, 0, none⟩) (Kd.R_types HO163.out BK171.out (by decide)) (fun _ hk => hk.2) (.slice Ao26 t167.length co26)) (fun _ h_ => h_.1))) hb); have n4_ := Aside0.mk (Kd.R_below (by (with_reducible repeat (first | apply Kd.R_alloc | apply Kd.R_drewN | apply Kd.R_drew)); exact (Kd.R_mono (Kd.R_far (p := ⟨gb171, 0, none⟩) (Kd.R_types HO166.out BK171.out (by decide)) (fun _ hk => hk.2) (.slice Ao26 t167.length co26)) (fun _ h_ => h_.1))) hb); have n5_ := Aside0.mk (Kd.R_below (by (with_reducible repeat (first | apply Kd.R_alloc | apply Kd.R_drewN | apply Kd.R_drew)); exact (Kd.R_mono (Kd.R_far (p := ⟨gb171, 0, none⟩) (Kd.R_types HO169.out BK171.out (by decide)) (fun _ hk => hk.2) (.slice Ao26 t167.length co26)) (fun _ h_ => h_.1))) hb); have n6_ := Aside0.mk (blk_below (g := gb160) (o := .cells #[.slice Ao18 t156.length co18] 33 (0, 0)) (by (with_reducible repeat (first | refine blk_drewN ?_ _ | refine blk_drew ?_ | refine blk_alloc ?_ _)); refine blk_far ?_ NB160_171.out _; (with_reducible repeat (first | refine blk_drewN ?_ _ | refine blk_drew ?_ | refine blk_alloc ?_ _)); exact BK160.out) hb); have n7_ := Aside0.mk (blk_below (g := gb171) (o := .cells #[.slice Ao26 t167.length co26] 33 (0, 0)) (by (with_reducible repeat (first | refine blk_drewN ?_ _ | refine blk_drew ?_ | refine blk_alloc ?_ _)); refine blk_put (cs := #[.slice none 0 0]) ?_ 0 _ rfl; (with_reducible repeat (first | refine blk_drewN ?_ _ | refine blk_drew ?_ | refine blk_alloc ?_ _)); exact BK171.out) hb); have n8_ := Aside0.mk (below_step (by repeat (first | (with_reducible first | exact HB.out | apply below_alloc | apply pw_below_drewN | apply below_drew1 | refine below_set ?_ GE160.out | refine below_set ?_ GE171.out) | exact HB.out)) hb); clear HO152; clear HO155; clear HO158; clear HO163; clear HO166; clear HO169; clear BK160; clear BK171; clear HB; have HO152 := n0_; have HO155 := n1_; have HO158 := n2_; have HO163 := n3_; have HO166 := n4_; have HO169 := n5_; have BK160 := n6_; have BK171 := n7_; have HB := n8_; clear n0_ n1_ n2_ n3_ n4_ n5_ n6_ n7_ n8_; (try clear hb); (try clear hb2); (try clear hk); (try clear hi)))
          go_meet
          case rel => exact ⟨_, (true), (by first | rfl | (simp; done) | (simp [*]; done)), H', ⟨by first | omega | exact Nat.le_refl _⟩, ⟨by (with_reducible repeat (first | apply Kd.R_alloc | apply Kd.R_drewN | apply Kd.R_drew)); exact Kd.R_mono HO163.out (fun _ hk => ⟨hk.1.2, ⟨hk.1.1.2, hk.2⟩⟩)⟩, ⟨by (with_reducible repeat (first | apply Kd.R_alloc | apply Kd.R_drewN | apply Kd.R_drew)); exact Kd.R_mono HO166.out (fun _ hk => ⟨hk.1.2, ⟨hk.1.1.2, hk.2⟩⟩)⟩, ⟨by (with_reducible repeat (first | apply Kd.R_alloc | apply Kd.R_drewN | apply Kd.R_drew)); exact Kd.R_mono HO158.out (fun _ hk => ⟨hk.1.1.2, ⟨hk.1.2, hk.2⟩⟩)⟩, ⟨by (with_reducible repeat (first | apply Kd.R_alloc | apply Kd.R_drewN | apply Kd.R_drew)); exact Kd.R_mono HO169.out (fun _ hk => ⟨hk.1.2, ⟨hk.2, hk.1.1.2⟩⟩)⟩, ⟨by (with_reducible repeat (first | refine blk_drewN ?_ _ | refine blk_drew ?_ | refine blk_alloc ?_ _)); exact BK160.out⟩, ⟨by (with_reducible repeat (first | refine blk_drewN ?_ _ | refine blk_drew ?_ | refine blk_alloc ?_ _)); exact BK171.out⟩, ⟨by repeat (first | (with_reducible first | exact HB.out | apply below_alloc | apply pw_below_drewN | apply below_drew1 | refine below_set ?_ GE160.out | refine below_set ?_ GE171.out) | exact HB.out)⟩⟩
      case rest =>
        clear HC11
        try clear c1
        try clear c2
        try clear p2
        try clear c3
        try clear c3b0
        try clear c3b1
        try clear c4
        try clear c4b0
        try clear c4b1
        try clear c7
        try clear c10
        try clear c26
        try clear c27
        try clear c30
        try clear c31
        try clear c35
        try clear hcz19_0
        try clear hcz28_0
        try clear hcz32_0
        try clear hcz33_0
        try clear hcz36_0
        try clear hcz37_0
        try clear hfz19_0
        try clear hfz28_0
        try clear hfz32_0
        try clear hfz33_0
        try clear hfz36_0
        try clear hfz37_0
        obtain ⟨kq, x48_10, rfl, HA, HJ10, HO_7, HO_8, HO_161000, HO_172000, BK160, BK171, HB⟩ := hcut
        cases kq with
        | zero => exact absurd HA.out (by simp [laws_FnExactRowOf.j0])
        | succ kj10 =>
          have H := HA.out
          clear HA
          simp only [laws_FnExactRowOf.j0] at H
          by_cases c39 : x48_10 = true
          · subst c39
            have H1 : (none) = some r := by rw [if_pos rfl] at H; exact H
            clear H
            have H := H1
            clear H1
            exact absurd H (by simp)
          · replace c39 := Bool.eq_false_iff.mpr c39
            subst c39
            have H1 : ((laws_toIntS.f kj10 l0).bind fun t173 => ((laws_eqIntS.f kj10 t161 t173).bind fun t176 => (if t176 = true then ((laws_toIntS.f kj10 l1).bind fun t177 => ((laws_eqIntS.f kj10 t164 t177).bind fun t180 => (if t180 = true then ((laws_markIntS.f kj10 t161 1).bind fun bt181 => ((laws_markIntS.f kj10 t164 bt181.1).bind fun bt183 => (if bt183.1 < 0 then (laws_FnExactRowOf.j1 kj10 l0 l1 t159 true t156 t167) else ((laws_eqRow.f kj10 t167 t156).bind fun t185 => (if t185 = true then (laws_FnExactRowOf.j1 kj10 l0 l1 t159 (t170 != t159) t156 t167) else (laws_FnExactRowOf.j1 kj10 l0 l1 t159 true t156 t167)))))) else (none)))) else (none)))) = some r := by rw [if_neg (show ¬ (false = true) by decide)] at H; exact H
            clear H
            have H := H1
            clear H1
            replace H := Option.bind_eq_some_iff.mp H
            obtain ⟨t173, A400, H⟩ := H
            replace H : ((laws_eqIntS.f kj10 t161 t173).bind fun t176 => (if t176 = true then ((laws_toIntS.f kj10 l1).bind fun t177 => ((laws_eqIntS.f kj10 t164 t177).bind fun t180 => (if t180 = true then ((laws_markIntS.f kj10 t161 1).bind fun bt181 => ((laws_markIntS.f kj10 t164 bt181.1).bind fun bt183 => (if bt183.1 < 0 then (laws_FnExactRowOf.j1 kj10 l0 l1 t159 true t156 t167) else ((laws_eqRow.f kj10 t167 t156).bind fun t185 => (if t185 = true then (laws_FnExactRowOf.j1 kj10 l0 l1 t159 (t170 != t159) t156 t167) else (laws_FnExactRowOf.j1 kj10 l0 l1 t159 true t156 t167)))))) else (none)))) else (none))) = some r := H
            have A40 := Aside0.mk A400
            clear A400
            replace H := Option.bind_eq_some_iff.mp H
            obtain ⟨t176, A410, H⟩ := H
            replace H : (if t176 = true then ((laws_toIntS.f kj10 l1).bind fun t177 => ((laws_eqIntS.f kj10 t164 t177).bind fun t180 => (if t180 = true then ((laws_markIntS.f kj10 t161 1).bind fun bt181 => ((laws_markIntS.f kj10 t164 bt181.1).bind fun bt183 => (if bt183.1 < 0 then (laws_FnExactRowOf.j1 kj10 l0 l1 t159 true t156 t167) else ((laws_eqRow.f kj10 t167 t156).bind fun t185 => (if t185 = true then (laws_FnExactRowOf.j1 kj10 l0 l1 t159 (t170 != t159) t156 t167) else (laws_FnExactRowOf.j1 kj10 l0 l1 t159 true t156 t167)))))) else (none)))) else (none)) = some r := H
            have A41 := Aside0.mk A410
            clear A410
            by_cases c42 : t176 = true
            · subst c42
              have H1 : ((laws_toIntS.f kj10 l1).bind fun t177 => ((laws_eqIntS.f kj10 t164 t177).bind fun t180 => (if t180 = true then ((laws_markIntS.f kj10 t161 1).bind fun bt181 => ((laws_markIntS.f kj10 t164 bt181.1).bind fun bt183 => (if bt183.1 < 0 then (laws_FnExactRowOf.j1 kj10 l0 l1 t159 true t156 t167) else ((laws_eqRow.f kj10 t167 t156).bind fun t185 => (if t185 = true then (laws_FnExactRowOf.j1 kj10 l0 l1 t159 (t170 != t159) t156 t167) else (laws_FnExactRowOf.j1 kj10 l0 l1 t159 true t156 t167)))))) else (none)))) = some r := by rw [if_pos rfl] at H; exact H
              clear H
              have H := H1
              clear H1
              replace H := Option.bind_eq_some_iff.mp H
              obtain ⟨t177, A430, H⟩ := H
              replace H : ((laws_eqIntS.f kj10 t164 t177).bind fun t180 => (if t180 = true then ((laws_markIntS.f kj10 t161 1).bind fun bt181 => ((laws_markIntS.f kj10 t164 bt181.1).bind fun bt183 => (if bt183.1 < 0 then (laws_FnExactRowOf.j1 kj10 l0 l1 t159 true t156 t167) else ((laws_eqRow.f kj10 t167 t156).bind fun t185 => (if t185 = true then (laws_FnExactRowOf.j1 kj10 l0 l1 t159 (t170 != t159) t156 t167) else (laws_FnExactRowOf.j1 kj10 l0 l1 t159 true t156 t167)))))) else (none))) = some r := H
              have A43 := Aside0.mk A430
              clear A430
              replace H := Option.bind_eq_some_iff.mp H
              obtain ⟨t180, A440, H⟩ := H
              replace H : (if t180 = true then ((laws_markIntS.f kj10 t161 1).bind fun bt181 => ((laws_markIntS.f kj10 t164 bt181.1).bind fun bt183 => (if bt183.1 < 0 then (laws_FnExactRowOf.j1 kj10 l0 l1 t159 true t156 t167) else ((laws_eqRow.f kj10 t167 t156).bind fun t185 => (if t185 = true then (laws_FnExactRowOf.j1 kj10 l0 l1 t159 (t170 != t159) t156 t167) else (laws_FnExactRowOf.j1 kj10 l0 l1 t159 true t156 t167)))))) else (none)) = some r := H
              have A44 := Aside0.mk A440
              clear A440
              by_cases c45 : t180 = true
              · subst c45
                have H1 : ((laws_markIntS.f kj10 t161 1).bind fun bt181 => ((laws_markIntS.f kj10 t164 bt181.1).bind fun bt183 => (if bt183.1 < 0 then (laws_FnExactRowOf.j1 kj10 l0 l1 t159 true t156 t167) else ((laws_eqRow.f kj10 t167 t156).bind fun t185 => (if t185 = true then (laws_FnExactRowOf.j1 kj10 l0 l1 t159 (t170 != t159) t156 t167) else (laws_FnExactRowOf.j1 kj10 l0 l1 t159 true t156 t167)))))) = some r := by rw [if_pos rfl] at H; exact H
                clear H
                have H := H1
                clear H1
                replace H := Option.bind_eq_some_iff.mp H
                obtain ⟨⟨t181, t182⟩, A460, H⟩ := H
                replace H : ((laws_markIntS.f kj10 t164 t181).bind fun bt183 => (if bt183.1 < 0 then (laws_FnExactRowOf.j1 kj10 l0 l1 t159 true t156 t167) else ((laws_eqRow.f kj10 t167 t156).bind fun t185 => (if t185 = true then (laws_FnExactRowOf.j1 kj10 l0 l1 t159 (t170 != t159) t156 t167) else (laws_FnExactRowOf.j1 kj10 l0 l1 t159 true t156 t167))))) = some r := H
                have A46 := Aside0.mk A460
                clear A460
                replace H := Option.bind_eq_some_iff.mp H
                obtain ⟨⟨t183, t184⟩, A470, H⟩ := H
                replace H : (if t183 < 0 then (laws_FnExactRowOf.j1 kj10 l0 l1 t159 true t156 t167) else ((laws_eqRow.f kj10 t167 t156).bind fun t185 => (if t185 = true then (laws_FnExactRowOf.j1 kj10 l0 l1 t159 (t170 != t159) t156 t167) else (laws_FnExactRowOf.j1 kj10 l0 l1 t159 true t156 t167)))) = some r := H
                have A47 := Aside0.mk A470
                clear A470
                have HC48 := Aside0.mk H
                clear H
                go_upto_region 18 with (first | ((with_reducible refine gate_callee (f := 75) rfl ?_); refine goesL_ (some 51) rfl rfl Try.func75 (by kernel_rfl) rfl #[.slice A0 l0.length c0] rfl (by (try simp only [List.map_toArray, List.map_cons, List.map_nil]); first | done | rfl | (simp only [List.length_drop, List.length_take]; rfl)) ?_; (with_reducible refine (laws_toIntS.calls kj10 _ _ l0 t173 _ ?side1 ?side2 A40.out).mono ?_); (case side1 => repeat (first | exact (Kd.C_below HR0.out HB.out) | (with_reducible refine Kd.C_alloc ?_ _) | (with_reducible refine Kd.C_drewN ?_ _) | (with_reducible refine Kd.C_drew ?_))); (case side2 => exact HC0.out); rintro e w49 ⟨v174, rfl, ho0, hb⟩; refine ⟨_, rfl, ?_⟩; have n0_ := Aside0.mk (Kd.R_elder' (by (with_reducible repeat (first | apply Kd.R_alloc | apply Kd.R_drewN | apply Kd.R_drew)); exact HO_7.out) (Kd.R_base ho0) hb); have n1_ := Aside0.mk (Kd.R_elder' (by (with_reducible repeat (first | apply Kd.R_alloc | apply Kd.R_drewN | apply Kd.R_drew)); exact HO_8.out) (Kd.R_base ho0) hb); have n2_ := Aside0.mk (Kd.R_elder' (by (with_reducible repeat (first | apply Kd.R_alloc | apply Kd.R_drewN | apply Kd.R_drew)); exact HO_161000.out) (Kd.R_base ho0) hb); have n3_ := Aside0.mk (Kd.R_elder' (by (with_reducible repeat (first | apply Kd.R_alloc | apply Kd.R_drewN | apply Kd.R_drew)); exact HO_172000.out) (Kd.R_base ho0) hb); have n4_ := Aside0.mk (Kd.R_lower (Kd.R_new' (Kd.R_new' (Kd.R_new' (Kd.R_new' ho0 (Kd.R_lt (by (with_reducible repeat (first | apply Kd.R_alloc | apply Kd.R_drewN | apply Kd.R_drew)); exact HO_7.out))) (Kd.R_lt (by (with_reducible repeat (first | apply Kd.R_alloc | apply Kd.R_drewN | apply Kd.R_drew)); exact HO_8.out))) (Kd.R_lt (by (with_reducible repeat (first | apply Kd.R_alloc | apply Kd.R_drewN | apply Kd.R_drew)); exact HO_161000.out))) (Kd.R_lt (by (with_reducible repeat (first | apply Kd.R_alloc | apply Kd.R_drewN | apply Kd.R_drew)); exact HO_172000.out))) (below_size (by repeat (first | (with_reducible first | exact HB.out | apply below_alloc | apply pw_below_drewN | apply below_drew1 | refine below_set ?_ GE160.out | refine below_set ?_ GE171.out) | exact HB.out)))); have n5_ := Aside0.mk (blk_below (g := gb160) (o := .cells #[.slice Ao18 t156.length co18] 33 (0, 0)) (by (with_reducible repeat (first | refine blk_drewN ?_ _ | refine blk_drew ?_ | refine blk_alloc ?_ _)); exact BK160.out) hb); have n6_ := Aside0.mk (blk_below (g := gb171) (o := .cells #[.slice Ao26 t167.length co26] 33 (0, 0)) (by (with_reducible repeat (first | refine blk_drewN ?_ _ | refine blk_drew ?_ | refine blk_alloc ?_ _)); exact BK171.out) hb); have n7_ := Aside0.mk (below_step (by repeat (first | (with_reducible first | exact HB.out | apply below_alloc | apply pw_below_drewN | apply below_drew1 | refine below_set ?_ GE160.out | refine below_set ?_ GE171.out) | exact HB.out)) hb); clear HO_7; clear HO_8; clear HO_161000; clear HO_172000; clear BK160; clear BK171; clear HB; have HO_7 := n0_; have HO_8 := n1_; have HO_161000 := n2_; have HO_172000 := n3_; have HO175 := n4_; have BK160 := n5_; have BK171 := n6_; have HB := n7_; clear n0_ n1_ n2_ n3_ n4_ n5_ n6_ n7_; (try clear hb); (try clear hb2); (try clear hk); (try clear hi); (try clear ho0); obtain ⟨Ao50, co50, eo50⟩ := Kd.R_slice HO175.out; subst eo50) | ((with_reducible refine gate_callee (f := 77) rfl ?_); refine goesL_ (some 52) rfl rfl Try.func77 (by kernel_rfl) rfl #[.slice Ao22 t161.length co22, .slice Ao50 t173.length co50] rfl (by (try simp only [List.map_toArray, List.map_cons, List.map_nil]); first | done | rfl | (simp only [List.length_drop, List.length_take]; rfl)) ?_; (with_reducible refine (laws_eqIntS.calls kj10 _ _ t161 _ _ t173 true _ ?side1 ?side2 ?side3 ?side4 A41.out).mono ?_); (case side1 => repeat (first | exact (Kd.R_reads' HO_7.out).2.2 | (with_reducible refine Kd.C_alloc ?_ _) | (with_reducible refine Kd.C_drewN ?_ _) | (with_reducible refine Kd.C_drew ?_))); (case side2 => exact (Kd.R_reads' HO_7.out).2.1); (case side3 => repeat (first | exact (Kd.R_reads' HO175.out).2.2 | (with_reducible refine Kd.C_alloc ?_ _) | (with_reducible refine Kd.C_drewN ?_ _) | (with_reducible refine Kd.C_drew ?_))); (case side4 => exact (Kd.R_reads' HO175.out).2.1); rintro e w' ⟨rfl, ⟨nd, rfl⟩⟩; refine ⟨_, rfl, ?_⟩) | ((with_reducible refine gate_callee (f := 75) rfl ?_); refine goesL_ (some 56) rfl rfl Try.func75 (by kernel_rfl) rfl #[.slice A1 l1.length c1] rfl (by (try simp only [List.map_toArray, List.map_cons, List.map_nil]); first | done | rfl | (simp only [List.length_drop, List.length_take]; rfl)) ?_; (with_reducible refine (laws_toIntS.calls kj10 _ _ l1 t177 _ ?side1 ?side2 A43.out).mono ?_); (case side1 => repeat (first | exact (Kd.C_below HR1.out (by repeat (first | (with_reducible first | exact HB.out | apply below_alloc | apply pw_below_drewN | apply below_drew1 | refine below_set ?_ GE160.out | refine below_set ?_ GE171.out) | exact HB.out))) | (with_reducible refine Kd.C_alloc ?_ _) | (with_reducible refine Kd.C_drewN ?_ _) | (with_reducible refine Kd.C_drew ?_))); (case side2 => exact HC1.out); rintro e w51 ⟨v178, rfl, ho0, hb⟩; refine ⟨_, rfl, ?_⟩; have n0_ := Aside0.mk (Kd.R_elder' (by (with_reducible repeat (first | apply Kd.R_alloc | apply Kd.R_drewN | apply Kd.R_drew)); exact HO_7.out) (Kd.R_base ho0) hb); have n1_ := Aside0.mk (Kd.R_elder' (by (with_reducible repeat (first | apply Kd.R_alloc | apply Kd.R_drewN | apply Kd.R_drew)); exact HO_8.out) (Kd.R_base ho0) hb); have n2_ := Aside0.mk (Kd.R_elder' (by (with_reducible repeat (first | apply Kd.R_alloc | apply Kd.R_drewN | apply Kd.R_drew)); exact HO_161000.out) (Kd.R_base ho0) hb); have n3_ := Aside0.mk (Kd.R_elder' (by (with_reducible repeat (first | apply Kd.R_alloc | apply Kd.R_drewN | apply Kd.R_drew)); exact HO_172000.out) (Kd.R_base ho0) hb); have n4_ := Aside0.mk (Kd.R_elder' (by (with_reducible repeat (first | apply Kd.R_alloc | apply Kd.R_drewN | apply Kd.R_drew)); exact HO175.out) (Kd.R_base ho0) hb); have n5_ := Aside0.mk (Kd.R_lower (Kd.R_new' (Kd.R_new' (Kd.R_new' (Kd.R_new' (Kd.R_new' ho0 (Kd.R_lt (by (with_reducible repeat (first | apply Kd.R_alloc | apply Kd.R_drewN | apply Kd.R_drew)); exact HO_7.out))) (Kd.R_lt (by (with_reducible repeat (first | apply Kd.R_alloc | apply Kd.R_drewN | apply Kd.R_drew)); exact HO_8.out))) (Kd.R_lt (by (with_reducible repeat (first | apply Kd.R_alloc | apply Kd.R_drewN | apply Kd.R_drew)); exact HO_161000.out))) (Kd.R_lt (by (with_reducible repeat (first | apply Kd.R_alloc | apply Kd.R_drewN | apply Kd.R_drew)); exact HO_172000.out))) (Kd.R_lt (by (with_reducible repeat (first | apply Kd.R_alloc | apply Kd.R_drewN | apply Kd.R_drew)); exact HO175.out))) (below_size (by repeat (first | (with_reducible first | exact HB.out | apply below_alloc | apply pw_below_drewN | apply below_drew1 | refine below_set ?_ GE160.out | refine below_set ?_ GE171.out) | exact HB.out)))); have n6_ := Aside0.mk (blk_below (g := gb160) (o := .cells #[.slice Ao18 t156.length co18] 33 (0, 0)) (by (with_reducible repeat (first | refine blk_drewN ?_ _ | refine blk_drew ?_ | refine blk_alloc ?_ _)); exact BK160.out) hb); have n7_ := Aside0.mk (blk_below (g := gb171) (o := .cells #[.slice Ao26 t167.length co26] 33 (0, 0)) (by (with_reducible repeat (first | refine blk_drewN ?_ _ | refine blk_drew ?_ | refine blk_alloc ?_ _)); exact BK171.out) hb); have n8_ := Aside0.mk (below_step (by repeat (first | (with_reducible first | exact HB.out | apply below_alloc | apply pw_below_drewN | apply below_drew1 | refine below_set ?_ GE160.out | refine below_set ?_ GE171.out) | exact HB.out)) hb); clear HO_7; clear HO_8; clear HO_161000; clear HO_172000; clear HO175; clear BK160; clear BK171; clear HB; have HO_7 := n0_; have HO_8 := n1_; have HO_161000 := n2_; have HO_172000 := n3_; have HO175 := n4_; have HO179 := n5_; have BK160 := n6_; have BK171 := n7_; have HB := n8_; clear n0_ n1_ n2_ n3_ n4_ n5_ n6_ n7_ n8_; (try clear hb); (try clear hb2); (try clear hk); (try clear hi); (try clear ho0); obtain ⟨Ao52, co52, eo52⟩ := Kd.R_slice HO179.out; subst eo52) | ((with_reducible refine gate_callee (f := 77) rfl ?_); refine goesL_ (some 57) rfl rfl Try.func77 (by kernel_rfl) rfl #[.slice Ao23 t164.length co23, .slice Ao52 t177.length co52] rfl (by (try simp only [List.map_toArray, List.map_cons, List.map_nil]); first | done | rfl | (simp only [List.length_drop, List.length_take]; rfl)) ?_; (with_reducible refine (laws_eqIntS.calls kj10 _ _ t164 _ _ t177 true _ ?side1 ?side2 ?side3 ?side4 A44.out).mono ?_); (case side1 => repeat (first | exact (Kd.R_reads' HO_8.out).2.2 | (with_reducible refine Kd.C_alloc ?_ _) | (with_reducible refine Kd.C_drewN ?_ _) | (with_reducible refine Kd.C_drew ?_))); (case side2 => exact (Kd.R_reads' HO_8.out).2.1); (case side3 => repeat (first | exact (Kd.R_reads' HO179.out).2.2 | (with_reducible refine Kd.C_alloc ?_ _) | (with_reducible refine Kd.C_drewN ?_ _) | (with_reducible refine Kd.C_drew ?_))); (case side4 => exact (Kd.R_reads' HO179.out).2.1); rintro e w' ⟨rfl, ⟨nd, rfl⟩⟩; refine ⟨_, rfl, ?_⟩) | ((with_reducible refine gate_callee (f := 78) rfl ?_); refine goesL_ (some 61) rfl rfl Try.func78 (by kernel_rfl) rfl #[.slice Ao22 t161.length co22, .int .i64 1] rfl (by (try simp only [List.map_toArray, List.map_cons, List.map_nil]); first | done | rfl | (simp only [List.length_drop, List.length_take]; rfl)) ?_; (with_reducible refine (laws_markIntS.calls kj10 (fun k_ => some k_ = (.slice Ao22 t161.length co22 : Value).ownBlock) (.slice Ao22 t161.length co22) t161 1 t181 t182 w _ ?side1 ?side2 A46.out).mono ?_); (case side1 => repeat (first | (with_reducible first | exact HB.out | apply below_alloc | apply pw_below_drewN | apply below_drew1 | refine below_set ?_ GE160.out | refine below_set ?_ GE171.out) | exact HB.out)); (case side2 => exact Kd.R_tight rfl HO_7.out); rintro e w53 ⟨rfl, hy0, hb, hkp⟩; refine ⟨_, rfl, ?_⟩; have n0_ := Aside0.mk (Kd.R_reok rfl hy0 (fun k_ e_ => HO_7.out.1 k_ e_)); have n1_ := Aside0.mk (Kd.R_mono (ok' := fun k_ => some k_ ≠ (.slice Ao22 t161.length co22 : Value).ownBlock ∧ some k_ ≠ (.slice Ao18 t156.length co18 : Value).ownBlock ∧ some k_ ≠ (.slice Ao26 t167.length co26 : Value).ownBlock ∧ some k_ ≠ (.slice Ao50 t173.length co50 : Value).ownBlock ∧ some k_ ≠ (.slice Ao52 t177.length co52 : Value).ownBlock) (Kd.R_keptB (HO_8.out) hkp (fun k_ hk_ hs_ => (hk_.1.1.1) hs_)) (fun k_ hk_ => ⟨hk_.1.1.1.1, hk_.1.1.1.2.1, hk_.1.1.1.2.2, hk_.1.1.2, hk_.1.2⟩)); have n2_ := Aside0.mk (Kd.R_mono (ok' := fun k_ => some k_ ≠ (.slice Ao22 t161.length co22 : Value).ownBlock ∧ some k_ ≠ (.slice Ao23 t164.length co23 : Value).ownBlock ∧ some k_ ≠ (.slice Ao26 t167.length co26 : Value).ownBlock ∧ some k_ ≠ (.slice Ao50 t173.length co50 : Value).ownBlock ∧ some k_ ≠ (.slice Ao52 t177.length co52 : Value).ownBlock) (Kd.R_keptB (HO_161000.out) hkp (fun k_ hk_ hs_ => (hk_.1.1.1) hs_)) (fun k_ hk_ => ⟨hk_.1.1.1.1, hk_.1.1.1.2.1, hk_.1.1.1.2.2, hk_.1.1.2, hk_.1.2⟩)); have n3_ := Aside0.mk (Kd.R_mono (ok' := fun k_ => some k_ ≠ (.slice Ao22 t161.length co22 : Value).ownBlock ∧ some k_ ≠ (.slice Ao23 t164.length co23 : Value).ownBlock ∧ some k_ ≠ (.slice Ao18 t156.length co18 : Value).ownBlock ∧ some k_ ≠ (.slice Ao50 t173.length co50 : Value).ownBlock ∧ some k_ ≠ (.slice Ao52 t177.length co52 : Value).ownBlock) (Kd.R_keptB (HO_172000.out) hkp (fun k_ hk_ hs_ => (hk_.1.1.1) hs_)) (fun k_ hk_ => ⟨hk_.1.1.1.1, hk_.1.1.1.2.1, hk_.1.1.1.2.2, hk_.1.1.2, hk_.1.2⟩)); have n4_ := Aside0.mk (blk_kept (by (with_reducible repeat (first | refine blk_drewN ?_ _ | refine blk_drew ?_ | refine blk_alloc ?_ _)); exact BK160.out) hkp (fun hs_ => (fun e_ => (Kd.R_ne HO_7.out BK160.out (by decide)) e_) hs_)); have n5_ := Aside0.mk (blk_kept (by (with_reducible repeat (first | refine blk_drewN ?_ _ | refine blk_drew ?_ | refine blk_alloc ?_ _)); exact BK171.out) hkp (fun hs_ => (fun e_ => (Kd.R_ne HO_7.out BK171.out (by decide)) e_) hs_)); have n6_ := Aside0.mk (Kd.R_mono (ok' := fun k_ => some k_ ≠ (.slice Ao22 t161.length co22 : Value).ownBlock ∧ some k_ ≠ (.slice Ao23 t164.length co23 : Value).ownBlock ∧ some k_ ≠ (.slice Ao18 t156.length co18 : Value).ownBlock ∧ some k_ ≠ (.slice Ao26 t167.length co26 : Value).ownBlock ∧ some k_ ≠ (.slice Ao52 t177.length co52 : Value).ownBlock) (Kd.R_keptB (HO175.out) hkp (fun k_ hk_ hs_ => (hk_.1.1.1.1.2) hs_)) (fun k_ hk_ => ⟨hk_.1.1.1.1.1.2, hk_.1.1.1.1.2, hk_.1.1.1.2, hk_.1.1.2, hk_.1.2⟩)); have n7_ := Aside0.mk (Kd.R_mono (ok' := fun k_ => some k_ ≠ (.slice Ao22 t161.length co22 : Value).ownBlock ∧ some k_ ≠ (.slice Ao23 t164.length co23 : Value).ownBlock ∧ some k_ ≠ (.slice Ao18 t156.length co18 : Value).ownBlock ∧ some k_ ≠ (.slice Ao26 t167.length co26 : Value).ownBlock ∧ some k_ ≠ (.slice Ao50 t173.length co50 : Value).ownBlock) (Kd.R_keptB (HO179.out) hkp (fun k_ hk_ hs_ => (hk_.1.1.1.1.2) hs_)) (fun k_ hk_ => ⟨hk_.1.1.1.1.1.2, hk_.1.1.1.1.2, hk_.1.1.1.2, hk_.1.1.2, hk_.1.2⟩)); have n8_ := Aside0.mk (hb); clear HO_7; clear HO_8; clear HO_161000; clear HO_172000; clear BK160; clear BK171; clear HO175; clear HO179; clear HB; have HO_7 := n0_; have HO_8 := n1_; have HO_161000 := n2_; have HO_172000 := n3_; have BK160 := n4_; have BK171 := n5_; have HO175 := n6_; have HO179 := n7_; have HB := n8_; clear n0_ n1_ n2_ n3_ n4_ n5_ n6_ n7_ n8_; (try clear hb); (try clear hkp); (try clear hy0)) | ((with_reducible refine gate_callee (f := 78) rfl ?_); refine goesL_ (some 64) rfl rfl Try.func78 (by kernel_rfl) rfl #[.slice Ao23 t164.length co23, .int .i64 t181] rfl (by (try simp only [List.map_toArray, List.map_cons, List.map_nil]); first | done | rfl | (simp only [List.length_drop, List.length_take]; rfl)) ?_; (with_reducible refine (laws_markIntS.calls kj10 (fun k_ => some k_ = (.slice Ao23 t164.length co23 : Value).ownBlock) (.slice Ao23 t164.length co23) t164 t181 t183 t184 w _ ?side1 ?side2 A47.out).mono ?_); (case side1 => repeat (first | (with_reducible first | exact HB.out | apply below_alloc | apply pw_below_drewN | apply below_drew1 | refine below_set ?_ GE160.out | refine below_set ?_ GE171.out) | exact HB.out)); (case side2 => exact Kd.R_tight rfl HO_8.out); rintro e w54 ⟨rfl, hy0, hb, hkp⟩; refine ⟨_, rfl, ?_⟩; have n0_ := Aside0.mk (Kd.R_mono (ok' := fun k_ => some k_ ≠ (.slice Ao23 t164.length co23 : Value).ownBlock ∧ some k_ ≠ (.slice Ao18 t156.length co18 : Value).ownBlock ∧ some k_ ≠ (.slice Ao26 t167.length co26 : Value).ownBlock ∧ some k_ ≠ (.slice Ao50 t173.length co50 : Value).ownBlock ∧ some k_ ≠ (.slice Ao52 t177.length co52 : Value).ownBlock) (Kd.R_keptB (HO_7.out) hkp (fun k_ hk_ hs_ => (hk_.1.1.1) hs_)) (fun k_ hk_ => ⟨hk_.1.1.1.1, hk_.1.1.1.2.1, hk_.1.1.1.2.2, hk_.1.1.2, hk_.1.2⟩)); have n1_ := Aside0.mk (Kd.R_reok rfl hy0 (fun k_ e_ => HO_8.out.1 k_ e_)); have n2_ := Aside0.mk (Kd.R_mono (ok' := fun k_ => some k_ ≠ (.slice Ao22 t161.length co22 : Value).ownBlock ∧ some k_ ≠ (.slice Ao23 t164.length co23 : Value).ownBlock ∧ some k_ ≠ (.slice Ao26 t167.length co26 : Value).ownBlock ∧ some k_ ≠ (.slice Ao50 t173.length co50 : Value).ownBlock ∧ some k_ ≠ (.slice Ao52 t177.length co52 : Value).ownBlock) (Kd.R_keptB (HO_161000.out) hkp (fun k_ hk_ hs_ => (hk_.2.1) hs_)) (fun k_ hk_ => ⟨hk_.1.1, hk_.1.2.1, hk_.1.2.2.1, hk_.1.2.2.2.1, hk_.1.2.2.2.2⟩)); have n3_ := Aside0.mk (Kd.R_mono (ok' := fun k_ => some k_ ≠ (.slice Ao22 t161.length co22 : Value).ownBlock ∧ some k_ ≠ (.slice Ao23 t164.length co23 : Value).ownBlock ∧ some k_ ≠ (.slice Ao18 t156.length co18 : Value).ownBlock ∧ some k_ ≠ (.slice Ao50 t173.length co50 : Value).ownBlock ∧ some k_ ≠ (.slice Ao52 t177.length co52 : Value).ownBlock) (Kd.R_keptB (HO_172000.out) hkp (fun k_ hk_ hs_ => (hk_.2.1) hs_)) (fun k_ hk_ => ⟨hk_.1.1, hk_.1.2.1, hk_.1.2.2.1, hk_.1.2.2.2.1, hk_.1.2.2.2.2⟩)); have n4_ := Aside0.mk (blk_kept (by (with_reducible repeat (first | refine blk_drewN ?_ _ | refine blk_drew ?_ | refine blk_alloc ?_ _)); exact BK160.out) hkp (fun hs_ => (fun e_ => (Kd.R_ne HO_8.out BK160.out (by decide)) e_) hs_)); have n5_ := Aside0.mk (blk_kept (by (with_reducible repeat (first | refine blk_drewN ?_ _ | refine blk_drew ?_ | refine blk_alloc ?_ _)); exact BK171.out) hkp (fun hs_ => (fun e_ => (Kd.R_ne HO_8.out BK171.out (by decide)) e_) hs_)); have n6_ := Aside0.mk (Kd.R_mono (ok' := fun k_ => some k_ ≠ (.slice Ao22 t161.length co22 : Value).ownBlock ∧ some k_ ≠ (.slice Ao23 t164.length co23 : Value).ownBlock ∧ some k_ ≠ (.slice Ao18 t156.length co18 : Value).ownBlock ∧ some k_ ≠ (.slice Ao26 t167.length co26 : Value).ownBlock ∧ some k_ ≠ (.slice Ao52 t177.length co52 : Value).ownBlock) (Kd.R_keptB (HO175.out) hkp (fun k_ hk_ hs_ => (hk_.2.1) hs_)) (fun k_ hk_ => ⟨hk_.1.1, hk_.1.2.1, hk_.1.2.2.1, hk_.1.2.2.2.1, hk_.1.2.2.2.2⟩)); have n7_ := Aside0.mk (Kd.R_mono (ok' := fun k_ => some k_ ≠ (.slice Ao22 t161.length co22 : Value).ownBlock ∧ some k_ ≠ (.slice Ao23 t164.length co23 : Value).ownBlock ∧ some k_ ≠ (.slice Ao18 t156.length co18 : Value).ownBlock ∧ some k_ ≠ (.slice Ao26 t167.length co26 : Value).ownBlock ∧ some k_ ≠ (.slice Ao50 t173.length co50 : Value).ownBlock) (Kd.R_keptB (HO179.out) hkp (fun k_ hk_ hs_ => (hk_.2.1) hs_)) (fun k_ hk_ => ⟨hk_.1.1, hk_.1.2.1, hk_.1.2.2.1, hk_.1.2.2.2.1, hk_.1.2.2.2.2⟩)); have n8_ := Aside0.mk (hb); clear HO_7; clear HO_8; clear HO_161000; clear HO_172000; clear BK160; clear BK171; clear HO175; clear HO179; clear HB; have HO_7 := n0_; have HO_8 := n1_; have HO_161000 := n2_; have HO_172000 := n3_; have BK160 := n4_; have BK171 := n5_; have HO175 := n6_; have HO179 := n7_; have HB := n8_; clear n0_ n1_ n2_ n3_ n4_ n5_ n6_ n7_ n8_; (try clear hb); (try clear hkp); (try clear hy0)))
                (try simp only [Act.put, List.setIfInBounds_toArray, List.set_cons_zero, List.set_cons_succ])
                go_cut [77] (fun v77 wc => ∃ (kq : Nat) (x77_47 : Bool), v77 = .bool x77_47 ∧ Aside0 (laws_FnExactRowOf.j1 kq l0 l1 t159 x77_47 t156 t167 = some r) ∧ Aside0 (kq ≤ kj10) ∧ Aside0 (Kd.R (Kd.int .i64) 3 wc w.heap.size (fun k_ => some k_ ≠ ((.slice Ao26 t167.length co26) : Value).ownBlock) (.slice Ao18 t156.length co18) t156) ∧ Aside0 (Kd.R (Kd.int .i64) 3 wc w.heap.size (fun k_ => some k_ ≠ ((.slice Ao18 t156.length co18) : Value).ownBlock) (.slice Ao26 t167.length co26) t167) ∧ Aside0 (wc.heap[gb160]? = some (.cells #[(.slice Ao18 t156.length co18)] 33 (0, 0))) ∧ Aside0 (wc.heap[gb171]? = some (.cells #[(.slice Ao26 t167.length co26)] 33 (0, 0))) ∧ Aside0 (Below w.heap.size w wc))
                case first =>
                  have H := HC48.out
                  clear HC48
                  by_cases c55 : t183 < 0
                  · rw [if_pos c55] at H
                    have c55b0 : decide (t183 < 0) = true := decide_eq_true c55
                    clear c55
                    (first | rw [c55b0] | (simp only [i64_w, i32_w]; rw [c55b0]) | skip)
                    have H' := Aside0.mk H
                    clear H
                    go_wp2
                    go_meet
                    case rel => exact ⟨_, (true), (by first | rfl | (simp; done) | (simp [*]; done)), H', ⟨by have := HJ10.out; first | omega | exact Nat.le_refl _⟩, ⟨by (with_reducible repeat (first | apply Kd.R_alloc | apply Kd.R_drewN | apply Kd.R_drew)); exact Kd.R_mono HO_161000.out (fun _ hk => hk.2.2.1)⟩, ⟨by (with_reducible repeat (first | apply Kd.R_alloc | apply Kd.R_drewN | apply Kd.R_drew)); exact Kd.R_mono HO_172000.out (fun _ hk => hk.2.2.1)⟩, ⟨by (with_reducible repeat (first | refine blk_drewN ?_ _ | refine blk_drew ?_ | refine blk_alloc ?_ _)); exact BK160.out⟩, ⟨by (with_reducible repeat (first | refine blk_drewN ?_ _ | refine blk_drew ?_ | refine blk_alloc ?_ _)); exact BK171.out⟩, ⟨by repeat (first | (with_reducible first | exact HB.out | apply below_alloc | apply pw_below_drewN | apply below_drew1 | refine below_set ?_ GE160.out | refine below_set ?_ GE171.out) | exact HB.out)⟩⟩
                  · rw [if_neg c55] at H
                    have c55b0 : decide (t183 < 0) = false := decide_eq_false c55
                    clear c55
                    (first | rw [c55b0] | (simp only [i64_w, i32_w]; rw [c55b0]) | skip)
                    replace H := Option.bind_eq_some_iff.mp H
                    obtain ⟨t185, A560, H⟩ := H
                    replace H : (if t185 = true then (laws_FnExactRowOf.j1 kj10 l0 l1 t159 (t170 != t159) t156 t167) else (laws_FnExactRowOf.j1 kj10 l0 l1 t159 true t156 t167)) = some r := H
                    have A56 := Aside0.mk A560
                    clear A560
                    by_cases c57 : t185 = true
                    · subst c57
                      have H1 : (laws_FnExactRowOf.j1 kj10 l0 l1 t159 (t170 != t159) t156 t167) = some r := by rw [if_pos rfl] at H; exact H
                      clear H
                      have H := H1
                      clear H1
                      have H' := Aside0.mk H
                      clear H
                      have hnb58 := NB171_160.out
                      have hnc58 := NB160_171.out
                      have hcz59_0 : w54.cell? ⟨gb171, 0, none⟩ = some (.slice Ao26 t167.length co26) := (blk_cell BK171.out 0).trans rfl
                      have hfz59_0 := blk_frozen BK171.out 0
                      have hcz60_0 : w54.cell? ⟨gb160, 0, none⟩ = some (.slice Ao18 t156.length co18) := (blk_cell BK160.out 0).trans rfl
                      have hfz60_0 := blk_frozen BK160.out 0
                      go_wp2_with (first | (go_at_call 26; (with_reducible refine (laws_eqRow.calls kj10 _ _ t167 _ _ t156 true _ ?side1 ?side2 ?side3 ?side4 A56.out).mono ?_); (case side1 => repeat (first | exact (Kd.R_reads' HO_172000.out).2.2 | (with_reducible refine Kd.C_alloc ?_ _) | (with_reducible refine Kd.C_drewN ?_ _) | (with_reducible refine Kd.C_drew ?_))); (case side2 => exact (Kd.R_reads' HO_172000.out).2.1); (case side3 => repeat (first | exact (Kd.R_reads' HO_161000.out).2.2 | (with_reducible refine Kd.C_alloc ?_ _) | (with_reducible refine Kd.C_drewN ?_ _) | (with_reducible refine Kd.C_drew ?_))); (case side4 => exact (Kd.R_reads' HO_161000.out).2.1); rintro e w61 ⟨rfl, hb⟩; have n0_ := Aside0.mk (Kd.R_below (by (with_reducible repeat (first | apply Kd.R_alloc | apply Kd.R_drewN | apply Kd.R_drew)); exact HO_7.out) hb); have n1_ := Aside0.mk (Kd.R_below (by (with_reducible repeat (first | apply Kd.R_alloc | apply Kd.R_drewN | apply Kd.R_drew)); exact HO_8.out) hb); have n2_ := Aside0.mk (Kd.R_below (by (with_reducible repeat (first | apply Kd.R_alloc | apply Kd.R_drewN | apply Kd.R_drew)); exact HO_161000.out) hb); have n3_ := Aside0.mk (Kd.R_below (by (with_reducible repeat (first | apply Kd.R_alloc | apply Kd.R_drewN | apply Kd.R_drew)); exact HO_172000.out) hb); have n4_ := Aside0.mk (Kd.R_below (by (with_reducible repeat (first | apply Kd.R_alloc | apply Kd.R_drewN | apply Kd.R_drew)); exact HO175.out) hb); have n5_ := Aside0.mk (Kd.R_below (by (with_reducible repeat (first | apply Kd.R_alloc | apply Kd.R_drewN | apply Kd.R_drew)); exact HO179.out) hb); have n6_ := Aside0.mk (blk_below (g := gb160) (o := .cells #[.slice Ao18 t156.length co18] 33 (0, 0)) (by (with_reducible repeat (first | refine blk_drewN ?_ _ | refine blk_drew ?_ | refine blk_alloc ?_ _)); exact BK160.out) hb); have n7_ := Aside0.mk (blk_below (g := gb171) (o := .cells #[.slice Ao26 t167.length co26] 33 (0, 0)) (by (with_reducible repeat (first | refine blk_drewN ?_ _ | refine blk_drew ?_ | refine blk_alloc ?_ _)); exact BK171.out) hb); have n8_ := Aside0.mk (below_step (by repeat (first | (with_reducible first | exact HB.out | apply below_alloc | apply pw_below_drewN | apply below_drew1 | refine below_set ?_ GE160.out | refine below_set ?_ GE171.out) | exact HB.out)) hb); clear HO_7; clear HO_8; clear HO_161000; clear HO_172000; clear HO175; clear HO179; clear BK160; clear BK171; clear HB; have HO_7 := n0_; have HO_8 := n1_; have HO_161000 := n2_; have HO_172000 := n3_; have HO175 := n4_; have HO179 := n5_; have BK160 := n6_; have BK171 := n7_; have HB := n8_; clear n0_ n1_ n2_ n3_ n4_ n5_ n6_ n7_ n8_; (try clear hb); (try clear hb2); (try clear hk); (try clear hi)))
                      go_meet
                      case rel => exact ⟨_, ((t170 != t159)), (by first | rfl | (simp; done) | (simp [*]; done)), H', ⟨by have := HJ10.out; first | omega | exact Nat.le_refl _⟩, ⟨by (with_reducible repeat (first | apply Kd.R_alloc | apply Kd.R_drewN | apply Kd.R_drew)); exact Kd.R_mono HO_161000.out (fun _ hk => hk.2.2.1)⟩, ⟨by (with_reducible repeat (first | apply Kd.R_alloc | apply Kd.R_drewN | apply Kd.R_drew)); exact Kd.R_mono HO_172000.out (fun _ hk => hk.2.2.1)⟩, ⟨by (with_reducible repeat (first | refine blk_drewN ?_ _ | refine blk_drew ?_ | refine blk_alloc ?_ _)); exact BK160.out⟩, ⟨by (with_reducible repeat (first | refine blk_drewN ?_ _ | refine blk_drew ?_ | refine blk_alloc ?_ _)); exact BK171.out⟩, ⟨by repeat (first | (with_reducible first | exact HB.out | apply below_alloc | apply pw_below_drewN | apply below_drew1 | refine below_set ?_ GE160.out | refine below_set ?_ GE171.out) | exact HB.out)⟩⟩
                    · replace c57 := Bool.eq_false_iff.mpr c57
                      subst c57
                      have H1 : (laws_FnExactRowOf.j1 kj10 l0 l1 t159 true t156 t167) = some r := by rw [if_neg (show ¬ (false = true) by decide)] at H; exact H
                      clear H
                      have H := H1
                      clear H1
                      have H' := Aside0.mk H
                      clear H
                      have hnb62 := NB171_160.out
                      have hnc62 := NB160_171.out
                      have hcz63_0 : w54.cell? ⟨gb171, 0, none⟩ = some (.slice Ao26 t167.length co26) := (blk_cell BK171.out 0).trans rfl
                      have hfz63_0 := blk_frozen BK171.out 0
                      have hcz64_0 : w54.cell? ⟨gb160, 0, none⟩ = some (.slice Ao18 t156.length co18) := (blk_cell BK160.out 0).trans rfl
                      have hfz64_0 := blk_frozen BK160.out 0
                      go_wp2_with (first | (go_at_call 26; (with_reducible refine (laws_eqRow.calls kj10 _ _ t167 _ _ t156 false _ ?side1 ?side2 ?side3 ?side4 A56.out).mono ?_); (case side1 => repeat (first | exact (Kd.R_reads' HO_172000.out).2.2 | (with_reducible refine Kd.C_alloc ?_ _) | (with_reducible refine Kd.C_drewN ?_ _) | (with_reducible refine Kd.C_drew ?_))); (case side2 => exact (Kd.R_reads' HO_172000.out).2.1); (case side3 => repeat (first | exact (Kd.R_reads' HO_161000.out).2.2 | (with_reducible refine Kd.C_alloc ?_ _) | (with_reducible refine Kd.C_drewN ?_ _) | (with_reducible refine Kd.C_drew ?_))); (case side4 => exact (Kd.R_reads' HO_161000.out).2.1); rintro e w65 ⟨rfl, hb⟩; have n0_ := Aside0.mk (Kd.R_below (by (with_reducible repeat (first | apply Kd.R_alloc | apply Kd.R_drewN | apply Kd.R_drew)); exact HO_7.out) hb); have n1_ := Aside0.mk (Kd.R_below (by (with_reducible repeat (first | apply Kd.R_alloc | apply Kd.R_drewN | apply Kd.R_drew)); exact HO_8.out) hb); have n2_ := Aside0.mk (Kd.R_below (by (with_reducible repeat (first | apply Kd.R_alloc | apply Kd.R_drewN | apply Kd.R_drew)); exact HO_161000.out) hb); have n3_ := Aside0.mk (Kd.R_below (by (with_reducible repeat (first | apply Kd.R_alloc | apply Kd.R_drewN | apply Kd.R_drew)); exact HO_172000.out) hb); have n4_ := Aside0.mk (Kd.R_below (by (with_reducible repeat (first | apply Kd.R_alloc | apply Kd.R_drewN | apply Kd.R_drew)); exact HO175.out) hb); have n5_ := Aside0.mk (Kd.R_below (by (with_reducible repeat (first | apply Kd.R_alloc | apply Kd.R_drewN | apply Kd.R_drew)); exact HO179.out) hb); have n6_ := Aside0.mk (blk_below (g := gb160) (o := .cells #[.slice Ao18 t156.length co18] 33 (0, 0)) (by (with_reducible repeat (first | refine blk_drewN ?_ _ | refine blk_drew ?_ | refine blk_alloc ?_ _)); exact BK160.out) hb); have n7_ := Aside0.mk (blk_below (g := gb171) (o := .cells #[.slice Ao26 t167.length co26] 33 (0, 0)) (by (with_reducible repeat (first | refine blk_drewN ?_ _ | refine blk_drew ?_ | refine blk_alloc ?_ _)); exact BK171.out) hb); have n8_ := Aside0.mk (below_step (by repeat (first | (with_reducible first | exact HB.out | apply below_alloc | apply pw_below_drewN | apply below_drew1 | refine below_set ?_ GE160.out | refine below_set ?_ GE171.out) | exact HB.out)) hb); clear HO_7; clear HO_8; clear HO_161000; clear HO_172000; clear HO175; clear HO179; clear BK160; clear BK171; clear HB; have HO_7 := n0_; have HO_8 := n1_; have HO_161000 := n2_; have HO_172000 := n3_; have HO175 := n4_; have HO179 := n5_; have BK160 := n6_; have BK171 := n7_; have HB := n8_; clear n0_ n1_ n2_ n3_ n4_ n5_ n6_ n7_ n8_; (try clear hb); (try clear hb2); (try clear hk); (try clear hi)))
                      go_meet
                      case rel => exact ⟨_, (true), (by first | rfl | (simp; done) | (simp [*]; done)), H', ⟨by have := HJ10.out; first | omega | exact Nat.le_refl _⟩, ⟨by (with_reducible repeat (first | apply Kd.R_alloc | apply Kd.R_drewN | apply Kd.R_drew)); exact Kd.R_mono HO_161000.out (fun _ hk => hk.2.2.1)⟩, ⟨by (with_reducible repeat (first | apply Kd.R_alloc | apply Kd.R_drewN | apply Kd.R_drew)); exact Kd.R_mono HO_172000.out (fun _ hk => hk.2.2.1)⟩, ⟨by (with_reducible repeat (first | refine blk_drewN ?_ _ | refine blk_drew ?_ | refine blk_alloc ?_ _)); exact BK160.out⟩, ⟨by (with_reducible repeat (first | refine blk_drewN ?_ _ | refine blk_drew ?_ | refine blk_alloc ?_ _)); exact BK171.out⟩, ⟨by repeat (first | (with_reducible first | exact HB.out | apply below_alloc | apply pw_below_drewN | apply below_drew1 | refine below_set ?_ GE160.out | refine below_set ?_ GE171.out) | exact HB.out)⟩⟩
                case rest =>
                  clear HC48
                  try clear c1
                  try clear c2
                  try clear p2
                  try clear c3
                  try clear c3b0
                  try clear c3b1
                  try clear c4
                  try clear c4b0
                  try clear c4b1
                  try clear c5
                  try clear c6
                  try clear c7
                  try clear c10
                  try clear c26
                  try clear c27
                  try clear c30
                  try clear c31
                  try clear c35
                  try clear c39
                  try clear c42
                  try clear c45
                  try clear c55
                  try clear c55b0
                  try clear c57
                  try clear c58
                  try clear c62
                  try clear hcz19_0
                  try clear hcz28_0
                  try clear hcz32_0
                  try clear hcz33_0
                  try clear hcz36_0
                  try clear hcz37_0
                  try clear hcz59_0
                  try clear hcz60_0
                  try clear hcz63_0
                  try clear hcz64_0
                  try clear hfz19_0
                  try clear hfz28_0
                  try clear hfz32_0
                  try clear hfz33_0
                  try clear hfz36_0
                  try clear hfz37_0
                  try clear hfz59_0
                  try clear hfz60_0
                  try clear hfz63_0
                  try clear hfz64_0
                  try clear p2
                  obtain ⟨kq, x77_47, rfl, HA, HJ47, HO_161000, HO_172000, BK160, BK171, HB⟩ := hcut
                  cases kq with
                  | zero => exact absurd HA.out (by simp [laws_FnExactRowOf.j1])
                  | succ kj47 =>
                    have H := HA.out
                    clear HA
                    simp only [laws_FnExactRowOf.j1] at H
                    by_cases c66 : x77_47 = true
                    · subst c66
                      have H1 : (none) = some r := by rw [if_pos rfl] at H; exact H
                      clear H
                      have H := H1
                      clear H1
                      exact absurd H (by simp)
                    · replace c66 := Bool.eq_false_iff.mpr c66
                      subst c66
                      have H1 : ((laws_markRow.f kj47 t167 1).bind fun bt186 => ((laws_heldRow.f kj47 bt186.2 1).bind fun t188 => (if t188 < 0 then (none) else (if t188 = bt186.1 then ((laws_toIntS.f kj47 l0).bind fun t189 => ((laws_toIntS.f kj47 l1).bind fun t192 => ((impl_RowOf.f kj47 t189 t192).bind fun bt195 => ((laws_eqRow.f kj47 bt195.1 t156).bind fun t200 => (if t200 = true then (laws_FnExactRowOf.j2 kj47 bt186.1 (bt195.2 != t159) bt186.2) else (laws_FnExactRowOf.j2 kj47 bt186.1 true bt186.2)))))) else (none))))) = some r := by rw [if_neg (show ¬ (false = true) by decide)] at H; exact H
                      clear H
                      have H := H1
                      clear H1
                      replace H := Option.bind_eq_some_iff.mp H
                      obtain ⟨⟨t186, t187⟩, A670, H⟩ := H
                      replace H : ((laws_heldRow.f kj47 t187 1).bind fun t188 => (if t188 < 0 then (none) else (if t188 = t186 then ((laws_toIntS.f kj47 l0).bind fun t189 => ((laws_toIntS.f kj47 l1).bind fun t192 => ((impl_RowOf.f kj47 t189 t192).bind fun bt195 => ((laws_eqRow.f kj47 bt195.1 t156).bind fun t200 => (if t200 = true then (laws_FnExactRowOf.j2 kj47 t186 (bt195.2 != t159) t187) else (laws_FnExactRowOf.j2 kj47 t186 true t187)))))) else (none)))) = some r := H
                      have A67 := Aside0.mk A670
                      clear A670
                      replace H := Option.bind_eq_some_iff.mp H
                      obtain ⟨t188, A680, H⟩ := H
                      replace H : (if t188 < 0 then (none) else (if t188 = t186 then ((laws_toIntS.f kj47 l0).bind fun t189 => ((laws_toIntS.f kj47 l1).bind fun t192 => ((impl_RowOf.f kj47 t189 t192).bind fun bt195 => ((laws_eqRow.f kj47 bt195.1 t156).bind fun t200 => (if t200 = true then (laws_FnExactRowOf.j2 kj47 t186 (bt195.2 != t159) t187) else (laws_FnExactRowOf.j2 kj47 t186 true t187)))))) else (none))) = some r := H
                      have A68 := Aside0.mk A680
                      clear A680
                      by_cases c69 : t188 < 0
                      · rw [if_pos c69] at H
                        exact absurd H (by simp)
                      · rw [if_neg c69] at H
                        have c69b0 : decide (t188 < 0) = false := decide_eq_false c69
                        clear c69
                        by_cases c70 : t188 = t186
                        · rw [if_pos c70] at H
                          have c70b0 : (t188 == t186) = true := beq_iff_eq.mpr c70
                          have c70b1 : (t188 != t186) = false := bne_eq_false_iff_eq.mpr c70
                          clear c70
                          replace H := Option.bind_eq_some_iff.mp H
                          obtain ⟨t189, A710, H⟩ := H
                          replace H : ((laws_toIntS.f kj47 l1).bind fun t192 => ((impl_RowOf.f kj47 t189 t192).bind fun bt195 => ((laws_eqRow.f kj47 bt195.1 t156).bind fun t200 => (if t200 = true then (laws_FnExactRowOf.j2 kj47 t186 (bt195.2 != t159) t187) else (laws_FnExactRowOf.j2 kj47 t186 true t187))))) = some r := H
                          have A71 := Aside0.mk A710
                          clear A710
                          replace H := Option.bind_eq_some_iff.mp H
                          obtain ⟨t192, A720, H⟩ := H
                          replace H : ((impl_RowOf.f kj47 t189 t192).bind fun bt195 => ((laws_eqRow.f kj47 bt195.1 t156).bind fun t200 => (if t200 = true then (laws_FnExactRowOf.j2 kj47 t186 (bt195.2 != t159) t187) else (laws_FnExactRowOf.j2 kj47 t186 true t187)))) = some r := H
                          have A72 := Aside0.mk A720
                          clear A720
                          replace H := Option.bind_eq_some_iff.mp H
                          obtain ⟨⟨t195, t198⟩, A730, H⟩ := H
                          replace H : ((laws_eqRow.f kj47 t195 t156).bind fun t200 => (if t200 = true then (laws_FnExactRowOf.j2 kj47 t186 (t198 != t159) t187) else (laws_FnExactRowOf.j2 kj47 t186 true t187))) = some r := H
                          have A73 := Aside0.mk A730
                          clear A730
                          have HC74 := Aside0.mk H
                          clear H
                          have hnb75 := NB171_160.out
                          have hnc75 := NB160_171.out
                          have hcz76_0 : wc.cell? ⟨gb171, 0, none⟩ = some (.slice Ao26 t167.length co26) := (blk_cell BK171.out 0).trans rfl
                          have hfz76_0 := blk_frozen BK171.out 0
                          go_upto_region 29 with (first | ((with_reducible refine gate_callee (f := 79) rfl ?_); refine goesL_ (some 80) rfl rfl Try.func79 (by kernel_rfl) rfl #[.agg #[.slice Ao26 t167.length co26], .int .i64 1] rfl (by (try simp only [List.map_toArray, List.map_cons, List.map_nil]); first | done | rfl | (simp only [List.length_drop, List.length_take]; rfl)) ?_; (with_reducible refine (laws_markRow.calls kj47 (fun k_ => some k_ = (.slice Ao26 t167.length co26 : Value).ownBlock) (.slice Ao26 t167.length co26) t167 1 t186 t187 w _ ?side1 ?side2 A67.out).mono ?_); (case side1 => repeat (first | (with_reducible first | exact HB.out | apply below_alloc | apply pw_below_drewN | apply below_drew1 | refine below_set ?_ GE160.out | refine below_set ?_ GE171.out) | exact HB.out)); (case side2 => exact Kd.R_tight rfl HO_172000.out); rintro e w77 ⟨rfl, hy0, hb, hkp⟩; refine ⟨_, rfl, ?_⟩; have n0_ := Aside0.mk (Kd.R_mono (ok' := fun k_ => some k_ ≠ (.slice Ao26 t167.length co26 : Value).ownBlock) (Kd.R_keptB (HO_161000.out) hkp (fun k_ hk_ hs_ => (hk_) hs_)) (fun k_ hk_ => hk_.1)); have n1_ := Aside0.mk (Kd.R_reok rfl hy0 (fun k_ e_ => HO_172000.out.1 k_ e_)); have n2_ := Aside0.mk (blk_kept (by (with_reducible repeat (first | refine blk_drewN ?_ _ | refine blk_drew ?_ | refine blk_alloc ?_ _)); exact BK160.out) hkp (fun hs_ => (fun e_ => (Kd.R_ne HO_172000.out BK160.out (by decide)) e_) hs_)); have n3_ := Aside0.mk (blk_kept (by (with_reducible repeat (first | refine blk_drewN ?_ _ | refine blk_drew ?_ | refine blk_alloc ?_ _)); exact BK171.out) hkp (fun hs_ => (fun e_ => (Kd.R_ne HO_172000.out BK171.out (by decide)) e_) hs_)); have n4_ := Aside0.mk (hb); clear HO_161000; clear HO_172000; clear BK160; clear BK171; clear HB; have HO_161000 := n0_; have HO_172000 := n1_; have BK160 := n2_; have BK171 := n3_; have HB := n4_; clear n0_ n1_ n2_ n3_ n4_; (try clear hb); (try clear hkp); (try clear hy0); have hcz78_0 : w77.cell? ⟨gb171, 0, none⟩ = some (.slice Ao26 t167.length co26) := (blk_cell BK171.out 0).trans rfl; have hfz78_0 := blk_frozen BK171.out 0) | ((with_reducible refine gate_callee (f := 80) rfl ?_); refine goesL_ (some 83) rfl rfl Try.func80 (by kernel_rfl) rfl #[.agg #[.slice Ao26 t187.length co26], .int .i64 1] rfl (by (try simp only [List.map_toArray, List.map_cons, List.map_nil]); first | done | (rw [show t187.length = t167.length from (Kd.R_reads' HO_172000.out).1.symm] <;> rfl) | rfl | (simp only [List.length_drop, List.length_take]; rfl)) ?_; (with_reducible refine (laws_heldRow.calls kj47 _ _ t187 1 t188 _ ?side1 ?side2 A68.out).mono ?_); (case side1 => repeat (first | exact (Kd.R_reads' HO_172000.out).2.2 | (with_reducible refine Kd.C_alloc ?_ _) | (with_reducible refine Kd.C_drewN ?_ _) | (with_reducible refine Kd.C_drew ?_))); (case side2 => rw [show t187.length = t167.length from (Kd.R_reads' HO_172000.out).1.symm]; exact (Kd.R_reads' HO_172000.out).2.1); rintro e w79 ⟨rfl, hb⟩; refine ⟨_, rfl, ?_⟩; have n0_ := Aside0.mk (Kd.R_below (by (with_reducible repeat (first | apply Kd.R_alloc | apply Kd.R_drewN | apply Kd.R_drew)); exact HO_161000.out) hb); have n1_ := Aside0.mk (Kd.R_below (by (with_reducible repeat (first | apply Kd.R_alloc | apply Kd.R_drewN | apply Kd.R_drew)); exact HO_172000.out) hb); have n2_ := Aside0.mk (blk_below (g := gb160) (o := .cells #[.slice Ao18 t156.length co18] 33 (0, 0)) (by (with_reducible repeat (first | refine blk_drewN ?_ _ | refine blk_drew ?_ | refine blk_alloc ?_ _)); exact BK160.out) hb); have n3_ := Aside0.mk (blk_below (g := gb171) (o := .cells #[.slice Ao26 t167.length co26] 33 (0, 0)) (by (with_reducible repeat (first | refine blk_drewN ?_ _ | refine blk_drew ?_ | refine blk_alloc ?_ _)); exact BK171.out) hb); have n4_ := Aside0.mk (below_step (by repeat (first | (with_reducible first | exact HB.out | apply below_alloc | apply pw_below_drewN | apply below_drew1 | refine below_set ?_ GE160.out | refine below_set ?_ GE171.out) | exact HB.out)) hb); clear HO_161000; clear HO_172000; clear BK160; clear BK171; clear HB; have HO_161000 := n0_; have HO_172000 := n1_; have BK160 := n2_; have BK171 := n3_; have HB := n4_; clear n0_ n1_ n2_ n3_ n4_; (try clear hb); (try clear hb2); (try clear hk); (try clear hi)) | ((with_reducible refine gate_callee (f := 75) rfl ?_); refine goesL_ (some 91) rfl rfl Try.func75 (by kernel_rfl) rfl #[.slice A0 l0.length c0] rfl (by (try simp only [List.map_toArray, List.map_cons, List.map_nil]); first | done | rfl | (simp only [List.length_drop, List.length_take]; rfl)) ?_; (with_reducible refine (laws_toIntS.calls kj47 _ _ l0 t189 _ ?side1 ?side2 A71.out).mono ?_); (case side1 => repeat (first | exact (Kd.C_below HR0.out HB.out) | (with_reducible refine Kd.C_alloc ?_ _) | (with_reducible refine Kd.C_drewN ?_ _) | (with_reducible refine Kd.C_drew ?_))); (case side2 => exact HC0.out); rintro e w80 ⟨v190, rfl, ho0, hb⟩; refine ⟨_, rfl, ?_⟩; have n0_ := Aside0.mk (Kd.R_elder' (by (with_reducible repeat (first | apply Kd.R_alloc | apply Kd.R_drewN | apply Kd.R_drew)); exact HO_161000.out) (Kd.R_base ho0) hb); have n1_ := Aside0.mk (Kd.R_elder' (by (with_reducible repeat (first | apply Kd.R_alloc | apply Kd.R_drewN | apply Kd.R_drew)); exact HO_172000.out) (Kd.R_base ho0) hb); have n2_ := Aside0.mk (Kd.R_lower (Kd.R_new' (Kd.R_new' ho0 (Kd.R_lt (by (with_reducible repeat (first | apply Kd.R_alloc | apply Kd.R_drewN | apply Kd.R_drew)); exact HO_161000.out))) (Kd.R_lt (by (with_reducible repeat (first | apply Kd.R_alloc | apply Kd.R_drewN | apply Kd.R_drew)); exact HO_172000.out))) (below_size (by repeat (first | (with_reducible first | exact HB.out | apply below_alloc | apply pw_below_drewN | apply below_drew1 | refine below_set ?_ GE160.out | refine below_set ?_ GE171.out) | exact HB.out)))); have n3_ := Aside0.mk (blk_below (g := gb160) (o := .cells #[.slice Ao18 t156.length co18] 33 (0, 0)) (by (with_reducible repeat (first | refine blk_drewN ?_ _ | refine blk_drew ?_ | refine blk_alloc ?_ _)); exact BK160.out) hb); have n4_ := Aside0.mk (blk_below (g := gb171) (o := .cells #[.slice Ao26 t167.length co26] 33 (0, 0)) (by (with_reducible repeat (first | refine blk_drewN ?_ _ | refine blk_drew ?_ | refine blk_alloc ?_ _)); exact BK171.out) hb); have n5_ := Aside0.mk (below_step (by repeat (first | (with_reducible first | exact HB.out | apply below_alloc | apply pw_below_drewN | apply below_drew1 | refine below_set ?_ GE160.out | refine below_set ?_ GE171.out) | exact HB.out)) hb); clear HO_161000; clear HO_172000; clear BK160; clear BK171; clear HB; have HO_161000 := n0_; have HO_172000 := n1_; have HO191 := n2_; have BK160 := n3_; have BK171 := n4_; have HB := n5_; clear n0_ n1_ n2_ n3_ n4_ n5_; (try clear hb); (try clear hb2); (try clear hk); (try clear hi); (try clear ho0)) | ((with_reducible refine gate_callee (f := 75) rfl ?_); refine goesL_ (some 93) rfl rfl Try.func75 (by kernel_rfl) rfl #[.slice A1 l1.length c1] rfl (by (try simp only [List.map_toArray, List.map_cons, List.map_nil]); first | done | rfl | (simp only [List.length_drop, List.length_take]; rfl)) ?_; (with_reducible refine (laws_toIntS.calls kj47 _ _ l1 t192 _ ?side1 ?side2 A72.out).mono ?_); (case side1 => repeat (first | exact (Kd.C_below HR1.out HB.out) | (with_reducible refine Kd.C_alloc ?_ _) | (with_reducible refine Kd.C_drewN ?_ _) | (with_reducible refine Kd.C_drew ?_))); (case side2 => exact HC1.out); rintro e w81 ⟨v193, rfl, ho0, hb⟩; refine ⟨_, rfl, ?_⟩; have n0_ := Aside0.mk (Kd.R_elder' (by (with_reducible repeat (first | apply Kd.R_alloc | apply Kd.R_drewN | apply Kd.R_drew)); exact HO_161000.out) (Kd.R_base ho0) hb); have n1_ := Aside0.mk (Kd.R_elder' (by (with_reducible repeat (first | apply Kd.R_alloc | apply Kd.R_drewN | apply Kd.R_drew)); exact HO_172000.out) (Kd.R_base ho0) hb); have n2_ := Aside0.mk (Kd.R_elder' (by (with_reducible repeat (first | apply Kd.R_alloc | apply Kd.R_drewN | apply Kd.R_drew)); exact HO191.out) (Kd.R_base ho0) hb); have n3_ := Aside0.mk (Kd.R_lower (Kd.R_new' (Kd.R_new' (Kd.R_new' ho0 (Kd.R_lt (by (with_reducible repeat (first | apply Kd.R_alloc | apply Kd.R_drewN | apply Kd.R_drew)); exact HO_161000.out))) (Kd.R_lt (by (with_reducible repeat (first | apply Kd.R_alloc | apply Kd.R_drewN | apply Kd.R_drew)); exact HO_172000.out))) (Kd.R_lt (by (with_reducible repeat (first | apply Kd.R_alloc | apply Kd.R_drewN | apply Kd.R_drew)); exact HO191.out))) (below_size (by repeat (first | (with_reducible first | exact HB.out | apply below_alloc | apply pw_below_drewN | apply below_drew1 | refine below_set ?_ GE160.out | refine below_set ?_ GE171.out) | exact HB.out)))); have n4_ := Aside0.mk (blk_below (g := gb160) (o := .cells #[.slice Ao18 t156.length co18] 33 (0, 0)) (by (with_reducible repeat (first | refine blk_drewN ?_ _ | refine blk_drew ?_ | refine blk_alloc ?_ _)); exact BK160.out) hb); have n5_ := Aside0.mk (blk_below (g := gb171) (o := .cells #[.slice Ao26 t167.length co26] 33 (0, 0)) (by (with_reducible repeat (first | refine blk_drewN ?_ _ | refine blk_drew ?_ | refine blk_alloc ?_ _)); exact BK171.out) hb); have n6_ := Aside0.mk (below_step (by repeat (first | (with_reducible first | exact HB.out | apply below_alloc | apply pw_below_drewN | apply below_drew1 | refine below_set ?_ GE160.out | refine below_set ?_ GE171.out) | exact HB.out)) hb); clear HO_161000; clear HO_172000; clear HO191; clear BK160; clear BK171; clear HB; have HO_161000 := n0_; have HO_172000 := n1_; have HO191 := n2_; have HO194 := n3_; have BK160 := n4_; have BK171 := n5_; have HB := n6_; clear n0_ n1_ n2_ n3_ n4_ n5_ n6_; (try clear hb); (try clear hb2); (try clear hk); (try clear hi); (try clear ho0); obtain ⟨Ao82, co82, eo82⟩ := Kd.R_slice HO191.out; subst eo82; obtain ⟨Ao83, co83, eo83⟩ := Kd.R_slice HO194.out; subst eo83) | ((with_reducible refine gate_callee (f := 76) rfl ?_); refine goesL_ (some 94) rfl rfl Try.func76 (by kernel_rfl) rfl #[.slice Ao82 t189.length co82, .slice Ao83 t192.length co83] rfl (by (try simp only [List.map_toArray, List.map_cons, List.map_nil]); first | done | rfl | (simp only [List.length_drop, List.length_take]; rfl)) ?_; (with_reducible refine (impl_RowOf.calls kj47 _ _ t189 _ _ t192 t195 t198 _ ?side1 ?side2 ?side3 ?side4 A73.out).mono ?_); (case side1 => repeat (first | exact (Kd.R_reads' HO191.out).2.2 | (with_reducible refine Kd.C_alloc ?_ _) | (with_reducible refine Kd.C_drewN ?_ _) | (with_reducible refine Kd.C_drew ?_))); (case side2 => exact (Kd.R_reads' HO191.out).2.1); (case side3 => repeat (first | exact (Kd.R_reads' HO194.out).2.2 | (with_reducible refine Kd.C_alloc ?_ _) | (with_reducible refine Kd.C_drewN ?_ _) | (with_reducible refine Kd.C_drew ?_))); (case side4 => exact (Kd.R_reads' HO194.out).2.1); rintro e w84 ⟨v196, rfl, ho0, hb⟩; refine ⟨_, rfl, ?_⟩; have n0_ := Aside0.mk (Kd.R_elder' (by (with_reducible repeat (first | apply Kd.R_alloc | apply Kd.R_drewN | apply Kd.R_drew)); exact HO_161000.out) (Kd.R_base ho0) hb); have n1_ := Aside0.mk (Kd.R_elder' (by (with_reducible repeat (first | apply Kd.R_alloc | apply Kd.R_drewN | apply Kd.R_drew)); exact HO_172000.out) (Kd.R_base ho0) hb); have n2_ := Aside0.mk (Kd.R_elder' (by (with_reducible repeat (first | apply Kd.R_alloc | apply Kd.R_drewN | apply Kd.R_drew)); exact HO191.out) (Kd.R_base ho0) hb); have n3_ := Aside0.mk (Kd.R_elder' (by (with_reducible repeat (first | apply Kd.R_alloc | apply Kd.R_drewN | apply Kd.R_drew)); exact HO194.out) (Kd.R_base ho0) hb); have n4_ := Aside0.mk (Kd.R_lower (Kd.R_new' (Kd.R_new' (Kd.R_new' (Kd.R_new' ho0 (Kd.R_lt (by (with_reducible repeat (first | apply Kd.R_alloc | apply Kd.R_drewN | apply Kd.R_drew)); exact HO_161000.out))) (Kd.R_lt (by (with_reducible repeat (first | apply Kd.R_alloc | apply Kd.R_drewN | apply Kd.R_drew)); exact HO_172000.out))) (Kd.R_lt (by (with_reducible repeat (first | apply Kd.R_alloc | apply Kd.R_drewN | apply Kd.R_drew)); exact HO191.out))) (Kd.R_lt (by (with_reducible repeat (first | apply Kd.R_alloc | apply Kd.R_drewN | apply Kd.R_drew)); exact HO194.out))) (below_size (by repeat (first | (with_reducible first | exact HB.out | apply below_alloc | apply pw_below_drewN | apply below_drew1 | refine below_set ?_ GE160.out | refine below_set ?_ GE171.out) | exact HB.out)))); have n5_ := Aside0.mk (blk_below (g := gb160) (o := .cells #[.slice Ao18 t156.length co18] 33 (0, 0)) (by (with_reducible repeat (first | refine blk_drewN ?_ _ | refine blk_drew ?_ | refine blk_alloc ?_ _)); exact BK160.out) hb); have n6_ := Aside0.mk (blk_below (g := gb171) (o := .cells #[.slice Ao26 t167.length co26] 33 (0, 0)) (by (with_reducible repeat (first | refine blk_drewN ?_ _ | refine blk_drew ?_ | refine blk_alloc ?_ _)); exact BK171.out) hb); have n7_ := Aside0.mk (below_step (by repeat (first | (with_reducible first | exact HB.out | apply below_alloc | apply pw_below_drewN | apply below_drew1 | refine below_set ?_ GE160.out | refine below_set ?_ GE171.out) | exact HB.out)) hb); clear HO_161000; clear HO_172000; clear HO191; clear HO194; clear BK160; clear BK171; clear HB; have HO_161000 := n0_; have HO_172000 := n1_; have HO191 := n2_; have HO194 := n3_; have HO197 := n4_; have BK160 := n5_; have BK171 := n6_; have HB := n7_; clear n0_ n1_ n2_ n3_ n4_ n5_ n6_ n7_; (try clear hb); (try clear hb2); (try clear hk); (try clear hi); (try clear ho0)) | ((with_reducible refine gate_dst (N := 14) rfl ?_); refine box_event ?hg (N := 14) ?hd (cs := #[.slice none 0 0]) (t := 33) ?hr ?_; (case hd => rfl); (case hg => rfl); (case hr => first | (go_simp; done) | (go_simp; rfl)); intro gb199 hg w85 hbox hb; have n0_ := Aside0.mk (Kd.R_below (by (with_reducible repeat (first | apply Kd.R_alloc | apply Kd.R_drewN | apply Kd.R_drew)); exact HO_161000.out) hb); have n1_ := Aside0.mk (Kd.R_below (by (with_reducible repeat (first | apply Kd.R_alloc | apply Kd.R_drewN | apply Kd.R_drew)); exact HO_172000.out) hb); have n2_ := Aside0.mk (Kd.R_below (by (with_reducible repeat (first | apply Kd.R_alloc | apply Kd.R_drewN | apply Kd.R_drew)); exact HO191.out) hb); have n3_ := Aside0.mk (Kd.R_below (by (with_reducible repeat (first | apply Kd.R_alloc | apply Kd.R_drewN | apply Kd.R_drew)); exact HO194.out) hb); have n4_ := Aside0.mk (Kd.R_below (by (with_reducible repeat (first | apply Kd.R_alloc | apply Kd.R_drewN | apply Kd.R_drew)); exact HO197.out) hb); have n5_ := Aside0.mk (blk_below (g := gb160) (o := .cells #[.slice Ao18 t156.length co18] 33 (0, 0)) (by (with_reducible repeat (first | refine blk_drewN ?_ _ | refine blk_drew ?_ | refine blk_alloc ?_ _)); exact BK160.out) hb); have n6_ := Aside0.mk (blk_below (g := gb171) (o := .cells #[.slice Ao26 t167.length co26] 33 (0, 0)) (by (with_reducible repeat (first | refine blk_drewN ?_ _ | refine blk_drew ?_ | refine blk_alloc ?_ _)); exact BK171.out) hb); have n7_ := Aside0.mk (below_step (by repeat (first | (with_reducible first | exact HB.out | apply below_alloc | apply pw_below_drewN | apply below_drew1 | refine below_set ?_ GE160.out | refine below_set ?_ GE171.out) | exact HB.out)) hb); have n8_ := Aside0.mk (hbox); have n9_ := Aside0.mk ((by rw [hg]; exact (below_size (by repeat (first | (with_reducible first | exact HB.out | apply below_alloc | apply pw_below_drewN | apply below_drew1 | refine below_set ?_ GE160.out | refine below_set ?_ GE171.out) | exact HB.out))) : w.heap.size ≤ gb199)); have n10_ := Aside0.mk ((by rw [hg]; exact (below_size (by repeat (first | (with_reducible first | exact HB.out | apply below_alloc | apply pw_below_drewN | apply below_drew1 | refine below_set ?_ GE160.out | refine below_set ?_ GE171.out) | exact HB.out))) : w.heap.size ≤ gb199)); have n11_ := Aside0.mk ((by rw [hg]; exact Nat.ne_of_lt (blk_lt (g := gb160) (o := .cells #[.slice Ao18 t156.length co18] 33 (0, 0)) (by (with_reducible repeat (first | refine blk_drewN ?_ _ | refine blk_drew ?_ | refine blk_alloc ?_ _)); exact BK160.out)) : gb160 ≠ gb199)); have n12_ := Aside0.mk ((by rw [hg]; exact Nat.ne_of_gt (blk_lt (g := gb160) (o := .cells #[.slice Ao18 t156.length co18] 33 (0, 0)) (by (with_reducible repeat (first | refine blk_drewN ?_ _ | refine blk_drew ?_ | refine blk_alloc ?_ _)); exact BK160.out)) : gb199 ≠ gb160)); have n13_ := Aside0.mk ((by rw [hg]; exact Nat.ne_of_lt (blk_lt (g := gb171) (o := .cells #[.slice Ao26 t167.length co26] 33 (0, 0)) (by (with_reducible repeat (first | refine blk_drewN ?_ _ | refine blk_drew ?_ | refine blk_alloc ?_ _)); exact BK171.out)) : gb171 ≠ gb199)); have n14_ := Aside0.mk ((by rw [hg]; exact Nat.ne_of_gt (blk_lt (g := gb171) (o := .cells #[.slice Ao26 t167.length co26] 33 (0, 0)) (by (with_reducible repeat (first | refine blk_drewN ?_ _ | refine blk_drew ?_ | refine blk_alloc ?_ _)); exact BK171.out)) : gb199 ≠ gb171)); clear HO_161000; clear HO_172000; clear HO191; clear HO194; clear HO197; clear BK160; clear BK171; clear HB; have HO_161000 := n0_; have HO_172000 := n1_; have HO191 := n2_; have HO194 := n3_; have HO197 := n4_; have BK160 := n5_; have BK171 := n6_; have HB := n7_; have BK199 := n8_; have GW199 := n9_; have GE199 := n10_; have NB160_199 := n11_; have NB199_160 := n12_; have NB171_199 := n13_; have NB199_171 := n14_; clear n0_ n1_ n2_ n3_ n4_ n5_ n6_ n7_ n8_ n9_ n10_ n11_ n12_ n13_ n14_; clear hb hbox hg; obtain ⟨Ao86, co86, eo86⟩ := Kd.R_slice HO197.out; subst eo86; have hnb87 := NB199_160.out; have hnc87 := NB160_199.out; have hnb88 := NB199_171.out; have hnc88 := NB171_199.out; have hcz89_0 : w85.cell? ⟨gb199, 0, none⟩ = some (.slice none 0 0) := (blk_cell BK199.out 0).trans rfl; have hfz89_0 := blk_frozen BK199.out 0))
                          (try simp only [Act.put, List.setIfInBounds_toArray, List.set_cons_zero, List.set_cons_succ])
                          go_cut [105] (fun v105 wc => ∃ (kq : Nat) (x105_73 : Bool), v105 = .bool x105_73 ∧ Aside0 (laws_FnExactRowOf.j2 kq t186 x105_73 t187 = some r) ∧ Aside0 (kq ≤ kj47) ∧ Aside0 (Kd.R (Kd.int .i64) 3 wc w.heap.size (fun k_ => some k_ ≠ ((.slice Ao26 t167.length co26) : Value).ownBlock ∧ some k_ ≠ ((.slice Ao86 t195.length co86) : Value).ownBlock) (.slice Ao18 t156.length co18) t156) ∧ Aside0 (Kd.R (Kd.int .i64) 3 wc w.heap.size (fun k_ => some k_ ≠ ((.slice Ao18 t156.length co18) : Value).ownBlock ∧ some k_ ≠ ((.slice Ao86 t195.length co86) : Value).ownBlock) (.slice Ao26 t167.length co26) t187) ∧ Aside0 (Kd.R (Kd.int .i64) 3 wc w.heap.size (fun k_ => some k_ ≠ ((.slice Ao18 t156.length co18) : Value).ownBlock ∧ some k_ ≠ ((.slice Ao26 t167.length co26) : Value).ownBlock) (.slice Ao86 t195.length co86) t195) ∧ Aside0 (wc.heap[gb160]? = some (.cells #[(.slice Ao18 t156.length co18)] 33 (0, 0))) ∧ Aside0 (wc.heap[gb171]? = some (.cells #[(.slice Ao26 t167.length co26)] 33 (0, 0))) ∧ Aside0 (wc.heap[gb199]? = some (.cells #[(.slice Ao86 t195.length co86)] 33 (0, 0))) ∧ Aside0 (Below w.heap.size w wc))
                          case first =>
                            have H := HC74.out
                            clear HC74
                            replace H := Option.bind_eq_some_iff.mp H
                            obtain ⟨t200, A900, H⟩ := H
                            replace H : (if t200 = true then (laws_FnExactRowOf.j2 kj47 t186 (t198 != t159) t187) else (laws_FnExactRowOf.j2 kj47 t186 true t187)) = some r := H
                            have A90 := Aside0.mk A900
                            clear A900
                            by_cases c91 : t200 = true
                            · subst c91
                              have H1 : (laws_FnExactRowOf.j2 kj47 t186 (t198 != t159) t187) = some r := by rw [if_pos rfl] at H; exact H
                              clear H
                              have H := H1
                              clear H1
                              have H' := Aside0.mk H
                              clear H
                              have hnb92 := NB199_160.out
                              have hnc92 := NB160_199.out
                              have hnb93 := NB199_171.out
                              have hnc93 := NB171_199.out
                              have hcz94_0 : w85.cell? ⟨gb199, 0, none⟩ = some (.slice none 0 0) := (blk_cell BK199.out 0).trans rfl
                              have hfz94_0 := blk_frozen BK199.out 0
                              have hnb95 := NB160_171.out
                              have hnc95 := NB171_160.out
                              have hcz96_0 : w85.cell? ⟨gb160, 0, none⟩ = some (.slice Ao18 t156.length co18) := (blk_cell BK160.out 0).trans rfl
                              have hfz96_0 := blk_frozen BK160.out 0
                              go_wp2_with (first | ((with_reducible refine gate_callee (f := 26) rfl ?_); refine goesL_ (some 99) rfl rfl Try.func26 (by kernel_rfl) rfl #[.agg #[.slice Ao86 t195.length co86], .agg #[.slice Ao18 t156.length co18]] rfl (by (try simp only [List.map_toArray, List.map_cons, List.map_nil]); first | done | rfl | (simp only [List.length_drop, List.length_take]; rfl)) ?_; (with_reducible refine (laws_eqRow.calls kj47 _ _ t195 _ _ t156 true _ ?side1 ?side2 ?side3 ?side4 A90.out).mono ?_); (case side1 => refine (Kd.R_reads' (e := 3) (base := w.heap.size) (ok := fun k_ => ((((True ∧ some k_ ≠ (.slice Ao18 t156.length co18 : Value).ownBlock) ∧ some k_ ≠ (.slice Ao26 t167.length co26 : Value).ownBlock) ∧ some k_ ≠ (.slice Ao82 t189.length co82 : Value).ownBlock) ∧ some k_ ≠ (.slice Ao83 t192.length co83 : Value).ownBlock)) (n := t195.length) (c := co86) ?_).2.2; exact (by (with_reducible repeat (first | apply Kd.R_alloc | apply Kd.R_drewN | apply Kd.R_drew)); exact (Kd.R_mono (Kd.R_far (p := ⟨gb199, 0, none⟩) (Kd.R_types HO197.out BK199.out (by decide)) (fun _ hk => hk.2) (.slice Ao86 t195.length co86)) (fun _ h_ => h_.1)))); (case side2 => exact (Kd.R_reads' HO197.out).2.1); (case side3 => refine (Kd.R_reads' (e := 3) (base := w.heap.size) (ok := fun k_ => (((some k_ ≠ (.slice Ao26 t167.length co26 : Value).ownBlock ∧ some k_ ≠ (.slice Ao82 t189.length co82 : Value).ownBlock) ∧ some k_ ≠ (.slice Ao83 t192.length co83 : Value).ownBlock) ∧ some k_ ≠ (.slice Ao86 t195.length co86 : Value).ownBlock)) (n := t156.length) (c := co18) ?_).2.2; exact (by (with_reducible repeat (first | apply Kd.R_alloc | apply Kd.R_drewN | apply Kd.R_drew)); exact (Kd.R_mono (Kd.R_far (p := ⟨gb199, 0, none⟩) (Kd.R_types HO_161000.out BK199.out (by decide)) (fun _ hk => hk.2) (.slice Ao86 t195.length co86)) (fun _ h_ => h_.1)))); (case side4 => exact (Kd.R_reads' HO_161000.out).2.1); rintro e w97 ⟨rfl, hb⟩; refine ⟨_, rfl, ?_⟩; have n0_ := Aside0.mk (Kd.R_below (by (with_reducible repeat (first | apply Kd.R_alloc | apply Kd.R_drewN | apply Kd.R_drew)); exact (Kd.R_mono (Kd.R_far (p := ⟨gb199, 0, none⟩) (Kd.R_types HO_161000.out BK199.out (by decide)) (fun _ hk => hk.2) (.slice Ao86 t195.length co86)) (fun _ h_ => h_.1))) hb); have n1_ := Aside0.mk (Kd.R_below (by (with_reducible repeat (first | apply Kd.R_alloc | apply Kd.R_drewN | apply Kd.R_drew)); exact (Kd.R_mono (Kd.R_far (p := ⟨gb199, 0, none⟩) (Kd.R_types HO_172000.out BK199.out (by decide)) (fun _ hk => hk.2) (.slice Ao86 t195.length co86)) (fun _ h_ => h_.1))) hb); have n2_ := Aside0.mk (Kd.R_below (by (with_reducible repeat (first | apply Kd.R_alloc | apply Kd.R_drewN | apply Kd.R_drew)); exact (Kd.R_mono (Kd.R_far (p := ⟨gb199, 0, none⟩) (Kd.R_types HO191.out BK199.out (by decide)) (fun _ hk => hk.2) (.slice Ao86 t195.length co86)) (fun _ h_ => h_.1))) hb); have n3_ := Aside0.mk (Kd.R_below (by (with_reducible repeat (first | apply Kd.R_alloc | apply Kd.R_drewN | apply Kd.R_drew)); exact (Kd.R_mono (Kd.R_far (p := ⟨gb199, 0, none⟩) (Kd.R_types HO194.out BK199.out (by decide)) (fun _ hk => hk.2) (.slice Ao86 t195.length co86)) (fun _ h_ => h_.1))) hb); have n4_ := Aside0.mk (Kd.R_below (by (with_reducible repeat (first | apply Kd.R_alloc | apply Kd.R_drewN | apply Kd.R_drew)); exact (Kd.R_mono (Kd.R_far (p := ⟨gb199, 0, none⟩) (Kd.R_types HO197.out BK199.out (by decide)) (fun _ hk => hk.2) (.slice Ao86 t195.length co86)) (fun _ h_ => h_.1))) hb); have n5_ := Aside0.mk (blk_below (g := gb160) (o := .cells #[.slice Ao18 t156.length co18] 33 (0, 0)) (by (with_reducible repeat (first | refine blk_drewN ?_ _ | refine blk_drew ?_ | refine blk_alloc ?_ _)); refine blk_far ?_ NB160_199.out _; (with_reducible repeat (first | refine blk_drewN ?_ _ | refine blk_drew ?_ | refine blk_alloc ?_ _)); exact BK160.out) hb); have n6_ := Aside0.mk (blk_below (g := gb171) (o := .cells #[.slice Ao26 t167.length co26] 33 (0, 0)) (by (with_reducible repeat (first | refine blk_drewN ?_ _ | refine blk_drew ?_ | refine blk_alloc ?_ _)); refine blk_far ?_ NB171_199.out _; (with_reducible repeat (first | refine blk_drewN ?_ _ | refine blk_drew ?_ | refine blk_alloc ?_ _)); exact BK171.out) hb); have n7_ := Aside0.mk (blk_below (g := gb199) (o := .cells #[.slice Ao86 t195.length co86] 33 (0, 0)) (by (with_reducible repeat (first | refine blk_drewN ?_ _ | refine blk_drew ?_ | refine blk_alloc ?_ _)); refine blk_put (cs := #[.slice none 0 0]) ?_ 0 _ rfl; (with_reducible repeat (first | refine blk_drewN ?_ _ | refine blk_drew ?_ | refine blk_alloc ?_ _)); exact BK199.out) hb); have n8_ := Aside0.mk (below_step (by repeat (first | (with_reducible first | exact HB.out | apply below_alloc | apply pw_below_drewN | apply below_drew1 | refine below_set ?_ GE160.out | refine below_set ?_ GE171.out | refine below_set ?_ GE199.out) | exact HB.out)) hb); clear HO_161000; clear HO_172000; clear HO191; clear HO194; clear HO197; clear BK160; clear BK171; clear BK199; clear HB; have HO_161000 := n0_; have HO_172000 := n1_; have HO191 := n2_; have HO194 := n3_; have HO197 := n4_; have BK160 := n5_; have BK171 := n6_; have BK199 := n7_; have HB := n8_; clear n0_ n1_ n2_ n3_ n4_ n5_ n6_ n7_ n8_; (try clear hb); (try clear hb2); (try clear hk); (try clear hi)))
                              go_meet
                              case rel => exact ⟨_, ((t198 != t159)), (by first | rfl | (simp; done) | (simp [*]; done)), H', ⟨by have := HJ10.out; have := HJ47.out; first | omega | exact Nat.le_refl _⟩, ⟨by (with_reducible repeat (first | apply Kd.R_alloc | apply Kd.R_drewN | apply Kd.R_drew)); exact Kd.R_mono HO_161000.out (fun _ hk => ⟨hk.1.1.1, hk.2⟩)⟩, ⟨by (with_reducible repeat (first | apply Kd.R_alloc | apply Kd.R_drewN | apply Kd.R_drew)); exact Kd.R_mono HO_172000.out (fun _ hk => ⟨hk.1.1.1, hk.2⟩)⟩, ⟨by (with_reducible repeat (first | apply Kd.R_alloc | apply Kd.R_drewN | apply Kd.R_drew)); exact Kd.R_mono HO197.out (fun _ hk => ⟨hk.1.1.1.2, hk.1.1.2⟩)⟩, ⟨by (with_reducible repeat (first | refine blk_drewN ?_ _ | refine blk_drew ?_ | refine blk_alloc ?_ _)); exact BK160.out⟩, ⟨by (with_reducible repeat (first | refine blk_drewN ?_ _ | refine blk_drew ?_ | refine blk_alloc ?_ _)); exact BK171.out⟩, ⟨by (with_reducible repeat (first | refine blk_drewN ?_ _ | refine blk_drew ?_ | refine blk_alloc ?_ _)); exact BK199.out⟩, ⟨by repeat (first | (with_reducible first | exact HB.out | apply below_alloc | apply pw_below_drewN | apply below_drew1 | refine below_set ?_ GE160.out | refine below_set ?_ GE171.out | refine below_set ?_ GE199.out) | exact HB.out)⟩⟩
                            · replace c91 := Bool.eq_false_iff.mpr c91
                              subst c91
                              have H1 : (laws_FnExactRowOf.j2 kj47 t186 true t187) = some r := by rw [if_neg (show ¬ (false = true) by decide)] at H; exact H
                              clear H
                              have H := H1
                              clear H1
                              have H' := Aside0.mk H
                              clear H
                              have hnb98 := NB199_160.out
                              have hnc98 := NB160_199.out
                              have hnb99 := NB199_171.out
                              have hnc99 := NB171_199.out
                              have hcz100_0 : w85.cell? ⟨gb199, 0, none⟩ = some (.slice none 0 0) := (blk_cell BK199.out 0).trans rfl
                              have hfz100_0 := blk_frozen BK199.out 0
                              have hnb101 := NB160_171.out
                              have hnc101 := NB171_160.out
                              have hcz102_0 : w85.cell? ⟨gb160, 0, none⟩ = some (.slice Ao18 t156.length co18) := (blk_cell BK160.out 0).trans rfl
                              have hfz102_0 := blk_frozen BK160.out 0
                              go_wp2_with (first | ((with_reducible refine gate_callee (f := 26) rfl ?_); refine goesL_ (some 99) rfl rfl Try.func26 (by kernel_rfl) rfl #[.agg #[.slice Ao86 t195.length co86], .agg #[.slice Ao18 t156.length co18]] rfl (by (try simp only [List.map_toArray, List.map_cons, List.map_nil]); first | done | rfl | (simp only [List.length_drop, List.length_take]; rfl)) ?_; (with_reducible refine (laws_eqRow.calls kj47 _ _ t195 _ _ t156 false _ ?side1 ?side2 ?side3 ?side4 A90.out).mono ?_); (case side1 => refine (Kd.R_reads' (e := 3) (base := w.heap.size) (ok := fun k_ => ((((True ∧ some k_ ≠ (.slice Ao18 t156.length co18 : Value).ownBlock) ∧ some k_ ≠ (.slice Ao26 t167.length co26 : Value).ownBlock) ∧ some k_ ≠ (.slice Ao82 t189.length co82 : Value).ownBlock) ∧ some k_ ≠ (.slice Ao83 t192.length co83 : Value).ownBlock)) (n := t195.length) (c := co86) ?_).2.2; exact (by (with_reducible repeat (first | apply Kd.R_alloc | apply Kd.R_drewN | apply Kd.R_drew)); exact (Kd.R_mono (Kd.R_far (p := ⟨gb199, 0, none⟩) (Kd.R_types HO197.out BK199.out (by decide)) (fun _ hk => hk.2) (.slice Ao86 t195.length co86)) (fun _ h_ => h_.1)))); (case side2 => exact (Kd.R_reads' HO197.out).2.1); (case side3 => refine (Kd.R_reads' (e := 3) (base := w.heap.size) (ok := fun k_ => (((some k_ ≠ (.slice Ao26 t167.length co26 : Value).ownBlock ∧ some k_ ≠ (.slice Ao82 t189.length co82 : Value).ownBlock) ∧ some k_ ≠ (.slice Ao83 t192.length co83 : Value).ownBlock) ∧ some k_ ≠ (.slice Ao86 t195.length co86 : Value).ownBlock)) (n := t156.length) (c := co18) ?_).2.2; exact (by (with_reducible repeat (first | apply Kd.R_alloc | apply Kd.R_drewN | apply Kd.R_drew)); exact (Kd.R_mono (Kd.R_far (p := ⟨gb199, 0, none⟩) (Kd.R_types HO_161000.out BK199.out (by decide)) (fun _ hk => hk.2) (.slice Ao86 t195.length co86)) (fun _ h_ => h_.1)))); (case side4 => exact (Kd.R_reads' HO_161000.out).2.1); rintro e w103 ⟨rfl, hb⟩; refine ⟨_, rfl, ?_⟩; have n0_ := Aside0.mk (Kd.R_below (by (with_reducible repeat (first | apply Kd.R_alloc | apply Kd.R_drewN | apply Kd.R_drew)); exact (Kd.R_mono (Kd.R_far (p := ⟨gb199, 0, none⟩) (Kd.R_types HO_161000.out BK199.out (by decide)) (fun _ hk => hk.2) (.slice Ao86 t195.length co86)) (fun _ h_ => h_.1))) hb); have n1_ := Aside0.mk (Kd.R_below (by (with_reducible repeat (first | apply Kd.R_alloc | apply Kd.R_drewN | apply Kd.R_drew)); exact (Kd.R_mono (Kd.R_far (p := ⟨gb199, 0, none⟩) (Kd.R_types HO_172000.out BK199.out (by decide)) (fun _ hk => hk.2) (.slice Ao86 t195.length co86)) (fun _ h_ => h_.1))) hb); have n2_ := Aside0.mk (Kd.R_below (by (with_reducible repeat (first | apply Kd.R_alloc | apply Kd.R_drewN | apply Kd.R_drew)); exact (Kd.R_mono (Kd.R_far (p := ⟨gb199, 0, none⟩) (Kd.R_types HO191.out BK199.out (by decide)) (fun _ hk => hk.2) (.slice Ao86 t195.length co86)) (fun _ h_ => h_.1))) hb); have n3_ := Aside0.mk (Kd.R_below (by (with_reducible repeat (first | apply Kd.R_alloc | apply Kd.R_drewN | apply Kd.R_drew)); exact (Kd.R_mono (Kd.R_far (p := ⟨gb199, 0, none⟩) (Kd.R_types HO194.out BK199.out (by decide)) (fun _ hk => hk.2) (.slice Ao86 t195.length co86)) (fun _ h_ => h_.1))) hb); have n4_ := Aside0.mk (Kd.R_below (by (with_reducible repeat (first | apply Kd.R_alloc | apply Kd.R_drewN | apply Kd.R_drew)); exact (Kd.R_mono (Kd.R_far (p := ⟨gb199, 0, none⟩) (Kd.R_types HO197.out BK199.out (by decide)) (fun _ hk => hk.2) (.slice Ao86 t195.length co86)) (fun _ h_ => h_.1))) hb); have n5_ := Aside0.mk (blk_below (g := gb160) (o := .cells #[.slice Ao18 t156.length co18] 33 (0, 0)) (by (with_reducible repeat (first | refine blk_drewN ?_ _ | refine blk_drew ?_ | refine blk_alloc ?_ _)); refine blk_far ?_ NB160_199.out _; (with_reducible repeat (first | refine blk_drewN ?_ _ | refine blk_drew ?_ | refine blk_alloc ?_ _)); exact BK160.out) hb); have n6_ := Aside0.mk (blk_below (g := gb171) (o := .cells #[.slice Ao26 t167.length co26] 33 (0, 0)) (by (with_reducible repeat (first | refine blk_drewN ?_ _ | refine blk_drew ?_ | refine blk_alloc ?_ _)); refine blk_far ?_ NB171_199.out _; (with_reducible repeat (first | refine blk_drewN ?_ _ | refine blk_drew ?_ | refine blk_alloc ?_ _)); exact BK171.out) hb); have n7_ := Aside0.mk (blk_below (g := gb199) (o := .cells #[.slice Ao86 t195.length co86] 33 (0, 0)) (by (with_reducible repeat (first | refine blk_drewN ?_ _ | refine blk_drew ?_ | refine blk_alloc ?_ _)); refine blk_put (cs := #[.slice none 0 0]) ?_ 0 _ rfl; (with_reducible repeat (first | refine blk_drewN ?_ _ | refine blk_drew ?_ | refine blk_alloc ?_ _)); exact BK199.out) hb); have n8_ := Aside0.mk (below_step (by repeat (first | (with_reducible first | exact HB.out | apply below_alloc | apply pw_below_drewN | apply below_drew1 | refine below_set ?_ GE160.out | refine below_set ?_ GE171.out | refine below_set ?_ GE199.out) | exact HB.out)) hb); clear HO_161000; clear HO_172000; clear HO191; clear HO194; clear HO197; clear BK160; clear BK171; clear BK199; clear HB; have HO_161000 := n0_; have HO_172000 := n1_; have HO191 := n2_; have HO194 := n3_; have HO197 := n4_; have BK160 := n5_; have BK171 := n6_; have BK199 := n7_; have HB := n8_; clear n0_ n1_ n2_ n3_ n4_ n5_ n6_ n7_ n8_; (try clear hb); (try clear hb2); (try clear hk); (try clear hi)))
                              go_meet
                              case rel => exact ⟨_, (true), (by first | rfl | (simp; done) | (simp [*]; done)), H', ⟨by have := HJ10.out; have := HJ47.out; first | omega | exact Nat.le_refl _⟩, ⟨by (with_reducible repeat (first | apply Kd.R_alloc | apply Kd.R_drewN | apply Kd.R_drew)); exact Kd.R_mono HO_161000.out (fun _ hk => ⟨hk.1.1.1, hk.2⟩)⟩, ⟨by (with_reducible repeat (first | apply Kd.R_alloc | apply Kd.R_drewN | apply Kd.R_drew)); exact Kd.R_mono HO_172000.out (fun _ hk => ⟨hk.1.1.1, hk.2⟩)⟩, ⟨by (with_reducible repeat (first | apply Kd.R_alloc | apply Kd.R_drewN | apply Kd.R_drew)); exact Kd.R_mono HO197.out (fun _ hk => ⟨hk.1.1.1.2, hk.1.1.2⟩)⟩, ⟨by (with_reducible repeat (first | refine blk_drewN ?_ _ | refine blk_drew ?_ | refine blk_alloc ?_ _)); exact BK160.out⟩, ⟨by (with_reducible repeat (first | refine blk_drewN ?_ _ | refine blk_drew ?_ | refine blk_alloc ?_ _)); exact BK171.out⟩, ⟨by (with_reducible repeat (first | refine blk_drewN ?_ _ | refine blk_drew ?_ | refine blk_alloc ?_ _)); exact BK199.out⟩, ⟨by repeat (first | (with_reducible first | exact HB.out | apply below_alloc | apply pw_below_drewN | apply below_drew1 | refine below_set ?_ GE160.out | refine below_set ?_ GE171.out | refine below_set ?_ GE199.out) | exact HB.out)⟩⟩
                          case rest =>
                            clear HC74
                            try clear c1
                            try clear c2
                            try clear p2
                            try clear c3
                            try clear c3b0
                            try clear c3b1
                            try clear c4
                            try clear c4b0
                            try clear c4b1
                            try clear c5
                            try clear c6
                            try clear c7
                            try clear c8
                            try clear c9
                            try clear c10
                            try clear c26
                            try clear c27
                            try clear c30
                            try clear c31
                            try clear c35
                            try clear c39
                            try clear c42
                            try clear c45
                            try clear c55
                            try clear c55b0
                            try clear c57
                            try clear c58
                            try clear c62
                            try clear c66
                            try clear c69
                            try clear c69b0
                            try clear c70
                            try clear c70b0
                            try clear c70b1
                            try clear c74
                            try clear c75
                            try clear c76
                            try clear c77
                            try clear c78
                            try clear c79
                            try clear c80
                            try clear c87
                            try clear c88
                            try clear c91
                            try clear c92
                            try clear c93
                            try clear c95
                            try clear c98
                            try clear c99
                            try clear c101
                            try clear hcz100_0
                            try clear hcz102_0
                            try clear hcz19_0
                            try clear hcz28_0
                            try clear hcz32_0
                            try clear hcz33_0
                            try clear hcz36_0
                            try clear hcz37_0
                            try clear hcz59_0
                            try clear hcz60_0
                            try clear hcz63_0
                            try clear hcz64_0
                            try clear hcz76_0
                            try clear hcz78_0
                            try clear hcz89_0
                            try clear hcz94_0
                            try clear hcz96_0
                            try clear hfz100_0
                            try clear hfz102_0
                            try clear hfz19_0
                            try clear hfz28_0
                            try clear hfz32_0
                            try clear hfz33_0
                            try clear hfz36_0
                            try clear hfz37_0
                            try clear hfz59_0
                            try clear hfz60_0
                            try clear hfz63_0
                            try clear hfz64_0
                            try clear hfz76_0
                            try clear hfz78_0
                            try clear hfz89_0
                            try clear hfz94_0
                            try clear hfz96_0
                            try clear p2
                            obtain ⟨kq, x105_73, rfl, HA, HJ73, HO_161000, HO_172000, HO_200000, BK160, BK171, BK199, HB⟩ := hcut
                            have hl172000_73 := (Kd.R_reads' HO_172000.out).1
                            rw [hl172000_73] at HO_172000
                            (try simp only [hl172000_73])
                            (try simp only [hl172000_73] at BK160)
                            (try simp only [hl172000_73] at BK171)
                            (try simp only [hl172000_73] at BK199)
                            (try simp only [hl172000_73] at HO_161000)
                            (try simp only [hl172000_73] at HO_200000)
                            cases kq with
                            | zero => exact absurd HA.out (by simp [laws_FnExactRowOf.j2])
                            | succ kj73 =>
                              have H := HA.out
                              clear HA
                              simp only [laws_FnExactRowOf.j2] at H
                              by_cases c104 : x105_73 = true
                              · subst c104
                                have H1 : (none) = some r := by rw [if_pos rfl] at H; exact H
                                clear H
                                have H := H1
                                clear H1
                                exact absurd H (by simp)
                              · replace c104 := Bool.eq_false_iff.mpr c104
                                subst c104
                                have H1 : ((laws_heldRow.f kj73 t187 1).bind fun t201 => (if t201 < 0 then (none) else (if t201 = t186 then (some true) else (none)))) = some r := by rw [if_neg (show ¬ (false = true) by decide)] at H; exact H
                                clear H
                                have H := H1
                                clear H1
                                replace H := Option.bind_eq_some_iff.mp H
                                obtain ⟨t201, A1050, H⟩ := H
                                replace H : (if t201 < 0 then (none) else (if t201 = t186 then (some true) else (none))) = some r := H
                                have A105 := Aside0.mk A1050
                                clear A1050
                                by_cases c106 : t201 < 0
                                · rw [if_pos c106] at H
                                  exact absurd H (by simp)
                                · rw [if_neg c106] at H
                                  have c106b0 : decide (t201 < 0) = false := decide_eq_false c106
                                  clear c106
                                  by_cases c107 : t201 = t186
                                  · rw [if_pos c107] at H
                                    have c107b0 : (t201 == t186) = true := beq_iff_eq.mpr c107
                                    have c107b1 : (t201 != t186) = false := bne_eq_false_iff_eq.mpr c107
                                    clear c107
                                    obtain rfl := Option.some.inj H
                                    have hnb108 := NB171_160.out
                                    have hnc108 := NB160_171.out
                                    have hnb109 := NB171_199.out
                                    have hnc109 := NB199_171.out
                                    have hcz110_0 : wc.cell? ⟨gb171, 0, none⟩ = some (.slice Ao26 t187.length co26) := (blk_cell BK171.out 0).trans rfl
                                    have hfz110_0 := blk_frozen BK171.out 0
                                    go_wp2_with (first | ((with_reducible refine gate_callee (f := 80) rfl ?_); refine goesL_ (some 108) rfl rfl Try.func80 (by kernel_rfl) rfl #[.agg #[.slice Ao26 t187.length co26], .int .i64 1] rfl (by (try simp only [List.map_toArray, List.map_cons, List.map_nil]); first | done | rfl | (simp only [List.length_drop, List.length_take]; rfl)) ?_; (with_reducible refine (laws_heldRow.calls kj73 _ _ t187 1 t201 _ ?side1 ?side2 A105.out).mono ?_); (case side1 => repeat (first | exact (Kd.R_reads' HO_172000.out).2.2 | (with_reducible refine Kd.C_alloc ?_ _) | (with_reducible refine Kd.C_drewN ?_ _) | (with_reducible refine Kd.C_drew ?_))); (case side2 => exact (Kd.R_reads' HO_172000.out).2.1); rintro e w111 ⟨rfl, hb⟩; refine ⟨_, rfl, ?_⟩; have n0_ := Aside0.mk (Kd.R_below (by (with_reducible repeat (first | apply Kd.R_alloc | apply Kd.R_drewN | apply Kd.R_drew)); exact HO_161000.out) hb); have n1_ := Aside0.mk (Kd.R_below (by (with_reducible repeat (first | apply Kd.R_alloc | apply Kd.R_drewN | apply Kd.R_drew)); exact HO_172000.out) hb); have n2_ := Aside0.mk (Kd.R_below (by (with_reducible repeat (first | apply Kd.R_alloc | apply Kd.R_drewN | apply Kd.R_drew)); exact HO_200000.out) hb); have n3_ := Aside0.mk (blk_below (g := gb160) (o := .cells #[.slice Ao18 t156.length co18] 33 (0, 0)) (by (with_reducible repeat (first | refine blk_drewN ?_ _ | refine blk_drew ?_ | refine blk_alloc ?_ _)); exact BK160.out) hb); have n4_ := Aside0.mk (blk_below (g := gb171) (o := .cells #[.slice Ao26 t187.length co26] 33 (0, 0)) (by (with_reducible repeat (first | refine blk_drewN ?_ _ | refine blk_drew ?_ | refine blk_alloc ?_ _)); exact BK171.out) hb); have n5_ := Aside0.mk (blk_below (g := gb199) (o := .cells #[.slice Ao86 t195.length co86] 33 (0, 0)) (by (with_reducible repeat (first | refine blk_drewN ?_ _ | refine blk_drew ?_ | refine blk_alloc ?_ _)); exact BK199.out) hb); have n6_ := Aside0.mk (below_step (by repeat (first | (with_reducible first | exact HB.out | apply below_alloc | apply pw_below_drewN | apply below_drew1 | refine below_set ?_ GE160.out | refine below_set ?_ GE171.out | refine below_set ?_ GE199.out) | exact HB.out)) hb); clear HO_161000; clear HO_172000; clear HO_200000; clear BK160; clear BK171; clear BK199; clear HB; have HO_161000 := n0_; have HO_172000 := n1_; have HO_200000 := n2_; have BK160 := n3_; have BK171 := n4_; have BK199 := n5_; have HB := n6_; clear n0_ n1_ n2_ n3_ n4_ n5_ n6_; (try clear hb); (try clear hb2); (try clear hk); (try clear hi)))
                                    go_ret
                                    exact ⟨by first | rfl | (simp [errW_none, errW_some] <;> rfl) | (simp [*, errW_none, errW_some] <;> rfl), by repeat (first | (with_reducible first | exact HB.out | apply below_alloc | apply pw_below_drewN | apply below_drew1 | refine below_set ?_ GE160.out | refine below_set ?_ GE171.out | refine below_set ?_ GE199.out) | exact HB.out)⟩
                                  · rw [if_neg c107] at H
                                    exact absurd H (by simp)
                        · rw [if_neg c70] at H
                          exact absurd H (by simp)
              · replace c45 := Bool.eq_false_iff.mpr c45
                subst c45
                have H1 : (none) = some r := by rw [if_neg (show ¬ (false = true) by decide)] at H; exact H
                clear H
                have H := H1
                clear H1
                exact absurd H (by simp)
            · replace c42 := Bool.eq_false_iff.mpr c42
              subst c42
              have H1 : (none) = some r := by rw [if_neg (show ¬ (false = true) by decide)] at H; exact H
              clear H
              have H := H1
              clear H1
              exact absurd H (by simp)


/-- THE ONE PURE STATEMENT of laws_FnExactRowOf -/
def laws_FnExactRowOf.Pure : Prop := ∀ (l0 : List Int) (l1 : List Int), (BdSlice 8 (BdInt .i64)) l0 → (BdSlice 8 (BdInt .i64)) l1 → ∃ k, laws_FnExactRowOf.f k l0 l1 = some true

end Go.Proofs.Ytdamagcfmhimfaa.PFnExactRowOf
