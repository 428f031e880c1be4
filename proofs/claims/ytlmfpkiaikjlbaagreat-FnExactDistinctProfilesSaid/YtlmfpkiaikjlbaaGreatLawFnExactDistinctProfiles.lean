/- For every input (all that is read within Go's own reach), the law FnExactDistinctProfiles returns true, and each argument reads afterwards as before. -/
import Derived.Test.YtlmfpkiaikjlbaaGreatRows
import Derived.Test.YtlmfpkiaikjlbaaGreatPFnExactDistinctProfilesx11
import Derived.Test.YtlmfpkiaikjlbaaGreatPureFnExactDistinctProfiles
import Derived.Test.YtlmfpkiaikjlbaaGreatUFnExactDistinctProfiles
import Derived.WalkKit
import Derived.ProofKit
import Derived.OpenShut
import Derived.ShutString
import Derived.ChangeOld
import Derived.Below
import Derived.Carry
import Derived.SizedLaws
namespace Go.Proofs.YtlmfpkiaikjlbaaGreat.fnExactDistinctProfiles
open Go.ChangeShapes Go.WideShapes Go.ChangeAt Go.RowKit Go.Proofs.YtlmfpkiaikjlbaaGreatB Go.Proofs.YtlmfpkiaikjlbaaGreat.PFnExactDistinctProfiles Go.Proofs.YtlmfpkiaikjlbaaGreatW.PrintWords Go.Proofs.YtlmfpkiaikjlbaaGreatW.PrintLast
open Go.ChangeMaps (open_string shut_string)
set_option linter.unusedVariables false
set_option linter.unusedSimpArgs false
theorem own : ownKnob Tryz.prog.godebug = none := by kernel_rfl
theorem laidOut : laidOutB Tryz.prog = true := by kernel_rfl
set_option maxRecDepth 100000 in
set_option maxHeartbeats 4000000 in
theorem lifted (os : Os) (started : os.Started) (H : Type) (enc : TypeId × Value → H) :
    ReturnsInHanded {} Tryz.checked os 4 .any (Rows.fnExactDistinctProfilesSpec.pre6 enc Tryz.prog Tryz.f4 Rows.fnExactDistinctProfilesRow.domain false) (Rows.fnExactDistinctProfilesSpec.post enc Tryz.prog Tryz.f4 false true false false) := by
  refine returnsInHanded_of_change_sized (C := Tryz.checked) own started (by kernel_rfl) Tryz.func4
    (ChangeSpec.witness6 (enc := enc) (C := Tryz.checked) false ⟨#[], #[.agg #[.string ByteArray.empty, .slice none 0 0, .slice none 0 0, .slice none 0 0]], []⟩ 8 (by kernel_rfl) (by kernel_rfl) (by kernel_rfl) (by kernel_rfl)) ?_
  intro W base args ds gs before hval0 hW hcnd hsz0 _
  have hsz : (DataW.weightsEach Tryz.prog (Tryz.f4.params.toList ++ Rows.fnExactDistinctProfilesSpec.plain.varTypes Tryz.prog) (ds ++ gs)).all (· ≤ reachBytes) = true := hsz0
  have hval : ∀ (j : Nat) t v, Tryz.f4.params[j]? = some t → args[j]? = some v → Value.okWide Tryz.prog W .any base t v := hval0
  have hW' := hW
  obtain ⟨p, q, hA0, hV, rfl, hfz, hnd⟩ := hW
  have hA : DataW.TrodAll enc Tryz.prog W 0 (fun _ => true) true Tryz.f4.params.toList args.toList ds p := hA0
  rw [Tryz.params4] at hA hval hsz
  obtain ⟨v0, vs0, d0, ds0, p0, q0, hargs, rfl, rfl, h0, r0⟩ := trodAll_cons hA
  obtain ⟨rfl, rfl, rfl⟩ := trodAll_nil r0
  obtain rfl : args = #[v0] := by cases args; simp_all
  obtain ⟨rfl, rfl⟩ := trodVars_none hV
  obtain ⟨cs0, rfl, _⟩ := okWide_struct Tryz.underlying37 (hval 0 37 v0 rfl rfl)
  have k0 := h0
  have lt0 : ∀ x ∈ p0, x.block < W.heap.size := by obtain ⟨m, hm⟩ := k0; exact DataW.trod_lt m _ _ _ hm
  obtain ⟨x0, hK0, b0⟩ := Opens.arg (j := 0) (show Opens Tryz.prog 37 k37 Bd37 from Opens.iso (Opens.struct Tryz.underlying37 rfl (by kernel_rfl) (OpensF.cons (by kernel_rfl) rfl (Opens.string Tryz.underlying9) (OpensF.cons (by kernel_rfl) rfl (Opens.slice Tryz.underlying22 (by kernel_rfl) (by kernel_rfl) (Opens.string Tryz.underlying9)) (OpensF.cons (by kernel_rfl) rfl (Opens.slice Tryz.underlying35 (by kernel_rfl) (by kernel_rfl) (show Opens Tryz.prog 96 k96 Bd96 from Opens.iso (Opens.struct Tryz.underlying96 rfl (by kernel_rfl) (OpensF.one (by kernel_rfl) (Opens.slice Tryz.underlying94 (by kernel_rfl) (by kernel_rfl) (show Opens Tryz.prog 134 k134 Bd134 from Opens.iso (Opens.struct Tryz.underlying134 rfl (by kernel_rfl) (OpensF.cons (by kernel_rfl) rfl (Opens.int Tryz.underlying5) (OpensF.one (by kernel_rfl) (Opens.int Tryz.underlying5)))) _ (fun a => ⟨a.1, a.2⟩) (fun _ => rfl))))) _ (fun a => ⟨a⟩) (fun _ => rfl))) (OpensF.one (by kernel_rfl) (Opens.slice Tryz.underlying25 (by kernel_rfl) (by kernel_rfl) (Opens.slice Tryz.underlying39 (by kernel_rfl) (by kernel_rfl) (Opens.int Tryz.underlying3)))))))) _ (fun a => ⟨a.1, a.2.1, a.2.2.1, a.2.2.2⟩) (fun _ => rfl)) hsz rfl rfl h0
  obtain ⟨A0_1, c0_1, A0_2, c0_2, A0_3, c0_3, e0, hl0_1, hC0_1, hl0_2, hC0_2, hl0_3, hC0_3⟩ := k37_open hK0
  obtain rfl : cs0 = #[.string x0.f0, .slice A0_1 x0.f1.length c0_1, .slice A0_2 x0.f2.length c0_2, .slice A0_3 x0.f3.length c0_3] := by
    apply Array.toList_inj.1
    simpa [Value.cells] using e0
  clear e0
  obtain ⟨k, hk⟩ := Pure.FnExactDistinctProfiles x0.f0 x0.f1 x0.f2 x0.f3 b0.1 b0.2.1 b0.2.2.1 b0.2.2.2
  refine (PFnExactDistinctProfiles.laws_FnExactDistinctProfiles.calls k x0.f0 _ _ x0.f1 _ _ x0.f2 _ _ x0.f3 true W hC0_1 hl0_1 hC0_2 hl0_2 hC0_3 hl0_3 hk).mono ?_
  rintro e W' ⟨rfl, bel0⟩
  have bel : Below W.heap.size W W' := bel0
  exact ⟨_, rfl, _, _, _, [], _, [], hW', trodAll_mk1 (shut_bool Tryz.underlying4 _), (trodAll_cons_mk (Below.trod laidOut (by kernel_rfl) (of_decide_eq_true (by kernel_rfl)) k0 bel lt0) trodAll_mk0), rfl, bel.frame _, fun h => by cases h⟩
theorem over : Rows.fnExactDistinctProfilesRow.holds Tryz.pinned (OpenSpec.ofChange Rows.fnExactDistinctProfilesSpec) :=
  OpenClaim.holds_of_wide 4 Tryz.f4 rfl rfl rfl rfl rfl rfl rfl ⟨rfl, rfl, rfl, rfl, rfl⟩ rfl rfl rfl rfl rfl (by kernel_rfl) Tryz.func4 (by kernel_rfl)
    (of_decide_eq_true (by kernel_rfl)) (by unfold Func.isWrapper; first | (rw [if_pos (by decide +kernel)]; kernel_rfl) | (rw [if_neg (by decide +kernel)]; exact ⟨rfl, rfl⟩))
    (fun os started H enc _ => lifted os started H enc)
theorem proved : Rows.FnExactDistinctProfilesSaid := over
#print axioms proved
end Go.Proofs.YtlmfpkiaikjlbaaGreat.fnExactDistinctProfiles
namespace Go.Proofs.YtlmfpkiaikjlbaaGreat
/-- The row, under a short name, for the claim. -/
theorem fnExactDistinctProfiles_holds : Rows.FnExactDistinctProfilesSaid := fnExactDistinctProfiles.proved
end Go.Proofs.YtlmfpkiaikjlbaaGreat
