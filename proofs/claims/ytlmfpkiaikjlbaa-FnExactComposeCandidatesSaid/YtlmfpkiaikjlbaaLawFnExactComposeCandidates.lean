/- For every input (all that is read within Go's own reach), the law FnExactComposeCandidates returns true, and each argument reads afterwards as before. -/
import Derived.Test.YtlmfpkiaikjlbaaRows
import Derived.Test.YtlmfpkiaikjlbaaPFnExactComposeCandidatesx5
import Derived.Test.YtlmfpkiaikjlbaaPureFnExactComposeCandidates
import Derived.Test.YtlmfpkiaikjlbaaUFnExactComposeCandidates
import Derived.WalkKit
import Derived.ProofKit
import Derived.OpenShut
import Derived.ShutString
import Derived.ChangeOld
import Derived.Below
import Derived.Carry
import Derived.SizedLaws
namespace Go.Proofs.Ytlmfpkiaikjlbaa.fnExactComposeCandidates
open Go.ChangeShapes Go.WideShapes Go.ChangeAt Go.RowKit Go.Proofs.YtlmfpkiaikjlbaaB Go.Proofs.Ytlmfpkiaikjlbaa.PFnExactComposeCandidates Go.Proofs.YtlmfpkiaikjlbaaW.PrintWords Go.Proofs.YtlmfpkiaikjlbaaW.PrintLast
open Go.ChangeMaps (open_string shut_string)
set_option linter.unusedVariables false
set_option linter.unusedSimpArgs false
theorem own : ownKnob Try.prog.godebug = none := by kernel_rfl
theorem laidOut : laidOutB Try.prog = true := by kernel_rfl
set_option maxRecDepth 100000 in
set_option maxHeartbeats 4000000 in
theorem lifted (os : Os) (started : os.Started) (H : Type) (enc : TypeId × Value → H) :
    ReturnsInHanded {} Try.checked os 4 .any (Rows.fnExactComposeCandidatesSpec.pre6 enc Try.prog Try.f4 Rows.fnExactComposeCandidatesRow.domain false) (Rows.fnExactComposeCandidatesSpec.post enc Try.prog Try.f4 false true false false) := by
  refine returnsInHanded_of_change_sized (C := Try.checked) own started (by kernel_rfl) Try.func4
    (ChangeSpec.witness6 (enc := enc) (C := Try.checked) false ⟨#[], #[.agg #[.slice none 0 0], .agg #[.slice none 0 0]], []⟩ 8 (by kernel_rfl) (by kernel_rfl) (by kernel_rfl) (by kernel_rfl)) ?_
  intro W base args ds gs before hval0 hW hcnd hsz0 _
  have hsz : (DataW.weightsEach Try.prog (Try.f4.params.toList ++ Rows.fnExactComposeCandidatesSpec.plain.varTypes Try.prog) (ds ++ gs)).all (· ≤ reachBytes) = true := hsz0
  have hval : ∀ (j : Nat) t v, Try.f4.params[j]? = some t → args[j]? = some v → Value.okWide Try.prog W .any base t v := hval0
  have hW' := hW
  obtain ⟨p, q, hA0, hV, rfl, hfz, hnd⟩ := hW
  have hA : DataW.TrodAll enc Try.prog W 0 (fun _ => true) true Try.f4.params.toList args.toList ds p := hA0
  rw [Try.params4] at hA hval hsz
  obtain ⟨v0, vs0, d0, ds0, p0, q0, hargs, rfl, rfl, h0, r0⟩ := trodAll_cons hA
  obtain ⟨v1, vs1, d1, ds1, p1, q1, rfl, rfl, rfl, h1, r1⟩ := trodAll_cons r0
  obtain ⟨rfl, rfl, rfl⟩ := trodAll_nil r1
  obtain rfl : args = #[v0, v1] := by cases args; simp_all
  obtain ⟨rfl, rfl⟩ := trodVars_none hV
  obtain ⟨cs0, rfl, _⟩ := okWide_struct Try.underlying53 (hval 0 53 v0 rfl rfl)
  have k0 := h0
  have lt0 : ∀ x ∈ p0, x.block < W.heap.size := by obtain ⟨m, hm⟩ := k0; exact DataW.trod_lt m _ _ _ hm
  obtain ⟨x0, hK0, b0⟩ := Opens.arg (j := 0) (show Opens Try.prog 53 k53 Bd53 from Opens.iso (Opens.struct Try.underlying53 rfl (by kernel_rfl) (OpensF.one (by kernel_rfl) (Opens.slice Try.underlying51 (by kernel_rfl) (by kernel_rfl) (show Opens Try.prog 97 k97 Bd97 from Opens.iso (Opens.struct Try.underlying97 rfl (by kernel_rfl) (OpensF.cons (by kernel_rfl) rfl (Opens.int Try.underlying5) (OpensF.one (by kernel_rfl) (Opens.int Try.underlying5)))) _ (fun a => ⟨a.1, a.2⟩) (fun _ => rfl))))) _ (fun a => ⟨a⟩) (fun _ => rfl)) hsz rfl rfl h0
  obtain ⟨A0_0, c0_0, e0, hl0_0, hC0_0⟩ := k53_open hK0
  obtain rfl : cs0 = #[.slice A0_0 x0.f0.length c0_0] := by
    apply Array.toList_inj.1
    simpa [Value.cells] using e0
  clear e0
  obtain ⟨cs1, rfl, _⟩ := okWide_struct Try.underlying53 (hval 1 53 v1 rfl rfl)
  have k1 := h1
  have lt1 : ∀ x ∈ p1, x.block < W.heap.size := by obtain ⟨m, hm⟩ := k1; exact DataW.trod_lt m _ _ _ hm
  obtain ⟨x1, hK1, b1⟩ := Opens.arg (j := 1) (show Opens Try.prog 53 k53 Bd53 from Opens.iso (Opens.struct Try.underlying53 rfl (by kernel_rfl) (OpensF.one (by kernel_rfl) (Opens.slice Try.underlying51 (by kernel_rfl) (by kernel_rfl) (show Opens Try.prog 97 k97 Bd97 from Opens.iso (Opens.struct Try.underlying97 rfl (by kernel_rfl) (OpensF.cons (by kernel_rfl) rfl (Opens.int Try.underlying5) (OpensF.one (by kernel_rfl) (Opens.int Try.underlying5)))) _ (fun a => ⟨a.1, a.2⟩) (fun _ => rfl))))) _ (fun a => ⟨a⟩) (fun _ => rfl)) hsz rfl rfl h1
  obtain ⟨A1_0, c1_0, e1, hl1_0, hC1_0⟩ := k53_open hK1
  obtain rfl : cs1 = #[.slice A1_0 x1.f0.length c1_0] := by
    apply Array.toList_inj.1
    simpa [Value.cells] using e1
  clear e1
  obtain ⟨k, hk⟩ := Pure.FnExactComposeCandidates x0.f0 x1.f0 b0 b1
  refine (PFnExactComposeCandidates.laws_FnExactComposeCandidates.calls k _ _ x0.f0 _ _ x1.f0 true W hC0_0 hl0_0 hC1_0 hl1_0 hk).mono ?_
  rintro e W' ⟨rfl, bel0⟩
  have bel : Below W.heap.size W W' := bel0
  exact ⟨_, rfl, _, _, _, [], _, [], hW', trodAll_mk1 (shut_bool Try.underlying4 _), (trodAll_cons_mk (Below.trod laidOut (by kernel_rfl) (of_decide_eq_true (by kernel_rfl)) k0 bel lt0) (trodAll_cons_mk (Below.trod laidOut (by kernel_rfl) (of_decide_eq_true (by kernel_rfl)) k1 bel lt1) trodAll_mk0)), rfl, bel.frame _, fun h => by cases h⟩
theorem over : Rows.fnExactComposeCandidatesRow.holds Try.pinned (OpenSpec.ofChange Rows.fnExactComposeCandidatesSpec) :=
  OpenClaim.holds_of_wide 4 Try.f4 rfl rfl rfl rfl rfl rfl rfl ⟨rfl, rfl, rfl, rfl, rfl⟩ rfl rfl rfl rfl rfl (by kernel_rfl) Try.func4 (by kernel_rfl)
    (of_decide_eq_true (by kernel_rfl)) (by unfold Func.isWrapper; first | (rw [if_pos (by decide +kernel)]; kernel_rfl) | (rw [if_neg (by decide +kernel)]; exact ⟨rfl, rfl⟩))
    (fun os started H enc _ => lifted os started H enc)
theorem proved : Rows.FnExactComposeCandidatesSaid := over
#print axioms proved
end Go.Proofs.Ytlmfpkiaikjlbaa.fnExactComposeCandidates
namespace Go.Proofs.Ytlmfpkiaikjlbaa
/-- The row, under a short name, for the claim. -/
theorem fnExactComposeCandidates_holds : Rows.FnExactComposeCandidatesSaid := fnExactComposeCandidates.proved
end Go.Proofs.Ytlmfpkiaikjlbaa
