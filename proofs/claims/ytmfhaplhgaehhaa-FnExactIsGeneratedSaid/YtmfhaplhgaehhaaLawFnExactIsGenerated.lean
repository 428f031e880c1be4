/- For every input (all that is read within Go's own reach), the law FnExactIsGenerated returns true, and each argument reads afterwards as before. -/
import Derived.Test.YtmfhaplhgaehhaaRows
import Derived.Test.YtmfhaplhgaehhaaPFnExactIsGeneratedx4
import Derived.Test.YtmfhaplhgaehhaaPureFnExactIsGenerated
import Derived.Test.YtmfhaplhgaehhaaOpen
import Derived.WalkKit
import Derived.ProofKit
import Derived.OpenShut
import Derived.ShutString
import Derived.ChangeOld
import Derived.Below
import Derived.Carry
import Derived.SizedLaws
namespace Go.Proofs.Ytmfhaplhgaehhaa.fnExactIsGenerated
open Go.ChangeShapes Go.WideShapes Go.ChangeAt Go.RowKit Go.Proofs.YtmfhaplhgaehhaaB Go.Proofs.Ytmfhaplhgaehhaa.PFnExactIsGenerated Go.Proofs.YtmfhaplhgaehhaaW.PrintWords Go.Proofs.YtmfhaplhgaehhaaW.PrintLast
open Go.ChangeMaps (open_string shut_string)
set_option linter.unusedVariables false
set_option linter.unusedSimpArgs false
theorem own : ownKnob Try.prog.godebug = none := by kernel_rfl
theorem laidOut : laidOutB Try.prog = true := by kernel_rfl
set_option maxRecDepth 100000 in
set_option maxHeartbeats 4000000 in
theorem lifted (os : Os) (started : os.Started) (H : Type) (enc : TypeId × Value → H) :
    ReturnsInHanded {} Try.checked os 8 .any (Rows.fnExactIsGeneratedSpec.pre6 enc Try.prog Try.f8 Rows.fnExactIsGeneratedRow.domain false) (Rows.fnExactIsGeneratedSpec.post enc Try.prog Try.f8 false true false false) := by
  refine returnsInHanded_of_change_sized (C := Try.checked) own started (by kernel_rfl) Try.func8
    (ChangeSpec.witness6 (enc := enc) (C := Try.checked) false ⟨#[], #[.string ByteArray.empty, .agg #[.slice none 0 0]], []⟩ 8 (by kernel_rfl) (by kernel_rfl) (by kernel_rfl) (by kernel_rfl)) ?_
  intro W base args ds gs before hval0 hW hcnd hsz0 _
  have hsz : (DataW.weightsEach Try.prog (Try.f8.params.toList ++ Rows.fnExactIsGeneratedSpec.plain.varTypes Try.prog) (ds ++ gs)).all (· ≤ reachBytes) = true := hsz0
  have hval : ∀ (j : Nat) t v, Try.f8.params[j]? = some t → args[j]? = some v → Value.okWide Try.prog W .any base t v := hval0
  have hW' := hW
  obtain ⟨p, q, hA0, hV, rfl, hfz, hnd⟩ := hW
  have hA : DataW.TrodAll enc Try.prog W 0 (fun _ => true) true Try.f8.params.toList args.toList ds p := hA0
  rw [Try.params8] at hA hval hsz
  obtain ⟨v0, vs0, d0, ds0, p0, q0, hargs, rfl, rfl, h0, r0⟩ := trodAll_cons hA
  obtain ⟨v1, vs1, d1, ds1, p1, q1, rfl, rfl, rfl, h1, r1⟩ := trodAll_cons r0
  obtain ⟨rfl, rfl, rfl⟩ := trodAll_nil r1
  obtain rfl : args = #[v0, v1] := by cases args; simp_all
  obtain ⟨rfl, rfl⟩ := trodVars_none hV
  obtain ⟨a0, rfl, rfl, rfl, y0⟩ := open_string Try.underlying9 (hval 0 9 v0 rfl rfl) h0
  have w0 : a0.size ≤ 140737488351232 := by
    have z := sized_string hsz (j := 0) (t := 9) rfl rfl
    rw [Array.length_toList] at z
    exact z
  obtain ⟨cs1, rfl, _⟩ := okWide_struct Try.underlying75 (hval 1 75 v1 rfl rfl)
  have k1 := h1
  have lt1 : ∀ x ∈ p1, x.block < W.heap.size := by obtain ⟨m, hm⟩ := k1; exact DataW.trod_lt m _ _ _ hm
  obtain ⟨x1, hK1, b1⟩ := Opens.arg (j := 1) (show Opens Try.prog 75 k75 Bd75 from Opens.iso (Opens.struct Try.underlying75 rfl (by kernel_rfl) (OpensF.one (by kernel_rfl) (Opens.slice Try.underlying73 (by kernel_rfl) (by kernel_rfl) (show Opens Try.prog 131 k131 Bd131 from Opens.iso (Opens.struct Try.underlying131 rfl (by kernel_rfl) (OpensF.cons (by kernel_rfl) rfl (Opens.int Try.underlying5) (OpensF.one (by kernel_rfl) (Opens.int Try.underlying5)))) _ (fun a => ⟨a.1, a.2⟩) (fun _ => rfl))))) _ (fun a => ⟨a⟩) (fun _ => rfl)) hsz rfl rfl h1
  obtain ⟨A1_0, c1_0, e1, hl1_0, hC1_0⟩ := k75_open hK1
  obtain rfl : cs1 = #[.slice A1_0 x1.f0.length c1_0] := by
    apply Array.toList_inj.1
    simpa [Value.cells] using e1
  clear e1
  obtain ⟨k, hk⟩ := Pure.FnExactIsGenerated a0 x1.f0 w0 b1
  refine (PFnExactIsGenerated.laws_FnExactIsGenerated.calls k a0 _ _ x1.f0 true W hC1_0 hl1_0 hk).mono ?_
  rintro e W' ⟨rfl, bel0⟩
  have bel : Below W.heap.size W W' := bel0
  exact ⟨_, rfl, _, _, _, [], _, [], hW', trodAll_mk1 (shut_bool Try.underlying4 _), (trodAll_cons_mk (shut_string Try.underlying9 y0) (trodAll_cons_mk (Below.trod laidOut (by kernel_rfl) (of_decide_eq_true (by kernel_rfl)) k1 bel lt1) trodAll_mk0)), rfl, bel.frame _, fun h => by cases h⟩
theorem over : Rows.fnExactIsGeneratedRow.holds Try.pinned (OpenSpec.ofChange Rows.fnExactIsGeneratedSpec) :=
  OpenClaim.holds_of_wide 8 Try.f8 rfl rfl rfl rfl rfl rfl rfl ⟨rfl, rfl, rfl, rfl, rfl⟩ rfl rfl rfl rfl rfl (by kernel_rfl) Try.func8 (by kernel_rfl)
    (of_decide_eq_true (by kernel_rfl)) (by unfold Func.isWrapper; first | (rw [if_pos (by decide +kernel)]; kernel_rfl) | (rw [if_neg (by decide +kernel)]; exact ⟨rfl, rfl⟩))
    (fun os started H enc _ => lifted os started H enc)
theorem proved : Rows.FnExactIsGeneratedSaid := over
#print axioms proved
end Go.Proofs.Ytmfhaplhgaehhaa.fnExactIsGenerated
namespace Go.Proofs.Ytmfhaplhgaehhaa
/-- The row, under a short name, for the claim. -/
theorem fnExactIsGenerated_holds : Rows.FnExactIsGeneratedSaid := fnExactIsGenerated.proved
end Go.Proofs.Ytmfhaplhgaehhaa
