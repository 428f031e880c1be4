/- For every input (all that is read within Go's own reach), the law FnExactFuseAll returns true, and each argument reads afterwards as before. -/
import Derived.Test.YtmfhaplhgaehhaaRows
import Derived.Test.YtmfhaplhgaehhaaPFnExactFuseAllx3
import Derived.Test.YtmfhaplhgaehhaaPureFnExactFuseAll
import Derived.Test.YtmfhaplhgaehhaaOpen
import Derived.WalkKit
import Derived.ProofKit
import Derived.OpenShut
import Derived.ShutString
import Derived.ChangeOld
import Derived.Below
import Derived.Carry
import Derived.SizedLaws
namespace Go.Proofs.Ytmfhaplhgaehhaa.fnExactFuseAll
open Go.ChangeShapes Go.WideShapes Go.ChangeAt Go.RowKit Go.Proofs.YtmfhaplhgaehhaaB Go.Proofs.Ytmfhaplhgaehhaa.PFnExactFuseAll Go.Proofs.YtmfhaplhgaehhaaW.PrintWords Go.Proofs.YtmfhaplhgaehhaaW.PrintLast
open Go.ChangeMaps (open_string shut_string)
set_option linter.unusedVariables false
set_option linter.unusedSimpArgs false
theorem own : ownKnob Try.prog.godebug = none := by kernel_rfl
theorem laidOut : laidOutB Try.prog = true := by kernel_rfl
set_option maxRecDepth 100000 in
set_option maxHeartbeats 4000000 in
theorem lifted (os : Os) (started : os.Started) (H : Type) (enc : TypeId × Value → H) :
    ReturnsInHanded {} Try.checked os 5 .any (Rows.fnExactFuseAllSpec.pre6 enc Try.prog Try.f5 Rows.fnExactFuseAllRow.domain false) (Rows.fnExactFuseAllSpec.post enc Try.prog Try.f5 false true false false) := by
  refine returnsInHanded_of_change_sized (C := Try.checked) own started (by kernel_rfl) Try.func5
    (ChangeSpec.witness6 (enc := enc) (C := Try.checked) false ⟨#[], #[.slice none 0 0], []⟩ 8 (by kernel_rfl) (by kernel_rfl) (by kernel_rfl) (by kernel_rfl)) ?_
  intro W base args ds gs before hval0 hW hcnd hsz0 _
  have hsz : (DataW.weightsEach Try.prog (Try.f5.params.toList ++ Rows.fnExactFuseAllSpec.plain.varTypes Try.prog) (ds ++ gs)).all (· ≤ reachBytes) = true := hsz0
  have hval : ∀ (j : Nat) t v, Try.f5.params[j]? = some t → args[j]? = some v → Value.okWide Try.prog W .any base t v := hval0
  have hW' := hW
  obtain ⟨p, q, hA0, hV, rfl, hfz, hnd⟩ := hW
  have hA : DataW.TrodAll enc Try.prog W 0 (fun _ => true) true Try.f5.params.toList args.toList ds p := hA0
  rw [Try.params5] at hA hval hsz
  obtain ⟨v0, vs0, d0, ds0, p0, q0, hargs, rfl, rfl, h0, r0⟩ := trodAll_cons hA
  obtain ⟨rfl, rfl, rfl⟩ := trodAll_nil r0
  obtain rfl : args = #[v0] := by cases args; simp_all
  obtain ⟨rfl, rfl⟩ := trodVars_none hV
  obtain ⟨a0, len0, cap0, rfl⟩ := okWide_slice Try.underlying56 (hval 0 56 v0 rfl rfl)
  have k0 := h0
  have lt0 : ∀ x ∈ p0, x.block < W.heap.size := by obtain ⟨m, hm⟩ := k0; exact DataW.trod_lt m _ _ _ hm
  obtain ⟨l0, ⟨A0, c0, e0, hl0, hC0⟩, b0⟩ := Opens.arg (j := 0) (Opens.slice Try.underlying56 (by kernel_rfl) (by kernel_rfl) (show Opens Try.prog 110 k110 Bd110 from Opens.iso (Opens.struct Try.underlying110 rfl (by kernel_rfl) (OpensF.one (by kernel_rfl) (Opens.slice Try.underlying58 (by kernel_rfl) (by kernel_rfl) (Opens.int Try.underlying3)))) _ (fun a => ⟨a⟩) (fun _ => rfl))) hsz rfl rfl h0
  simp only [Value.cells, List.toList_toArray, List.cons.injEq, Value.slice.injEq, and_true] at e0
  obtain ⟨rfl, rfl, rfl⟩ := e0
  obtain ⟨k, hk⟩ := Pure.FnExactFuseAll l0 b0
  refine (PFnExactFuseAll.laws_FnExactFuseAll.calls k _ _ l0 true W hC0 hl0 hk).mono ?_
  rintro e W' ⟨rfl, bel0⟩
  have bel : Below W.heap.size W W' := bel0
  exact ⟨_, rfl, _, _, _, [], _, [], hW', trodAll_mk1 (shut_bool Try.underlying4 _), (trodAll_cons_mk (Below.trod laidOut (by kernel_rfl) (of_decide_eq_true (by kernel_rfl)) k0 bel lt0) trodAll_mk0), rfl, bel.frame _, fun h => by cases h⟩
theorem over : Rows.fnExactFuseAllRow.holds Try.pinned (OpenSpec.ofChange Rows.fnExactFuseAllSpec) :=
  OpenClaim.holds_of_wide 5 Try.f5 rfl rfl rfl rfl rfl rfl rfl ⟨rfl, rfl, rfl, rfl, rfl⟩ rfl rfl rfl rfl rfl (by kernel_rfl) Try.func5 (by kernel_rfl)
    (of_decide_eq_true (by kernel_rfl)) (by unfold Func.isWrapper; first | (rw [if_pos (by decide +kernel)]; kernel_rfl) | (rw [if_neg (by decide +kernel)]; exact ⟨rfl, rfl⟩))
    (fun os started H enc _ => lifted os started H enc)
theorem proved : Rows.FnExactFuseAllSaid := over
#print axioms proved
end Go.Proofs.Ytmfhaplhgaehhaa.fnExactFuseAll
namespace Go.Proofs.Ytmfhaplhgaehhaa
/-- The row, under a short name, for the claim. -/
theorem fnExactFuseAll_holds : Rows.FnExactFuseAllSaid := fnExactFuseAll.proved
end Go.Proofs.Ytmfhaplhgaehhaa
