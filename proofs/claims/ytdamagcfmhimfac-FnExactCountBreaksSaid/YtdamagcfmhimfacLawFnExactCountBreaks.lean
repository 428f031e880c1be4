/- For every input (all that is read within Go's own reach), the law FnExactCountBreaks returns true, and each argument reads afterwards as before. -/
import Derived.Test.YtdamagcfmhimfacRows
import Derived.Test.YtdamagcfmhimfacPFnExactCountBreaksx6
import Derived.Test.YtdamagcfmhimfacPureFnExactCountBreaks
import Derived.Test.YtdamagcfmhimfacOpen
import Derived.WalkKit
import Derived.ProofKit
import Derived.OpenShut
import Derived.ShutString
import Derived.ChangeOld
import Derived.Below
import Derived.Carry
import Derived.SizedLaws
namespace Go.Proofs.Ytdamagcfmhimfac.fnExactCountBreaks
open Go.ChangeShapes Go.WideShapes Go.ChangeAt Go.RowKit Go.Proofs.YtdamagcfmhimfacB Go.Proofs.Ytdamagcfmhimfac.PFnExactCountBreaks Go.Proofs.YtdamagcfmhimfacW.PrintWords Go.Proofs.YtdamagcfmhimfacW.PrintLast
open Go.ChangeMaps (open_string shut_string)
set_option linter.unusedVariables false
set_option linter.unusedSimpArgs false
theorem own : ownKnob Try.prog.godebug = none := by kernel_rfl
theorem laidOut : laidOutB Try.prog = true := by kernel_rfl
set_option maxRecDepth 100000 in
set_option maxHeartbeats 4000000 in
theorem lifted (os : Os) (started : os.Started) (H : Type) (enc : TypeId × Value → H) :
    ReturnsInHanded {} Try.checked os 8 .any (Rows.fnExactCountBreaksSpec.pre6 enc Try.prog Try.f8 Rows.fnExactCountBreaksRow.domain false) (Rows.fnExactCountBreaksSpec.post enc Try.prog Try.f8 false true false false) := by
  refine returnsInHanded_of_change_sized (C := Try.checked) own started (by kernel_rfl) Try.func8
    (ChangeSpec.witness6 (enc := enc) (C := Try.checked) false ⟨#[], #[.agg #[.slice none 0 0]], []⟩ 8 (by kernel_rfl) (by kernel_rfl) (by kernel_rfl) (by kernel_rfl)) ?_
  intro W base args ds gs before hval0 hW hcnd hsz0 _
  have hsz : (DataW.weightsEach Try.prog (Try.f8.params.toList ++ Rows.fnExactCountBreaksSpec.plain.varTypes Try.prog) (ds ++ gs)).all (· ≤ reachBytes) = true := hsz0
  have hval : ∀ (j : Nat) t v, Try.f8.params[j]? = some t → args[j]? = some v → Value.okWide Try.prog W .any base t v := hval0
  have hW' := hW
  obtain ⟨p, q, hA0, hV, rfl, hfz, hnd⟩ := hW
  have hA : DataW.TrodAll enc Try.prog W 0 (fun _ => true) true Try.f8.params.toList args.toList ds p := hA0
  rw [Try.params8] at hA hval hsz
  obtain ⟨v0, vs0, d0, ds0, p0, q0, hargs, rfl, rfl, h0, r0⟩ := trodAll_cons hA
  obtain ⟨rfl, rfl, rfl⟩ := trodAll_nil r0
  obtain rfl : args = #[v0] := by cases args; simp_all
  obtain ⟨rfl, rfl⟩ := trodVars_none hV
  obtain ⟨cs0, rfl, _⟩ := okWide_struct Try.underlying24 (hval 0 24 v0 rfl rfl)
  have k0 := h0
  have lt0 : ∀ x ∈ p0, x.block < W.heap.size := by obtain ⟨m, hm⟩ := k0; exact DataW.trod_lt m _ _ _ hm
  obtain ⟨x0, hK0, b0⟩ := Opens.arg (j := 0) (show Opens Try.prog 24 k24 Bd24 from Opens.iso (Opens.struct Try.underlying24 rfl (by kernel_rfl) (OpensF.one (by kernel_rfl) (Opens.slice Try.underlying22 (by kernel_rfl) (by kernel_rfl) (show Opens Try.prog 79 k79 Bd79 from Opens.iso (Opens.struct Try.underlying79 rfl (by kernel_rfl) (OpensF.cons (by kernel_rfl) rfl (Opens.int Try.underlying5) (OpensF.one (by kernel_rfl) (Opens.int Try.underlying5)))) _ (fun a => ⟨a.1, a.2⟩) (fun _ => rfl))))) _ (fun a => ⟨a⟩) (fun _ => rfl)) hsz rfl rfl h0
  obtain ⟨A0_0, c0_0, e0, hl0_0, hC0_0⟩ := k24_open hK0
  obtain rfl : cs0 = #[.slice A0_0 x0.f0.length c0_0] := by
    apply Array.toList_inj.1
    simpa [Value.cells] using e0
  clear e0
  obtain ⟨k, hk⟩ := Pure.FnExactCountBreaks x0.f0 b0
  refine (PFnExactCountBreaks.laws_FnExactCountBreaks.calls k _ _ x0.f0 true W hC0_0 hl0_0 hk).mono ?_
  rintro e W' ⟨rfl, bel0⟩
  have bel : Below W.heap.size W W' := bel0
  exact ⟨_, rfl, _, _, _, [], _, [], hW', trodAll_mk1 (shut_bool Try.underlying4 _), (trodAll_cons_mk (Below.trod laidOut (by kernel_rfl) (of_decide_eq_true (by kernel_rfl)) k0 bel lt0) trodAll_mk0), rfl, bel.frame _, fun h => by cases h⟩
theorem over : Rows.fnExactCountBreaksRow.holds Try.pinned (OpenSpec.ofChange Rows.fnExactCountBreaksSpec) :=
  OpenClaim.holds_of_wide 8 Try.f8 rfl rfl rfl rfl rfl rfl rfl ⟨rfl, rfl, rfl, rfl, rfl⟩ rfl rfl rfl rfl rfl (by kernel_rfl) Try.func8 (by kernel_rfl)
    (of_decide_eq_true (by kernel_rfl)) (by unfold Func.isWrapper; first | (rw [if_pos (by decide +kernel)]; kernel_rfl) | (rw [if_neg (by decide +kernel)]; exact ⟨rfl, rfl⟩))
    (fun os started H enc _ => lifted os started H enc)
theorem proved : Rows.FnExactCountBreaksSaid := over
#print axioms proved
end Go.Proofs.Ytdamagcfmhimfac.fnExactCountBreaks
namespace Go.Proofs.Ytdamagcfmhimfac
/-- The row, under a short name, for the claim. -/
theorem fnExactCountBreaks_holds : Rows.FnExactCountBreaksSaid := fnExactCountBreaks.proved
end Go.Proofs.Ytdamagcfmhimfac
