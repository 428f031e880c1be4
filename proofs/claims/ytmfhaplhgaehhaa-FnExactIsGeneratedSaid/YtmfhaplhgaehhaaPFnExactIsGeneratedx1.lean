-- Made by gen.py (a program of this session) out of the translation; Lean checks it.
import Derived.Test.YtmfhaplhgaehhaaPFnExactIsGeneratedx0
namespace Go.Proofs.Ytmfhaplhgaehhaa.PFnExactIsGenerated
open Go.RowKit Go.Proofs.YtmfhaplhgaehhaaB Go.Proofs.YtmfhaplhgaehhaaW.PrintWords Go.Proofs.YtmfhaplhgaehhaaW.PrintLast Go.Proofs.YtmfhaplhgaehhaaW.PrintMore
attribute [local go_sem] max2_int min2_int max_two min_two max_three min_three max_four min_four   -- for this text's walks alone
set_option linter.unusedVariables false
set_option linter.unusedSimpArgs false

theorem eqA87 (d : Nat) (w : World) (x0 y0 : Int) (x1 y1 : Int) :
    (Op.equalIn (d + 2) 87 (.agg #[.int .u8 x0, .int .u8 x1]) (.agg #[.int .u8 y0, .int .u8 y1])).run Try.prog w = .ok (x0 == y0 && (x1 == y1)) w := by
  refine eqA_of Try.underlying87 (by kernel_rfl) ?_
  refine eqf_cons (by rfl) (by go_simp; rfl) (by go_simp; rfl) (by go_simp) ?_
  exact eqf_last (by rfl) (by go_simp; rfl) (by go_simp; rfl) (by go_simp)
end Go.Proofs.Ytmfhaplhgaehhaa.PFnExactIsGenerated
