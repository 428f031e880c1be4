/- The pure statement of the law FnExactIsTableau: for all arguments within bounds its printed function answers true. -/
import Derived.Test.YtdamagcfmhimfadGreatPFnExactIsTableaux
import Derived.Test.YtdamagcfmhimfadGreatUFnExactIsTableau
import Derived.Test.YtdamagcfmhimfadGreatPureFnExactIsTableaub
namespace Go.Proofs.YtdamagcfmhimfadGreat.Pure
open Go.RowKit Go.Proofs.YtdamagcfmhimfadGreatB Go.Proofs.YtdamagcfmhimfadGreat.PFnExactIsTableau Go.Proofs.YtdamagcfmhimfadGreatW.PrintWords Go.Proofs.YtdamagcfmhimfadGreatW.PrintLast Go.Proofs.YtdamagcfmhimfadGreatW.PrintMore
set_option linter.unusedVariables false
set_option linter.unusedSimpArgs false

theorem laws_eqCandidateS_ev (a : List ICand) (hl : a.length ≤ 1048576) (hr : ∀ x ∈ a, x.f0.length ≤ 1048576) : Ev (fun k => laws_eqCandidateS.f k a a) true := by
  unfold laws_eqCandidateS.f
  simp only [if_true]
  have key : ∀ i, i ≤ a.length → Ev (fun k => laws_eqCandidateS.l0 k a a (i : Int)) true := by
    refine down_ind ?_ ?_
    · refine Ev.succ ?_
      simp only [laws_eqCandidateS.l0, Int.lt_irrefl, if_false]
      exact Ev.const rfl
    · intro i hi ih
      refine Ev.succ ?_
      simp only [laws_eqCandidateS.l0, if_pos (show (i : Int) < (a.length : Int) by omega), if_pos (show (0 : Int) ≤ i by omega), rdIC a i hi]
      refine Ev.bind (laws_eqCandidate_ev _ (hr _ (List.getElem_mem hi))) ?_
      simp only [if_true, wrap_succ (show i ≤ 4611686018427387903 by omega)]
      exact ih
  exact key 0 (by omega)
theorem laws_eqIntSS_ev (a : List (List Int)) (hl : a.length + lensII a ≤ 1048576) : Ev (fun k => laws_eqIntSS.f k a a) true := by
  unfold laws_eqIntSS.f
  simp only [if_true]
  have key : ∀ i, i ≤ a.length → Ev (fun k => laws_eqIntSS.l0 k a a (i : Int)) true := by
    refine down_ind ?_ ?_
    · refine Ev.succ ?_
      simp only [laws_eqIntSS.l0, Int.lt_irrefl, if_false]
      exact Ev.const rfl
    · intro i hi ih
      have := lensII_get a i hi
      refine Ev.succ ?_
      simp only [laws_eqIntSS.l0, if_pos (show (i : Int) < (a.length : Int) by omega), if_pos (show (0 : Int) ≤ i by omega), rdII a i hi]
      refine Ev.bind (laws_eqIntS_ev _ _ (by omega)) ?_
      simp only [decide_true, if_true, wrap_succ (show i ≤ 4611686018427387903 by omega)]
      exact ih
  exact key 0 (by omega)
theorem laws_eqTableau_ev (s : ByteArray) (n : List ByteArray) (r : List LCand) (m : List (List Int)) (h : fits s n r m) (hr : okR (r.map toC)) : Ev (fun k => laws_eqTableau.f k s n (r.map toC) m s n (r.map toC) m) true := by
  unfold laws_eqTableau.f
  simp only [if_true]
  refine Ev.bind (laws_eqStringS_ev n (by have := h.2.1; omega)) ?_
  simp only [if_true]
  refine Ev.bind (laws_eqCandidateS_ev (r.map toC) (by rw [List.length_map]; have := h.2.2.1; omega) (fun x hx => (hr x hx).2)) ?_
  simp only [if_true]
  refine Ev.bind (laws_eqIntSS_ev m h.2.2.2) ?_
  simp only [if_true]
  exact Ev.const rfl

theorem FnExactIsTableau : laws_FnExactIsTableau.Pure := by
  intro s n r m hs hn hr hm
  refine Ev.rounds ?_
  unfold laws_FnExactIsTableau.f
  obtain ⟨z, hz, h⟩ := laws_szTableau_ev s n r m hs hn hr hm
  refine Ev.bind hz ?_
  rcases h with h | ⟨⟨q, rfl, hq⟩, h⟩
  · simp only [if_pos h]
    exact Ev.const rfl
  · have ho := bdR hr (by have := h.2.2.1; omega)
    have hl : (r.map toC).length ≤ 1048576 := by rw [List.length_map]; have := h.2.2.1; omega
    have hn' : n.length ≤ 1048576 := by have := h.2.1; omega
    simp only [if_neg (show ¬ (q : Int) < 0 by omega)]
    refine Ev.bind (laws_toTableau_ev s n r m h) (Ev.bind (spec_IsTableau_ev s n _ m h.1 hn' ho hl h.2.2.2) (Ev.bind (laws_toTableau_ev s n r m h) (Ev.bind (impl_IsTableau_ev s n _ m h.1 hn' ho hl h.2.2.2) ?_)))
    simp only [bne_self_eq_false, Bool.false_eq_true, if_false]
    refine Ev.bind (laws_toTableau_ev s n r m h) (Ev.bind (laws_eqTableau_ev s n r m h ho) ?_)
    simp only [if_true]
    exact Ev.const rfl

end Go.Proofs.YtdamagcfmhimfadGreat.Pure
