/- The pure statement of the law FnExactProfileOf: for all arguments within bounds its printed function answers true. -/
import Derived.Test.YtdamagcfmhimfadPFnExactProfileOfx
import Derived.Test.YtdamagcfmhimfadUFnExactProfileOf
import Derived.Test.YtdamagcfmhimfadPureFnExactProfileOfb
namespace Go.Proofs.Ytdamagcfmhimfad.Pure
open Go.RowKit Go.Proofs.YtdamagcfmhimfadB Go.Proofs.Ytdamagcfmhimfad.PFnExactProfileOf Go.Proofs.YtdamagcfmhimfadW.PrintWords Go.Proofs.YtdamagcfmhimfadW.PrintLast Go.Proofs.YtdamagcfmhimfadW.PrintMore
set_option linter.unusedVariables false
set_option linter.unusedSimpArgs false

theorem laws_heldIntS_ev (n : Nat) (m : Int) (hl : n ≤ 2097152) (h0 : 0 ≤ m) (h1 : m ≤ 1099511627776) : Ev (fun k => laws_heldIntS.f k (idxs m n) m) (m + n) := by
  unfold laws_heldIntS.f
  have key : ∀ i, i ≤ n → Ev (fun k => laws_heldIntS.l0 k (idxs m n) (m + (i : Int)) (i : Int)) (m + n) := by
    refine down_ind ?_ ?_
    · refine Ev.succ ?_
      simp only [laws_heldIntS.l0, idxs_length, Int.lt_irrefl, if_false]
      exact Ev.const rfl
    · intro i hi ih
      refine Ev.succ ?_
      have hi' : i < (idxs m n).length := by rw [idxs_length]; exact hi
      simp only [laws_heldIntS.l0, idxs_length, if_pos (show (i : Int) < (n : Int) by omega), if_pos (show (0 : Int) ≤ i by omega), rd_nat _ i hi', idxs_get, if_true, wrap_succ (show i ≤ 4611686018427387903 by omega), wrap_in (show -4611686018427387904 ≤ m + (i : Int) + 1 by omega) (show m + (i : Int) + 1 ≤ 4611686018427387904 by omega)]
      exact (show m + ((i + 1 : Nat) : Int) = m + (i : Int) + 1 by omega) ▸ ih
  have := key 0 (by omega)
  simpa using this

theorem laws_eqIntS_ev (a b : List Int) (hl : a.length ≤ 1048576) : Ev (fun k => laws_eqIntS.f k a b) (decide (a = b)) := by
  unfold laws_eqIntS.f
  by_cases hab : a.length = b.length
  · simp only [if_pos (show (a.length : Int) = (b.length : Int) by omega)]
    have key : ∀ i, i ≤ a.length → Ev (fun k => laws_eqIntS.l0 k a b (i : Int)) (decide (a.drop i = b.drop i)) := by
      refine down_ind ?_ ?_
      · refine Ev.succ ?_
        simp only [laws_eqIntS.l0, Int.lt_irrefl, if_false]
        refine Ev.const ?_
        rw [List.drop_of_length_le (Nat.le_refl _), List.drop_of_length_le (by omega)]
        rfl
      · intro i hi ih
        have hb : i < b.length := by omega
        refine Ev.succ ?_
        simp only [laws_eqIntS.l0, if_pos (show (i : Int) < (a.length : Int) by omega), if_pos (show (0 : Int) ≤ i by omega), if_pos (show (i : Int) < (b.length : Int) by omega), rd_nat a i hi, rd_nat b i hb, wrap_succ (show i ≤ 4611686018427387903 by omega)]
        rw [drop_cons a i hi, drop_cons b i hb]
        by_cases he : a[i] = b[i]
        · simp only [if_pos he]
          exact Ev.cast ih (by simp only [List.cons.injEq, he, true_and])
        · simp only [if_neg he]
          exact Ev.const (by simp only [List.cons.injEq, he, false_and, decide_false])
    exact key 0 (by omega)
  · simp only [if_neg (show ¬ (a.length : Int) = (b.length : Int) by omega)]
    exact Ev.const (by
      have : a ≠ b := fun h => hab (by rw [h])
      simp [this])

theorem FnExactProfileOf : laws_FnExactProfileOf.Pure := by
  intro n l hbn hbd
  refine Ev.rounds ?_
  unfold laws_FnExactProfileOf.f
  refine Ev.bind (laws_szStringS_ev n 1048576 (Nat.le_refl _) hbn) ?_
  by_cases hn : n.length + sizes n ≤ 1048576
  · simp only [if_pos hn, if_neg (show ¬ (((1048576 - (n.length + sizes n) : Nat) : Int)) < 0 by omega)]
    have hn' : n.length ≤ 1048576 := by omega
    rw [laws_szCandidate_eq l (1048576 - (n.length + sizes n)) (by omega) (by have := hbd.1; omega)]
    simp only [Option.bind_some]
    by_cases h : l.length ≤ 1048576 - (n.length + sizes n)
    · have hl : (l.map toK).length ≤ 1048576 := by rw [List.length_map]; omega
      have h' : l.length ≤ 1048576 := by omega
      have hb := bdK hbd
      simp only [if_pos h, if_neg (show ¬ ((1048576 - (n.length + sizes n) - l.length : Nat) : Int) < 0 by omega)]
      refine Ev.bind (laws_toStringS_ev n hn') (Ev.bind (laws_toCandidate_ev l h') (Ev.bind (spec_ProfileOf_ev n _ hn' hl hb) (Ev.bind (laws_toStringS_ev n hn') (Ev.bind (laws_toCandidate_ev l h') (Ev.bind (impl_ProfileOf_ev n _ hn' hl hb) ?_)))))
      have hr := prof_len n (l.map toK)
      have h2 := impl_ProfileOf_ev n _ hn' hl hb
      generalize prof n (l.map toK) = r at hr h2 ⊢
      refine Ev.bind (laws_eqIntS_ev r r (by omega)) ?_
      simp only [decide_true, if_true]
      refine Ev.bind (laws_toStringS_ev n hn') (Ev.bind (laws_eqStringS_ev n hn') ?_)
      simp only [if_true]
      refine Ev.bind (laws_toCandidate_ev l h') (Ev.bind (laws_eqCandidate_ev _ hl) ?_)
      simp only [if_true]
      obtain ⟨y, hy⟩ := laws_markCandidate_ev (l.map toK) (1 + n.length) (by omega) (by omega)
      refine Ev.bind (laws_markStringS_ev n 1 (by omega) (by omega) (by omega)) ?_
      simp only
      rw [show (1 : Int) + (n.length : Int) = ((1 + n.length : Nat) : Int) by omega]
      refine Ev.bind hy ?_
      simp only [if_neg (show ¬ ((1 + n.length + 2 * (l.map toK).length : Nat) : Int) < 0 by omega)]
      refine Ev.bind (laws_eqIntS_ev r r (by omega)) ?_
      simp only [decide_true, Bool.not_true]
      refine Ev.succ ?_
      simp only [laws_FnExactProfileOf.j0, Bool.false_eq_true, if_false]
      refine Ev.bind (laws_markIntS_ev r 1 (by omega) (by omega) (by omega)) (Ev.bind (laws_heldIntS_ev r.length 1 (by omega) (by omega) (by omega)) ?_)
      simp only [if_neg (show ¬ (1 + (r.length : Int)) < 0 by omega), if_true]
      refine Ev.bind (laws_toStringS_ev n hn') (Ev.bind (laws_toCandidate_ev l h') (Ev.bind h2 (Ev.bind (laws_eqIntS_ev r r (by omega)) ?_)))
      simp only [decide_true, if_true]
      refine Ev.bind (laws_heldIntS_ev r.length 1 (by omega) (by omega) (by omega)) ?_
      simp only [if_neg (show ¬ (1 + (r.length : Int)) < 0 by omega), if_true]
      exact Ev.const rfl
    · simp only [if_neg h]
      exact Ev.const rfl
  · simp only [if_neg hn]
    exact Ev.const rfl

end Go.Proofs.Ytdamagcfmhimfad.Pure
