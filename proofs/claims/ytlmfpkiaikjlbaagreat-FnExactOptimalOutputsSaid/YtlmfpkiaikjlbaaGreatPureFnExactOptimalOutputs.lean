/- The pure statement of the law FnExactOptimalOutputs: for all arguments within bounds its printed function answers true. -/
import Derived.Test.YtlmfpkiaikjlbaaGreatPFnExactOptimalOutputsx
import Derived.Test.YtlmfpkiaikjlbaaGreatUFnExactOptimalOutputs
import Derived.Test.YtlmfpkiaikjlbaaGreatPureFnExactOptimalOutputsc
namespace Go.Proofs.YtlmfpkiaikjlbaaGreat.Pure
open Go.RowKit Go.Proofs.YtlmfpkiaikjlbaaGreatB Go.Proofs.YtlmfpkiaikjlbaaGreat.PFnExactOptimalOutputs Go.Proofs.YtlmfpkiaikjlbaaGreatW.PrintWords Go.Proofs.YtlmfpkiaikjlbaaGreatW.PrintLast Go.Proofs.YtlmfpkiaikjlbaaGreatW.PrintMore
set_option linter.unusedVariables false
set_option linter.unusedSimpArgs false

def mirow (m : Nat) : List Nat → List (List Int)
 | [] => []
 | n :: l => (idxs m n : (List Int)) :: mirow (m + 1 * n) l
theorem laws_markIntSS_ev (l : List (List Int)) (m : Nat) (hl : l.length + 1 * totN (l.map fun x => (x).length) ≤ 2097152) (h1 : m ≤ 8388608) : Ev (fun k => laws_markIntSS.f k l (m : Int)) (((m + 1 * totN (l.map fun x => (x).length) : Nat) : Int), mirow m (l.map fun x => (x).length)) := by
 unfold laws_markIntSS.f
 have key : ∀ (rest pre : List (List Int)) (m : Nat), pre.length + rest.length + 1 * totN (rest.map fun x => (x).length) ≤ 2097152 → m + 1 * totN (rest.map fun x => (x).length) ≤ 16777216 → Ev (fun k => laws_markIntSS.l0 k (pre ++ rest) (m : Int) (pre.length : Int)) (((m + 1 * totN (rest.map fun x => (x).length) : Nat) : Int), pre ++ mirow m (rest.map fun x => (x).length)) := by
  intro rest
  induction rest with
  | nil =>
   intro pre m _ _
   refine Ev.succ ?_
   simp only [laws_markIntSS.l0, List.append_nil, Int.lt_irrefl, if_false]
   exact Ev.const (by simp [mirow, totN])
  | cons x rest ih =>
   intro pre m h1 h2
   simp only [List.length_cons, List.map_cons, totN] at h1 h2
   refine Ev.succ ?_
   simp only [laws_markIntSS.l0, List.length_append, List.length_cons, if_pos (show (pre.length : Int) < ((pre.length + (rest.length + 1) : Nat) : Int) by omega), if_pos (show (0 : Int) ≤ pre.length by omega), Int.toNat_natCast, get_mid]
   refine Ev.bind (laws_markIntS_ev _ (m : Int) (by omega) (by omega) (by omega)) ?_
   simp only [set_mid, show (m : Int) + ((x).length : Int) = ((m + 1 * (x).length : Nat) : Int) by omega, wrap_succ (show pre.length ≤ 4611686018427387903 by omega)]
   have := ih (pre ++ [(idxs m x.length : (List Int))]) (m + 1 * (x).length) (by simp; omega) (by omega)
   rw [List.length_append, List.length_singleton] at this
   refine Ev.cast this ?_
   simp only [mirow, totN, List.map_cons, List.append_assoc, List.singleton_append, Prod.mk.injEq, and_true]
   omega
 have := key l [] m (by simpa using hl) (by omega)
 simpa using this

theorem totN_sum (l : List Nat) : totN l = l.sum := by
 induction l with
 | nil => rfl
 | cons a l ih => simp [totN, ih]
theorem laws_markTableau_ev (s : ByteArray) (n : List ByteArray) (r : List GC) (m : List (List Int)) (hn : n.length ≤ 1048576) (hr : r.length + totN (r.map fun x => (x.f0).length) ≤ 1048576) (hm : m.length + totN (m.map fun x => (x).length) ≤ 1048576) :
 ∃ q : Nat, q ≤ 8388608 ∧ Ev (fun k => laws_markTableau.f k s n r m 1) ((q : Int), (idxs 1 n.length).map mtx, mcrow (1 + n.length) (r.map fun x => (x.f0).length), mirow (1 + n.length + 2 * totN (r.map fun x => (x.f0).length)) (m.map fun x => (x).length)) := by
 refine ⟨1 + n.length + 2 * totN (r.map fun x => (x.f0).length) + 1 * totN (m.map fun x => (x).length), by omega, ?_⟩
 unfold laws_markTableau.f
 refine Ev.bind (laws_markStringS_ev n 1 (by omega) (by omega) (by omega)) ?_
 dsimp only
 rw [show (1 : Int) + (n.length : Int) = ((1 + n.length : Nat) : Int) by omega]
 exact Ev.bind (laws_markCandidateS_ev r (1 + n.length) (by omega) (by omega)) (Ev.bind (laws_markIntSS_ev m _ (by omega) (by omega)) (Ev.const rfl))

theorem laws_heldStringS_ev (n : Nat) (m : Int) (hl : n ≤ 2097152) (h0 : 0 ≤ m) (h1 : m ≤ 1099511627776) : Ev (fun k => laws_heldStringS.f k ((idxs m n).map mtx) m) (m + n) := by
 unfold laws_heldStringS.f
 have key : ∀ i, i ≤ n → Ev (fun k => laws_heldStringS.l0 k ((idxs m n).map mtx) (m + (i : Int)) (i : Int)) (m + n) := by
  refine down_ind ?_ ?_
  · refine Ev.succ ?_
    simp only [laws_heldStringS.l0, List.length_map, idxs_length, Int.lt_irrefl, if_false]
    exact Ev.const rfl
  · intro i hi ih
    refine Ev.succ ?_
    have hi' : i < ((idxs m n).map mtx).length := by rw [List.length_map, idxs_length]; exact hi
    simp only [laws_heldStringS.l0, List.length_map, idxs_length, if_pos (show (i : Int) < (n : Int) by omega), if_pos (show (0 : Int) ≤ i by omega)]
    refine Ev.bind (laws_markText_ev (m + i) (by omega) (by omega)) ?_
    have hg : rdOf ByteArray.empty ((idxs m n).map mtx) (i : Int) = mtx (m + i) := by rw [rdOf_nat _ _ i hi', List.getElem_map, idxs_get]
    simp only [hg, if_true, wrap_succ (show i ≤ 4611686018427387903 by omega), wrap_in (show -4611686018427387904 ≤ m + (i : Int) + 1 by omega) (show m + (i : Int) + 1 ≤ 4611686018427387904 by omega)]
    exact (show m + ((i + 1 : Nat) : Int) = m + (i : Int) + 1 by omega) ▸ ih
 have := key 0 (by omega)
 simpa using this

theorem FnExactOptimalOutputs : laws_FnExactOptimalOutputs.Pure := by
 intro s n r m rk hs hn hr hm hk
 refine Ev.rounds ?_
 unfold laws_FnExactOptimalOutputs.f
 by_cases hq0 : (rk.length : Int) > 1048576
 · simp only [if_pos hq0]
   exact Ev.const rfl
 simp only [if_neg hq0]
 have hkl : rk.length ≤ 1048576 := by omega
 obtain ⟨z, hz, h⟩ := laws_szTableau_ev s n r m hs hn hr hm
 refine Ev.bind hz ?_
 rcases h with h | ⟨⟨q, rfl, hq⟩, h⟩
 · simp only [if_pos h]
   exact Ev.const rfl
 · have ho := bdR hr (by have := h.2.2.1; omega)
   have hl : (r.map toC).length ≤ 1048576 := by rw [List.length_map]; have := h.2.2.1; omega
   have hn' : n.length ≤ 1048576 := by have := h.2.1; omega
   simp only [if_neg (show ¬ (q : Int) < 0 by omega)]
   have hi := laws_toIntS_ev rk hkl
   have ht := laws_toTableau_ev s n r m h
   have hw := winsI_small s n (r.map toC) m rk
   have hsp := spec_OptimalOutputs_ev s n (r.map toC) m rk h.1 hn' ho hl h.2.2.2 hkl (by omega)
   have him := impl_OptimalOutputs_ev s n (r.map toC) m rk h.1 hn' ho hl h.2.2.2 hkl (by omega)
   have hol := outW_length (r.map toC) (winsI s n (r.map toC) m rk) []
   simp only [List.length_nil] at hol
   obtain ⟨M, hM, hmt⟩ := laws_markTableau_ev s n (r.map toC) m hn' (by
    have e : totN ((r.map toC).map fun x => (x.f0).length) = lensC r := by
     rw [totN_sum, List.map_map]
     unfold lensC
     congr 1
     apply List.map_congr_left
     intro x _
     simp [toC]
    rw [e, List.length_map]
    exact h.2.2.1) (by
    rw [totN_sum]
    exact h.2.2.2)
   generalize outW (r.map toC) (winsI s n (r.map toC) m rk) [] = W at hsp him hol
   have hee := laws_eqStringS_ev W (by omega)
   refine Ev.bind ht (Ev.bind hi (Ev.bind hsp (Ev.bind ht (Ev.bind hi (Ev.bind him (Ev.bind hee ?_))))))
   simp only [if_true]
   refine Ev.bind ht (Ev.bind (laws_eqTableau_ev s n r m h ho) ?_)
   simp only [if_true]
   refine Ev.bind hi (Ev.bind (laws_eqIntS_ev rk rk hkl) ?_)
   simp only [decide_true, if_true]
   refine Ev.bind hmt (Ev.bind (laws_markIntS_ev rk (M : Int) (by omega) (by omega) (by omega)) ?_)
   simp only [if_neg (show ¬ ((M : Int) + (rk.length : Int)) < 0 by omega)]
   refine Ev.bind hee ?_
   simp only [if_true]
   have hh := laws_heldStringS_ev W.length 1 (by omega) (by omega) (by omega)
   refine Ev.bind (laws_markStringS_ev W 1 (by omega) (by omega) (by omega)) (Ev.bind hh ?_)
   simp only [if_neg (show ¬ (1 + (W.length : Int)) < 0 by omega), if_true]
   refine Ev.bind ht (Ev.bind hi (Ev.bind him (Ev.bind hee ?_)))
   simp only [if_true]
   refine Ev.bind hh ?_
   simp only [if_neg (show ¬ (1 + (W.length : Int)) < 0 by omega), if_true]
   exact Ev.const rfl

end Go.Proofs.YtlmfpkiaikjlbaaGreat.Pure
