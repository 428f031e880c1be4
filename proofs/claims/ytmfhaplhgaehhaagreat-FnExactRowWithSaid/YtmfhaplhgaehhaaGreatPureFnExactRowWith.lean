/- The pure statement of the law FnExactRowWith: for all arguments within bounds its printed function answers true. -/
import Derived.Test.YtmfhaplhgaehhaaGreatPFnExactRowWithx
import Derived.Test.YtmfhaplhgaehhaaGreatUFnExactRowWith
import Derived.Test.YtmfhaplhgaehhaaGreatPureFnExactRowWithb
namespace Go.Proofs.YtmfhaplhgaehhaaGreat.Pure
open Go.RowKit Go.Proofs.YtmfhaplhgaehhaaGreatB Go.Proofs.YtmfhaplhgaehhaaGreat.PFnExactRowWith Go.Proofs.YtmfhaplhgaehhaaGreatW.PrintWords Go.Proofs.YtmfhaplhgaehhaaGreatW.PrintLast Go.Proofs.YtmfhaplhgaehhaaGreatW.PrintMore
set_option linter.unusedVariables false
set_option linter.unusedSimpArgs false

theorem laws_szCandidateS_ev (l : List LCand) (n : Nat) (hn : n ≤ 1048576) (hl : BdSlice 24 Bd64 l) : ∃ z, Ev (fun k => laws_szCandidateS.f k l n) z ∧ (z < 0 ∨ ∃ m : Nat, z = m ∧ m + l.length + lensC l = n) := by
  have hl' : l.length ≤ 140737488351232 := by have := hl.1; omega
  unfold laws_szCandidateS.f
  rw [wrap_in (by omega) (by omega)]
  by_cases h : l.length ≤ n
  · rw [show ((n : Int) - (l.length : Int)) = ((n - l.length : Nat) : Int) by omega]
    simp only [if_neg (show ¬ ((n - l.length : Nat) : Int) < 0 by omega)]
    have key : ∀ i, i ≤ l.length → ∀ m : Nat, m ≤ n → ∃ z, Ev (fun k => laws_szCandidateS.l0 k l (m : Int) (i : Int)) z ∧ (z < 0 ∨ ∃ m' : Nat, z = m' ∧ m' + lensC (l.drop i) = m) := by
      refine down_ind ?_ ?_
      · intro m hm
        refine ⟨m, Ev.succ ?_, .inr ⟨m, rfl, by simp [lensC]⟩⟩
        simp only [laws_szCandidateS.l0, Int.lt_irrefl, if_false]
        exact Ev.const rfl
      · intro i hi ih m hm
        have hb := (hl.2 l[i] (List.getElem_mem hi)).1
        have hd : lensC (l.drop i) = l[i].f0.length + lensC (l.drop (i + 1)) := by rw [drop_cons l i hi]; rfl
        by_cases hs : l[i].f0.length ≤ m
        · obtain ⟨z, hz, hz'⟩ := ih (m - l[i].f0.length) (by omega)
          refine ⟨z, Ev.succ ?_, ?_⟩
          · simp only [laws_szCandidateS.l0, if_pos (show (i : Int) < (l.length : Int) by omega), if_pos (show (0 : Int) ≤ i by omega), rdLC l i hi, laws_szCandidate_eq l[i].f0 m (by omega) (by omega), Option.bind_some, if_pos hs, if_neg (show ¬ ((m - l[i].f0.length : Nat) : Int) < 0 by omega), wrap_succ (show i ≤ 4611686018427387903 by omega)]
            exact hz
          · rcases hz' with h' | ⟨m', rfl, h'⟩
            · exact .inl h'
            · exact .inr ⟨m', rfl, by omega⟩
        · refine ⟨-1, Ev.succ ?_, .inl (by omega)⟩
          simp only [laws_szCandidateS.l0, if_pos (show (i : Int) < (l.length : Int) by omega), if_pos (show (0 : Int) ≤ i by omega), rdLC l i hi, laws_szCandidate_eq l[i].f0 m (by omega) (by omega), Option.bind_some, if_neg hs]
          exact Ev.const rfl
    obtain ⟨z, hz, hz'⟩ := key 0 (by omega) (n - l.length) (by omega)
    refine ⟨z, hz, ?_⟩
    rcases hz' with h' | ⟨m', rfl, h'⟩
    · exact .inl h'
    · rw [List.drop_zero] at h'
      exact .inr ⟨m', rfl, by omega⟩
  · simp only [if_pos (show ((n : Int) - (l.length : Int)) < 0 by omega)]
    exact ⟨-1, Ev.const rfl, .inl (by omega)⟩
theorem laws_szIntSS_ev (l : List (List Int)) (n : Nat) (hn : n ≤ 1048576) (hl : BdSlice 24 (BdSlice 8 (BdInt .i64)) l) : ∃ z, Ev (fun k => laws_szIntSS.f k l n) z ∧ (z < 0 ∨ ∃ m : Nat, z = m ∧ m + l.length + lensII l = n) := by
  have hl' : l.length ≤ 140737488351232 := by have := hl.1; omega
  unfold laws_szIntSS.f
  rw [wrap_in (by omega) (by omega)]
  by_cases h : l.length ≤ n
  · rw [show ((n : Int) - (l.length : Int)) = ((n - l.length : Nat) : Int) by omega]
    simp only [if_neg (show ¬ ((n - l.length : Nat) : Int) < 0 by omega)]
    have key : ∀ i, i ≤ l.length → ∀ m : Nat, m ≤ n → ∃ z, Ev (fun k => laws_szIntSS.l0 k l (m : Int) (i : Int)) z ∧ (z < 0 ∨ ∃ m' : Nat, z = m' ∧ m' + lensII (l.drop i) = m) := by
      refine down_ind ?_ ?_
      · intro m hm
        refine ⟨m, Ev.succ ?_, .inr ⟨m, rfl, by simp [lensII]⟩⟩
        simp only [laws_szIntSS.l0, Int.lt_irrefl, if_false]
        exact Ev.const rfl
      · intro i hi ih m hm
        have hb := (hl.2 l[i] (List.getElem_mem hi)).1
        have hd : lensII (l.drop i) = l[i].length + lensII (l.drop (i + 1)) := by rw [drop_cons l i hi]; rfl
        have he : laws_szIntS.f l[i] m = some (if l[i].length ≤ m then ((m - l[i].length : Nat) : Int) else -1) := laws_szIntS_eq l[i] m (by omega) (by omega)
        by_cases hs : l[i].length ≤ m
        · obtain ⟨z, hz, hz'⟩ := ih (m - l[i].length) (by omega)
          refine ⟨z, Ev.succ ?_, ?_⟩
          · simp only [laws_szIntSS.l0, if_pos (show (i : Int) < (l.length : Int) by omega), if_pos (show (0 : Int) ≤ i by omega), rdII l i hi, he, Option.bind_some, if_pos hs, if_neg (show ¬ ((m - l[i].length : Nat) : Int) < 0 by omega), wrap_succ (show i ≤ 4611686018427387903 by omega)]
            exact hz
          · rcases hz' with h' | ⟨m', rfl, h'⟩
            · exact .inl h'
            · exact .inr ⟨m', rfl, by omega⟩
        · refine ⟨-1, Ev.succ ?_, .inl (by omega)⟩
          simp only [laws_szIntSS.l0, if_pos (show (i : Int) < (l.length : Int) by omega), if_pos (show (0 : Int) ≤ i by omega), rdII l i hi, he, Option.bind_some, if_neg hs]
          exact Ev.const rfl
    obtain ⟨z, hz, hz'⟩ := key 0 (by omega) (n - l.length) (by omega)
    refine ⟨z, hz, ?_⟩
    rcases hz' with h' | ⟨m', rfl, h'⟩
    · exact .inl h'
    · rw [List.drop_zero] at h'
      exact .inr ⟨m', rfl, by omega⟩
  · simp only [if_pos (show ((n : Int) - (l.length : Int)) < 0 by omega)]
    exact ⟨-1, Ev.const rfl, .inl (by omega)⟩
/-- what fits: text, names, rows, marks -/
def fits (s : ByteArray) (n : List ByteArray) (r : List LCand) (m : List (List Int)) : Prop := s.size ≤ 1048576 ∧ n.length + sizes n ≤ 1048576 ∧ r.length + lensC r ≤ 1048576 ∧ m.length + lensII m ≤ 1048576
theorem laws_szTableau_ev (s : ByteArray) (n : List ByteArray) (r : List LCand) (m : List (List Int)) (hs : BdStr s) (hn : BdSlice 16 BdStr n) (hr : BdSlice 24 Bd64 r) (hm : BdSlice 24 (BdSlice 8 (BdInt .i64)) m) :
    ∃ z, Ev (fun k => laws_szTableau.f k s n r m 1048576) z ∧ (z < 0 ∨ (∃ q : Nat, z = q ∧ q ≤ 1048576) ∧ fits s n r m) := by
  have hs' : s.size ≤ 140737488351232 := hs
  unfold laws_szTableau.f
  rw [wrap_in (by omega) (by omega)]
  by_cases h1 : s.size ≤ 1048576
  · rw [show ((1048576 : Int) - (s.size : Int)) = ((1048576 - s.size : Nat) : Int) by omega]
    simp only [if_neg (show ¬ ((1048576 - s.size : Nat) : Int) < 0 by omega)]
    have e1 := laws_szStringS_ev n (1048576 - s.size) (by omega) hn
    by_cases h2 : n.length + sizes n ≤ 1048576 - s.size
    · rw [if_pos h2] at e1
      obtain ⟨z2, e2, h3⟩ := laws_szCandidateS_ev r (1048576 - s.size - (n.length + sizes n)) (by omega) hr
      rcases h3 with h3 | ⟨m2, rfl, h3⟩
      · refine ⟨-1, Ev.bind e1 ?_, .inl (by omega)⟩
        simp only [if_neg (show ¬ ((1048576 - s.size - (n.length + sizes n) : Nat) : Int) < 0 by omega)]
        refine Ev.bind e2 ?_
        simp only [if_pos h3]
        exact Ev.const rfl
      · obtain ⟨z4, e4, h5⟩ := laws_szIntSS_ev m m2 (by omega) hm
        rcases h5 with h5 | ⟨m4, rfl, h5⟩
        · refine ⟨-1, Ev.bind e1 ?_, .inl (by omega)⟩
          simp only [if_neg (show ¬ ((1048576 - s.size - (n.length + sizes n) : Nat) : Int) < 0 by omega)]
          refine Ev.bind e2 ?_
          simp only [if_neg (show ¬ (m2 : Int) < 0 by omega)]
          refine Ev.bind e4 ?_
          simp only [if_pos h5]
          exact Ev.const rfl
        · refine ⟨m4, Ev.bind e1 ?_, .inr ⟨⟨m4, rfl, by omega⟩, by omega, by omega, by omega, by omega⟩⟩
          simp only [if_neg (show ¬ ((1048576 - s.size - (n.length + sizes n) : Nat) : Int) < 0 by omega)]
          refine Ev.bind e2 ?_
          simp only [if_neg (show ¬ (m2 : Int) < 0 by omega)]
          refine Ev.bind e4 ?_
          simp only [if_neg (show ¬ (m4 : Int) < 0 by omega)]
          exact Ev.const rfl
    · rw [if_neg h2] at e1
      refine ⟨-1, Ev.bind e1 ?_, .inl (by omega)⟩
      simp only [show (-1 : Int) < 0 by decide, if_true]
      exact Ev.const rfl
  · simp only [if_pos (show ((1048576 : Int) - (s.size : Int)) < 0 by omega)]
    exact ⟨-1, Ev.const rfl, .inl (by omega)⟩

theorem laws_toCandidateS_ev (l : List LCand) (hl : l.length + lensC l ≤ 1048576) : Ev (fun k => laws_toCandidateS.f k l) (l.map toC) := by
  unfold laws_toCandidateS.f
  simp only [if_pos (show (0 : Int) ≤ (l.length : Int) by omega), Int.toNat_natCast, if_pos (show l.length ≤ 11728124029610 by omega)]
  have key : ∀ i, i ≤ l.length → Ev (fun k => laws_toCandidateS.l0 k l ((l.take i).map toC ++ List.replicate (l.length - i) z48) (i : Int)) (l.map toC) := by
    refine down_ind ?_ ?_
    · refine Ev.succ ?_
      simp only [laws_toCandidateS.l0, Int.lt_irrefl, if_false]
      exact Ev.const (by simp)
    · intro i hi ih
      have := lensC_get l i hi
      refine Ev.succ ?_
      have hlen : ((l.take i).map toC ++ List.replicate (l.length - i) z48).length = l.length := by simp; omega
      simp only [laws_toCandidateS.l0, hlen, if_pos (show (i : Int) < (l.length : Int) by omega), if_pos (show (0 : Int) ≤ i by omega), rdLC l i hi]
      refine Ev.bind (laws_toCandidate_ev l[i].f0 (by omega)) ?_
      simp only [Int.toNat_natCast, show (⟨l[i].f0.map toK⟩ : ICand) = toC l[i] from rfl, set_fill2 l toC _ i hi, wrap_succ (show i ≤ 4611686018427387903 by omega)]
      exact ih
  have := key 0 (by omega)
  simpa using this
theorem laws_toIntSS_ev (l : List (List Int)) (hl : l.length + lensII l ≤ 1048576) : Ev (fun k => laws_toIntSS.f k l) l := by
  unfold laws_toIntSS.f
  simp only [if_pos (show (0 : Int) ≤ (l.length : Int) by omega), Int.toNat_natCast, if_pos (show l.length ≤ 11728124029610 by omega)]
  have key : ∀ i, i ≤ l.length → Ev (fun k => laws_toIntSS.l0 k l (l.take i ++ List.replicate (l.length - i) []) (i : Int)) l := by
    refine down_ind ?_ ?_
    · refine Ev.succ ?_
      simp only [laws_toIntSS.l0, Int.lt_irrefl, if_false]
      exact Ev.const (by simp)
    · intro i hi ih
      have := lensII_get l i hi
      refine Ev.succ ?_
      have hlen : (l.take i ++ List.replicate (l.length - i) ([] : List Int)).length = l.length := by simp; omega
      simp only [laws_toIntSS.l0, hlen, if_pos (show (i : Int) < (l.length : Int) by omega), if_pos (show (0 : Int) ≤ i by omega), rdII l i hi]
      refine Ev.bind (laws_toIntS_ev l[i] (by omega)) ?_
      simp only [Int.toNat_natCast, set_fill l _ i hi, wrap_succ (show i ≤ 4611686018427387903 by omega)]
      exact ih
  have := key 0 (by omega)
  simpa using this
theorem laws_toTableau_ev (s : ByteArray) (n : List ByteArray) (r : List LCand) (m : List (List Int)) (h : fits s n r m) : Ev (fun k => laws_toTableau.f k s n r m) (s, n, r.map toC, m) := by
  unfold laws_toTableau.f
  exact Ev.bind (laws_toStringS_ev n (by have := h.2.1; omega)) (Ev.bind (laws_toCandidateS_ev r h.2.2.1) (Ev.bind (laws_toIntSS_ev m h.2.2.2) (Ev.const rfl)))

theorem laws_eqStringS_ev (a : List ByteArray) (hl : a.length ≤ 1048576) : Ev (fun k => laws_eqStringS.f k a a) true := by
  unfold laws_eqStringS.f
  simp only [if_true]
  have key : ∀ i, i ≤ a.length → Ev (fun k => laws_eqStringS.l0 k a a (i : Int)) true := by
    refine down_ind ?_ ?_
    · refine Ev.succ ?_
      simp only [laws_eqStringS.l0, Int.lt_irrefl, if_false]
      exact Ev.const rfl
    · intro i hi ih
      refine Ev.succ ?_
      simp only [laws_eqStringS.l0, if_pos (show (i : Int) < (a.length : Int) by omega), if_pos (show (0 : Int) ≤ i by omega), if_true, wrap_succ (show i ≤ 4611686018427387903 by omega)]
      exact ih
  exact key 0 (by omega)

theorem laws_eqCandidate_ev (a : List ILink) (hl : a.length ≤ 1048576) : Ev (fun k => laws_eqCandidate.f k a a) true := by
  unfold laws_eqCandidate.f
  refine Ev.bind ?_ (Ev.const (if_pos rfl))
  unfold laws_eqLinkS.f
  simp only [if_true]
  have key : ∀ i, i ≤ a.length → Ev (fun k => laws_eqLinkS.l0 k a a (i : Int)) true := by
    refine down_ind ?_ ?_
    · refine Ev.succ ?_
      simp only [laws_eqLinkS.l0, Int.lt_irrefl, if_false]
      exact Ev.const rfl
    · intro i hi ih
      refine Ev.succ ?_
      simp only [laws_eqLinkS.l0, laws_eqLink.f, Option.bind_some, if_pos (show (i : Int) < (a.length : Int) by omega), if_pos (show (0 : Int) ≤ i by omega), if_true, wrap_succ (show i ≤ 4611686018427387903 by omega)]
      exact ih
  exact key 0 (by omega)

theorem laws_eqIntS_ev (a b : List Int) (hl : a.length ≤ 1048576) : Ev (fun k => laws_eqIntS.f k a b) (decide (a = b)) := by
  unfold laws_eqIntS.f
  by_cases hab : a.length = b.length
  · simp only [if_pos (show (a.length : Int) = (b.length : Int) by omega)]
    have key : ∀ i, i ≤ a.length → Ev (fun k => laws_eqIntS.l0 k a b (i : Int)) (decide (a.drop i = b.drop i)) := by
      refine down_ind ?_ ?_
      · refine Ev.succ ?_
        simp only [laws_eqIntS.l0, Int.lt_irrefl, if_false]
        refine Ev.const ?_
        rw [List.drop_of_length_le (Nat.le_refl _), List.drop_of_length_le (by omega)]
        rfl
      · intro i hi ih
        have hb : i < b.length := by omega
        refine Ev.succ ?_
        simp only [laws_eqIntS.l0, if_pos (show (i : Int) < (a.length : Int) by omega), if_pos (show (0 : Int) ≤ i by omega), if_pos (show (i : Int) < (b.length : Int) by omega), rd_nat a i hi, rd_nat b i hb, wrap_succ (show i ≤ 4611686018427387903 by omega)]
        rw [drop_cons a i hi, drop_cons b i hb]
        by_cases he : a[i] = b[i]
        · simp only [if_pos he]
          exact Ev.cast ih (by simp only [List.cons.injEq, he, true_and])
        · simp only [if_neg he]
          exact Ev.const (by simp only [List.cons.injEq, he, false_and, decide_false])
    exact key 0 (by omega)
  · simp only [if_neg (show ¬ (a.length : Int) = (b.length : Int) by omega)]
    exact Ev.const (by
      have : a ≠ b := fun h => hab (by rw [h])
      simp [this])

theorem laws_eqCandidateS_ev (a : List ICand) (hl : a.length ≤ 1048576) (hr : ∀ x ∈ a, x.f0.length ≤ 1048576) : Ev (fun k => laws_eqCandidateS.f k a a) true := by
  unfold laws_eqCandidateS.f
  simp only [if_true]
  have key : ∀ i, i ≤ a.length → Ev (fun k => laws_eqCandidateS.l0 k a a (i : Int)) true := by
    refine down_ind ?_ ?_
    · refine Ev.succ ?_
      simp only [laws_eqCandidateS.l0, Int.lt_irrefl, if_false]
      exact Ev.const rfl
    · intro i hi ih
      refine Ev.succ ?_
      simp only [laws_eqCandidateS.l0, if_pos (show (i : Int) < (a.length : Int) by omega), if_pos (show (0 : Int) ≤ i by omega), rdIC a i hi]
      refine Ev.bind (laws_eqCandidate_ev _ (hr _ (List.getElem_mem hi))) ?_
      simp only [if_true, wrap_succ (show i ≤ 4611686018427387903 by omega)]
      exact ih
  exact key 0 (by omega)
theorem laws_eqIntSS_ev (a : List (List Int)) (hl : a.length + lensII a ≤ 1048576) : Ev (fun k => laws_eqIntSS.f k a a) true := by
  unfold laws_eqIntSS.f
  simp only [if_true]
  have key : ∀ i, i ≤ a.length → Ev (fun k => laws_eqIntSS.l0 k a a (i : Int)) true := by
    refine down_ind ?_ ?_
    · refine Ev.succ ?_
      simp only [laws_eqIntSS.l0, Int.lt_irrefl, if_false]
      exact Ev.const rfl
    · intro i hi ih
      have := lensII_get a i hi
      refine Ev.succ ?_
      simp only [laws_eqIntSS.l0, if_pos (show (i : Int) < (a.length : Int) by omega), if_pos (show (0 : Int) ≤ i by omega), rdII a i hi]
      refine Ev.bind (laws_eqIntS_ev _ _ (by omega)) ?_
      simp only [decide_true, if_true, wrap_succ (show i ≤ 4611686018427387903 by omega)]
      exact ih
  exact key 0 (by omega)
theorem laws_eqTableau_ev (s : ByteArray) (n : List ByteArray) (r : List LCand) (m : List (List Int)) (h : fits s n r m) (hr : okR (r.map toC)) : Ev (fun k => laws_eqTableau.f k s n (r.map toC) m s n (r.map toC) m) true := by
  unfold laws_eqTableau.f
  simp only [if_true]
  refine Ev.bind (laws_eqStringS_ev n (by have := h.2.1; omega)) ?_
  simp only [if_true]
  refine Ev.bind (laws_eqCandidateS_ev (r.map toC) (by rw [List.length_map]; have := h.2.2.1; omega) (fun x hx => (hr x hx).2)) ?_
  simp only [if_true]
  refine Ev.bind (laws_eqIntSS_ev m h.2.2.2) ?_
  simp only [if_true]
  exact Ev.const rfl

theorem FnExactRowWith : laws_FnExactRowWith.Pure := by
  intro s n r m o hs hn hr hm hob
  refine Ev.rounds ?_
  unfold laws_FnExactRowWith.f
  by_cases hq0 : (o.size : Int) > 1048576
  · simp only [if_pos hq0]
    exact Ev.const rfl
  simp only [if_neg hq0]
  obtain ⟨z, hz, h⟩ := laws_szTableau_ev s n r m hs hn hr hm
  refine Ev.bind hz ?_
  rcases h with h | ⟨⟨q, rfl, hq⟩, h⟩
  · simp only [if_pos h]
    exact Ev.const rfl
  · have ho := bdR hr (by have := h.2.2.1; omega)
    have hl : (r.map toC).length ≤ 1048576 := by rw [List.length_map]; have := h.2.2.1; omega
    have hn' : n.length ≤ 1048576 := by have := h.2.1; omega
    simp only [if_neg (show ¬ (q : Int) < 0 by omega)]
    refine Ev.bind (laws_toTableau_ev s n r m h) (Ev.bind (spec_RowWith_ev s n _ m o h.1 hn' ho hl h.2.2.2) (Ev.bind (laws_toTableau_ev s n r m h) (Ev.bind (impl_RowWith_ev s n _ m o h.1 hn' ho hl h.2.2.2) ?_)))
    simp only [if_true]
    refine Ev.bind (laws_toTableau_ev s n r m h) (Ev.bind (laws_eqTableau_ev s n r m h ho) ?_)
    simp only [if_true]
    exact Ev.const rfl

end Go.Proofs.YtmfhaplhgaehhaaGreat.Pure
