/- The pure statement of the law FnExactDistinctProfiles: for all arguments within bounds its printed function answers true. -/
import Derived.Test.YtlmfpkiaikjlbaaGreatPFnExactDistinctProfilesx
import Derived.Test.YtlmfpkiaikjlbaaGreatUFnExactDistinctProfiles
import Derived.Test.YtlmfpkiaikjlbaaGreatPureFnExactDistinctProfilesb
namespace Go.Proofs.YtlmfpkiaikjlbaaGreat.Pure
open Go.RowKit Go.Proofs.YtlmfpkiaikjlbaaGreatB Go.Proofs.YtlmfpkiaikjlbaaGreat.PFnExactDistinctProfiles Go.Proofs.YtlmfpkiaikjlbaaGreatW.PrintWords Go.Proofs.YtlmfpkiaikjlbaaGreatW.PrintLast Go.Proofs.YtlmfpkiaikjlbaaGreatW.PrintMore
set_option linter.unusedVariables false
set_option linter.unusedSimpArgs false

theorem laws_szCandidateS_ev (l : List LCand) (n : Nat) (hn : n ≤ 1048576) (hl : BdSlice 24 Bd96 l) : ∃ z, Ev (fun k => laws_szCandidateS.f k l n) z ∧ (z < 0 ∨ ∃ m : Nat, z = m ∧ m + l.length + lensC l = n) := by
 have hl' : l.length ≤ 140737488351232 := by have := hl.1; omega
 unfold laws_szCandidateS.f
 rw [wrap_in (by omega) (by omega)]
 by_cases h : l.length ≤ n
 · rw [show ((n : Int) - (l.length : Int)) = ((n - l.length : Nat) : Int) by omega]
   simp only [if_neg (show ¬ ((n - l.length : Nat) : Int) < 0 by omega)]
   have key : ∀ i, i ≤ l.length → ∀ m : Nat, m ≤ n → ∃ z, Ev (fun k => laws_szCandidateS.l0 k l (m : Int) (i : Int)) z ∧ (z < 0 ∨ ∃ m' : Nat, z = m' ∧ m' + lensC (l.drop i) = m) := by
    refine down_ind ?_ ?_
    · intro m hm
      refine ⟨m, Ev.succ ?_, .inr ⟨m, rfl, by simp [lensC]⟩⟩
      simp only [laws_szCandidateS.l0, Int.lt_irrefl, if_false]
      exact Ev.const rfl
    · intro i hi ih m hm
      have hb := (hl.2 l[i] (List.getElem_mem hi)).1
      have hd : lensC (l.drop i) = l[i].f0.length + lensC (l.drop (i + 1)) := by rw [drop_cons l i hi]; rfl
      by_cases hs : l[i].f0.length ≤ m
      · obtain ⟨z, hz, hz'⟩ := ih (m - l[i].f0.length) (by omega)
        refine ⟨z, Ev.succ ?_, ?_⟩
        · simp only [laws_szCandidateS.l0, if_pos (show (i : Int) < (l.length : Int) by omega), if_pos (show (0 : Int) ≤ i by omega), rdLC l i hi, laws_szCandidate_eq l[i].f0 m (by omega) (by omega), Option.bind_some, if_pos hs, if_neg (show ¬ ((m - l[i].f0.length : Nat) : Int) < 0 by omega), wrap_succ (show i ≤ 4611686018427387903 by omega)]
          exact hz
        · rcases hz' with h' | ⟨m', rfl, h'⟩
          · exact .inl h'
          · exact .inr ⟨m', rfl, by omega⟩
      · refine ⟨-1, Ev.succ ?_, .inl (by omega)⟩
        simp only [laws_szCandidateS.l0, if_pos (show (i : Int) < (l.length : Int) by omega), if_pos (show (0 : Int) ≤ i by omega), rdLC l i hi, laws_szCandidate_eq l[i].f0 m (by omega) (by omega), Option.bind_some, if_neg hs]
        exact Ev.const rfl
   obtain ⟨z, hz, hz'⟩ := key 0 (by omega) (n - l.length) (by omega)
   refine ⟨z, hz, ?_⟩
   rcases hz' with h' | ⟨m', rfl, h'⟩
   · exact .inl h'
   · rw [List.drop_zero] at h'
     exact .inr ⟨m', rfl, by omega⟩
 · simp only [if_pos (show ((n : Int) - (l.length : Int)) < 0 by omega)]
   exact ⟨-1, Ev.const rfl, .inl (by omega)⟩
theorem laws_szIntSS_ev (l : List (List Int)) (n : Nat) (hn : n ≤ 1048576) (hl : BdSlice 24 (BdSlice 8 (BdInt .i64)) l) : ∃ z, Ev (fun k => laws_szIntSS.f k l n) z ∧ (z < 0 ∨ ∃ m : Nat, z = m ∧ m + l.length + lensII l = n) := by
 have hl' : l.length ≤ 140737488351232 := by have := hl.1; omega
 unfold laws_szIntSS.f
 rw [wrap_in (by omega) (by omega)]
 by_cases h : l.length ≤ n
 · rw [show ((n : Int) - (l.length : Int)) = ((n - l.length : Nat) : Int) by omega]
   simp only [if_neg (show ¬ ((n - l.length : Nat) : Int) < 0 by omega)]
   have key : ∀ i, i ≤ l.length → ∀ m : Nat, m ≤ n → ∃ z, Ev (fun k => laws_szIntSS.l0 k l (m : Int) (i : Int)) z ∧ (z < 0 ∨ ∃ m' : Nat, z = m' ∧ m' + lensII (l.drop i) = m) := by
    refine down_ind ?_ ?_
    · intro m hm
      refine ⟨m, Ev.succ ?_, .inr ⟨m, rfl, by simp [lensII]⟩⟩
      simp only [laws_szIntSS.l0, Int.lt_irrefl, if_false]
      exact Ev.const rfl
    · intro i hi ih m hm
      have hb := (hl.2 l[i] (List.getElem_mem hi)).1
      have hd : lensII (l.drop i) = l[i].length + lensII (l.drop (i + 1)) := by rw [drop_cons l i hi]; rfl
      have he : laws_szIntS.f l[i] m = some (if l[i].length ≤ m then ((m - l[i].length : Nat) : Int) else -1) := laws_szIntS_eq l[i] m (by omega) (by omega)
      by_cases hs : l[i].length ≤ m
      · obtain ⟨z, hz, hz'⟩ := ih (m - l[i].length) (by omega)
        refine ⟨z, Ev.succ ?_, ?_⟩
        · simp only [laws_szIntSS.l0, if_pos (show (i : Int) < (l.length : Int) by omega), if_pos (show (0 : Int) ≤ i by omega), rdII l i hi, he, Option.bind_some, if_pos hs, if_neg (show ¬ ((m - l[i].length : Nat) : Int) < 0 by omega), wrap_succ (show i ≤ 4611686018427387903 by omega)]
          exact hz
        · rcases hz' with h' | ⟨m', rfl, h'⟩
          · exact .inl h'
          · exact .inr ⟨m', rfl, by omega⟩
      · refine ⟨-1, Ev.succ ?_, .inl (by omega)⟩
        simp only [laws_szIntSS.l0, if_pos (show (i : Int) < (l.length : Int) by omega), if_pos (show (0 : Int) ≤ i by omega), rdII l i hi, he, Option.bind_some, if_neg hs]
        exact Ev.const rfl
   obtain ⟨z, hz, hz'⟩ := key 0 (by omega) (n - l.length) (by omega)
   refine ⟨z, hz, ?_⟩
   rcases hz' with h' | ⟨m', rfl, h'⟩
   · exact .inl h'
   · rw [List.drop_zero] at h'
     exact .inr ⟨m', rfl, by omega⟩
 · simp only [if_pos (show ((n : Int) - (l.length : Int)) < 0 by omega)]
   exact ⟨-1, Ev.const rfl, .inl (by omega)⟩
def fits (s : ByteArray) (n : List ByteArray) (r : List LCand) (m : List (List Int)) : Prop := s.size ≤ 1048576 ∧ n.length + sizes n ≤ 1048576 ∧ r.length + lensC r ≤ 1048576 ∧ m.length + lensII m ≤ 1048576
theorem laws_szTableau_ev (s : ByteArray) (n : List ByteArray) (r : List LCand) (m : List (List Int)) (hs : BdStr s) (hn : BdSlice 16 BdStr n) (hr : BdSlice 24 Bd96 r) (hm : BdSlice 24 (BdSlice 8 (BdInt .i64)) m) :
 ∃ z, Ev (fun k => laws_szTableau.f k s n r m 1048576) z ∧ (z < 0 ∨ (∃ q : Nat, z = q ∧ q ≤ 1048576) ∧ fits s n r m) := by
 have hs' : s.size ≤ 140737488351232 := hs
 unfold laws_szTableau.f
 rw [wrap_in (by omega) (by omega)]
 by_cases h1 : s.size ≤ 1048576
 · rw [show ((1048576 : Int) - (s.size : Int)) = ((1048576 - s.size : Nat) : Int) by omega]
   simp only [if_neg (show ¬ ((1048576 - s.size : Nat) : Int) < 0 by omega)]
   have e1 := laws_szStringS_ev n (1048576 - s.size) (by omega) hn
   by_cases h2 : n.length + sizes n ≤ 1048576 - s.size
   · rw [if_pos h2] at e1
     obtain ⟨z2, e2, h3⟩ := laws_szCandidateS_ev r (1048576 - s.size - (n.length + sizes n)) (by omega) hr
     rcases h3 with h3 | ⟨m2, rfl, h3⟩
     · refine ⟨-1, Ev.bind e1 ?_, .inl (by omega)⟩
       simp only [if_neg (show ¬ ((1048576 - s.size - (n.length + sizes n) : Nat) : Int) < 0 by omega)]
       refine Ev.bind e2 ?_
       simp only [if_pos h3]
       exact Ev.const rfl
     · obtain ⟨z4, e4, h5⟩ := laws_szIntSS_ev m m2 (by omega) hm
       rcases h5 with h5 | ⟨m4, rfl, h5⟩
       · refine ⟨-1, Ev.bind e1 ?_, .inl (by omega)⟩
         simp only [if_neg (show ¬ ((1048576 - s.size - (n.length + sizes n) : Nat) : Int) < 0 by omega)]
         refine Ev.bind e2 ?_
         simp only [if_neg (show ¬ (m2 : Int) < 0 by omega)]
         refine Ev.bind e4 ?_
         simp only [if_pos h5]
         exact Ev.const rfl
       · refine ⟨m4, Ev.bind e1 ?_, .inr ⟨⟨m4, rfl, by omega⟩, by omega, by omega, by omega, by omega⟩⟩
         simp only [if_neg (show ¬ ((1048576 - s.size - (n.length + sizes n) : Nat) : Int) < 0 by omega)]
         refine Ev.bind e2 ?_
         simp only [if_neg (show ¬ (m2 : Int) < 0 by omega)]
         refine Ev.bind e4 ?_
         simp only [if_neg (show ¬ (m4 : Int) < 0 by omega)]
         exact Ev.const rfl
   · rw [if_neg h2] at e1
     refine ⟨-1, Ev.bind e1 ?_, .inl (by omega)⟩
     simp only [show (-1 : Int) < 0 by decide, if_true]
     exact Ev.const rfl
 · simp only [if_pos (show ((1048576 : Int) - (s.size : Int)) < 0 by omega)]
   exact ⟨-1, Ev.const rfl, .inl (by omega)⟩

theorem laws_toCandidateS_ev (l : List LCand) (hl : l.length + lensC l ≤ 1048576) : Ev (fun k => laws_toCandidateS.f k l) (l.map toC) := by
 unfold laws_toCandidateS.f
 simp only [if_pos (show (0 : Int) ≤ (l.length : Int) by omega), Int.toNat_natCast, if_pos (show l.length ≤ 11728124029610 by omega)]
 have key : ∀ i, i ≤ l.length → Ev (fun k => laws_toCandidateS.l0 k l ((l.take i).map toC ++ List.replicate (l.length - i) z60) (i : Int)) (l.map toC) := by
  refine down_ind ?_ ?_
  · refine Ev.succ ?_
    simp only [laws_toCandidateS.l0, Int.lt_irrefl, if_false]
    exact Ev.const (by simp)
  · intro i hi ih
    have := lensC_get l i hi
    refine Ev.succ ?_
    have hlen : ((l.take i).map toC ++ List.replicate (l.length - i) z60).length = l.length := by simp; omega
    simp only [laws_toCandidateS.l0, hlen, if_pos (show (i : Int) < (l.length : Int) by omega), if_pos (show (0 : Int) ≤ i by omega), rdLC l i hi]
    refine Ev.bind (laws_toCandidate_ev l[i].f0 (by omega)) ?_
    simp only [Int.toNat_natCast, show (⟨l[i].f0.map toK⟩ : ICand) = toC l[i] from rfl, set_fill2 l toC _ i hi, wrap_succ (show i ≤ 4611686018427387903 by omega)]
    exact ih
 have := key 0 (by omega)
 simpa using this
theorem laws_toIntSS_ev (l : List (List Int)) (hl : l.length + lensII l ≤ 1048576) : Ev (fun k => laws_toIntSS.f k l) l := by
 unfold laws_toIntSS.f
 simp only [if_pos (show (0 : Int) ≤ (l.length : Int) by omega), Int.toNat_natCast, if_pos (show l.length ≤ 11728124029610 by omega)]
 have key : ∀ i, i ≤ l.length → Ev (fun k => laws_toIntSS.l0 k l (l.take i ++ List.replicate (l.length - i) []) (i : Int)) l := by
  refine down_ind ?_ ?_
  · refine Ev.succ ?_
    simp only [laws_toIntSS.l0, Int.lt_irrefl, if_false]
    exact Ev.const (by simp)
  · intro i hi ih
    have := lensII_get l i hi
    refine Ev.succ ?_
    have hlen : (l.take i ++ List.replicate (l.length - i) ([] : List Int)).length = l.length := by simp; omega
    simp only [laws_toIntSS.l0, hlen, if_pos (show (i : Int) < (l.length : Int) by omega), if_pos (show (0 : Int) ≤ i by omega), rdII l i hi]
    refine Ev.bind (laws_toIntS_ev l[i] (by omega)) ?_
    simp only [Int.toNat_natCast, set_fill l _ i hi, wrap_succ (show i ≤ 4611686018427387903 by omega)]
    exact ih
 have := key 0 (by omega)
 simpa using this
theorem laws_toTableau_ev (s : ByteArray) (n : List ByteArray) (r : List LCand) (m : List (List Int)) (h : fits s n r m) : Ev (fun k => laws_toTableau.f k s n r m) (s, n, r.map toC, m) := by
 unfold laws_toTableau.f
 exact Ev.bind (laws_toStringS_ev n (by have := h.2.1; omega)) (Ev.bind (laws_toCandidateS_ev r h.2.2.1) (Ev.bind (laws_toIntSS_ev m h.2.2.2) (Ev.const rfl)))

theorem laws_eqStringS_ev (a : List ByteArray) (hl : a.length ≤ 1048576) : Ev (fun k => laws_eqStringS.f k a a) true := by
 unfold laws_eqStringS.f
 simp only [if_true]
 have key : ∀ i, i ≤ a.length → Ev (fun k => laws_eqStringS.l0 k a a (i : Int)) true := by
  refine down_ind ?_ ?_
  · refine Ev.succ ?_
    simp only [laws_eqStringS.l0, Int.lt_irrefl, if_false]
    exact Ev.const rfl
  · intro i hi ih
    refine Ev.succ ?_
    simp only [laws_eqStringS.l0, if_pos (show (i : Int) < (a.length : Int) by omega), if_pos (show (0 : Int) ≤ i by omega), if_true, wrap_succ (show i ≤ 4611686018427387903 by omega)]
    exact ih
 exact key 0 (by omega)

theorem laws_eqCandidate_ev (a : List ILink) (hl : a.length ≤ 1048576) : Ev (fun k => laws_eqCandidate.f k a a) true := by
 unfold laws_eqCandidate.f
 refine Ev.bind ?_ (Ev.const (if_pos rfl))
 unfold laws_eqLinkS.f
 simp only [if_true]
 have key : ∀ i, i ≤ a.length → Ev (fun k => laws_eqLinkS.l0 k a a (i : Int)) true := by
  refine down_ind ?_ ?_
  · refine Ev.succ ?_
    simp only [laws_eqLinkS.l0, Int.lt_irrefl, if_false]
    exact Ev.const rfl
  · intro i hi ih
    refine Ev.succ ?_
    simp only [laws_eqLinkS.l0, laws_eqLink.f, Option.bind_some, if_pos (show (i : Int) < (a.length : Int) by omega), if_pos (show (0 : Int) ≤ i by omega), if_true, wrap_succ (show i ≤ 4611686018427387903 by omega)]
    exact ih
 exact key 0 (by omega)

theorem laws_eqIntS_ev (a b : List Int) (hl : a.length ≤ 1048576) : Ev (fun k => laws_eqIntS.f k a b) (decide (a = b)) := by
 unfold laws_eqIntS.f
 by_cases hab : a.length = b.length
 · simp only [if_pos (show (a.length : Int) = (b.length : Int) by omega)]
   have key : ∀ i, i ≤ a.length → Ev (fun k => laws_eqIntS.l0 k a b (i : Int)) (decide (a.drop i = b.drop i)) := by
    refine down_ind ?_ ?_
    · refine Ev.succ ?_
      simp only [laws_eqIntS.l0, Int.lt_irrefl, if_false]
      refine Ev.const ?_
      rw [List.drop_of_length_le (Nat.le_refl _), List.drop_of_length_le (by omega)]
      rfl
    · intro i hi ih
      have hb : i < b.length := by omega
      refine Ev.succ ?_
      simp only [laws_eqIntS.l0, if_pos (show (i : Int) < (a.length : Int) by omega), if_pos (show (0 : Int) ≤ i by omega), if_pos (show (i : Int) < (b.length : Int) by omega), rd_nat a i hi, rd_nat b i hb, wrap_succ (show i ≤ 4611686018427387903 by omega)]
      rw [drop_cons a i hi, drop_cons b i hb]
      by_cases he : a[i] = b[i]
      · simp only [if_pos he]
        exact Ev.cast ih (by simp only [List.cons.injEq, he, true_and])
      · simp only [if_neg he]
        exact Ev.const (by simp only [List.cons.injEq, he, false_and, decide_false])
   exact key 0 (by omega)
 · simp only [if_neg (show ¬ (a.length : Int) = (b.length : Int) by omega)]
   exact Ev.const (by
    have : a ≠ b := fun h => hab (by rw [h])
    simp [this])

theorem laws_eqCandidateS_ev (a : List ICand) (hl : a.length ≤ 1048576) (hr : ∀ x ∈ a, x.f0.length ≤ 1048576) : Ev (fun k => laws_eqCandidateS.f k a a) true := by
 unfold laws_eqCandidateS.f
 simp only [if_true]
 have key : ∀ i, i ≤ a.length → Ev (fun k => laws_eqCandidateS.l0 k a a (i : Int)) true := by
  refine down_ind ?_ ?_
  · refine Ev.succ ?_
    simp only [laws_eqCandidateS.l0, Int.lt_irrefl, if_false]
    exact Ev.const rfl
  · intro i hi ih
    refine Ev.succ ?_
    simp only [laws_eqCandidateS.l0, if_pos (show (i : Int) < (a.length : Int) by omega), if_pos (show (0 : Int) ≤ i by omega), rdIC a i hi]
    refine Ev.bind (laws_eqCandidate_ev _ (hr _ (List.getElem_mem hi))) ?_
    simp only [if_true, wrap_succ (show i ≤ 4611686018427387903 by omega)]
    exact ih
 exact key 0 (by omega)
theorem laws_eqIntSS_ev (a : List (List Int)) (hl : a.length + lensII a ≤ 1048576) : Ev (fun k => laws_eqIntSS.f k a a) true := by
 unfold laws_eqIntSS.f
 simp only [if_true]
 have key : ∀ i, i ≤ a.length → Ev (fun k => laws_eqIntSS.l0 k a a (i : Int)) true := by
  refine down_ind ?_ ?_
  · refine Ev.succ ?_
    simp only [laws_eqIntSS.l0, Int.lt_irrefl, if_false]
    exact Ev.const rfl
  · intro i hi ih
    have := lensII_get a i hi
    refine Ev.succ ?_
    simp only [laws_eqIntSS.l0, if_pos (show (i : Int) < (a.length : Int) by omega), if_pos (show (0 : Int) ≤ i by omega), rdII a i hi]
    refine Ev.bind (laws_eqIntS_ev _ _ (by omega)) ?_
    simp only [decide_true, if_true, wrap_succ (show i ≤ 4611686018427387903 by omega)]
    exact ih
 exact key 0 (by omega)
theorem laws_eqTableau_ev (s : ByteArray) (n : List ByteArray) (r : List LCand) (m : List (List Int)) (h : fits s n r m) (hr : okR (r.map toC)) : Ev (fun k => laws_eqTableau.f k s n (r.map toC) m s n (r.map toC) m) true := by
 unfold laws_eqTableau.f
 simp only [if_true]
 refine Ev.bind (laws_eqStringS_ev n (by have := h.2.1; omega)) ?_
 simp only [if_true]
 refine Ev.bind (laws_eqCandidateS_ev (r.map toC) (by rw [List.length_map]; have := h.2.2.1; omega) (fun x hx => (hr x hx).2)) ?_
 simp only [if_true]
 refine Ev.bind (laws_eqIntSS_ev m h.2.2.2) ?_
 simp only [if_true]
 exact Ev.const rfl

theorem size_append (a b : ByteArray) : (a ++ b).size = a.size + b.size := by
 rw [← B_length, ← B_length, ← B_length, B_append, List.length_append]
theorem laws_markText_some (m : Int) (h0 : 0 ≤ m) (h1 : m ≤ 4398046511104) : ∃ s, Ev (fun k => laws_markText.f k m) s := by
 unfold laws_markText.f
 by_cases hm : m ≤ 0
 · simp only [if_pos hm]
   exact ⟨_, Ev.const rfl⟩
 · simp only [if_neg hm]
   obtain ⟨n, rfl⟩ := Int.eq_ofNat_of_zero_le h0
   have key : ∀ (n : Nat) (x : ByteArray), x.size + n ≤ 8796093022208 → ∃ s, Ev (fun k => laws_markText.l0 k (n : Int) x) s := by
    intro n
    induction n using Nat.strongRecOn with
    | _ n ih =>
     intro x hx
     by_cases hn : n = 0
     · subst hn
       refine ⟨(⟨#[109]⟩ : ByteArray) ++ x, Ev.succ ?_⟩
       simp only [laws_markText.l0, if_neg (show ¬ ((0 : Nat) : Int) > 0 by omega), if_pos (show 1 + x.size ≤ 9223372036854775807 by omega)]
       exact Ev.const rfl
     · have hs : ∀ d : Int, (strOfNums [d]).size = 1 := fun d => rfl
       obtain ⟨s, hs'⟩ := ih (n / 10) (by omega) (strOfNums [wrap64 (48 + Int.tmod (n : Int) 10) % 256] ++ x) (by rw [size_append, hs]; omega)
       refine ⟨s, Ev.succ ?_⟩
       have hd : wrap64 (Int.tdiv (n : Int) 10) = ((n / 10 : Nat) : Int) := by
        rw [show Int.tdiv (n : Int) 10 = ((n / 10 : Nat) : Int) from by rw [Int.tdiv_eq_ediv_of_nonneg (by omega)]; omega]
        exact wrap_nat (by omega)
       simp only [laws_markText.l0, if_pos (show (n : Int) > 0 by omega), Option.bind_some, hs, if_pos (show 1 + x.size ≤ 9223372036854775807 by omega), hd]
       exact hs'
   exact key n _ (by show 0 + n ≤ _; omega)
noncomputable def mtx (m : Int) : ByteArray := Classical.epsilon fun s => Ev (fun k => laws_markText.f k m) s
theorem laws_markText_ev (m : Int) (h0 : 0 ≤ m) (h1 : m ≤ 4398046511104) : Ev (fun k => laws_markText.f k m) (mtx m) := Classical.epsilon_spec (laws_markText_some m h0 h1)

theorem laws_markStringS_ev (l : List ByteArray) (m : Int) (hl : l.length ≤ 2097152) (h0 : 0 ≤ m) (h1 : m ≤ 1099511627776) : Ev (fun k => laws_markStringS.f k l m) (m + l.length, (idxs m l.length).map mtx) := by
 unfold laws_markStringS.f
 have key : ∀ i, i ≤ l.length → Ev (fun k => laws_markStringS.l0 k ((idxs m i).map mtx ++ l.drop i) (m + (i : Int)) (i : Int)) (m + l.length, (idxs m l.length).map mtx) := by
  refine down_ind ?_ ?_
  · refine Ev.succ ?_
    have hlen : ((idxs m l.length).map mtx ++ l.drop l.length).length = l.length := by simp [idxs_length]
    simp only [laws_markStringS.l0, hlen, Int.lt_irrefl, if_false]
    exact Ev.const (by simp)
  · intro i hi ih
    refine Ev.succ ?_
    have hlen : ((idxs m i).map mtx ++ l.drop i).length = l.length := by rw [List.length_append, List.length_map, idxs_length, List.length_drop]; omega
    have hset : ((idxs m i).map mtx ++ l.drop i).set i (mtx (m + i)) = (idxs m (i + 1)).map mtx ++ l.drop (i + 1) := by
     rw [List.set_append, List.length_map, idxs_length, if_neg (by omega), Nat.sub_self, drop_cons l i hi, List.set_cons_zero, idxs_snoc, List.map_append, List.append_assoc]
     rfl
    simp only [laws_markStringS.l0, hlen, if_pos (show (i : Int) < (l.length : Int) by omega)]
    refine Ev.bind (laws_markText_ev (m + i) (by omega) (by omega)) ?_
    simp only [if_pos (show (0 : Int) ≤ i by omega), Int.toNat_natCast, hset, wrap_succ (show i ≤ 4611686018427387903 by omega), wrap_in (show -4611686018427387904 ≤ m + (i : Int) + 1 by omega) (show m + (i : Int) + 1 ≤ 4611686018427387904 by omega)]
    exact (show m + ((i + 1 : Nat) : Int) = m + (i : Int) + 1 by omega) ▸ ih
 have := key 0 (by omega)
 simpa [idxs] using this

theorem get_mid {α : Type} (pre : List α) (x : α) (rest : List α) (z : α) : (pre ++ x :: rest).getD pre.length z = x := by simp
theorem set_mid {α : Type} (pre : List α) (x y : α) (rest : List α) : (pre ++ x :: rest).set pre.length y = (pre ++ [y]) ++ rest := by simp
def totN : List Nat → Nat
 | [] => 0
 | n :: l => n + totN l

def mlk (m : Nat) : Nat → List ILink
 | 0 => []
 | n + 1 => (⟨(m : Int) % 256, ((m + 1 : Nat) : Int) % 256⟩ : ILink) :: mlk (m + 2) n
theorem laws_markLinkS_ev (l : List ILink) (m : Nat) (hl : l.length ≤ 2097152) (h1 : m ≤ 1099511627776) : Ev (fun k => laws_markLinkS.f k l (m : Int)) (((m + 2 * l.length : Nat) : Int), mlk m l.length) := by
 unfold laws_markLinkS.f
 have key : ∀ (rest pre : List ILink) (m : Nat), pre.length + rest.length ≤ 2097152 → m + 2 * rest.length ≤ 2199023255552 → Ev (fun k => laws_markLinkS.l0 k (pre ++ rest) (m : Int) (pre.length : Int)) (((m + 2 * rest.length : Nat) : Int), pre ++ mlk m rest.length) := by
  intro rest
  induction rest with
  | nil =>
   intro pre m _ _
   refine Ev.succ ?_
   simp only [laws_markLinkS.l0, List.append_nil, Int.lt_irrefl, if_false]
   exact Ev.const (by simp [mlk])
  | cons x rest ih =>
   intro pre m h1 h2
   simp only [List.length_cons] at h1 h2
   refine Ev.succ ?_
   have e2 : rd_T109 ((pre ++ [(⟨(m : Int) % 256, x.f1⟩ : ILink)]) ++ rest) (pre.length : Int) = ⟨(m : Int) % 256, x.f1⟩ := by
    unfold rd_T109
    simp
   have e1 : rd_T109 (pre ++ x :: rest) (pre.length : Int) = x := by
    unfold rd_T109
    simp
   simp only [laws_markLinkS.l0, List.length_append, List.length_cons, if_pos (show (pre.length : Int) < ((pre.length + (rest.length + 1) : Nat) : Int) by omega), if_pos (show (0 : Int) ≤ pre.length by omega), Int.toNat_natCast, e1, set_mid, Option.bind_some, e2, wrap_succ (show m ≤ 4611686018427387903 by omega), wrap_succ (show m + 1 ≤ 4611686018427387903 by omega), wrap_succ (show pre.length ≤ 4611686018427387903 by omega)]
   rw [show ((pre ++ [(⟨(m : Int) % 256, x.f1⟩ : ILink)]) ++ rest).set pre.length ⟨(m : Int) % 256, ((m + 1 : Nat) : Int) % 256⟩ = (pre ++ [(⟨(m : Int) % 256, ((m + 1 : Nat) : Int) % 256⟩ : ILink)]) ++ rest by simp]
   have := ih (pre ++ [(⟨(m : Int) % 256, ((m + 1 : Nat) : Int) % 256⟩ : ILink)]) (m + 1 + 1) (by simp; omega) (by omega)
   rw [List.length_append, List.length_singleton] at this
   refine Ev.cast this ?_
   simp only [mlk, List.append_assoc, List.singleton_append, Prod.mk.injEq, and_true]
   omega
 have := key l [] m (by simpa using hl) (by omega)
 simpa using this

abbrev GC := S60

def mcrow (m : Nat) : List Nat → List GC
 | [] => []
 | n :: l => (⟨mlk m n⟩ : GC) :: mcrow (m + 2 * n) l
theorem laws_markCandidateS_ev (l : List GC) (m : Nat) (hl : l.length + 2 * totN (l.map fun x => (x.f0).length) ≤ 2097152) (h1 : m ≤ 8388608) : Ev (fun k => laws_markCandidateS.f k l (m : Int)) (((m + 2 * totN (l.map fun x => (x.f0).length) : Nat) : Int), mcrow m (l.map fun x => (x.f0).length)) := by
 unfold laws_markCandidateS.f
 have key : ∀ (rest pre : List GC) (m : Nat), pre.length + rest.length + 2 * totN (rest.map fun x => (x.f0).length) ≤ 2097152 → m + 2 * totN (rest.map fun x => (x.f0).length) ≤ 16777216 → Ev (fun k => laws_markCandidateS.l0 k (pre ++ rest) (m : Int) (pre.length : Int)) (((m + 2 * totN (rest.map fun x => (x.f0).length) : Nat) : Int), pre ++ mcrow m (rest.map fun x => (x.f0).length)) := by
  intro rest
  induction rest with
  | nil =>
   intro pre m _ _
   refine Ev.succ ?_
   simp only [laws_markCandidateS.l0, List.append_nil, Int.lt_irrefl, if_false]
   exact Ev.const (by simp [mcrow, totN])
  | cons x rest ih =>
   intro pre m h1 h2
   simp only [List.length_cons, List.map_cons, totN] at h1 h2
   refine Ev.succ ?_
   simp only [laws_markCandidateS.l0, List.length_append, List.length_cons, if_pos (show (pre.length : Int) < ((pre.length + (rest.length + 1) : Nat) : Int) by omega), if_pos (show (0 : Int) ≤ pre.length by omega), Int.toNat_natCast, get_mid]
   refine Ev.bind (laws_markLinkS_ev _ m (by omega) (by omega)) ?_
   simp only [set_mid, wrap_succ (show pre.length ≤ 4611686018427387903 by omega)]
   have := ih (pre ++ [(⟨mlk m x.f0.length⟩ : GC)]) (m + 2 * (x.f0).length) (by simp; omega) (by omega)
   rw [List.length_append, List.length_singleton] at this
   refine Ev.cast this ?_
   simp only [mcrow, totN, List.map_cons, List.append_assoc, List.singleton_append, Prod.mk.injEq, and_true]
   omega
 have := key l [] m (by simpa using hl) (by omega)
 simpa using this

theorem laws_markIntS_ev (l : List Int) (m : Int) (hl : l.length ≤ 2097152) (h0 : 0 ≤ m) (h1 : m ≤ 1099511627776) : Ev (fun k => laws_markIntS.f k l m) (m + l.length, idxs m l.length) := by
 unfold laws_markIntS.f
 have key : ∀ i, i ≤ l.length → Ev (fun k => laws_markIntS.l0 k (idxs m i ++ l.drop i) (m + (i : Int)) (i : Int)) (m + l.length, idxs m l.length) := by
  refine down_ind ?_ ?_
  · refine Ev.succ ?_
    have hlen : (idxs m l.length ++ l.drop l.length).length = l.length := by simp [idxs_length]
    simp only [laws_markIntS.l0, hlen, Int.lt_irrefl, if_false]
    exact Ev.const (by simp)
  · intro i hi ih
    refine Ev.succ ?_
    have hlen : (idxs m i ++ l.drop i).length = l.length := by rw [List.length_append, idxs_length, List.length_drop]; omega
    have hset : (idxs m i ++ l.drop i).set i (m + i) = idxs m (i + 1) ++ l.drop (i + 1) := by
     rw [List.set_append, idxs_length, if_neg (by omega), Nat.sub_self, drop_cons l i hi, List.set_cons_zero, idxs_snoc, List.append_assoc]
     rfl
    simp only [laws_markIntS.l0, hlen, if_pos (show (i : Int) < (l.length : Int) by omega), if_pos (show (0 : Int) ≤ i by omega), Int.toNat_natCast, hset, wrap_succ (show i ≤ 4611686018427387903 by omega), wrap_in (show -4611686018427387904 ≤ m + (i : Int) + 1 by omega) (show m + (i : Int) + 1 ≤ 4611686018427387904 by omega)]
    exact (show m + ((i + 1 : Nat) : Int) = m + (i : Int) + 1 by omega) ▸ ih
 have := key 0 (by omega)
 simpa [idxs] using this

theorem laws_heldIntS_ev (n : Nat) (m : Int) (hl : n ≤ 2097152) (h0 : 0 ≤ m) (h1 : m ≤ 1099511627776) : Ev (fun k => laws_heldIntS.f k (idxs m n) m) (m + n) := by
 unfold laws_heldIntS.f
 have key : ∀ i, i ≤ n → Ev (fun k => laws_heldIntS.l0 k (idxs m n) (m + (i : Int)) (i : Int)) (m + n) := by
  refine down_ind ?_ ?_
  · refine Ev.succ ?_
    simp only [laws_heldIntS.l0, idxs_length, Int.lt_irrefl, if_false]
    exact Ev.const rfl
  · intro i hi ih
    refine Ev.succ ?_
    have hi' : i < (idxs m n).length := by rw [idxs_length]; exact hi
    simp only [laws_heldIntS.l0, idxs_length, if_pos (show (i : Int) < (n : Int) by omega), if_pos (show (0 : Int) ≤ i by omega), rd_nat _ i hi', idxs_get, if_true, wrap_succ (show i ≤ 4611686018427387903 by omega), wrap_in (show -4611686018427387904 ≤ m + (i : Int) + 1 by omega) (show m + (i : Int) + 1 ≤ 4611686018427387904 by omega)]
    exact (show m + ((i + 1 : Nat) : Int) = m + (i : Int) + 1 by omega) ▸ ih
 have := key 0 (by omega)
 simpa using this

def mirow (m : Nat) : List Nat → List (List Int)
 | [] => []
 | n :: l => (idxs m n : (List Int)) :: mirow (m + 1 * n) l
theorem laws_markIntSS_ev (l : List (List Int)) (m : Nat) (hl : l.length + 1 * totN (l.map fun x => (x).length) ≤ 2097152) (h1 : m ≤ 8388608) : Ev (fun k => laws_markIntSS.f k l (m : Int)) (((m + 1 * totN (l.map fun x => (x).length) : Nat) : Int), mirow m (l.map fun x => (x).length)) := by
 unfold laws_markIntSS.f
 have key : ∀ (rest pre : List (List Int)) (m : Nat), pre.length + rest.length + 1 * totN (rest.map fun x => (x).length) ≤ 2097152 → m + 1 * totN (rest.map fun x => (x).length) ≤ 16777216 → Ev (fun k => laws_markIntSS.l0 k (pre ++ rest) (m : Int) (pre.length : Int)) (((m + 1 * totN (rest.map fun x => (x).length) : Nat) : Int), pre ++ mirow m (rest.map fun x => (x).length)) := by
  intro rest
  induction rest with
  | nil =>
   intro pre m _ _
   refine Ev.succ ?_
   simp only [laws_markIntSS.l0, List.append_nil, Int.lt_irrefl, if_false]
   exact Ev.const (by simp [mirow, totN])
  | cons x rest ih =>
   intro pre m h1 h2
   simp only [List.length_cons, List.map_cons, totN] at h1 h2
   refine Ev.succ ?_
   simp only [laws_markIntSS.l0, List.length_append, List.length_cons, if_pos (show (pre.length : Int) < ((pre.length + (rest.length + 1) : Nat) : Int) by omega), if_pos (show (0 : Int) ≤ pre.length by omega), Int.toNat_natCast, get_mid]
   refine Ev.bind (laws_markIntS_ev _ (m : Int) (by omega) (by omega) (by omega)) ?_
   simp only [set_mid, show (m : Int) + ((x).length : Int) = ((m + 1 * (x).length : Nat) : Int) by omega, wrap_succ (show pre.length ≤ 4611686018427387903 by omega)]
   have := ih (pre ++ [(idxs m x.length : (List Int))]) (m + 1 * (x).length) (by simp; omega) (by omega)
   rw [List.length_append, List.length_singleton] at this
   refine Ev.cast this ?_
   simp only [mirow, totN, List.map_cons, List.append_assoc, List.singleton_append, Prod.mk.injEq, and_true]
   omega
 have := key l [] m (by simpa using hl) (by omega)
 simpa using this

theorem totN_sum (l : List Nat) : totN l = l.sum := by
 induction l with
 | nil => rfl
 | cons a l ih => simp [totN, ih]
theorem laws_markTableau_ev (s : ByteArray) (n : List ByteArray) (r : List GC) (m : List (List Int)) (hn : n.length ≤ 1048576) (hr : r.length + totN (r.map fun x => (x.f0).length) ≤ 1048576) (hm : m.length + totN (m.map fun x => (x).length) ≤ 1048576) :
 ∃ q : Nat, q ≤ 8388608 ∧ Ev (fun k => laws_markTableau.f k s n r m 1) ((q : Int), (idxs 1 n.length).map mtx, mcrow (1 + n.length) (r.map fun x => (x.f0).length), mirow (1 + n.length + 2 * totN (r.map fun x => (x.f0).length)) (m.map fun x => (x).length)) := by
 refine ⟨1 + n.length + 2 * totN (r.map fun x => (x.f0).length) + 1 * totN (m.map fun x => (x).length), by omega, ?_⟩
 unfold laws_markTableau.f
 refine Ev.bind (laws_markStringS_ev n 1 (by omega) (by omega) (by omega)) ?_
 dsimp only
 rw [show (1 : Int) + (n.length : Int) = ((1 + n.length : Nat) : Int) by omega]
 exact Ev.bind (laws_markCandidateS_ev r (1 + n.length) (by omega) (by omega)) (Ev.bind (laws_markIntSS_ev m _ (by omega) (by omega)) (Ev.const rfl))

theorem FnExactDistinctProfiles : laws_FnExactDistinctProfiles.Pure := by
 intro s n r m hs hn hr hm
 refine Ev.rounds ?_
 unfold laws_FnExactDistinctProfiles.f
 obtain ⟨z, hz, h⟩ := laws_szTableau_ev s n r m hs hn hr hm
 refine Ev.bind hz ?_
 rcases h with h | ⟨⟨q, rfl, hq⟩, h⟩
 · simp only [if_pos h]
   exact Ev.const rfl
 · have ho := bdR hr (by have := h.2.2.1; omega)
   have hl : (r.map toC).length ≤ 1048576 := by rw [List.length_map]; have := h.2.2.1; omega
   have hn' : n.length ≤ 1048576 := by have := h.2.1; omega
   simp only [if_neg (show ¬ (q : Int) < 0 by omega)]
   have ht := laws_toTableau_ev s n r m h
   have hsp := spec_DistinctProfiles_ev s n (r.map toC) m h.1 hn' ho hl h.2.2.2
   have him := impl_DistinctProfiles_ev s n (r.map toC) m h.1 hn' ho hl h.2.2.2
   have hw : (distF s n (r.map toC) m).length ≤ 1048576 := Nat.le_trans (distF_length _ _ _ _) (by have := h.2.2.2; omega)
   obtain ⟨M, hM, hmt⟩ := laws_markTableau_ev s n (r.map toC) m hn' (by
    have e : totN ((r.map toC).map fun x => (x.f0).length) = lensC r := by
     rw [totN_sum, List.map_map]
     unfold lensC
     congr 1
     apply List.map_congr_left
     intro x _
     simp [toC]
    rw [e, List.length_map]
    exact h.2.2.1) (by
    rw [totN_sum]
    exact h.2.2.2)
   generalize distF s n (r.map toC) m = W at hsp him hw
   have hee := laws_eqIntS_ev W W hw
   refine Ev.bind ht (Ev.bind hsp (Ev.bind ht (Ev.bind him (Ev.bind hee ?_))))
   simp only [decide_true, if_true]
   refine Ev.bind ht (Ev.bind (laws_eqTableau_ev s n r m h ho) ?_)
   simp only [if_true]
   refine Ev.bind hmt ?_
   simp only [if_neg (show ¬ (M : Int) < 0 by omega)]
   refine Ev.bind hee ?_
   simp only [decide_true, if_true]
   have hh := laws_heldIntS_ev W.length 1 (by omega) (by omega) (by omega)
   refine Ev.bind (laws_markIntS_ev W 1 (by omega) (by omega) (by omega)) (Ev.bind hh ?_)
   simp only [if_neg (show ¬ (1 + (W.length : Int)) < 0 by omega), if_true]
   refine Ev.bind ht (Ev.bind him (Ev.bind hee ?_))
   simp only [decide_true, if_true]
   refine Ev.bind hh ?_
   simp only [if_neg (show ¬ (1 + (W.length : Int)) < 0 by omega), if_true]
   exact Ev.const rfl

end Go.Proofs.YtlmfpkiaikjlbaaGreat.Pure
