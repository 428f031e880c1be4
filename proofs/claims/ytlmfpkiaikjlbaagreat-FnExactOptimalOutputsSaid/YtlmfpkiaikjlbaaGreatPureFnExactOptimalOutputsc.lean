/- The pure statement of the law FnExactOptimalOutputs: for all arguments within bounds its printed function answers true. -/
import Derived.Test.YtlmfpkiaikjlbaaGreatPFnExactOptimalOutputsx
import Derived.Test.YtlmfpkiaikjlbaaGreatUFnExactOptimalOutputs
import Derived.Test.YtlmfpkiaikjlbaaGreatPureFnExactOptimalOutputsb
namespace Go.Proofs.YtlmfpkiaikjlbaaGreat.Pure
open Go.RowKit Go.Proofs.YtlmfpkiaikjlbaaGreatB Go.Proofs.YtlmfpkiaikjlbaaGreat.PFnExactOptimalOutputs Go.Proofs.YtlmfpkiaikjlbaaGreatW.PrintWords Go.Proofs.YtlmfpkiaikjlbaaGreatW.PrintLast Go.Proofs.YtlmfpkiaikjlbaaGreatW.PrintMore
set_option linter.unusedVariables false
set_option linter.unusedSimpArgs false

theorem strict_rank (l s : List Int) (n : Int) (hp : s.Perm l) (hs : asc s) : allFrom (strictAt s n) s.length 0 = allFrom (rankAt l n) l.length 0 := by
 have hasc := List.pairwise_iff_getElem.1 hs
 rw [Bool.eq_iff_iff, allFrom_iff, allFrom_iff]
 have A : (∀ j, 0 ≤ j → j < s.length → strictAt s n j = true) ↔ ((∀ x ∈ s, 0 ≤ x ∧ x < n) ∧ s.Nodup) := by
  constructor
  · intro h
    have h' : ∀ j (hj : j < s.length), (0 ≤ s[j] ∧ s[j] ≤ n - 1) ∧ (j = 0 ∨ s.getD (j - 1) 0 < s[j]) := by
     intro j hj
     have := h j (by omega) hj
     rw [strictAt, getD_in s j hj] at this
     simpa using this
    refine ⟨?_, ?_⟩
    · intro x hx
      obtain ⟨j, hj, rfl⟩ := List.mem_iff_getElem.1 hx
      have := (h' j hj).1
      omega
    · refine List.pairwise_iff_getElem.2 ?_
      intro i j hi hj hij
      have h2 := (h' j hj).2
      rcases h2 with h2 | h2
      · omega
      · rw [getD_in s (j - 1) (by omega)] at h2
        by_cases he : i = j - 1
        · subst he
          omega
        · have := hasc i (j - 1) hi (by omega) (by omega)
          omega
  · rintro ⟨h1, h2⟩ j _ hj
    have h2' := List.pairwise_iff_getElem.1 h2
    have h3 := h1 s[j] (List.getElem_mem hj)
    rw [strictAt, getD_in s j hj]
    simp only [Bool.and_eq_true, Bool.or_eq_true, decide_eq_true_eq]
    refine ⟨by omega, ?_⟩
    by_cases h0 : j = 0
    · exact .inl h0
    · refine .inr ?_
      rw [getD_in s (j - 1) (by omega)]
      have a := hasc (j - 1) j (by omega) hj (by omega)
      have b := h2' (j - 1) j (by omega) hj (by omega)
      omega
 have Bq : (∀ j, 0 ≤ j → j < l.length → rankAt l n j = true) ↔ ((∀ x ∈ l, 0 ≤ x ∧ x < n) ∧ l.Nodup) := by
  have e : ∀ j (hj : j < l.length), rankAt l n j = true ↔ ((0 ≤ l[j] ∧ l[j] < n) ∧ ∀ i (hi : i < j), l[i]'(by omega) ≠ l[j]) := by
   intro j hj
   rw [rankAt, getD_in l j hj]
   simp only [Bool.and_eq_true, decide_eq_true_eq, Bool.not_eq_true', and_assoc]
   refine and_congr Iff.rfl (and_congr Iff.rfl ?_)
   rw [← Bool.not_eq_true, List.contains_iff_mem, List.mem_take_iff_getElem]
   constructor
   · intro h i hi e
     exact h ⟨i, by omega, e⟩
   · rintro h ⟨i, hi, e⟩
     exact h i (by omega) e
  constructor
  · intro h
    refine ⟨?_, ?_⟩
    · intro x hx
      obtain ⟨j, hj, rfl⟩ := List.mem_iff_getElem.1 hx
      exact ((e j hj).1 (h j (by omega) hj)).1
    · refine List.pairwise_iff_getElem.2 ?_
      intro i j hi hj hij
      exact ((e j hj).1 (h j (by omega) hj)).2 i hij
  · rintro ⟨h1, h2⟩ j _ hj
    have h2' := List.pairwise_iff_getElem.1 h2
    exact (e j hj).2 ⟨h1 _ (List.getElem_mem hj), fun i hi => h2' i j (by omega) hj hi⟩
 rw [A, Bq, hp.nodup_iff]
 exact and_congr ⟨fun h x hx => h x (hp.mem_iff.2 hx), fun h x hx => h x (hp.mem_iff.1 hx)⟩ Iff.rfl
theorem impl_IsRanking_ev (l : List Int) (n : Int) (hl : l.length ≤ 140737488351232) : Ev (fun k => impl_IsRanking.f k l n) (rank l n) := by
 unfold impl_IsRanking.f rank
 simp only [impl_within_eq, Option.bind_some]
 by_cases h : 1 ≤ n ∧ n ≤ 5
 · simp only [h, decide_true, if_true, Bool.true_and]
   by_cases hn : (l.length : Int) = n
   · simp only [if_pos hn, hn, decide_true, Bool.and_true]
     obtain ⟨s, he, hp, hs⟩ := insertionSort_ev l (by omega) (by omega)
     rw [hn] at he
     refine Ev.bind he ?_
     rw [← strict_rank l s n hp hs, show decide (True ∧ True) = true by decide, Bool.and_true]
     exact impl_isStrict_ev s n (by rw [hp.length_eq]; exact hl) (by omega)
   · simp only [if_neg hn, hn, decide_false, Bool.and_false]
     exact Ev.const rfl
 · simp only [h, decide_false, Bool.false_eq_true, if_false, Bool.false_and, Bool.and_false]
   exact Ev.const rfl

def cmpL (a b : List Int) : List Int → Int
 | [] => 0
 | k :: r => if rd a k < rd b k then -1 else if rd a k > rd b k then 1 else cmpL a b r
def cmpM (a b r : List Int) : Int := if rank r a.length = true ∧ a.length = b.length then cmpL a b r else 0
theorem spec_CompareMarks_ev (a b r : List Int) (ha : a.length ≤ 140737488351232) (hr : r.length ≤ 140737488351232) : Ev (fun k => spec_CompareMarks.f k a b r) (cmpM a b r) := by
 unfold spec_CompareMarks.f cmpM
 refine Ev.bind (spec_IsRanking_ev r _ hr) ?_
 cases hk : rank r a.length
 · simp only [Bool.false_eq_true, if_false, false_and]
   refine Ev.succ ?_
   simp only [spec_CompareMarks.j0, if_true]
   exact Ev.const rfl
 · simp only [if_true, true_and]
   by_cases hab : a.length = b.length
   · simp only [if_pos hab, show ((a.length : Int) != (b.length : Int)) = false by rw [hab]; exact bne_self_eq_false _]
     refine Ev.succ ?_
     simp only [spec_CompareMarks.j0, Bool.false_eq_true, if_false]
     have key : ∀ i, i ≤ r.length → Ev (fun k => spec_CompareMarks.l0 k a b r (i : Int)) (cmpL a b (r.drop i)) := by
      refine down_ind ?_ ?_
      · refine Ev.succ ?_
        simp only [spec_CompareMarks.l0, Int.lt_irrefl, if_false]
        exact Ev.const (by simp [cmpL])
      · intro i hi ih
        have hg := rank_get hk i hi
        refine Ev.succ ?_
        simp only [spec_CompareMarks.l0, if_pos (show (i : Int) < (r.length : Int) by omega), if_pos (show (0 : Int) ≤ i by omega), rd_nat r i hi, if_pos hg.1, if_pos hg.2, if_pos (show r[i] < (b.length : Int) by omega), wrap_succ (show i ≤ 4611686018427387903 by omega)]
        rw [drop_cons r i hi, cmpL]
        by_cases h1 : rd a r[i] < rd b r[i]
        · simp only [if_pos h1]
          exact Ev.const rfl
        · by_cases h2 : rd a r[i] > rd b r[i]
          · simp only [if_neg h1, if_pos h2]
            exact Ev.const rfl
          · simp only [if_neg h1, if_neg h2]
            exact ih
     exact key 0 (by omega)
   · simp only [if_neg hab, show ((a.length : Int) != (b.length : Int)) = true by rw [bne_iff_ne]; omega]
     refine Ev.succ ?_
     simp only [spec_CompareMarks.j0, if_true]
     exact Ev.const rfl
theorem impl_CompareMarks_ev (a b r : List Int) (ha : a.length ≤ 140737488351232) (hr : r.length ≤ 140737488351232) : Ev (fun k => impl_CompareMarks.f k a b r) (cmpM a b r) := by
 unfold impl_CompareMarks.f cmpM
 by_cases hab : a.length = b.length
 · simp only [if_pos (show (a.length : Int) = (b.length : Int) by omega), hab, and_true]
   rw [← hab]
   refine Ev.bind (impl_IsRanking_ev r _ hr) ?_
   cases hk : rank r a.length
   · simp only [Bool.false_eq_true, if_false, Bool.not_false]
     refine Ev.succ ?_
     simp only [impl_CompareMarks.j0, if_true]
     exact Ev.const rfl
   · simp only [if_true, Bool.not_true]
     refine Ev.succ ?_
     simp only [impl_CompareMarks.j0, Bool.false_eq_true, if_false]
     have key : ∀ i, i ≤ r.length → Ev (fun k => impl_CompareMarks.l0 k a b r (r.length : Int) (i : Int)) (cmpL a b (r.drop i)) := by
      refine down_ind ?_ ?_
      · refine Ev.succ ?_
        simp only [impl_CompareMarks.l0, Int.lt_irrefl, if_false]
        exact Ev.const (by simp [cmpL])
      · intro i hi ih
        have hg := rank_get hk i hi
        refine Ev.succ ?_
        simp only [impl_CompareMarks.l0, if_pos (show (i : Int) < (r.length : Int) by omega), if_pos (show (0 : Int) ≤ i by omega), rd_nat r i hi, if_pos hg.1, if_pos hg.2, if_pos (show r[i] < (b.length : Int) by omega), wrap_succ (show i ≤ 4611686018427387903 by omega)]
        rw [drop_cons r i hi, cmpL]
        by_cases h1 : rd a r[i] < rd b r[i]
        · simp only [if_pos h1]
          exact Ev.const rfl
        · by_cases h2 : rd a r[i] > rd b r[i]
          · simp only [if_neg h1, if_pos h2]
            exact Ev.const rfl
          · simp only [if_neg h1, if_neg h2]
            exact ih
     exact key 0 (by omega)
 · simp only [if_neg (show ¬ (a.length : Int) = (b.length : Int) by omega), hab, and_false, if_false]
   refine Ev.succ ?_
   simp only [impl_CompareMarks.j0, if_true]
   exact Ev.const rfl

theorem cmpL_refl (a r : List Int) : cmpL a a r = 0 := by
 induction r with
 | nil => rfl
 | cons k r ih => simp [cmpL, ih]
theorem cmpL_anti (a b r : List Int) : cmpL a b r = - cmpL b a r := by
 induction r with
 | nil => rfl
 | cons k r ih =>
  simp only [cmpL]
  rcases Int.lt_trichotomy (rd a k) (rd b k) with h | h | h
  · rw [if_pos h, if_neg (by omega), if_pos h]
  · rw [if_neg (by omega), if_neg (by omega), if_neg (by omega), if_neg (by omega), ih]
  · rw [if_neg (by omega), if_pos h, if_pos h]
    rfl
theorem cmpL_trans (a b c r : List Int) (h1 : cmpL a b r ≤ 0) (h2 : cmpL b c r ≤ 0) : cmpL a c r ≤ 0 := by
 induction r with
 | nil => exact Int.le_refl _
 | cons k r ih =>
  simp only [cmpL] at h1 h2 ⊢
  by_cases x1 : rd a k < rd b k
  · by_cases y1 : rd b k > rd c k
    · rw [if_neg (by omega), if_pos y1] at h2
      omega
    · rw [if_pos (by omega)]
      decide
  · rw [if_neg x1] at h1
    by_cases x2 : rd a k > rd b k
    · rw [if_pos x2] at h1
      omega
    · rw [if_neg x2] at h1
      by_cases y0 : rd b k < rd c k
      · rw [if_pos (by omega)]
        decide
      · rw [if_neg y0] at h2
        by_cases y1 : rd b k > rd c k
        · rw [if_pos y1] at h2
          omega
        · rw [if_neg y1] at h2
          rw [if_neg (by omega), if_neg (by omega)]
          exact ih h1 h2

def fW (m : List (List Int)) (rk : List Int) (i k : Nat) : Int := cmpL (m.getD i []) (m.getD k []) rk
theorem fW_pre (m : List (List Int)) (rk : List Int) : Pre (fW m rk) := ⟨fun _ => cmpL_refl _ _, fun _ _ => cmpL_anti _ _ _, fun _ _ _ => cmpL_trans _ _ _ _⟩
def bestW (m : List (List Int)) (rk : List Int) (N i : Nat) : Bool := (List.range N).all fun k => decide (fW m rk i k ≤ 0)
def restW (m : List (List Int)) (rk : List Int) (N i : Nat) : List Int := ((List.range' i (N - i)).filter (bestW m rk N)).map fun j : Nat => (j : Int)
theorem restW_end (m : List (List Int)) (rk : List Int) (N : Nat) : restW m rk N N = [] := by simp [restW]
theorem restW_step (m : List (List Int)) (rk : List Int) {N i : Nat} (h : i < N) : restW m rk N i = (if bestW m rk N i = true then [(i : Int)] else []) ++ restW m rk N (i + 1) := by
 unfold restW
 obtain ⟨d, hd⟩ : ∃ d, N - i = d + 1 := ⟨N - i - 1, by omega⟩
 rw [hd, List.range'_succ, List.filter_cons, show N - (i + 1) = d by omega]
 by_cases hb : bestW m rk N i = true <;> simp [hb]
theorem restW_all (m : List (List Int)) (rk : List Int) (N : Nat) : restW m rk N 0 = (win (fW m rk) N).map fun j : Nat => (j : Int) := by
 unfold restW win
 rw [Nat.sub_zero, ← List.range_eq_range']
 rfl
theorem bestW_from (m : List (List Int)) (rk : List Int) (N i : Nat) : bestW m rk N i = allFrom (fun k => decide (fW m rk i k ≤ 0)) N 0 := by
 unfold bestW allFrom
 rw [Nat.sub_zero, ← List.range_eq_range']
def winsI (s : ByteArray) (n : List ByteArray) (r : List ICand) (m : List (List Int)) (rk : List Int) : List Int := if isTab s n r m = true ∧ rank rk (n.length : Int) = true then (win (fW m rk) m.length).map (fun j : Nat => (j : Int)) else []
theorem cmp_fW {n : List ByteArray} {m : List (List Int)} {rk : List Int} (hl : ∀ i (hi : i < m.length), m[i].length = n.length) (hk : rank rk (n.length : Int) = true) (i k : Nat) (hi : i < m.length) (hq : k < m.length) : cmpM m[i] m[k] rk = fW m rk i k := by
 unfold cmpM fW
 rw [if_pos ⟨by rw [hl i hi]; exact hk, by rw [hl i hi, hl k hq]⟩]
 simp [hi, hq]
theorem win_length (f : Nat → Nat → Int) (i : Nat) : (win f i).length ≤ i := by
 unfold win
 exact Nat.le_trans (List.length_filter_le _ _) (by simp)
theorem spec_WinnersOf_ev (s : ByteArray) (n : List ByteArray) (r : List ICand) (m : List (List Int)) (rk : List Int) (hs : s.size ≤ 1048576) (hn : n.length ≤ 1048576) (hr : okR r) (hrl : r.length ≤ 1048576) (hm : m.length + lensII m ≤ 1048576) (hk : rk.length ≤ 1048576) : Ev (fun k => spec_WinnersOf.f k s n r m rk) (winsI s n r m rk) := by
 unfold spec_WinnersOf.f
 simp only [Option.bind_some]
 refine Ev.bind (spec_IsTableau_ev s n r m hs hn hr hrl hm) ?_
 have bad : ∀ b, b = true → Ev (fun k => spec_WinnersOf.j0 k rk [] b s n r m) ([] : List Int) := by
  rintro b rfl
  refine Ev.succ ?_
  simp only [spec_WinnersOf.j0, if_true]
  exact Ev.const rfl
 by_cases ht : isTab s n r m = true
 · simp only [ht, if_true]
   refine Ev.bind (spec_IsRanking_ev rk _ (by omega)) ?_
   by_cases hq : rank rk (n.length : Int) = true
   · obtain ⟨hml, hr1, hr2, hl⟩ := isTab_len ht
     unfold winsI
     rw [if_pos ⟨ht, hq⟩]
     simp only [hq, Bool.not_true]
     refine Ev.succ ?_
     simp only [spec_WinnersOf.j0, Bool.false_eq_true, if_false]
     have key : ∀ i, i ≤ m.length → ∀ acc : List Int, acc.length ≤ i → Ev (fun k => spec_WinnersOf.l0 k rk acc (i : Int) s n r m) (acc ++ restW m rk m.length i) := by
      refine down_ind ?_ ?_
      · intro acc _
        refine Ev.succ ?_
        simp only [spec_WinnersOf.l0, hml, Int.lt_irrefl, if_false]
        exact Ev.const (by rw [← hml, restW_end, List.append_nil])
      · intro i hi ih acc ha
        refine Ev.succ ?_
        simp only [spec_WinnersOf.l0, if_pos (show (i : Int) < (r.length : Int) by omega)]
        have inner : ∀ q, q ≤ m.length → ∀ b : Bool, Ev (fun k => spec_WinnersOf.l1 k rk acc (i : Int) b (q : Int) s n r m) (acc ++ ((if b = true ∧ allFrom (fun k => decide (fW m rk i k ≤ 0)) m.length q = true then [(i : Int)] else []) ++ restW m rk m.length (i + 1))) := by
         refine down_ind ?_ ?_
         · intro b
           refine Ev.succ ?_
           simp only [spec_WinnersOf.l1, hml, Int.lt_irrefl, if_false]
           rw [← hml]
           cases b
           · simp only [Bool.false_eq_true, if_false, false_and, wrap_succ (show i ≤ 4611686018427387903 by omega), List.nil_append]
             exact ih acc (by omega)
           · simp only [if_true, allFrom_end _ (Nat.le_refl _), and_self, if_pos (show acc.length < 17592186044416 by omega), wrap_succ (show i ≤ 4611686018427387903 by omega)]
             refine Ev.cast (ih (acc ++ [(i : Int)]) (by simp; omega)) ?_
             simp
         · intro q hqi ihq b
           refine Ev.succ ?_
           simp only [spec_WinnersOf.l1, if_pos (show (q : Int) < (r.length : Int) by omega)]
           cases b
           · simp only [Bool.false_eq_true, if_false, false_and, wrap_succ (show i ≤ 4611686018427387903 by omega), List.nil_append]
             exact ih acc (by omega)
           · simp only [if_true, if_pos (show (0 : Int) ≤ i by omega), if_pos (show (i : Int) < (m.length : Int) by omega), if_pos (show (0 : Int) ≤ q by omega), if_pos (show (q : Int) < (m.length : Int) by omega), rdII m i hi, rdII m q hqi]
             refine Ev.bind (spec_CompareMarks_ev _ _ _ (by have := lensII_get m i hi; omega) (by omega)) ?_
             rw [cmp_fW hl hq i q hi hqi]
             simp only [wrap_succ (show q ≤ 4611686018427387903 by omega)]
             refine Ev.cast (ihq (decide (fW m rk i q ≤ 0))) ?_
             rw [allFrom_step _ hqi]
             simp only [Bool.and_eq_true, true_and]
        refine Ev.cast (inner 0 (by omega) true) ?_
        rw [restW_step m rk hi, bestW_from]
        simp only [true_and]
     refine Ev.cast (key 0 (by omega) [] (by simp)) ?_
     rw [restW_all, List.nil_append]
   · unfold winsI
     rw [if_neg (fun h => hq h.2)]
     refine bad _ ?_
     cases h : rank rk (n.length : Int)
     · rfl
     · exact absurd h hq
 · unfold winsI
   rw [if_neg (fun h => ht h.1)]
   simp only [ht, Bool.false_eq_true, if_false]
   exact bad true rfl
theorem impl_WinnersOf_ev (s : ByteArray) (n : List ByteArray) (r : List ICand) (m : List (List Int)) (rk : List Int) (hs : s.size ≤ 1048576) (hn : n.length ≤ 1048576) (hr : okR r) (hrl : r.length ≤ 1048576) (hm : m.length + lensII m ≤ 1048576) (hk : rk.length ≤ 1048576) : Ev (fun k => impl_WinnersOf.f k s n r m rk) (winsI s n r m rk) := by
 unfold impl_WinnersOf.f
 refine Ev.bind (impl_IsTableau_ev s n r m hs hn hr hrl hm) ?_
 have bad : ∀ b, b = true → Ev (fun k => impl_WinnersOf.j0 k rk b s n r m) ([] : List Int) := by
  rintro b rfl
  refine Ev.succ ?_
  simp only [impl_WinnersOf.j0, if_true]
  exact Ev.const rfl
 by_cases ht : isTab s n r m = true
 · simp only [ht, if_true]
   refine Ev.bind (impl_IsRanking_ev rk _ (by omega)) ?_
   by_cases hq : rank rk (n.length : Int) = true
   · obtain ⟨hml, hr1, hr2, hl⟩ := isTab_len ht
     unfold winsI
     rw [if_pos ⟨ht, hq⟩]
     simp only [hq, Bool.not_true]
     refine Ev.succ ?_
     simp only [impl_WinnersOf.j0, Bool.false_eq_true, if_false]
     have key : ∀ i, i ≤ m.length → Ev (fun k => impl_WinnersOf.l0 k rk ((win (fW m rk) i).map fun j : Nat => (j : Int)) m (m.length : Int) (i : Int) s n r m) ((win (fW m rk) m.length).map fun j : Nat => (j : Int)) := by
      refine down_ind ?_ ?_
      · refine Ev.succ ?_
        simp only [impl_WinnersOf.l0, Int.lt_irrefl, if_false]
        exact Ev.const rfl
      · intro i hi ih
        have hnx := (win_next (fW_pre m rk) i).1
        have hmem : ∀ j ∈ win (fW m rk) i, j < i := fun j hj => (win_mem.1 hj).1
        have hwl := win_length (fW m rk) i
        refine Ev.succ ?_
        simp only [impl_WinnersOf.l0, if_pos (show (i : Int) < (m.length : Int) by omega), if_pos (show (0 : Int) ≤ i by omega), rdII m i hi]
        rw [hnx] at ih
        generalize hw : win (fW m rk) i = W at ih hmem hwl ⊢
        cases W with
        | nil =>
         simp only [List.map_nil, List.length_nil, Int.natCast_zero, Int.ofNat_eq_natCast, if_neg (show ¬ (0 : Int) > 0 by decide)]
         refine Ev.succ ?_
         simp only [impl_WinnersOf.j2, Bool.false_eq_true, if_false, List.length_nil, Int.natCast_zero, Int.ofNat_eq_natCast, if_true, if_pos (show 0 < 17592186044416 by decide), wrap_succ (show i ≤ 4611686018427387903 by omega), List.nil_append]
         simpa [winNext] using ih
        | cons w0 ws =>
         have h0 : w0 < i := hmem w0 List.mem_cons_self
         have hw0 : w0 < m.length := by omega
         simp only [List.length_cons] at hwl
         have e0 : rd (((w0 :: ws).map fun j : Nat => (j : Int))) 0 = (w0 : Int) := by simp [rd]
         simp only [List.length_map, List.length_cons, if_pos (show ((ws.length + 1 : Nat) : Int) > 0 by omega), if_pos (show (0 : Int) < ((ws.length + 1 : Nat) : Int) by omega), e0, if_pos (show (0 : Int) ≤ w0 by omega), if_pos (show (w0 : Int) < (m.length : Int) by omega), rdII m w0 hw0]
         refine Ev.bind (impl_CompareMarks_ev _ _ _ (by have := lensII_get m i hi; omega) (by omega)) ?_
         rw [cmp_fW hl hq i w0 hi hw0]
         refine Ev.succ ?_
         by_cases hlt : fW m rk i w0 < 0
         · simp only [impl_WinnersOf.j2, decide_eq_true hlt, if_true, List.length_map, List.length_cons, if_pos (show (0 : Int) ≤ ((ws.length + 1 : Nat) : Int) by omega), Int.toNat_zero, List.take_zero, Option.bind_some, List.length_nil, Int.natCast_zero, Int.ofNat_eq_natCast, if_pos (show 0 < 17592186044416 by decide), wrap_succ (show i ≤ 4611686018427387903 by omega), List.nil_append]
           simpa [winNext, hlt] using ih
         · simp only [impl_WinnersOf.j2, decide_eq_false hlt, Bool.false_eq_true, if_false, List.length_map, List.length_cons, if_neg (show ¬ ((ws.length + 1 : Nat) : Int) = 0 by omega), if_pos (show (0 : Int) < ((ws.length + 1 : Nat) : Int) by omega), e0, if_pos (show (0 : Int) ≤ w0 by omega), if_pos (show (w0 : Int) < (m.length : Int) by omega), rdII m w0 hw0]
           refine Ev.bind (impl_CompareMarks_ev _ _ _ (by have := lensII_get m i hi; omega) (by omega)) ?_
           rw [cmp_fW hl hq i w0 hi hw0]
           by_cases hz : fW m rk i w0 = 0
           · simp only [hz, if_true, if_pos (show ws.length + 1 < 17592186044416 by omega), wrap_succ (show i ≤ 4611686018427387903 by omega)]
             simpa [winNext, hz] using ih
           · simp only [hz, if_false, wrap_succ (show i ≤ 4611686018427387903 by omega)]
             simpa [winNext, hlt, hz] using ih
     have hk0 := key 0 (by omega)
     simpa [win] using hk0
   · unfold winsI
     rw [if_neg (fun h => hq h.2)]
     refine bad _ ?_
     cases h : rank rk (n.length : Int)
     · rfl
     · exact absurd h hq
 · unfold winsI
   rw [if_neg (fun h => ht h.1)]
   simp only [ht, Bool.false_eq_true, if_false]
   exact bad true rfl

def addS (l : List ByteArray) (x : ByteArray) : List ByteArray := if x ∈ l then l else l ++ [x]
theorem addS_length (l : List ByteArray) (x : ByteArray) : (addS l x).length ≤ l.length + 1 := by
 unfold addS
 split
 · omega
 · simp
theorem impl_addOnce_ev (l : List ByteArray) (x : ByteArray) (hl : l.length ≤ 1000000) : Ev (fun k => impl_addOnce.f k l x) (addS l x) := by
 unfold impl_addOnce.f addS
 refine Ev.bind (slices_Contains_string_ev l x (by omega)) ?_
 by_cases h : x ∈ l
 · simp only [decide_eq_true h, if_true, h]
   exact Ev.const rfl
 · simp only [decide_eq_false h, Bool.false_eq_true, if_false, h, if_pos (show l.length < 8796093022208 by omega)]
   exact Ev.const rfl

def outW (r : List ICand) : List Int → List ByteArray → List ByteArray
 | [], acc => acc
 | w :: W, acc => outW r W (addS acc (outS (rd_T60 r w).f0))
theorem outW_length (r : List ICand) (W : List Int) (acc : List ByteArray) : (outW r W acc).length ≤ acc.length + W.length := by
 induction W generalizing acc with
 | nil => exact Nat.le_refl _
 | cons c L ih =>
  have := ih (addS acc (outS (rd_T60 r c).f0))
  have := addS_length acc (outS (rd_T60 r c).f0)
  simp only [outW, List.length_cons]
  omega
theorem winsI_in (s : ByteArray) (n : List ByteArray) (r : List ICand) (m : List (List Int)) (rk : List Int) : ∀ w ∈ winsI s n r m rk, 0 ≤ w ∧ w < (r.length : Int) := by
 intro w hw
 unfold winsI at hw
 split at hw
 · rename_i h
   rw [List.mem_map] at hw
   obtain ⟨j, hj, rfl⟩ := hw
   have h1 := (isTab_len h.1).1
   have h2 : j < m.length := by
    unfold win at hj
    exact List.mem_range.1 (List.mem_filter.1 hj).1
   omega
 · cases hw
theorem rdW {r : List ICand} (ho : okR r) {w : Int} (h : 0 ≤ w ∧ w < (r.length : Int)) : (∀ y ∈ (rd_T60 r w).f0, okB y) ∧ (rd_T60 r w).f0.length ≤ 1048576 := by
 obtain ⟨j, rfl⟩ := Int.eq_ofNat_of_zero_le h.1
 have hj : j < r.length := by omega
 rw [rdIC r j hj]
 exact ho _ (List.getElem_mem hj)
theorem spec_OptimalOutputs_ev (s : ByteArray) (n : List ByteArray) (r : List ICand) (m : List (List Int)) (rk : List Int) (hs : s.size ≤ 1048576) (hn : n.length ≤ 1048576) (hr : okR r) (hrl : r.length ≤ 1048576) (hm : m.length + lensII m ≤ 1048576) (hk : rk.length ≤ 1048576) (hw : (winsI s n r m rk).length ≤ 1000000) : Ev (fun k => spec_OptimalOutputs.f k s n r m rk) (outW r (winsI s n r m rk) []) := by
 unfold spec_OptimalOutputs.f
 refine Ev.bind (spec_WinnersOf_ev s n r m rk hs hn hr hrl hm hk) ?_
 have hin := winsI_in s n r m rk
 generalize winsI s n r m rk = W at hw hin ⊢
 have key : ∀ i, i ≤ W.length → ∀ acc : List ByteArray, acc.length ≤ i → Ev (fun k => spec_OptimalOutputs.l0 k acc W (i : Int) s n r m) (outW r (W.drop i) acc) := by
  refine down_ind ?_ ?_
  · intro acc _
    refine Ev.succ ?_
    simp only [spec_OptimalOutputs.l0, Int.lt_irrefl, if_false]
    exact Ev.const (by simp [outW])
  · intro i hi ih acc ha
    have h1 := hin W[i] (List.getElem_mem hi)
    have h2 := rdW hr h1
    refine Ev.succ ?_
    simp only [spec_OptimalOutputs.l0, if_pos (show (i : Int) < (W.length : Int) by omega), if_pos (show (0 : Int) ≤ i by omega), rd_nat W i hi, if_pos h1.1, if_pos h1.2, wrap_succ (show i ≤ 4611686018427387903 by omega)]
    refine Ev.bind (spec_OutputOf_ev _ h2.2 h2.1) (Ev.bind (spec_l3Has_ev acc _ (by omega)) ?_)
    rw [drop_cons W i hi, outW]
    unfold addS
    by_cases h : outS (rd_T60 r W[i]).f0 ∈ acc
    · simp only [decide_eq_true h, if_true, h]
      exact ih acc (by omega)
    · simp only [decide_eq_false h, Bool.false_eq_true, if_false, h, if_pos (show acc.length < 8796093022208 by omega)]
      exact ih _ (by simp; omega)
 exact key 0 (by omega) [] (by simp)
theorem impl_OptimalOutputs_ev (s : ByteArray) (n : List ByteArray) (r : List ICand) (m : List (List Int)) (rk : List Int) (hs : s.size ≤ 1048576) (hn : n.length ≤ 1048576) (hr : okR r) (hrl : r.length ≤ 1048576) (hm : m.length + lensII m ≤ 1048576) (hk : rk.length ≤ 1048576) (hw : (winsI s n r m rk).length ≤ 1000000) : Ev (fun k => impl_OptimalOutputs.f k s n r m rk) (outW r (winsI s n r m rk) []) := by
 unfold impl_OptimalOutputs.f
 refine Ev.bind (impl_WinnersOf_ev s n r m rk hs hn hr hrl hm hk) ?_
 refine Ev.bind (r := outW r (winsI s n r m rk) []) ?_ (Ev.const rfl)
 unfold impl_outputs.f
 have hin := winsI_in s n r m rk
 generalize winsI s n r m rk = W at hw hin ⊢
 have key : ∀ i, i ≤ W.length → ∀ acc : List ByteArray, acc.length ≤ i → Ev (fun k => impl_outputs.l0 k acc W (W.length : Int) (i : Int) s n r m) (outW r (W.drop i) acc) := by
  refine down_ind ?_ ?_
  · intro acc _
    refine Ev.succ ?_
    simp only [impl_outputs.l0, Int.lt_irrefl, if_false]
    exact Ev.const (by simp [outW])
  · intro i hi ih acc ha
    have h1 := hin W[i] (List.getElem_mem hi)
    have h2 := rdW hr h1
    refine Ev.succ ?_
    simp only [impl_outputs.l0, if_pos (show (i : Int) < (W.length : Int) by omega), if_pos (show (0 : Int) ≤ i by omega), rd_nat W i hi, if_pos h1.1, if_pos h1.2, wrap_succ (show i ≤ 4611686018427387903 by omega)]
    refine Ev.bind (impl_OutputOf_ev _ h2.2 h2.1) (Ev.bind (impl_addOnce_ev acc _ (by omega)) ?_)
    rw [drop_cons W i hi, outW]
    exact ih _ (by have := addS_length acc (outS (rd_T60 r W[i]).f0); omega)
 exact key 0 (by omega) [] (by simp)
theorem winsI_small (s : ByteArray) (n : List ByteArray) (r : List ICand) (m : List (List Int)) (rk : List Int) : (winsI s n r m rk).length ≤ 250 := by
 unfold winsI
 split
 · rename_i h
   have h1 := isTab_len h.1
   rw [List.length_map]
   have := win_length (fW m rk) m.length
   omega
 · exact Nat.zero_le _

theorem laws_toStringS_ev (l : List ByteArray) (hl : l.length ≤ 1048576) : Ev (fun k => laws_toStringS.f k l) l := by
 unfold laws_toStringS.f
 simp only [if_pos (show (0 : Int) ≤ (l.length : Int) by omega), Int.toNat_natCast, if_pos (show l.length ≤ 17592186044416 by omega)]
 have key : ∀ i, i ≤ l.length → Ev (fun k => laws_toStringS.l0 k l (l.take i ++ List.replicate (l.length - i) (⟨#[]⟩ : ByteArray)) (i : Int)) l := by
  refine down_ind ?_ ?_
  · refine Ev.succ ?_
    simp only [laws_toStringS.l0, Int.lt_irrefl, if_false]
    exact Ev.const (by simp)
  · intro i hi ih
    refine Ev.succ ?_
    have hlen : (l.take i ++ List.replicate (l.length - i) (⟨#[]⟩ : ByteArray)).length = l.length := by simp; omega
    simp only [laws_toStringS.l0, hlen, if_pos (show (i : Int) < (l.length : Int) by omega), if_pos (show (0 : Int) ≤ i by omega), rdOf_nat _ l i hi, Int.toNat_natCast, set_fill l _ i hi, wrap_succ (show i ≤ 4611686018427387903 by omega)]
    exact ih
 have := key 0 (by omega)
 simpa using this

theorem laws_toCandidate_ev (l : List LLink) (hl : l.length ≤ 1048576) : Ev (fun k => laws_toCandidate.f k l) (l.map toK) := by
 unfold laws_toCandidate.f
 refine Ev.bind ?_ (Ev.const rfl)
 unfold laws_toLinkS.f
 simp only [if_pos (show (0 : Int) ≤ (l.length : Int) by omega), Int.toNat_natCast, if_pos (show l.length ≤ 140737488355328 by omega)]
 have key : ∀ i, i ≤ l.length → Ev (fun k => laws_toLinkS.l0 k l ((l.take i).map toK ++ List.replicate (l.length - i) z109) (i : Int)) (l.map toK) := by
  refine down_ind ?_ ?_
  · refine Ev.succ ?_
    simp only [laws_toLinkS.l0, Int.lt_irrefl, if_false]
    exact Ev.const (by simp)
  · intro i hi ih
    refine Ev.succ ?_
    have hlen : ((l.take i).map toK ++ List.replicate (l.length - i) z109).length = l.length := by simp; omega
    simp only [laws_toLinkS.l0, laws_toLink.f, Option.bind_some, hlen, if_pos (show (i : Int) < (l.length : Int) by omega), if_pos (show (0 : Int) ≤ i by omega), rdLK l i hi, Int.toNat_natCast, show (⟨l[i].f0, l[i].f1⟩ : ILink) = toK l[i] from rfl, set_fill2 l toK _ i hi, wrap_succ (show i ≤ 4611686018427387903 by omega)]
    exact ih
 have := key 0 (by omega)
 simpa using this

theorem laws_toIntS_ev (l : List Int) (hl : l.length ≤ 1048576) : Ev (fun k => laws_toIntS.f k l) l := by
 unfold laws_toIntS.f
 simp only [if_pos (show (0 : Int) ≤ (l.length : Int) by omega), Int.toNat_natCast, if_pos (show l.length ≤ 35184372088832 by omega)]
 have key : ∀ i, i ≤ l.length → Ev (fun k => laws_toIntS.l0 k l (l.take i ++ List.replicate (l.length - i) 0) (i : Int)) l := by
  refine down_ind ?_ ?_
  · refine Ev.succ ?_
    simp only [laws_toIntS.l0, Int.lt_irrefl, if_false]
    exact Ev.const (by simp)
  · intro i hi ih
    refine Ev.succ ?_
    have hlen : (l.take i ++ List.replicate (l.length - i) 0).length = l.length := by simp; omega
    simp only [laws_toIntS.l0, hlen, if_pos (show (i : Int) < (l.length : Int) by omega), if_pos (show (0 : Int) ≤ i by omega), rd_nat l i hi, Int.toNat_natCast, set_fill l 0 i hi, wrap_succ (show i ≤ 4611686018427387903 by omega)]
    exact ih
 have := key 0 (by omega)
 simpa using this

def sizes (l : List ByteArray) : Nat := (l.map ByteArray.size).sum
theorem laws_szStringS_ev (l : List ByteArray) (n : Nat) (hn : n ≤ 1048576) (hl : BdSlice 16 BdStr l) : Ev (fun k => laws_szStringS.f k l n) (if l.length + sizes l ≤ n then ((n - (l.length + sizes l) : Nat) : Int) else -1) := by
 have hl' : l.length ≤ 140737488351232 := by have := hl.1; omega
 unfold laws_szStringS.f
 rw [wrap_in (by omega) (by omega)]
 by_cases h : l.length ≤ n
 · rw [show ((n : Int) - (l.length : Int)) = ((n - l.length : Nat) : Int) by omega]
   simp only [if_neg (show ¬ ((n - l.length : Nat) : Int) < 0 by omega)]
   have key : ∀ i, i ≤ l.length → ∀ m : Nat, m ≤ n → Ev (fun k => laws_szStringS.l0 k l (m : Int) (i : Int)) (if sizes (l.drop i) ≤ m then ((m - sizes (l.drop i) : Nat) : Int) else -1) := by
    refine down_ind ?_ ?_
    · intro m hm
      refine Ev.succ ?_
      simp only [laws_szStringS.l0, Int.lt_irrefl, if_false]
      exact Ev.const (by simp [sizes])
    · intro i hi ih m hm
      have hb : l[i].size ≤ 140737488351232 := bd_get hl i hi
      refine Ev.succ ?_
      simp only [laws_szStringS.l0, if_pos (show (i : Int) < (l.length : Int) by omega), if_pos (show (0 : Int) ≤ i by omega), rdOf_nat _ l i hi, wrap_in (show -4611686018427387904 ≤ (m : Int) - (l[i].size : Int) by omega) (show (m : Int) - (l[i].size : Int) ≤ 4611686018427387904 by omega), wrap_succ (show i ≤ 4611686018427387903 by omega)]
      have hd : sizes (l.drop i) = l[i].size + sizes (l.drop (i + 1)) := by rw [drop_cons l i hi]; rfl
      rw [hd]
      by_cases hs : l[i].size ≤ m
      · simp only [if_neg (show ¬ (m : Int) - (l[i].size : Int) < 0 by omega), show (m : Int) - (l[i].size : Int) = ((m - l[i].size : Nat) : Int) by omega]
        refine Ev.cast (ih (m - l[i].size) (by omega)) ?_
        by_cases h2 : sizes (l.drop (i + 1)) ≤ m - l[i].size
        · rw [if_pos h2, if_pos (by omega)]
          congr 1
          omega
        · rw [if_neg h2, if_neg (by omega)]
      · simp only [if_pos (show (m : Int) - (l[i].size : Int) < 0 by omega)]
        exact Ev.const (by rw [if_neg (by omega)])
   refine Ev.cast (key 0 (by omega) (n - l.length) (by omega)) ?_
   simp only [List.drop_zero]
   by_cases h2 : sizes l ≤ n - l.length
   · rw [if_pos h2, if_pos (by omega)]
     congr 1
     omega
   · rw [if_neg h2, if_neg (by omega)]
 · simp only [if_pos (show ((n : Int) - (l.length : Int)) < 0 by omega)]
   exact Ev.const (by rw [if_neg (by omega)])

theorem laws_szCandidate_eq (l : List LLink) (n : Nat) (hn : n ≤ 1048576) (hl : l.length ≤ 140737488355328) : laws_szCandidate.f l n = some (if l.length ≤ n then ((n - l.length : Nat) : Int) else -1) := by
 unfold laws_szCandidate.f laws_szLinkS.f
 rw [wrap_in (by omega) (by omega)]
 by_cases h : l.length ≤ n
 · rw [if_neg (show ¬ ((n : Int) - (l.length : Int) < 0) by omega), if_pos h]
   simp only [Option.bind_some]
   rw [if_neg (by omega)]
   congr 1
   omega
 · rw [if_pos (show ((n : Int) - (l.length : Int) < 0) by omega), if_neg h]
   simp only [Option.bind_some]
   rfl

theorem laws_szIntS_eq (l : List Int) (n : Nat) (hn : n ≤ 1048576) (hl : l.length ≤ 140737488351232) : laws_szIntS.f l n = some (if l.length ≤ n then ((n - l.length : Nat) : Int) else -1) := by
 unfold laws_szIntS.f
 rw [wrap_in (by omega) (by omega)]
 by_cases h : l.length ≤ n
 · rw [if_neg (by omega), if_pos h]
   congr 1
   omega
 · rw [if_pos (by omega), if_neg h]

theorem laws_szCandidateS_ev (l : List LCand) (n : Nat) (hn : n ≤ 1048576) (hl : BdSlice 24 Bd96 l) : ∃ z, Ev (fun k => laws_szCandidateS.f k l n) z ∧ (z < 0 ∨ ∃ m : Nat, z = m ∧ m + l.length + lensC l = n) := by
 have hl' : l.length ≤ 140737488351232 := by have := hl.1; omega
 unfold laws_szCandidateS.f
 rw [wrap_in (by omega) (by omega)]
 by_cases h : l.length ≤ n
 · rw [show ((n : Int) - (l.length : Int)) = ((n - l.length : Nat) : Int) by omega]
   simp only [if_neg (show ¬ ((n - l.length : Nat) : Int) < 0 by omega)]
   have key : ∀ i, i ≤ l.length → ∀ m : Nat, m ≤ n → ∃ z, Ev (fun k => laws_szCandidateS.l0 k l (m : Int) (i : Int)) z ∧ (z < 0 ∨ ∃ m' : Nat, z = m' ∧ m' + lensC (l.drop i) = m) := by
    refine down_ind ?_ ?_
    · intro m hm
      refine ⟨m, Ev.succ ?_, .inr ⟨m, rfl, by simp [lensC]⟩⟩
      simp only [laws_szCandidateS.l0, Int.lt_irrefl, if_false]
      exact Ev.const rfl
    · intro i hi ih m hm
      have hb := (hl.2 l[i] (List.getElem_mem hi)).1
      have hd : lensC (l.drop i) = l[i].f0.length + lensC (l.drop (i + 1)) := by rw [drop_cons l i hi]; rfl
      by_cases hs : l[i].f0.length ≤ m
      · obtain ⟨z, hz, hz'⟩ := ih (m - l[i].f0.length) (by omega)
        refine ⟨z, Ev.succ ?_, ?_⟩
        · simp only [laws_szCandidateS.l0, if_pos (show (i : Int) < (l.length : Int) by omega), if_pos (show (0 : Int) ≤ i by omega), rdLC l i hi, laws_szCandidate_eq l[i].f0 m (by omega) (by omega), Option.bind_some, if_pos hs, if_neg (show ¬ ((m - l[i].f0.length : Nat) : Int) < 0 by omega), wrap_succ (show i ≤ 4611686018427387903 by omega)]
          exact hz
        · rcases hz' with h' | ⟨m', rfl, h'⟩
          · exact .inl h'
          · exact .inr ⟨m', rfl, by omega⟩
      · refine ⟨-1, Ev.succ ?_, .inl (by omega)⟩
        simp only [laws_szCandidateS.l0, if_pos (show (i : Int) < (l.length : Int) by omega), if_pos (show (0 : Int) ≤ i by omega), rdLC l i hi, laws_szCandidate_eq l[i].f0 m (by omega) (by omega), Option.bind_some, if_neg hs]
        exact Ev.const rfl
   obtain ⟨z, hz, hz'⟩ := key 0 (by omega) (n - l.length) (by omega)
   refine ⟨z, hz, ?_⟩
   rcases hz' with h' | ⟨m', rfl, h'⟩
   · exact .inl h'
   · rw [List.drop_zero] at h'
     exact .inr ⟨m', rfl, by omega⟩
 · simp only [if_pos (show ((n : Int) - (l.length : Int)) < 0 by omega)]
   exact ⟨-1, Ev.const rfl, .inl (by omega)⟩
theorem laws_szIntSS_ev (l : List (List Int)) (n : Nat) (hn : n ≤ 1048576) (hl : BdSlice 24 (BdSlice 8 (BdInt .i64)) l) : ∃ z, Ev (fun k => laws_szIntSS.f k l n) z ∧ (z < 0 ∨ ∃ m : Nat, z = m ∧ m + l.length + lensII l = n) := by
 have hl' : l.length ≤ 140737488351232 := by have := hl.1; omega
 unfold laws_szIntSS.f
 rw [wrap_in (by omega) (by omega)]
 by_cases h : l.length ≤ n
 · rw [show ((n : Int) - (l.length : Int)) = ((n - l.length : Nat) : Int) by omega]
   simp only [if_neg (show ¬ ((n - l.length : Nat) : Int) < 0 by omega)]
   have key : ∀ i, i ≤ l.length → ∀ m : Nat, m ≤ n → ∃ z, Ev (fun k => laws_szIntSS.l0 k l (m : Int) (i : Int)) z ∧ (z < 0 ∨ ∃ m' : Nat, z = m' ∧ m' + lensII (l.drop i) = m) := by
    refine down_ind ?_ ?_
    · intro m hm
      refine ⟨m, Ev.succ ?_, .inr ⟨m, rfl, by simp [lensII]⟩⟩
      simp only [laws_szIntSS.l0, Int.lt_irrefl, if_false]
      exact Ev.const rfl
    · intro i hi ih m hm
      have hb := (hl.2 l[i] (List.getElem_mem hi)).1
      have hd : lensII (l.drop i) = l[i].length + lensII (l.drop (i + 1)) := by rw [drop_cons l i hi]; rfl
      have he : laws_szIntS.f l[i] m = some (if l[i].length ≤ m then ((m - l[i].length : Nat) : Int) else -1) := laws_szIntS_eq l[i] m (by omega) (by omega)
      by_cases hs : l[i].length ≤ m
      · obtain ⟨z, hz, hz'⟩ := ih (m - l[i].length) (by omega)
        refine ⟨z, Ev.succ ?_, ?_⟩
        · simp only [laws_szIntSS.l0, if_pos (show (i : Int) < (l.length : Int) by omega), if_pos (show (0 : Int) ≤ i by omega), rdII l i hi, he, Option.bind_some, if_pos hs, if_neg (show ¬ ((m - l[i].length : Nat) : Int) < 0 by omega), wrap_succ (show i ≤ 4611686018427387903 by omega)]
          exact hz
        · rcases hz' with h' | ⟨m', rfl, h'⟩
          · exact .inl h'
          · exact .inr ⟨m', rfl, by omega⟩
      · refine ⟨-1, Ev.succ ?_, .inl (by omega)⟩
        simp only [laws_szIntSS.l0, if_pos (show (i : Int) < (l.length : Int) by omega), if_pos (show (0 : Int) ≤ i by omega), rdII l i hi, he, Option.bind_some, if_neg hs]
        exact Ev.const rfl
   obtain ⟨z, hz, hz'⟩ := key 0 (by omega) (n - l.length) (by omega)
   refine ⟨z, hz, ?_⟩
   rcases hz' with h' | ⟨m', rfl, h'⟩
   · exact .inl h'
   · rw [List.drop_zero] at h'
     exact .inr ⟨m', rfl, by omega⟩
 · simp only [if_pos (show ((n : Int) - (l.length : Int)) < 0 by omega)]
   exact ⟨-1, Ev.const rfl, .inl (by omega)⟩
def fits (s : ByteArray) (n : List ByteArray) (r : List LCand) (m : List (List Int)) : Prop := s.size ≤ 1048576 ∧ n.length + sizes n ≤ 1048576 ∧ r.length + lensC r ≤ 1048576 ∧ m.length + lensII m ≤ 1048576
theorem laws_szTableau_ev (s : ByteArray) (n : List ByteArray) (r : List LCand) (m : List (List Int)) (hs : BdStr s) (hn : BdSlice 16 BdStr n) (hr : BdSlice 24 Bd96 r) (hm : BdSlice 24 (BdSlice 8 (BdInt .i64)) m) :
 ∃ z, Ev (fun k => laws_szTableau.f k s n r m 1048576) z ∧ (z < 0 ∨ (∃ q : Nat, z = q ∧ q ≤ 1048576) ∧ fits s n r m) := by
 have hs' : s.size ≤ 140737488351232 := hs
 unfold laws_szTableau.f
 rw [wrap_in (by omega) (by omega)]
 by_cases h1 : s.size ≤ 1048576
 · rw [show ((1048576 : Int) - (s.size : Int)) = ((1048576 - s.size : Nat) : Int) by omega]
   simp only [if_neg (show ¬ ((1048576 - s.size : Nat) : Int) < 0 by omega)]
   have e1 := laws_szStringS_ev n (1048576 - s.size) (by omega) hn
   by_cases h2 : n.length + sizes n ≤ 1048576 - s.size
   · rw [if_pos h2] at e1
     obtain ⟨z2, e2, h3⟩ := laws_szCandidateS_ev r (1048576 - s.size - (n.length + sizes n)) (by omega) hr
     rcases h3 with h3 | ⟨m2, rfl, h3⟩
     · refine ⟨-1, Ev.bind e1 ?_, .inl (by omega)⟩
       simp only [if_neg (show ¬ ((1048576 - s.size - (n.length + sizes n) : Nat) : Int) < 0 by omega)]
       refine Ev.bind e2 ?_
       simp only [if_pos h3]
       exact Ev.const rfl
     · obtain ⟨z4, e4, h5⟩ := laws_szIntSS_ev m m2 (by omega) hm
       rcases h5 with h5 | ⟨m4, rfl, h5⟩
       · refine ⟨-1, Ev.bind e1 ?_, .inl (by omega)⟩
         simp only [if_neg (show ¬ ((1048576 - s.size - (n.length + sizes n) : Nat) : Int) < 0 by omega)]
         refine Ev.bind e2 ?_
         simp only [if_neg (show ¬ (m2 : Int) < 0 by omega)]
         refine Ev.bind e4 ?_
         simp only [if_pos h5]
         exact Ev.const rfl
       · refine ⟨m4, Ev.bind e1 ?_, .inr ⟨⟨m4, rfl, by omega⟩, by omega, by omega, by omega, by omega⟩⟩
         simp only [if_neg (show ¬ ((1048576 - s.size - (n.length + sizes n) : Nat) : Int) < 0 by omega)]
         refine Ev.bind e2 ?_
         simp only [if_neg (show ¬ (m2 : Int) < 0 by omega)]
         refine Ev.bind e4 ?_
         simp only [if_neg (show ¬ (m4 : Int) < 0 by omega)]
         exact Ev.const rfl
   · rw [if_neg h2] at e1
     refine ⟨-1, Ev.bind e1 ?_, .inl (by omega)⟩
     simp only [show (-1 : Int) < 0 by decide, if_true]
     exact Ev.const rfl
 · simp only [if_pos (show ((1048576 : Int) - (s.size : Int)) < 0 by omega)]
   exact ⟨-1, Ev.const rfl, .inl (by omega)⟩

theorem laws_toCandidateS_ev (l : List LCand) (hl : l.length + lensC l ≤ 1048576) : Ev (fun k => laws_toCandidateS.f k l) (l.map toC) := by
 unfold laws_toCandidateS.f
 simp only [if_pos (show (0 : Int) ≤ (l.length : Int) by omega), Int.toNat_natCast, if_pos (show l.length ≤ 11728124029610 by omega)]
 have key : ∀ i, i ≤ l.length → Ev (fun k => laws_toCandidateS.l0 k l ((l.take i).map toC ++ List.replicate (l.length - i) z60) (i : Int)) (l.map toC) := by
  refine down_ind ?_ ?_
  · refine Ev.succ ?_
    simp only [laws_toCandidateS.l0, Int.lt_irrefl, if_false]
    exact Ev.const (by simp)
  · intro i hi ih
    have := lensC_get l i hi
    refine Ev.succ ?_
    have hlen : ((l.take i).map toC ++ List.replicate (l.length - i) z60).length = l.length := by simp; omega
    simp only [laws_toCandidateS.l0, hlen, if_pos (show (i : Int) < (l.length : Int) by omega), if_pos (show (0 : Int) ≤ i by omega), rdLC l i hi]
    refine Ev.bind (laws_toCandidate_ev l[i].f0 (by omega)) ?_
    simp only [Int.toNat_natCast, show (⟨l[i].f0.map toK⟩ : ICand) = toC l[i] from rfl, set_fill2 l toC _ i hi, wrap_succ (show i ≤ 4611686018427387903 by omega)]
    exact ih
 have := key 0 (by omega)
 simpa using this
theorem laws_toIntSS_ev (l : List (List Int)) (hl : l.length + lensII l ≤ 1048576) : Ev (fun k => laws_toIntSS.f k l) l := by
 unfold laws_toIntSS.f
 simp only [if_pos (show (0 : Int) ≤ (l.length : Int) by omega), Int.toNat_natCast, if_pos (show l.length ≤ 11728124029610 by omega)]
 have key : ∀ i, i ≤ l.length → Ev (fun k => laws_toIntSS.l0 k l (l.take i ++ List.replicate (l.length - i) []) (i : Int)) l := by
  refine down_ind ?_ ?_
  · refine Ev.succ ?_
    simp only [laws_toIntSS.l0, Int.lt_irrefl, if_false]
    exact Ev.const (by simp)
  · intro i hi ih
    have := lensII_get l i hi
    refine Ev.succ ?_
    have hlen : (l.take i ++ List.replicate (l.length - i) ([] : List Int)).length = l.length := by simp; omega
    simp only [laws_toIntSS.l0, hlen, if_pos (show (i : Int) < (l.length : Int) by omega), if_pos (show (0 : Int) ≤ i by omega), rdII l i hi]
    refine Ev.bind (laws_toIntS_ev l[i] (by omega)) ?_
    simp only [Int.toNat_natCast, set_fill l _ i hi, wrap_succ (show i ≤ 4611686018427387903 by omega)]
    exact ih
 have := key 0 (by omega)
 simpa using this
theorem laws_toTableau_ev (s : ByteArray) (n : List ByteArray) (r : List LCand) (m : List (List Int)) (h : fits s n r m) : Ev (fun k => laws_toTableau.f k s n r m) (s, n, r.map toC, m) := by
 unfold laws_toTableau.f
 exact Ev.bind (laws_toStringS_ev n (by have := h.2.1; omega)) (Ev.bind (laws_toCandidateS_ev r h.2.2.1) (Ev.bind (laws_toIntSS_ev m h.2.2.2) (Ev.const rfl)))

theorem laws_eqStringS_ev (a : List ByteArray) (hl : a.length ≤ 1048576) : Ev (fun k => laws_eqStringS.f k a a) true := by
 unfold laws_eqStringS.f
 simp only [if_true]
 have key : ∀ i, i ≤ a.length → Ev (fun k => laws_eqStringS.l0 k a a (i : Int)) true := by
  refine down_ind ?_ ?_
  · refine Ev.succ ?_
    simp only [laws_eqStringS.l0, Int.lt_irrefl, if_false]
    exact Ev.const rfl
  · intro i hi ih
    refine Ev.succ ?_
    simp only [laws_eqStringS.l0, if_pos (show (i : Int) < (a.length : Int) by omega), if_pos (show (0 : Int) ≤ i by omega), if_true, wrap_succ (show i ≤ 4611686018427387903 by omega)]
    exact ih
 exact key 0 (by omega)

theorem laws_eqCandidate_ev (a : List ILink) (hl : a.length ≤ 1048576) : Ev (fun k => laws_eqCandidate.f k a a) true := by
 unfold laws_eqCandidate.f
 refine Ev.bind ?_ (Ev.const (if_pos rfl))
 unfold laws_eqLinkS.f
 simp only [if_true]
 have key : ∀ i, i ≤ a.length → Ev (fun k => laws_eqLinkS.l0 k a a (i : Int)) true := by
  refine down_ind ?_ ?_
  · refine Ev.succ ?_
    simp only [laws_eqLinkS.l0, Int.lt_irrefl, if_false]
    exact Ev.const rfl
  · intro i hi ih
    refine Ev.succ ?_
    simp only [laws_eqLinkS.l0, laws_eqLink.f, Option.bind_some, if_pos (show (i : Int) < (a.length : Int) by omega), if_pos (show (0 : Int) ≤ i by omega), if_true, wrap_succ (show i ≤ 4611686018427387903 by omega)]
    exact ih
 exact key 0 (by omega)

theorem laws_eqIntS_ev (a b : List Int) (hl : a.length ≤ 1048576) : Ev (fun k => laws_eqIntS.f k a b) (decide (a = b)) := by
 unfold laws_eqIntS.f
 by_cases hab : a.length = b.length
 · simp only [if_pos (show (a.length : Int) = (b.length : Int) by omega)]
   have key : ∀ i, i ≤ a.length → Ev (fun k => laws_eqIntS.l0 k a b (i : Int)) (decide (a.drop i = b.drop i)) := by
    refine down_ind ?_ ?_
    · refine Ev.succ ?_
      simp only [laws_eqIntS.l0, Int.lt_irrefl, if_false]
      refine Ev.const ?_
      rw [List.drop_of_length_le (Nat.le_refl _), List.drop_of_length_le (by omega)]
      rfl
    · intro i hi ih
      have hb : i < b.length := by omega
      refine Ev.succ ?_
      simp only [laws_eqIntS.l0, if_pos (show (i : Int) < (a.length : Int) by omega), if_pos (show (0 : Int) ≤ i by omega), if_pos (show (i : Int) < (b.length : Int) by omega), rd_nat a i hi, rd_nat b i hb, wrap_succ (show i ≤ 4611686018427387903 by omega)]
      rw [drop_cons a i hi, drop_cons b i hb]
      by_cases he : a[i] = b[i]
      · simp only [if_pos he]
        exact Ev.cast ih (by simp only [List.cons.injEq, he, true_and])
      · simp only [if_neg he]
        exact Ev.const (by simp only [List.cons.injEq, he, false_and, decide_false])
   exact key 0 (by omega)
 · simp only [if_neg (show ¬ (a.length : Int) = (b.length : Int) by omega)]
   exact Ev.const (by
    have : a ≠ b := fun h => hab (by rw [h])
    simp [this])

theorem laws_eqCandidateS_ev (a : List ICand) (hl : a.length ≤ 1048576) (hr : ∀ x ∈ a, x.f0.length ≤ 1048576) : Ev (fun k => laws_eqCandidateS.f k a a) true := by
 unfold laws_eqCandidateS.f
 simp only [if_true]
 have key : ∀ i, i ≤ a.length → Ev (fun k => laws_eqCandidateS.l0 k a a (i : Int)) true := by
  refine down_ind ?_ ?_
  · refine Ev.succ ?_
    simp only [laws_eqCandidateS.l0, Int.lt_irrefl, if_false]
    exact Ev.const rfl
  · intro i hi ih
    refine Ev.succ ?_
    simp only [laws_eqCandidateS.l0, if_pos (show (i : Int) < (a.length : Int) by omega), if_pos (show (0 : Int) ≤ i by omega), rdIC a i hi]
    refine Ev.bind (laws_eqCandidate_ev _ (hr _ (List.getElem_mem hi))) ?_
    simp only [if_true, wrap_succ (show i ≤ 4611686018427387903 by omega)]
    exact ih
 exact key 0 (by omega)
theorem laws_eqIntSS_ev (a : List (List Int)) (hl : a.length + lensII a ≤ 1048576) : Ev (fun k => laws_eqIntSS.f k a a) true := by
 unfold laws_eqIntSS.f
 simp only [if_true]
 have key : ∀ i, i ≤ a.length → Ev (fun k => laws_eqIntSS.l0 k a a (i : Int)) true := by
  refine down_ind ?_ ?_
  · refine Ev.succ ?_
    simp only [laws_eqIntSS.l0, Int.lt_irrefl, if_false]
    exact Ev.const rfl
  · intro i hi ih
    have := lensII_get a i hi
    refine Ev.succ ?_
    simp only [laws_eqIntSS.l0, if_pos (show (i : Int) < (a.length : Int) by omega), if_pos (show (0 : Int) ≤ i by omega), rdII a i hi]
    refine Ev.bind (laws_eqIntS_ev _ _ (by omega)) ?_
    simp only [decide_true, if_true, wrap_succ (show i ≤ 4611686018427387903 by omega)]
    exact ih
 exact key 0 (by omega)
theorem laws_eqTableau_ev (s : ByteArray) (n : List ByteArray) (r : List LCand) (m : List (List Int)) (h : fits s n r m) (hr : okR (r.map toC)) : Ev (fun k => laws_eqTableau.f k s n (r.map toC) m s n (r.map toC) m) true := by
 unfold laws_eqTableau.f
 simp only [if_true]
 refine Ev.bind (laws_eqStringS_ev n (by have := h.2.1; omega)) ?_
 simp only [if_true]
 refine Ev.bind (laws_eqCandidateS_ev (r.map toC) (by rw [List.length_map]; have := h.2.2.1; omega) (fun x hx => (hr x hx).2)) ?_
 simp only [if_true]
 refine Ev.bind (laws_eqIntSS_ev m h.2.2.2) ?_
 simp only [if_true]
 exact Ev.const rfl

theorem size_append (a b : ByteArray) : (a ++ b).size = a.size + b.size := by
 rw [← B_length, ← B_length, ← B_length, B_append, List.length_append]
theorem laws_markText_some (m : Int) (h0 : 0 ≤ m) (h1 : m ≤ 4398046511104) : ∃ s, Ev (fun k => laws_markText.f k m) s := by
 unfold laws_markText.f
 by_cases hm : m ≤ 0
 · simp only [if_pos hm]
   exact ⟨_, Ev.const rfl⟩
 · simp only [if_neg hm]
   obtain ⟨n, rfl⟩ := Int.eq_ofNat_of_zero_le h0
   have key : ∀ (n : Nat) (x : ByteArray), x.size + n ≤ 8796093022208 → ∃ s, Ev (fun k => laws_markText.l0 k (n : Int) x) s := by
    intro n
    induction n using Nat.strongRecOn with
    | _ n ih =>
     intro x hx
     by_cases hn : n = 0
     · subst hn
       refine ⟨(⟨#[109]⟩ : ByteArray) ++ x, Ev.succ ?_⟩
       simp only [laws_markText.l0, if_neg (show ¬ ((0 : Nat) : Int) > 0 by omega), if_pos (show 1 + x.size ≤ 9223372036854775807 by omega)]
       exact Ev.const rfl
     · have hs : ∀ d : Int, (strOfNums [d]).size = 1 := fun d => rfl
       obtain ⟨s, hs'⟩ := ih (n / 10) (by omega) (strOfNums [wrap64 (48 + Int.tmod (n : Int) 10) % 256] ++ x) (by rw [size_append, hs]; omega)
       refine ⟨s, Ev.succ ?_⟩
       have hd : wrap64 (Int.tdiv (n : Int) 10) = ((n / 10 : Nat) : Int) := by
        rw [show Int.tdiv (n : Int) 10 = ((n / 10 : Nat) : Int) from by rw [Int.tdiv_eq_ediv_of_nonneg (by omega)]; omega]
        exact wrap_nat (by omega)
       simp only [laws_markText.l0, if_pos (show (n : Int) > 0 by omega), Option.bind_some, hs, if_pos (show 1 + x.size ≤ 9223372036854775807 by omega), hd]
       exact hs'
   exact key n _ (by show 0 + n ≤ _; omega)
noncomputable def mtx (m : Int) : ByteArray := Classical.epsilon fun s => Ev (fun k => laws_markText.f k m) s
theorem laws_markText_ev (m : Int) (h0 : 0 ≤ m) (h1 : m ≤ 4398046511104) : Ev (fun k => laws_markText.f k m) (mtx m) := Classical.epsilon_spec (laws_markText_some m h0 h1)

theorem laws_markStringS_ev (l : List ByteArray) (m : Int) (hl : l.length ≤ 2097152) (h0 : 0 ≤ m) (h1 : m ≤ 1099511627776) : Ev (fun k => laws_markStringS.f k l m) (m + l.length, (idxs m l.length).map mtx) := by
 unfold laws_markStringS.f
 have key : ∀ i, i ≤ l.length → Ev (fun k => laws_markStringS.l0 k ((idxs m i).map mtx ++ l.drop i) (m + (i : Int)) (i : Int)) (m + l.length, (idxs m l.length).map mtx) := by
  refine down_ind ?_ ?_
  · refine Ev.succ ?_
    have hlen : ((idxs m l.length).map mtx ++ l.drop l.length).length = l.length := by simp [idxs_length]
    simp only [laws_markStringS.l0, hlen, Int.lt_irrefl, if_false]
    exact Ev.const (by simp)
  · intro i hi ih
    refine Ev.succ ?_
    have hlen : ((idxs m i).map mtx ++ l.drop i).length = l.length := by rw [List.length_append, List.length_map, idxs_length, List.length_drop]; omega
    have hset : ((idxs m i).map mtx ++ l.drop i).set i (mtx (m + i)) = (idxs m (i + 1)).map mtx ++ l.drop (i + 1) := by
     rw [List.set_append, List.length_map, idxs_length, if_neg (by omega), Nat.sub_self, drop_cons l i hi, List.set_cons_zero, idxs_snoc, List.map_append, List.append_assoc]
     rfl
    simp only [laws_markStringS.l0, hlen, if_pos (show (i : Int) < (l.length : Int) by omega)]
    refine Ev.bind (laws_markText_ev (m + i) (by omega) (by omega)) ?_
    simp only [if_pos (show (0 : Int) ≤ i by omega), Int.toNat_natCast, hset, wrap_succ (show i ≤ 4611686018427387903 by omega), wrap_in (show -4611686018427387904 ≤ m + (i : Int) + 1 by omega) (show m + (i : Int) + 1 ≤ 4611686018427387904 by omega)]
    exact (show m + ((i + 1 : Nat) : Int) = m + (i : Int) + 1 by omega) ▸ ih
 have := key 0 (by omega)
 simpa [idxs] using this

theorem get_mid {α : Type} (pre : List α) (x : α) (rest : List α) (z : α) : (pre ++ x :: rest).getD pre.length z = x := by simp
theorem set_mid {α : Type} (pre : List α) (x y : α) (rest : List α) : (pre ++ x :: rest).set pre.length y = (pre ++ [y]) ++ rest := by simp
def totN : List Nat → Nat
 | [] => 0
 | n :: l => n + totN l

def mlk (m : Nat) : Nat → List ILink
 | 0 => []
 | n + 1 => (⟨(m : Int) % 256, ((m + 1 : Nat) : Int) % 256⟩ : ILink) :: mlk (m + 2) n
theorem laws_markLinkS_ev (l : List ILink) (m : Nat) (hl : l.length ≤ 2097152) (h1 : m ≤ 1099511627776) : Ev (fun k => laws_markLinkS.f k l (m : Int)) (((m + 2 * l.length : Nat) : Int), mlk m l.length) := by
 unfold laws_markLinkS.f
 have key : ∀ (rest pre : List ILink) (m : Nat), pre.length + rest.length ≤ 2097152 → m + 2 * rest.length ≤ 2199023255552 → Ev (fun k => laws_markLinkS.l0 k (pre ++ rest) (m : Int) (pre.length : Int)) (((m + 2 * rest.length : Nat) : Int), pre ++ mlk m rest.length) := by
  intro rest
  induction rest with
  | nil =>
   intro pre m _ _
   refine Ev.succ ?_
   simp only [laws_markLinkS.l0, List.append_nil, Int.lt_irrefl, if_false]
   exact Ev.const (by simp [mlk])
  | cons x rest ih =>
   intro pre m h1 h2
   simp only [List.length_cons] at h1 h2
   refine Ev.succ ?_
   have e2 : rd_T109 ((pre ++ [(⟨(m : Int) % 256, x.f1⟩ : ILink)]) ++ rest) (pre.length : Int) = ⟨(m : Int) % 256, x.f1⟩ := by
    unfold rd_T109
    simp
   have e1 : rd_T109 (pre ++ x :: rest) (pre.length : Int) = x := by
    unfold rd_T109
    simp
   simp only [laws_markLinkS.l0, List.length_append, List.length_cons, if_pos (show (pre.length : Int) < ((pre.length + (rest.length + 1) : Nat) : Int) by omega), if_pos (show (0 : Int) ≤ pre.length by omega), Int.toNat_natCast, e1, set_mid, Option.bind_some, e2, wrap_succ (show m ≤ 4611686018427387903 by omega), wrap_succ (show m + 1 ≤ 4611686018427387903 by omega), wrap_succ (show pre.length ≤ 4611686018427387903 by omega)]
   rw [show ((pre ++ [(⟨(m : Int) % 256, x.f1⟩ : ILink)]) ++ rest).set pre.length ⟨(m : Int) % 256, ((m + 1 : Nat) : Int) % 256⟩ = (pre ++ [(⟨(m : Int) % 256, ((m + 1 : Nat) : Int) % 256⟩ : ILink)]) ++ rest by simp]
   have := ih (pre ++ [(⟨(m : Int) % 256, ((m + 1 : Nat) : Int) % 256⟩ : ILink)]) (m + 1 + 1) (by simp; omega) (by omega)
   rw [List.length_append, List.length_singleton] at this
   refine Ev.cast this ?_
   simp only [mlk, List.append_assoc, List.singleton_append, Prod.mk.injEq, and_true]
   omega
 have := key l [] m (by simpa using hl) (by omega)
 simpa using this

abbrev GC := S60

def mcrow (m : Nat) : List Nat → List GC
 | [] => []
 | n :: l => (⟨mlk m n⟩ : GC) :: mcrow (m + 2 * n) l
theorem laws_markCandidateS_ev (l : List GC) (m : Nat) (hl : l.length + 2 * totN (l.map fun x => (x.f0).length) ≤ 2097152) (h1 : m ≤ 8388608) : Ev (fun k => laws_markCandidateS.f k l (m : Int)) (((m + 2 * totN (l.map fun x => (x.f0).length) : Nat) : Int), mcrow m (l.map fun x => (x.f0).length)) := by
 unfold laws_markCandidateS.f
 have key : ∀ (rest pre : List GC) (m : Nat), pre.length + rest.length + 2 * totN (rest.map fun x => (x.f0).length) ≤ 2097152 → m + 2 * totN (rest.map fun x => (x.f0).length) ≤ 16777216 → Ev (fun k => laws_markCandidateS.l0 k (pre ++ rest) (m : Int) (pre.length : Int)) (((m + 2 * totN (rest.map fun x => (x.f0).length) : Nat) : Int), pre ++ mcrow m (rest.map fun x => (x.f0).length)) := by
  intro rest
  induction rest with
  | nil =>
   intro pre m _ _
   refine Ev.succ ?_
   simp only [laws_markCandidateS.l0, List.append_nil, Int.lt_irrefl, if_false]
   exact Ev.const (by simp [mcrow, totN])
  | cons x rest ih =>
   intro pre m h1 h2
   simp only [List.length_cons, List.map_cons, totN] at h1 h2
   refine Ev.succ ?_
   simp only [laws_markCandidateS.l0, List.length_append, List.length_cons, if_pos (show (pre.length : Int) < ((pre.length + (rest.length + 1) : Nat) : Int) by omega), if_pos (show (0 : Int) ≤ pre.length by omega), Int.toNat_natCast, get_mid]
   refine Ev.bind (laws_markLinkS_ev _ m (by omega) (by omega)) ?_
   simp only [set_mid, wrap_succ (show pre.length ≤ 4611686018427387903 by omega)]
   have := ih (pre ++ [(⟨mlk m x.f0.length⟩ : GC)]) (m + 2 * (x.f0).length) (by simp; omega) (by omega)
   rw [List.length_append, List.length_singleton] at this
   refine Ev.cast this ?_
   simp only [mcrow, totN, List.map_cons, List.append_assoc, List.singleton_append, Prod.mk.injEq, and_true]
   omega
 have := key l [] m (by simpa using hl) (by omega)
 simpa using this

theorem laws_markIntS_ev (l : List Int) (m : Int) (hl : l.length ≤ 2097152) (h0 : 0 ≤ m) (h1 : m ≤ 1099511627776) : Ev (fun k => laws_markIntS.f k l m) (m + l.length, idxs m l.length) := by
 unfold laws_markIntS.f
 have key : ∀ i, i ≤ l.length → Ev (fun k => laws_markIntS.l0 k (idxs m i ++ l.drop i) (m + (i : Int)) (i : Int)) (m + l.length, idxs m l.length) := by
  refine down_ind ?_ ?_
  · refine Ev.succ ?_
    have hlen : (idxs m l.length ++ l.drop l.length).length = l.length := by simp [idxs_length]
    simp only [laws_markIntS.l0, hlen, Int.lt_irrefl, if_false]
    exact Ev.const (by simp)
  · intro i hi ih
    refine Ev.succ ?_
    have hlen : (idxs m i ++ l.drop i).length = l.length := by rw [List.length_append, idxs_length, List.length_drop]; omega
    have hset : (idxs m i ++ l.drop i).set i (m + i) = idxs m (i + 1) ++ l.drop (i + 1) := by
     rw [List.set_append, idxs_length, if_neg (by omega), Nat.sub_self, drop_cons l i hi, List.set_cons_zero, idxs_snoc, List.append_assoc]
     rfl
    simp only [laws_markIntS.l0, hlen, if_pos (show (i : Int) < (l.length : Int) by omega), if_pos (show (0 : Int) ≤ i by omega), Int.toNat_natCast, hset, wrap_succ (show i ≤ 4611686018427387903 by omega), wrap_in (show -4611686018427387904 ≤ m + (i : Int) + 1 by omega) (show m + (i : Int) + 1 ≤ 4611686018427387904 by omega)]
    exact (show m + ((i + 1 : Nat) : Int) = m + (i : Int) + 1 by omega) ▸ ih
 have := key 0 (by omega)
 simpa [idxs] using this


end Go.Proofs.YtlmfpkiaikjlbaaGreat.Pure
