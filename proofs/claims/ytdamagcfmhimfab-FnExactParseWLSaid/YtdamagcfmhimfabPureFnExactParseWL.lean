/- The pure statement of the law FnExactParseWL: for all arguments within bounds its printed function answers true. -/
import Derived.Test.YtdamagcfmhimfabPFnExactParseWLx
import Derived.Test.YtdamagcfmhimfabBase
namespace Go.Proofs.Ytdamagcfmhimfab.Pure
open Go.RowKit Go.Proofs.YtdamagcfmhimfabB Go.Proofs.Ytdamagcfmhimfab.PFnExactParseWL Go.Proofs.YtdamagcfmhimfabW.PrintWords Go.Proofs.YtdamagcfmhimfabW.PrintLast Go.Proofs.YtdamagcfmhimfabW.PrintMore
set_option linter.unusedVariables false
set_option linter.unusedSimpArgs false

/-- a row: n marks of -1, 0, 1; n from 1 to 5 -/
def mark3 (m : Int) : Bool := decide (-1 ≤ m ∧ m ≤ 1)
def row_ (l : List Int) (n : Int) : Bool := l.all mark3 && decide (1 ≤ n ∧ n ≤ 5) && decide ((l.length : Int) = n)

theorem spec_l1In_eq (a b c : Int) : spec_l1In.f a b c = some (decide (b ≤ a ∧ a ≤ c)) := by
  unfold spec_l1In.f
  split
  · have : b ≤ a := by omega
    simp [*]
  · have : ¬ b ≤ a := by omega
    simp [*]

theorem spec_IsRow_ev (l : List Int) (n : Int) (hl : l.length ≤ 1048576) : Ev (fun k => spec_IsRow.f k l n) (row_ l n) := by
  unfold spec_IsRow.f
  have key : ∀ i, i ≤ l.length → Ev (fun k => spec_IsRow.l0 k n (i : Int) l) ((l.drop i).all mark3 && decide (1 ≤ n ∧ n ≤ 5) && decide ((l.length : Int) = n)) := by
    refine down_ind ?_ ?_
    · refine Ev.succ ?_
      simp only [spec_IsRow.l0, Int.lt_irrefl, if_false, spec_l1In_eq, Option.bind_some]
      rw [List.drop_of_length_le (Nat.le_refl _)]
      by_cases h : 1 ≤ n ∧ n ≤ 5
      · simp only [h, decide_true, if_true]
        exact Ev.const (by simp; rfl)
      · simp only [h, decide_false, Bool.false_eq_true, if_false]
        exact Ev.const (by simp)
    · intro i hi ih
      refine Ev.succ ?_
      simp only [spec_IsRow.l0, if_pos (show (i : Int) < (l.length : Int) by omega), if_pos (show (0 : Int) ≤ i by omega), rd_nat l i hi, spec_l1In_eq, Option.bind_some, wrap_succ (show i ≤ 4611686018427387903 by omega)]
      rw [drop_cons l i hi, List.all_cons]
      by_cases h : -1 ≤ l[i] ∧ l[i] ≤ 1
      · simp only [mark3, h, decide_true, if_true, Bool.true_and]
        exact ih
      · simp only [mark3, h, decide_false, Bool.false_eq_true, if_false, Bool.false_and]
        exact Ev.const rfl
  exact key 0 (by omega)

theorem impl_within_eq (a b c : Int) : impl_within.f a b c = some (decide (b ≤ a ∧ a ≤ c)) := by
  unfold impl_within.f
  split
  · simp [*]
  · simp [*]

theorem impl_IsRow_ev (l : List Int) (n : Int) (hl : l.length ≤ 1048576) : Ev (fun k => impl_IsRow.f k l n) (row_ l n) := by
  unfold impl_IsRow.f
  have key : ∀ i, i ≤ l.length → Ev (fun k => impl_IsRow.l0 k n l (l.length : Int) (i : Int) l) ((l.drop i).all mark3 && decide (1 ≤ n ∧ n ≤ 5) && decide ((l.length : Int) = n)) := by
    refine down_ind ?_ ?_
    · refine Ev.succ ?_
      simp only [impl_IsRow.l0, Int.lt_irrefl, if_false, impl_within_eq, Option.bind_some]
      rw [List.drop_of_length_le (Nat.le_refl _)]
      by_cases h : 1 ≤ n ∧ n ≤ 5
      · simp only [h, decide_true, if_true]
        exact Ev.const (by simp; rfl)
      · simp only [h, decide_false, Bool.false_eq_true, if_false]
        exact Ev.const (by simp)
    · intro i hi ih
      refine Ev.succ ?_
      simp only [impl_IsRow.l0, if_pos (show (i : Int) < (l.length : Int) by omega), if_pos (show (0 : Int) ≤ i by omega), rd_nat l i hi, impl_within_eq, Option.bind_some, wrap_succ (show i ≤ 4611686018427387903 by omega)]
      rw [drop_cons l i hi, List.all_cons]
      by_cases h : -1 ≤ l[i] ∧ l[i] ≤ 1
      · simp only [mark3, h, decide_true, if_true, Bool.true_and]
        exact ih
      · simp only [mark3, h, decide_false, Bool.false_eq_true, if_false, Bool.false_and]
        exact Ev.const rfl
  exact key 0 (by omega)


theorem impl_isAnyRow_ev (l : List Int) (hl : l.length ≤ 1048576) : Ev (fun k => impl_isAnyRow.f k l) (row_ l l.length) := by
  unfold impl_isAnyRow.f
  exact Ev.bind (impl_IsRow_ev l _ hl) (Ev.const rfl)

def wlOf (c : Int) : Int := if c = 87 then 1 else if c = 76 then -1 else 0
def wlOk (c : Int) : Bool := decide (c = 87) || (decide (c = 76) || decide (c = 101))
def parseWL (l : List Int) : List Int × Bool := if l.all wlOk && decide (1 ≤ l.length ∧ l.length ≤ 5) then (l.map wlOf, true) else ([], false)
theorem row_wl (l : List Int) : row_ (l.map wlOf) l.length = decide (1 ≤ l.length ∧ l.length ≤ 5) := by
  have hall : (l.map wlOf).all mark3 = true := by
    rw [List.all_eq_true]
    intro m hm
    obtain ⟨c, _, rfl⟩ := List.mem_map.1 hm
    unfold wlOf
    split
    · decide
    · split <;> decide
  unfold row_
  rw [hall, List.length_map]
  simp only [Bool.true_and, decide_true, Bool.and_true]
  exact decide_eq_decide.2 (by omega)
theorem impl_ParseWL_ev (s : ByteArray) (hs : s.size ≤ 1048576) : Ev (fun k => impl_ParseWL.f k s) (parseWL (B s)) := by
  unfold impl_ParseWL.f
  have hb := B_length s
  have key : ∀ i, i ≤ s.size → Ev (fun k => impl_ParseWL.l0 k s (s.size : Int) (i : Int) (((B s).take i).map wlOf)) (if ((B s).drop i).all wlOk && decide (1 ≤ (B s).length ∧ (B s).length ≤ 5) then ((B s).map wlOf, true) else ([], false)) := by
    refine down_ind ?_ ?_
    · refine Ev.succ ?_
      simp only [impl_ParseWL.l0, Int.lt_irrefl, if_false]
      rw [← hb, List.take_length, List.drop_length, List.all_nil, Bool.true_and]
      refine Ev.bind (impl_isAnyRow_ev _ (by rw [List.length_map]; omega)) ?_
      rw [List.length_map, row_wl]
      by_cases h : 1 ≤ (B s).length ∧ (B s).length ≤ 5
      · simp only [h, decide_true, if_true]
        exact Ev.const rfl
      · simp only [h, decide_false, Bool.false_eq_true, if_false]
        exact Ev.const rfl
    · intro i hi ih
      have hB : i < (B s).length := by omega
      refine Ev.succ ?_
      have hlen : (((B s).take i).map wlOf).length < 17592186044416 := by rw [List.length_map, List.length_take]; omega
      simp only [impl_ParseWL.l0, if_pos (show (i : Int) < (s.size : Int) by omega), if_pos (show (0 : Int) ≤ i by omega), bt_nat s i hB, if_pos hlen, wrap_succ (show i ≤ 4611686018427387903 by omega)]
      rw [drop_cons (B s) i hB, List.all_cons]
      have ht : ((B s).take (i + 1)).map wlOf = ((B s).take i).map wlOf ++ [wlOf (B s)[i]] := by rw [take_snoc _ i hB, List.map_append]; rfl
      rw [ht] at ih
      by_cases h1 : (B s)[i] = 87
      · simp only [if_pos h1]
        simp only [h1, wlOf, if_true] at ih
        simp only [wlOk, h1, decide_true, Bool.true_or, Bool.true_and]
        exact ih
      · by_cases h2 : (B s)[i] = 76
        · simp only [if_neg h1, if_pos h2]
          simp only [h2, wlOf, if_true, show ¬ ((76 : Int) = 87) by decide, if_false] at ih
          simp only [wlOk, h2, decide_true, Bool.true_or, Bool.or_true, Bool.true_and]
          exact ih
        · by_cases h3 : (B s)[i] = 101
          · simp only [if_neg h1, if_neg h2, if_pos h3]
            simp only [h3, wlOf, show ¬ ((101 : Int) = 87) by decide, show ¬ ((101 : Int) = 76) by decide, if_false] at ih
            simp only [wlOk, h3, decide_true, Bool.or_true, Bool.true_and]
            exact ih
          · simp only [if_neg h1, if_neg h2, if_neg h3]
            exact Ev.const (by simp [wlOk, h1, h2, h3])
  have := key 0 (by omega)
  simpa [parseWL] using this
theorem spec_ParseWL_ev (s : ByteArray) (hs : s.size ≤ 1048576) : Ev (fun k => spec_ParseWL.f k s) (parseWL (B s)) := by
  unfold spec_ParseWL.f
  have hb := B_length s
  by_cases h5 : s.size ≤ 5
  · have key : ∀ i, i ≤ s.size → Ev (fun k => spec_ParseWL.l0 k s (i : Int) (((B s).take i).map wlOf)) (if ((B s).drop i).all wlOk && decide (1 ≤ (B s).length ∧ (B s).length ≤ 5) then ((B s).map wlOf, true) else ([], false)) := by
      refine down_ind ?_ ?_
      · refine Ev.succ ?_
        simp only [spec_ParseWL.l0, Int.lt_irrefl, if_false]
        refine Ev.succ ?_
        simp only [spec_ParseWL.j1, Bool.false_eq_true, if_false]
        rw [← hb, List.take_length, List.drop_length, List.all_nil, Bool.true_and]
        refine Ev.bind (spec_IsRow_ev _ _ (by rw [List.length_map]; omega)) ?_
        rw [row_wl]
        by_cases h : 1 ≤ (B s).length ∧ (B s).length ≤ 5
        · simp only [h, decide_true, if_true]
          exact Ev.const rfl
        · simp only [h, decide_false, Bool.false_eq_true, if_false]
          have h0 : B s = [] := List.length_eq_zero_iff.1 (by omega)
          exact Ev.const (by rw [h0]; rfl)
      · intro i hi ih
        have hB : i < (B s).length := by omega
        refine Ev.succ ?_
        simp only [spec_ParseWL.l0, if_pos (show (i : Int) < (s.size : Int) by omega), show decide ((s.size : Int) ≤ 5) = true from decide_eq_true (by omega)]
        refine Ev.succ ?_
        have hlen : (((B s).take i).map wlOf).length < 17592186044416 := by rw [List.length_map, List.length_take]; omega
        simp only [spec_ParseWL.j1, if_true, if_pos (show (i : Int) < (s.size : Int) by omega), if_pos (show (0 : Int) ≤ i by omega), bt_nat s i hB, if_pos hlen, wrap_succ (show i ≤ 4611686018427387903 by omega)]
        rw [drop_cons (B s) i hB, List.all_cons]
        have ht : ((B s).take (i + 1)).map wlOf = ((B s).take i).map wlOf ++ [wlOf (B s)[i]] := by rw [take_snoc _ i hB, List.map_append]; rfl
        rw [ht] at ih
        by_cases h1 : (B s)[i] = 87
        · simp only [if_pos h1]
          simp only [h1, wlOf, if_true] at ih
          simp only [wlOk, h1, decide_true, Bool.true_or, Bool.true_and]
          exact ih
        · by_cases h2 : (B s)[i] = 76
          · simp only [if_neg h1, if_pos h2]
            simp only [h2, wlOf, if_true, show ¬ ((76 : Int) = 87) by decide, if_false] at ih
            simp only [wlOk, h2, decide_true, Bool.true_or, Bool.or_true, Bool.true_and]
            exact ih
          · by_cases h3 : (B s)[i] = 101
            · simp only [if_neg h1, if_neg h2, if_pos h3]
              simp only [h3, wlOf, show ¬ ((101 : Int) = 87) by decide, show ¬ ((101 : Int) = 76) by decide, if_false] at ih
              simp only [wlOk, h3, decide_true, Bool.or_true, Bool.true_and]
              exact ih
            · simp only [if_neg h1, if_neg h2, if_neg h3]
              exact Ev.const (by simp [wlOk, h1, h2, h3])
    have := key 0 (by omega)
    simpa [parseWL] using this
  · refine Ev.succ ?_
    simp only [spec_ParseWL.l0, if_pos (show (0 : Int) < (s.size : Int) by omega), show decide ((s.size : Int) ≤ 5) = false from decide_eq_false (by omega)]
    refine Ev.succ ?_
    simp only [spec_ParseWL.j1, Bool.false_eq_true, if_false]
    refine Ev.bind (spec_IsRow_ev [] _ (by simp)) ?_
    have hr : row_ [] (s.size : Int) = false := by
      unfold row_
      rw [show decide ((([] : List Int).length : Int) = (s.size : Int)) = false from decide_eq_false (by simp; omega)]
      simp
    rw [hr]
    refine Ev.const ?_
    unfold parseWL
    rw [show decide (1 ≤ (B s).length ∧ (B s).length ≤ 5) = false from decide_eq_false (by omega)]
    simp
theorem parseWL_len (l : List Int) : (parseWL l).1.length ≤ 5 := by
  unfold parseWL
  split
  · rename_i h
    simp only [Bool.and_eq_true, decide_eq_true_eq] at h
    simp
    omega
  · simp

theorem laws_eqIntS_ev (a b : List Int) (hl : a.length ≤ 1048576) : Ev (fun k => laws_eqIntS.f k a b) (decide (a = b)) := by
  unfold laws_eqIntS.f
  by_cases hab : a.length = b.length
  · simp only [if_pos (show (a.length : Int) = (b.length : Int) by omega)]
    have key : ∀ i, i ≤ a.length → Ev (fun k => laws_eqIntS.l0 k a b (i : Int)) (decide (a.drop i = b.drop i)) := by
      refine down_ind ?_ ?_
      · refine Ev.succ ?_
        simp only [laws_eqIntS.l0, Int.lt_irrefl, if_false]
        refine Ev.const ?_
        rw [List.drop_of_length_le (Nat.le_refl _), List.drop_of_length_le (by omega)]
        rfl
      · intro i hi ih
        have hb : i < b.length := by omega
        refine Ev.succ ?_
        simp only [laws_eqIntS.l0, if_pos (show (i : Int) < (a.length : Int) by omega), if_pos (show (0 : Int) ≤ i by omega), if_pos (show (i : Int) < (b.length : Int) by omega), rd_nat a i hi, rd_nat b i hb, wrap_succ (show i ≤ 4611686018427387903 by omega)]
        rw [drop_cons a i hi, drop_cons b i hb]
        by_cases he : a[i] = b[i]
        · simp only [if_pos he]
          exact Ev.cast ih (by simp only [List.cons.injEq, he, true_and])
        · simp only [if_neg he]
          exact Ev.const (by simp only [List.cons.injEq, he, false_and, decide_false])
    exact key 0 (by omega)
  · simp only [if_neg (show ¬ (a.length : Int) = (b.length : Int) by omega)]
    exact Ev.const (by
      have : a ≠ b := fun h => hab (by rw [h])
      simp [this])

theorem laws_eqRow_ev (a b : List Int) (hl : a.length ≤ 1048576) : Ev (fun k => laws_eqRow.f k a b) (decide (a = b)) := by
  unfold laws_eqRow.f
  refine Ev.bind (laws_eqIntS_ev a b hl) ?_
  by_cases h : a = b
  · simp [h]; exact Ev.const rfl
  · simp [h]; exact Ev.const rfl

theorem laws_markIntS_ev (l : List Int) (m : Int) (hl : l.length ≤ 2097152) (h0 : 0 ≤ m) (h1 : m ≤ 1099511627776) : Ev (fun k => laws_markIntS.f k l m) (m + l.length, idxs m l.length) := by
  unfold laws_markIntS.f
  have key : ∀ i, i ≤ l.length → Ev (fun k => laws_markIntS.l0 k (idxs m i ++ l.drop i) (m + (i : Int)) (i : Int)) (m + l.length, idxs m l.length) := by
    refine down_ind ?_ ?_
    · refine Ev.succ ?_
      have hlen : (idxs m l.length ++ l.drop l.length).length = l.length := by simp [idxs_length]
      simp only [laws_markIntS.l0, hlen, Int.lt_irrefl, if_false]
      exact Ev.const (by simp)
    · intro i hi ih
      refine Ev.succ ?_
      have hlen : (idxs m i ++ l.drop i).length = l.length := by rw [List.length_append, idxs_length, List.length_drop]; omega
      have hset : (idxs m i ++ l.drop i).set i (m + i) = idxs m (i + 1) ++ l.drop (i + 1) := by
        rw [List.set_append, idxs_length, if_neg (by omega), Nat.sub_self, drop_cons l i hi, List.set_cons_zero, idxs_snoc, List.append_assoc]
        rfl
      simp only [laws_markIntS.l0, hlen, if_pos (show (i : Int) < (l.length : Int) by omega), if_pos (show (0 : Int) ≤ i by omega), Int.toNat_natCast, hset, wrap_succ (show i ≤ 4611686018427387903 by omega), wrap_in (show -4611686018427387904 ≤ m + (i : Int) + 1 by omega) (show m + (i : Int) + 1 ≤ 4611686018427387904 by omega)]
      exact (show m + ((i + 1 : Nat) : Int) = m + (i : Int) + 1 by omega) ▸ ih
  have := key 0 (by omega)
  simpa [idxs] using this

theorem laws_heldIntS_ev (n : Nat) (m : Int) (hl : n ≤ 2097152) (h0 : 0 ≤ m) (h1 : m ≤ 1099511627776) : Ev (fun k => laws_heldIntS.f k (idxs m n) m) (m + n) := by
  unfold laws_heldIntS.f
  have key : ∀ i, i ≤ n → Ev (fun k => laws_heldIntS.l0 k (idxs m n) (m + (i : Int)) (i : Int)) (m + n) := by
    refine down_ind ?_ ?_
    · refine Ev.succ ?_
      simp only [laws_heldIntS.l0, idxs_length, Int.lt_irrefl, if_false]
      exact Ev.const rfl
    · intro i hi ih
      refine Ev.succ ?_
      have hi' : i < (idxs m n).length := by rw [idxs_length]; exact hi
      simp only [laws_heldIntS.l0, idxs_length, if_pos (show (i : Int) < (n : Int) by omega), if_pos (show (0 : Int) ≤ i by omega), rd_nat _ i hi', idxs_get, if_true, wrap_succ (show i ≤ 4611686018427387903 by omega), wrap_in (show -4611686018427387904 ≤ m + (i : Int) + 1 by omega) (show m + (i : Int) + 1 ≤ 4611686018427387904 by omega)]
      exact (show m + ((i + 1 : Nat) : Int) = m + (i : Int) + 1 by omega) ▸ ih
  have := key 0 (by omega)
  simpa using this

theorem laws_markRow_ev (l : List Int) (m : Int) (hl : l.length ≤ 2097152) (h0 : 0 ≤ m) (h1 : m ≤ 1099511627776) : Ev (fun k => laws_markRow.f k l m) (m + l.length, idxs m l.length) := by
  unfold laws_markRow.f
  exact Ev.bind (laws_markIntS_ev l m hl h0 h1) (Ev.const rfl)
theorem laws_heldRow_ev (n : Nat) (m : Int) (hl : n ≤ 2097152) (h0 : 0 ≤ m) (h1 : m ≤ 1099511627776) : Ev (fun k => laws_heldRow.f k (idxs m n) m) (m + n) := by
  unfold laws_heldRow.f
  refine Ev.bind (laws_heldIntS_ev n m hl h0 h1) ?_
  simp only [if_neg (show ¬ m + (n : Int) < 0 by omega)]
  exact Ev.const rfl

theorem FnExactParseWL : laws_FnExactParseWL.Pure := by
  intro s _
  refine Ev.rounds ?_
  unfold laws_FnExactParseWL.f
  by_cases hs : s.size ≤ 1048576
  · simp only [if_neg (show ¬ (s.size : Int) > 1048576 by omega)]
    refine Ev.bind (spec_ParseWL_ev s hs) (Ev.bind (impl_ParseWL_ev s hs) ?_)
    have hr := parseWL_len (B s)
    generalize hro : parseWL (B s) = ro at hr ⊢
    obtain ⟨r, ok⟩ := ro
    simp only at hr
    refine Ev.bind (laws_eqRow_ev r r (by omega)) ?_
    simp only [decide_true, if_true, bne_self_eq_false]
    refine Ev.succ ?_
    simp only [laws_FnExactParseWL.j0, Bool.false_eq_true, if_false]
    refine Ev.bind (laws_markRow_ev r 1 (by omega) (by omega) (by omega)) (Ev.bind (laws_heldRow_ev r.length 1 (by omega) (by omega) (by omega)) ?_)
    simp only [if_neg (show ¬ (1 + (r.length : Int)) < 0 by omega), if_true]
    refine Ev.bind (impl_ParseWL_ev s hs) ?_
    rw [hro]
    refine Ev.bind (laws_eqRow_ev r r (by omega)) ?_
    simp only [decide_true, if_true, bne_self_eq_false]
    refine Ev.succ ?_
    simp only [laws_FnExactParseWL.j1, Bool.false_eq_true, if_false]
    refine Ev.bind (laws_heldRow_ev r.length 1 (by omega) (by omega) (by omega)) ?_
    simp only [if_neg (show ¬ (1 + (r.length : Int)) < 0 by omega), if_true]
    exact Ev.const rfl
  · simp only [if_pos (show (s.size : Int) > 1048576 by omega)]
    exact Ev.const rfl

end Go.Proofs.Ytdamagcfmhimfab.Pure
