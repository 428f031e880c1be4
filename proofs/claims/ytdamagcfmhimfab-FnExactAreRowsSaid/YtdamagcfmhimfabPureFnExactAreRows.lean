/- The pure statement of the law FnExactAreRows: for all arguments within bounds its printed function answers true. -/
import Derived.Test.YtdamagcfmhimfabPFnExactAreRowsx
import Derived.Test.YtdamagcfmhimfabBase
namespace Go.Proofs.Ytdamagcfmhimfab.Pure
open Go.RowKit Go.Proofs.YtdamagcfmhimfabB Go.Proofs.Ytdamagcfmhimfab.PFnExactAreRows Go.Proofs.YtdamagcfmhimfabW.PrintWords Go.Proofs.YtdamagcfmhimfabW.PrintLast Go.Proofs.YtdamagcfmhimfabW.PrintMore
set_option linter.unusedVariables false
set_option linter.unusedSimpArgs false

/-- a row of the laws, a row of the program -/
abbrev LRow := S38
abbrev IRow := S26
def toI (x : LRow) : IRow := ⟨x.f0⟩
theorem rdL (l : List LRow) (i : Nat) (h : i < l.length) : rd_T38 l (i : Int) = l[i] := by simp [rd_T38, h]
theorem rdI (l : List IRow) (i : Nat) (h : i < l.length) : rd_T26 l (i : Int) = l[i] := by simp [rd_T26, h]
def lens (l : List IRow) : Nat := (l.map fun x => x.f0.length).sum
def lensL (l : List LRow) : Nat := (l.map fun x => x.f0.length).sum
theorem lens_get (l : List IRow) (i : Nat) (h : i < l.length) : l[i].f0.length ≤ lens l := by
  unfold lens
  induction l generalizing i with
  | nil => simp at h
  | cons a l ih =>
    cases i with
    | zero => simp
    | succ i =>
      simp only [List.getElem_cons_succ, List.map_cons, List.sum_cons]
      have := ih i (by simpa using h)
      omega
theorem lensL_get (l : List LRow) (i : Nat) (h : i < l.length) : l[i].f0.length ≤ lensL l := by
  unfold lensL
  induction l generalizing i with
  | nil => simp at h
  | cons a l ih =>
    cases i with
    | zero => simp
    | succ i =>
      simp only [List.getElem_cons_succ, List.map_cons, List.sum_cons]
      have := ih i (by simpa using h)
      omega
theorem lens_toI (l : List LRow) : lens (l.map toI) = lensL l := by simp [lens, lensL, toI, Function.comp_def]

theorem laws_szIntS_eq (l : List Int) (n : Nat) (hn : n ≤ 1048576) (hl : l.length ≤ 140737488351232) : laws_szIntS.f l n = some (if l.length ≤ n then ((n - l.length : Nat) : Int) else -1) := by
  unfold laws_szIntS.f
  rw [wrap_in (by omega) (by omega)]
  by_cases h : l.length ≤ n
  · rw [if_neg (by omega), if_pos h]
    congr 1
    omega
  · rw [if_pos (by omega), if_neg h]

theorem laws_szRow_eq (l : List Int) (n : Nat) (hn : n ≤ 1048576) (hl : l.length ≤ 140737488351232) : laws_szRow.f l n = some (if l.length ≤ n then ((n - l.length : Nat) : Int) else -1) := by
  unfold laws_szRow.f
  rw [laws_szIntS_eq l n hn hl]
  simp only [Option.bind_some]
  by_cases h : l.length ≤ n
  · simp only [if_pos h]
    rw [if_neg (by omega)]
  · simp only [if_neg h]
    rfl

theorem laws_szRowS_ev (l : List LRow) (n : Nat) (hn : n ≤ 1048576) (hl : BdSlice 24 Bd38 l) : Ev (fun k => laws_szRowS.f k l n) (if l.length + lensL l ≤ n then ((n - (l.length + lensL l) : Nat) : Int) else -1) := by
  have hl' : l.length ≤ 140737488351232 := by have := hl.1; omega
  unfold laws_szRowS.f
  rw [wrap_in (by omega) (by omega)]
  by_cases h : l.length ≤ n
  · rw [show ((n : Int) - (l.length : Int)) = ((n - l.length : Nat) : Int) by omega]
    simp only [if_neg (show ¬ ((n - l.length : Nat) : Int) < 0 by omega)]
    have key : ∀ i, i ≤ l.length → ∀ m : Nat, m ≤ n → Ev (fun k => laws_szRowS.l0 k l (m : Int) (i : Int)) (if lensL (l.drop i) ≤ m then ((m - lensL (l.drop i) : Nat) : Int) else -1) := by
      refine down_ind ?_ ?_
      · intro m hm
        refine Ev.succ ?_
        simp only [laws_szRowS.l0, Int.lt_irrefl, if_false]
        exact Ev.const (by simp [lensL])
      · intro i hi ih m hm
        have hb : l[i].f0.length ≤ 140737488351232 := by have := (bd_get hl i hi).1; omega
        refine Ev.succ ?_
        simp only [laws_szRowS.l0, if_pos (show (i : Int) < (l.length : Int) by omega), if_pos (show (0 : Int) ≤ i by omega), rdL l i hi, laws_szRow_eq l[i].f0 m (by omega) hb, Option.bind_some, wrap_succ (show i ≤ 4611686018427387903 by omega)]
        have hd : lensL (l.drop i) = l[i].f0.length + lensL (l.drop (i + 1)) := by rw [drop_cons l i hi]; rfl
        rw [hd]
        by_cases hs : l[i].f0.length ≤ m
        · simp only [if_pos hs, if_neg (show ¬ ((m - l[i].f0.length : Nat) : Int) < 0 by omega)]
          refine Ev.cast (ih (m - l[i].f0.length) (by omega)) ?_
          by_cases h2 : lensL (l.drop (i + 1)) ≤ m - l[i].f0.length
          · rw [if_pos h2, if_pos (by omega)]
            congr 1
            omega
          · rw [if_neg h2, if_neg (by omega)]
        · simp only [if_neg hs]
          exact Ev.const (by rw [if_neg (by omega)])
    refine Ev.cast (key 0 (by omega) (n - l.length) (by omega)) ?_
    simp only [List.drop_zero]
    by_cases h2 : lensL l ≤ n - l.length
    · rw [if_pos h2, if_pos (by omega)]
      congr 1
      omega
    · rw [if_neg h2, if_neg (by omega)]
  · simp only [if_pos (show ((n : Int) - (l.length : Int)) < 0 by omega)]
    exact Ev.const (by rw [if_neg (by omega)])

theorem laws_toIntS_ev (l : List Int) (hl : l.length ≤ 1048576) : Ev (fun k => laws_toIntS.f k l) l := by
  unfold laws_toIntS.f
  simp only [if_pos (show (0 : Int) ≤ (l.length : Int) by omega), Int.toNat_natCast, if_pos (show l.length ≤ 35184372088832 by omega)]
  have key : ∀ i, i ≤ l.length → Ev (fun k => laws_toIntS.l0 k l (l.take i ++ List.replicate (l.length - i) 0) (i : Int)) l := by
    refine down_ind ?_ ?_
    · refine Ev.succ ?_
      simp only [laws_toIntS.l0, Int.lt_irrefl, if_false]
      exact Ev.const (by simp)
    · intro i hi ih
      refine Ev.succ ?_
      have hlen : (l.take i ++ List.replicate (l.length - i) 0).length = l.length := by simp; omega
      simp only [laws_toIntS.l0, hlen, if_pos (show (i : Int) < (l.length : Int) by omega), if_pos (show (0 : Int) ≤ i by omega), rd_nat l i hi, Int.toNat_natCast, set_fill l 0 i hi, wrap_succ (show i ≤ 4611686018427387903 by omega)]
      exact ih
  have := key 0 (by omega)
  simpa using this

theorem laws_toRow_ev (l : List Int) (hl : l.length ≤ 1048576) : Ev (fun k => laws_toRow.f k l) l := by
  unfold laws_toRow.f
  exact Ev.bind (laws_toIntS_ev l hl) (Ev.const rfl)

theorem laws_toRowS_ev (l : List LRow) (hl : l.length + lensL l ≤ 1048576) : Ev (fun k => laws_toRowS.f k l) (l.map toI) := by
  unfold laws_toRowS.f
  simp only [if_pos (show (0 : Int) ≤ (l.length : Int) by omega), Int.toNat_natCast, if_pos (show l.length ≤ 11728124029610 by omega)]
  have key : ∀ i, i ≤ l.length → Ev (fun k => laws_toRowS.l0 k l ((l.take i).map toI ++ List.replicate (l.length - i) z26) (i : Int)) (l.map toI) := by
    refine down_ind ?_ ?_
    · refine Ev.succ ?_
      simp only [laws_toRowS.l0, Int.lt_irrefl, if_false]
      exact Ev.const (by simp)
    · intro i hi ih
      have := lensL_get l i hi
      refine Ev.succ ?_
      have hlen : ((l.take i).map toI ++ List.replicate (l.length - i) z26).length = l.length := by simp; omega
      simp only [laws_toRowS.l0, hlen, if_pos (show (i : Int) < (l.length : Int) by omega), if_pos (show (0 : Int) ≤ i by omega), rdL l i hi]
      refine Ev.bind (laws_toRow_ev l[i].f0 (by omega)) ?_
      simp only [Int.toNat_natCast, show (⟨l[i].f0⟩ : IRow) = toI l[i] from rfl, set_fill2 l toI _ i hi, wrap_succ (show i ≤ 4611686018427387903 by omega)]
      exact ih
  have := key 0 (by omega)
  simpa using this

theorem laws_eqIntS_ev (a b : List Int) (hl : a.length ≤ 1048576) : Ev (fun k => laws_eqIntS.f k a b) (decide (a = b)) := by
  unfold laws_eqIntS.f
  by_cases hab : a.length = b.length
  · simp only [if_pos (show (a.length : Int) = (b.length : Int) by omega)]
    have key : ∀ i, i ≤ a.length → Ev (fun k => laws_eqIntS.l0 k a b (i : Int)) (decide (a.drop i = b.drop i)) := by
      refine down_ind ?_ ?_
      · refine Ev.succ ?_
        simp only [laws_eqIntS.l0, Int.lt_irrefl, if_false]
        refine Ev.const ?_
        rw [List.drop_of_length_le (Nat.le_refl _), List.drop_of_length_le (by omega)]
        rfl
      · intro i hi ih
        have hb : i < b.length := by omega
        refine Ev.succ ?_
        simp only [laws_eqIntS.l0, if_pos (show (i : Int) < (a.length : Int) by omega), if_pos (show (0 : Int) ≤ i by omega), if_pos (show (i : Int) < (b.length : Int) by omega), rd_nat a i hi, rd_nat b i hb, wrap_succ (show i ≤ 4611686018427387903 by omega)]
        rw [drop_cons a i hi, drop_cons b i hb]
        by_cases he : a[i] = b[i]
        · simp only [if_pos he]
          exact Ev.cast ih (by simp only [List.cons.injEq, he, true_and])
        · simp only [if_neg he]
          exact Ev.const (by simp only [List.cons.injEq, he, false_and, decide_false])
    exact key 0 (by omega)
  · simp only [if_neg (show ¬ (a.length : Int) = (b.length : Int) by omega)]
    exact Ev.const (by
      have : a ≠ b := fun h => hab (by rw [h])
      simp [this])

theorem laws_eqRow_ev (a b : List Int) (hl : a.length ≤ 1048576) : Ev (fun k => laws_eqRow.f k a b) (decide (a = b)) := by
  unfold laws_eqRow.f
  refine Ev.bind (laws_eqIntS_ev a b hl) ?_
  by_cases h : a = b
  · simp [h]; exact Ev.const rfl
  · simp [h]; exact Ev.const rfl

theorem laws_eqRowS_ev (a : List IRow) (hl : a.length + lens a ≤ 1048576) : Ev (fun k => laws_eqRowS.f k a a) true := by
  unfold laws_eqRowS.f
  simp only [if_true]
  have key : ∀ i, i ≤ a.length → Ev (fun k => laws_eqRowS.l0 k a a (i : Int)) true := by
    refine down_ind ?_ ?_
    · refine Ev.succ ?_
      simp only [laws_eqRowS.l0, Int.lt_irrefl, if_false]
      exact Ev.const rfl
    · intro i hi ih
      have := lens_get a i hi
      refine Ev.succ ?_
      simp only [laws_eqRowS.l0, if_pos (show (i : Int) < (a.length : Int) by omega), if_pos (show (0 : Int) ≤ i by omega), rdI a i hi]
      refine Ev.bind (laws_eqRow_ev _ _ (by omega)) ?_
      simp only [decide_true, if_true, wrap_succ (show i ≤ 4611686018427387903 by omega)]
      exact ih
  exact key 0 (by omega)

/-- a row: n marks of -1, 0, 1; n from 1 to 5 -/
def mark3 (m : Int) : Bool := decide (-1 ≤ m ∧ m ≤ 1)
def row_ (l : List Int) (n : Int) : Bool := l.all mark3 && decide (1 ≤ n ∧ n ≤ 5) && decide ((l.length : Int) = n)

theorem spec_l1In_eq (a b c : Int) : spec_l1In.f a b c = some (decide (b ≤ a ∧ a ≤ c)) := by
  unfold spec_l1In.f
  split
  · have : b ≤ a := by omega
    simp [*]
  · have : ¬ b ≤ a := by omega
    simp [*]

theorem spec_IsRow_ev (l : List Int) (n : Int) (hl : l.length ≤ 1048576) : Ev (fun k => spec_IsRow.f k l n) (row_ l n) := by
  unfold spec_IsRow.f
  have key : ∀ i, i ≤ l.length → Ev (fun k => spec_IsRow.l0 k n (i : Int) l) ((l.drop i).all mark3 && decide (1 ≤ n ∧ n ≤ 5) && decide ((l.length : Int) = n)) := by
    refine down_ind ?_ ?_
    · refine Ev.succ ?_
      simp only [spec_IsRow.l0, Int.lt_irrefl, if_false, spec_l1In_eq, Option.bind_some]
      rw [List.drop_of_length_le (Nat.le_refl _)]
      by_cases h : 1 ≤ n ∧ n ≤ 5
      · simp only [h, decide_true, if_true]
        exact Ev.const (by simp; rfl)
      · simp only [h, decide_false, Bool.false_eq_true, if_false]
        exact Ev.const (by simp)
    · intro i hi ih
      refine Ev.succ ?_
      simp only [spec_IsRow.l0, if_pos (show (i : Int) < (l.length : Int) by omega), if_pos (show (0 : Int) ≤ i by omega), rd_nat l i hi, spec_l1In_eq, Option.bind_some, wrap_succ (show i ≤ 4611686018427387903 by omega)]
      rw [drop_cons l i hi, List.all_cons]
      by_cases h : -1 ≤ l[i] ∧ l[i] ≤ 1
      · simp only [mark3, h, decide_true, if_true, Bool.true_and]
        exact ih
      · simp only [mark3, h, decide_false, Bool.false_eq_true, if_false, Bool.false_and]
        exact Ev.const rfl
  exact key 0 (by omega)

theorem impl_within_eq (a b c : Int) : impl_within.f a b c = some (decide (b ≤ a ∧ a ≤ c)) := by
  unfold impl_within.f
  split
  · simp [*]
  · simp [*]

theorem impl_IsRow_ev (l : List Int) (n : Int) (hl : l.length ≤ 1048576) : Ev (fun k => impl_IsRow.f k l n) (row_ l n) := by
  unfold impl_IsRow.f
  have key : ∀ i, i ≤ l.length → Ev (fun k => impl_IsRow.l0 k n l (l.length : Int) (i : Int) l) ((l.drop i).all mark3 && decide (1 ≤ n ∧ n ≤ 5) && decide ((l.length : Int) = n)) := by
    refine down_ind ?_ ?_
    · refine Ev.succ ?_
      simp only [impl_IsRow.l0, Int.lt_irrefl, if_false, impl_within_eq, Option.bind_some]
      rw [List.drop_of_length_le (Nat.le_refl _)]
      by_cases h : 1 ≤ n ∧ n ≤ 5
      · simp only [h, decide_true, if_true]
        exact Ev.const (by simp; rfl)
      · simp only [h, decide_false, Bool.false_eq_true, if_false]
        exact Ev.const (by simp)
    · intro i hi ih
      refine Ev.succ ?_
      simp only [impl_IsRow.l0, if_pos (show (i : Int) < (l.length : Int) by omega), if_pos (show (0 : Int) ≤ i by omega), rd_nat l i hi, impl_within_eq, Option.bind_some, wrap_succ (show i ≤ 4611686018427387903 by omega)]
      rw [drop_cons l i hi, List.all_cons]
      by_cases h : -1 ≤ l[i] ∧ l[i] ≤ 1
      · simp only [mark3, h, decide_true, if_true, Bool.true_and]
        exact ih
      · simp only [mark3, h, decide_false, Bool.false_eq_true, if_false, Bool.false_and]
        exact Ev.const rfl
  exact key 0 (by omega)


def areRows (l : List IRow) (n : Int) : Bool := l.all (fun x => row_ x.f0 n) && (decide (1 ≤ n ∧ n ≤ 5) && decide (l.length ≤ 20))
theorem spec_AreRows_ev (l : List IRow) (n : Int) (hl : l.length + lens l ≤ 1048576) : Ev (fun k => spec_AreRows.f k l n) (areRows l n) := by
  unfold spec_AreRows.f areRows
  have key : ∀ i, i ≤ l.length → Ev (fun k => spec_AreRows.l0 k l n (i : Int)) ((l.drop i).all (fun x => row_ x.f0 n) && (decide (1 ≤ n ∧ n ≤ 5) && decide (l.length ≤ 20))) := by
    refine down_ind ?_ ?_
    · refine Ev.succ ?_
      simp only [spec_AreRows.l0, Int.lt_irrefl, if_false, spec_l1In_eq, Option.bind_some]
      rw [List.drop_of_length_le (Nat.le_refl _), List.all_nil, Bool.true_and]
      by_cases h : 1 ≤ n ∧ n ≤ 5
      · simp only [h, decide_true, if_true, Bool.true_and]
        exact Ev.const (congrArg some (decide_eq_decide.2 (by omega)))
      · simp only [h, decide_false, Bool.false_eq_true, if_false, Bool.false_and]
        exact Ev.const rfl
    · intro i hi ih
      have := lens_get l i hi
      refine Ev.succ ?_
      simp only [spec_AreRows.l0, if_pos (show (i : Int) < (l.length : Int) by omega), if_pos (show (0 : Int) ≤ i by omega), rdI l i hi]
      refine Ev.bind (spec_IsRow_ev l[i].f0 n (by omega)) ?_
      rw [drop_cons l i hi, List.all_cons]
      cases row_ l[i].f0 n
      · simp only [Bool.false_eq_true, if_false, Bool.false_and]
        exact Ev.const rfl
      · simp only [if_true, Bool.true_and, wrap_succ (show i ≤ 4611686018427387903 by omega)]
        exact ih
  exact key 0 (by omega)
theorem impl_AreRows_ev (l : List IRow) (n : Int) (hl : l.length + lens l ≤ 1048576) : Ev (fun k => impl_AreRows.f k l n) (areRows l n) := by
  unfold impl_AreRows.f areRows
  have key : ∀ i, i ≤ l.length → Ev (fun k => impl_AreRows.l0 k l n l (l.length : Int) (i : Int)) ((l.drop i).all (fun x => row_ x.f0 n) && (decide (1 ≤ n ∧ n ≤ 5) && decide (l.length ≤ 20))) := by
    refine down_ind ?_ ?_
    · refine Ev.succ ?_
      simp only [impl_AreRows.l0, Int.lt_irrefl, if_false, impl_within_eq, Option.bind_some]
      rw [List.drop_of_length_le (Nat.le_refl _), List.all_nil, Bool.true_and]
      by_cases h : 1 ≤ n ∧ n ≤ 5
      · simp only [h, decide_true, if_true, Bool.true_and]
        exact Ev.const (congrArg some (decide_eq_decide.2 (by omega)))
      · simp only [h, decide_false, Bool.false_eq_true, if_false, Bool.false_and]
        exact Ev.const rfl
    · intro i hi ih
      have := lens_get l i hi
      refine Ev.succ ?_
      simp only [impl_AreRows.l0, if_pos (show (i : Int) < (l.length : Int) by omega), if_pos (show (0 : Int) ≤ i by omega), rdI l i hi]
      refine Ev.bind (impl_IsRow_ev l[i].f0 n (by omega)) ?_
      rw [drop_cons l i hi, List.all_cons]
      cases row_ l[i].f0 n
      · simp only [Bool.false_eq_true, if_false, Bool.false_and]
        exact Ev.const rfl
      · simp only [if_true, Bool.true_and, wrap_succ (show i ≤ 4611686018427387903 by omega)]
        exact ih
  exact key 0 (by omega)

theorem FnExactAreRows : laws_FnExactAreRows.Pure := by
  intro l n hl _
  refine Ev.rounds ?_
  unfold laws_FnExactAreRows.f
  refine Ev.bind (laws_szRowS_ev l 1048576 (Nat.le_refl _) hl) ?_
  by_cases h : l.length + lensL l ≤ 1048576
  · have h' : (l.map toI).length + lens (l.map toI) ≤ 1048576 := by rw [List.length_map, lens_toI]; exact h
    simp only [if_pos h, if_neg (show ¬ (((1048576 - (l.length + lensL l) : Nat) : Int)) < 0 by omega)]
    refine Ev.bind (laws_toRowS_ev l h) (Ev.bind (spec_AreRows_ev _ n h') (Ev.bind (laws_toRowS_ev l h) (Ev.bind (impl_AreRows_ev _ n h') ?_)))
    simp only [bne_self_eq_false, Bool.false_eq_true, if_false]
    refine Ev.bind (laws_toRowS_ev l h) (Ev.bind (laws_eqRowS_ev _ h') ?_)
    simp only [if_true]
    exact Ev.const rfl
  · simp only [if_neg h]
    exact Ev.const rfl

end Go.Proofs.Ytdamagcfmhimfab.Pure
