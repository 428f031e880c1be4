/- The pure statement of the law FnExactIsImpossible: for all arguments within bounds its printed function answers true. -/
import Derived.Test.YtdamagcfmhimfaaPFnExactIsImpossiblex
import Derived.Test.YtdamagcfmhimfaaBase
namespace Go.Proofs.Ytdamagcfmhimfaa.Pure
open Go.RowKit Go.Proofs.YtdamagcfmhimfaaB Go.Proofs.Ytdamagcfmhimfaa.PFnExactIsImpossible Go.Proofs.YtdamagcfmhimfaaW.PrintWords Go.Proofs.YtdamagcfmhimfaaW.PrintLast Go.Proofs.YtdamagcfmhimfaaW.PrintMore
set_option linter.unusedVariables false
set_option linter.unusedSimpArgs false

theorem laws_toIntS_ev (l : List Int) (hl : l.length ≤ 1048576) : Ev (fun k => laws_toIntS.f k l) l := by
  unfold laws_toIntS.f
  simp only [if_pos (show (0 : Int) ≤ (l.length : Int) by omega), Int.toNat_natCast, if_pos (show l.length ≤ 35184372088832 by omega)]
  have key : ∀ i, i ≤ l.length → Ev (fun k => laws_toIntS.l0 k l (l.take i ++ List.replicate (l.length - i) 0) (i : Int)) l := by
    refine down_ind ?_ ?_
    · refine Ev.succ ?_
      simp only [laws_toIntS.l0, Int.lt_irrefl, if_false]
      exact Ev.const (by simp)
    · intro i hi ih
      refine Ev.succ ?_
      have hlen : (l.take i ++ List.replicate (l.length - i) 0).length = l.length := by simp; omega
      simp only [laws_toIntS.l0, hlen, if_pos (show (i : Int) < (l.length : Int) by omega), if_pos (show (0 : Int) ≤ i by omega), rd_nat l i hi, Int.toNat_natCast, set_fill l 0 i hi, wrap_succ (show i ≤ 4611686018427387903 by omega)]
      exact ih
  have := key 0 (by omega)
  simpa using this

theorem laws_toRow_ev (l : List Int) (hl : l.length ≤ 1048576) : Ev (fun k => laws_toRow.f k l) l := by
  unfold laws_toRow.f
  exact Ev.bind (laws_toIntS_ev l hl) (Ev.const rfl)

theorem laws_eqIntS_ev (a b : List Int) (hl : a.length ≤ 1048576) : Ev (fun k => laws_eqIntS.f k a b) (decide (a = b)) := by
  unfold laws_eqIntS.f
  by_cases hab : a.length = b.length
  · simp only [if_pos (show (a.length : Int) = (b.length : Int) by omega)]
    have key : ∀ i, i ≤ a.length → Ev (fun k => laws_eqIntS.l0 k a b (i : Int)) (decide (a.drop i = b.drop i)) := by
      refine down_ind ?_ ?_
      · refine Ev.succ ?_
        simp only [laws_eqIntS.l0, Int.lt_irrefl, if_false]
        refine Ev.const ?_
        rw [List.drop_of_length_le (Nat.le_refl _), List.drop_of_length_le (by omega)]
        rfl
      · intro i hi ih
        have hb : i < b.length := by omega
        refine Ev.succ ?_
        simp only [laws_eqIntS.l0, if_pos (show (i : Int) < (a.length : Int) by omega), if_pos (show (0 : Int) ≤ i by omega), if_pos (show (i : Int) < (b.length : Int) by omega), rd_nat a i hi, rd_nat b i hb, wrap_succ (show i ≤ 4611686018427387903 by omega)]
        rw [drop_cons a i hi, drop_cons b i hb]
        by_cases he : a[i] = b[i]
        · simp only [if_pos he]
          exact Ev.cast ih (by simp only [List.cons.injEq, he, true_and])
        · simp only [if_neg he]
          exact Ev.const (by simp only [List.cons.injEq, he, false_and, decide_false])
    exact key 0 (by omega)
  · simp only [if_neg (show ¬ (a.length : Int) = (b.length : Int) by omega)]
    exact Ev.const (by
      have : a ≠ b := fun h => hab (by rw [h])
      simp [this])

theorem laws_eqRow_ev (a b : List Int) (hl : a.length ≤ 1048576) : Ev (fun k => laws_eqRow.f k a b) (decide (a = b)) := by
  unfold laws_eqRow.f
  refine Ev.bind (laws_eqIntS_ev a b hl) ?_
  by_cases h : a = b
  · simp [h]; exact Ev.const rfl
  · simp [h]; exact Ev.const rfl

theorem laws_szIntS_eq (l : List Int) (n : Nat) (hn : n ≤ 1048576) (hl : l.length ≤ 140737488351232) : laws_szIntS.f l n = some (if l.length ≤ n then ((n - l.length : Nat) : Int) else -1) := by
  unfold laws_szIntS.f
  rw [wrap_in (by omega) (by omega)]
  by_cases h : l.length ≤ n
  · rw [if_neg (by omega), if_pos h]
    congr 1
    omega
  · rw [if_pos (by omega), if_neg h]

theorem laws_szRow_eq (l : List Int) (n : Nat) (hn : n ≤ 1048576) (hl : l.length ≤ 140737488351232) : laws_szRow.f l n = some (if l.length ≤ n then ((n - l.length : Nat) : Int) else -1) := by
  unfold laws_szRow.f
  rw [laws_szIntS_eq l n hn hl]
  simp only [Option.bind_some]
  by_cases h : l.length ≤ n
  · simp only [if_pos h]
    rw [if_neg (by omega)]
  · simp only [if_neg h]
    rfl

/-- a row: n marks of -1, 0, 1; n from 1 to 5 -/
def mark3 (m : Int) : Bool := decide (-1 ≤ m ∧ m ≤ 1)
def row_ (l : List Int) (n : Int) : Bool := l.all mark3 && decide (1 ≤ n ∧ n ≤ 5) && decide ((l.length : Int) = n)

theorem spec_l1In_eq (a b c : Int) : spec_l1In.f a b c = some (decide (b ≤ a ∧ a ≤ c)) := by
  unfold spec_l1In.f
  split
  · have : b ≤ a := by omega
    simp [*]
  · have : ¬ b ≤ a := by omega
    simp [*]

theorem spec_IsRow_ev (l : List Int) (n : Int) (hl : l.length ≤ 1048576) : Ev (fun k => spec_IsRow.f k l n) (row_ l n) := by
  unfold spec_IsRow.f
  have key : ∀ i, i ≤ l.length → Ev (fun k => spec_IsRow.l0 k n (i : Int) l) ((l.drop i).all mark3 && decide (1 ≤ n ∧ n ≤ 5) && decide ((l.length : Int) = n)) := by
    refine down_ind ?_ ?_
    · refine Ev.succ ?_
      simp only [spec_IsRow.l0, Int.lt_irrefl, if_false, spec_l1In_eq, Option.bind_some]
      rw [List.drop_of_length_le (Nat.le_refl _)]
      by_cases h : 1 ≤ n ∧ n ≤ 5
      · simp only [h, decide_true, if_true]
        exact Ev.const (by simp; rfl)
      · simp only [h, decide_false, Bool.false_eq_true, if_false]
        exact Ev.const (by simp)
    · intro i hi ih
      refine Ev.succ ?_
      simp only [spec_IsRow.l0, if_pos (show (i : Int) < (l.length : Int) by omega), if_pos (show (0 : Int) ≤ i by omega), rd_nat l i hi, spec_l1In_eq, Option.bind_some, wrap_succ (show i ≤ 4611686018427387903 by omega)]
      rw [drop_cons l i hi, List.all_cons]
      by_cases h : -1 ≤ l[i] ∧ l[i] ≤ 1
      · simp only [mark3, h, decide_true, if_true, Bool.true_and]
        exact ih
      · simp only [mark3, h, decide_false, Bool.false_eq_true, if_false, Bool.false_and]
        exact Ev.const rfl
  exact key 0 (by omega)

theorem impl_within_eq (a b c : Int) : impl_within.f a b c = some (decide (b ≤ a ∧ a ≤ c)) := by
  unfold impl_within.f
  split
  · simp [*]
  · simp [*]

theorem impl_IsRow_ev (l : List Int) (n : Int) (hl : l.length ≤ 1048576) : Ev (fun k => impl_IsRow.f k l n) (row_ l n) := by
  unfold impl_IsRow.f
  have key : ∀ i, i ≤ l.length → Ev (fun k => impl_IsRow.l0 k n l (l.length : Int) (i : Int) l) ((l.drop i).all mark3 && decide (1 ≤ n ∧ n ≤ 5) && decide ((l.length : Int) = n)) := by
    refine down_ind ?_ ?_
    · refine Ev.succ ?_
      simp only [impl_IsRow.l0, Int.lt_irrefl, if_false, impl_within_eq, Option.bind_some]
      rw [List.drop_of_length_le (Nat.le_refl _)]
      by_cases h : 1 ≤ n ∧ n ≤ 5
      · simp only [h, decide_true, if_true]
        exact Ev.const (by simp; rfl)
      · simp only [h, decide_false, Bool.false_eq_true, if_false]
        exact Ev.const (by simp)
    · intro i hi ih
      refine Ev.succ ?_
      simp only [impl_IsRow.l0, if_pos (show (i : Int) < (l.length : Int) by omega), if_pos (show (0 : Int) ≤ i by omega), rd_nat l i hi, impl_within_eq, Option.bind_some, wrap_succ (show i ≤ 4611686018427387903 by omega)]
      rw [drop_cons l i hi, List.all_cons]
      by_cases h : -1 ≤ l[i] ∧ l[i] ≤ 1
      · simp only [mark3, h, decide_true, if_true, Bool.true_and]
        exact ih
      · simp only [mark3, h, decide_false, Bool.false_eq_true, if_false, Bool.false_and]
        exact Ev.const rfl
  exact key 0 (by omega)


theorem impl_isAnyRow_ev (l : List Int) (hl : l.length ≤ 1048576) : Ev (fun k => impl_isAnyRow.f k l) (row_ l l.length) := by
  unfold impl_isAnyRow.f
  exact Ev.bind (impl_IsRow_ev l _ hl) (Ev.const rfl)

theorem slices_Index_int_ev (l : List Int) (x : Int) (hl : l.length ≤ 1048576) : ∃ j : Int, Ev (fun k => slices_Index_int_int.f k l x) j ∧ (0 ≤ j ↔ x ∈ l) := by
  unfold slices_Index_int_int.f
  have key : ∀ i, i ≤ l.length → ∃ j : Int, Ev (fun k => slices_Index_int_int.l0 k l x (l.length : Int) (i : Int)) j ∧ (0 ≤ j ↔ x ∈ l.drop i) := by
    refine down_ind ?_ ?_
    · refine ⟨-1, Ev.succ ?_, by simp⟩
      simp only [slices_Index_int_int.l0, Int.lt_irrefl, if_false]
      exact Ev.const rfl
    · intro i hi ih
      rw [drop_cons l i hi]
      by_cases h : x = l[i]
      · refine ⟨(i : Int), Ev.succ ?_, ⟨fun _ => h ▸ List.mem_cons_self, fun _ => by omega⟩⟩
        simp only [slices_Index_int_int.l0, if_pos (show (i : Int) < (l.length : Int) by omega), if_pos (show (0 : Int) ≤ i by omega), rd_nat l i hi, if_pos h]
        exact Ev.const rfl
      · obtain ⟨j, hj, hij⟩ := ih
        refine ⟨j, Ev.succ ?_, by rw [hij, List.mem_cons]; simp [h]⟩
        simp only [slices_Index_int_int.l0, if_pos (show (i : Int) < (l.length : Int) by omega), if_pos (show (0 : Int) ≤ i by omega), rd_nat l i hi, if_neg h, wrap_succ (show i ≤ 4611686018427387903 by omega)]
        exact hj
  exact key 0 (by omega)
theorem slices_Contains_int_ev (l : List Int) (x : Int) (hl : l.length ≤ 1048576) : Ev (fun k => slices_Contains_int_int.f k l x) (decide (x ∈ l)) := by
  unfold slices_Contains_int_int.f
  obtain ⟨j, hj, hm⟩ := slices_Index_int_ev l x hl
  refine Ev.bind hj (Ev.const ?_)
  simp only [ge_iff_le, hm]

theorem spec_l13Count_ev (l : List Int) (x : Int) (hl : l.length ≤ 1048576) : Ev (fun k => spec_l13Count.f k l x) ((l.count x : Nat) : Int) := by
  unfold spec_l13Count.f
  have key : ∀ i, i ≤ l.length → ∀ n : Nat, n ≤ i → Ev (fun k => spec_l13Count.l0 k x (n : Int) (i : Int) l) ((n + (l.drop i).count x : Nat) : Int) := by
    refine down_ind ?_ ?_
    · intro n hn
      refine Ev.succ ?_
      simp only [spec_l13Count.l0, Int.lt_irrefl, if_false]
      exact Ev.const (by simp)
    · intro i hi ih n hn
      refine Ev.succ ?_
      simp only [spec_l13Count.l0, if_pos (show (i : Int) < (l.length : Int) by omega), if_pos (show (0 : Int) ≤ i by omega), rd_nat l i hi, wrap_succ (show i ≤ 4611686018427387903 by omega)]
      rw [drop_cons l i hi]
      by_cases h : l[i] = x
      · simp only [if_pos h, wrap_succ (show n ≤ 4611686018427387903 by omega)]
        refine Ev.cast (ih (n + 1) (by omega)) ?_
        rw [h, List.count_cons_self]
        omega
      · simp only [if_neg h]
        refine Ev.cast (ih n (by omega)) ?_
        rw [List.count_cons_of_ne h]
  have := key 0 (by omega) 0 (by omega)
  simpa using this

/-- nothing speaks for the winner alone -/
def impo (l : List Int) : Bool := row_ l l.length && (decide (-1 ∈ l) && !decide (1 ∈ l))
theorem spec_IsImpossible_ev (l : List Int) (hl : l.length ≤ 1048576) : Ev (fun k => spec_IsImpossible.f k l) (impo l) := by
  unfold spec_IsImpossible.f impo
  refine Ev.bind (spec_IsRow_ev l _ hl) ?_
  cases row_ l l.length
  · simp only [Bool.false_eq_true, if_false]
    exact Ev.const rfl
  · simp only [if_true, Bool.true_and]
    refine Ev.bind (spec_l13Count_ev l (-1) hl) ?_
    by_cases h : (-1 : Int) ∈ l
    · have := List.count_pos_iff.2 h
      simp only [if_pos (show ((l.count (-1) : Nat) : Int) > 0 by omega)]
      refine Ev.bind (spec_l13Count_ev l 1 hl) (Ev.const ?_)
      congr 1
      by_cases h1 : (1 : Int) ∈ l
      · have := List.count_pos_iff.2 h1
        simp only [h, h1, decide_true, Bool.not_true, Bool.and_false, beq_eq_false_iff_ne]
        omega
      · have := List.count_eq_zero.2 h1
        simp [h, h1, this]
    · have := List.count_eq_zero.2 h
      simp only [if_neg (show ¬ ((l.count (-1) : Nat) : Int) > 0 by omega)]
      exact Ev.const (by simp [h])
theorem impl_IsImpossible_ev (l : List Int) (hl : l.length ≤ 1048576) : Ev (fun k => impl_IsImpossible.f k l) (impo l) := by
  unfold impl_IsImpossible.f impo
  refine Ev.bind (impl_isAnyRow_ev l hl) ?_
  cases row_ l l.length
  · simp only [Bool.false_eq_true, if_false]
    exact Ev.const rfl
  · simp only [if_true, Bool.true_and]
    refine Ev.bind (slices_Contains_int_ev l (-1) hl) ?_
    by_cases h : (-1 : Int) ∈ l
    · simp only [h, decide_true, if_true, Bool.true_and]
      exact Ev.bind (slices_Contains_int_ev l 1 hl) (Ev.const rfl)
    · simp only [h, decide_false, Bool.false_eq_true, if_false]
      exact Ev.const rfl

theorem FnExactIsImpossible : laws_FnExactIsImpossible.Pure := by
  intro l hl
  have hl' : l.length ≤ 140737488351232 := by have := hl.1; omega
  refine Ev.rounds ?_
  unfold laws_FnExactIsImpossible.f
  simp only [show (1048576 : Int) = ((1048576 : Nat) : Int) from rfl, laws_szRow_eq l 1048576 (Nat.le_refl _) hl', Option.bind_some]
  by_cases h : l.length ≤ 1048576
  · simp only [if_pos h, if_neg (show ¬ (((1048576 - l.length : Nat) : Int)) < 0 by omega)]
    refine Ev.bind (laws_toRow_ev l h) (Ev.bind (spec_IsImpossible_ev l h) (Ev.bind (laws_toRow_ev l h) (Ev.bind (impl_IsImpossible_ev l h) ?_)))
    simp only [bne_self_eq_false, Bool.false_eq_true, if_false]
    refine Ev.bind (laws_toRow_ev l h) (Ev.bind (laws_eqRow_ev l l h) ?_)
    simp only [decide_true, if_true]
    exact Ev.const rfl
  · simp only [if_neg h]
    exact Ev.const rfl

end Go.Proofs.Ytdamagcfmhimfaa.Pure
