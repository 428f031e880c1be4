/- The pure statement of the law FnExactFormatWL: for all arguments within bounds its printed function answers true. -/
import Derived.Test.YtdamagcfmhimfaaPFnExactFormatWLx
import Derived.Test.YtdamagcfmhimfaaBase
namespace Go.Proofs.Ytdamagcfmhimfaa.Pure
open Go.RowKit Go.Proofs.YtdamagcfmhimfaaB Go.Proofs.Ytdamagcfmhimfaa.PFnExactFormatWL Go.Proofs.YtdamagcfmhimfaaW.PrintWords Go.Proofs.YtdamagcfmhimfaaW.PrintLast Go.Proofs.YtdamagcfmhimfaaW.PrintMore
set_option linter.unusedVariables false
set_option linter.unusedSimpArgs false

theorem laws_toIntS_ev (l : List Int) (hl : l.length ≤ 1048576) : Ev (fun k => laws_toIntS.f k l) l := by
  unfold laws_toIntS.f
  simp only [if_pos (show (0 : Int) ≤ (l.length : Int) by omega), Int.toNat_natCast, if_pos (show l.length ≤ 35184372088832 by omega)]
  have key : ∀ i, i ≤ l.length → Ev (fun k => laws_toIntS.l0 k l (l.take i ++ List.replicate (l.length - i) 0) (i : Int)) l := by
    refine down_ind ?_ ?_
    · refine Ev.succ ?_
      simp only [laws_toIntS.l0, Int.lt_irrefl, if_false]
      exact Ev.const (by simp)
    · intro i hi ih
      refine Ev.succ ?_
      have hlen : (l.take i ++ List.replicate (l.length - i) 0).length = l.length := by simp; omega
      simp only [laws_toIntS.l0, hlen, if_pos (show (i : Int) < (l.length : Int) by omega), if_pos (show (0 : Int) ≤ i by omega), rd_nat l i hi, Int.toNat_natCast, set_fill l 0 i hi, wrap_succ (show i ≤ 4611686018427387903 by omega)]
      exact ih
  have := key 0 (by omega)
  simpa using this

theorem laws_toRow_ev (l : List Int) (hl : l.length ≤ 1048576) : Ev (fun k => laws_toRow.f k l) l := by
  unfold laws_toRow.f
  exact Ev.bind (laws_toIntS_ev l hl) (Ev.const rfl)

theorem laws_eqIntS_ev (a b : List Int) (hl : a.length ≤ 1048576) : Ev (fun k => laws_eqIntS.f k a b) (decide (a = b)) := by
  unfold laws_eqIntS.f
  by_cases hab : a.length = b.length
  · simp only [if_pos (show (a.length : Int) = (b.length : Int) by omega)]
    have key : ∀ i, i ≤ a.length → Ev (fun k => laws_eqIntS.l0 k a b (i : Int)) (decide (a.drop i = b.drop i)) := by
      refine down_ind ?_ ?_
      · refine Ev.succ ?_
        simp only [laws_eqIntS.l0, Int.lt_irrefl, if_false]
        refine Ev.const ?_
        rw [List.drop_of_length_le (Nat.le_refl _), List.drop_of_length_le (by omega)]
        rfl
      · intro i hi ih
        have hb : i < b.length := by omega
        refine Ev.succ ?_
        simp only [laws_eqIntS.l0, if_pos (show (i : Int) < (a.length : Int) by omega), if_pos (show (0 : Int) ≤ i by omega), if_pos (show (i : Int) < (b.length : Int) by omega), rd_nat a i hi, rd_nat b i hb, wrap_succ (show i ≤ 4611686018427387903 by omega)]
        rw [drop_cons a i hi, drop_cons b i hb]
        by_cases he : a[i] = b[i]
        · simp only [if_pos he]
          exact Ev.cast ih (by simp only [List.cons.injEq, he, true_and])
        · simp only [if_neg he]
          exact Ev.const (by simp only [List.cons.injEq, he, false_and, decide_false])
    exact key 0 (by omega)
  · simp only [if_neg (show ¬ (a.length : Int) = (b.length : Int) by omega)]
    exact Ev.const (by
      have : a ≠ b := fun h => hab (by rw [h])
      simp [this])

theorem laws_eqRow_ev (a b : List Int) (hl : a.length ≤ 1048576) : Ev (fun k => laws_eqRow.f k a b) (decide (a = b)) := by
  unfold laws_eqRow.f
  refine Ev.bind (laws_eqIntS_ev a b hl) ?_
  by_cases h : a = b
  · simp [h]; exact Ev.const rfl
  · simp [h]; exact Ev.const rfl

theorem laws_szIntS_eq (l : List Int) (n : Nat) (hn : n ≤ 1048576) (hl : l.length ≤ 140737488351232) : laws_szIntS.f l n = some (if l.length ≤ n then ((n - l.length : Nat) : Int) else -1) := by
  unfold laws_szIntS.f
  rw [wrap_in (by omega) (by omega)]
  by_cases h : l.length ≤ n
  · rw [if_neg (by omega), if_pos h]
    congr 1
    omega
  · rw [if_pos (by omega), if_neg h]

theorem laws_szRow_eq (l : List Int) (n : Nat) (hn : n ≤ 1048576) (hl : l.length ≤ 140737488351232) : laws_szRow.f l n = some (if l.length ≤ n then ((n - l.length : Nat) : Int) else -1) := by
  unfold laws_szRow.f
  rw [laws_szIntS_eq l n hn hl]
  simp only [Option.bind_some]
  by_cases h : l.length ≤ n
  · simp only [if_pos h]
    rw [if_neg (by omega)]
  · simp only [if_neg h]
    rfl

/-- a row: n marks of -1, 0, 1; n from 1 to 5 -/
def mark3 (m : Int) : Bool := decide (-1 ≤ m ∧ m ≤ 1)
def row_ (l : List Int) (n : Int) : Bool := l.all mark3 && decide (1 ≤ n ∧ n ≤ 5) && decide ((l.length : Int) = n)

theorem spec_l1In_eq (a b c : Int) : spec_l1In.f a b c = some (decide (b ≤ a ∧ a ≤ c)) := by
  unfold spec_l1In.f
  split
  · have : b ≤ a := by omega
    simp [*]
  · have : ¬ b ≤ a := by omega
    simp [*]

theorem spec_IsRow_ev (l : List Int) (n : Int) (hl : l.length ≤ 1048576) : Ev (fun k => spec_IsRow.f k l n) (row_ l n) := by
  unfold spec_IsRow.f
  have key : ∀ i, i ≤ l.length → Ev (fun k => spec_IsRow.l0 k n (i : Int) l) ((l.drop i).all mark3 && decide (1 ≤ n ∧ n ≤ 5) && decide ((l.length : Int) = n)) := by
    refine down_ind ?_ ?_
    · refine Ev.succ ?_
      simp only [spec_IsRow.l0, Int.lt_irrefl, if_false, spec_l1In_eq, Option.bind_some]
      rw [List.drop_of_length_le (Nat.le_refl _)]
      by_cases h : 1 ≤ n ∧ n ≤ 5
      · simp only [h, decide_true, if_true]
        exact Ev.const (by simp; rfl)
      · simp only [h, decide_false, Bool.false_eq_true, if_false]
        exact Ev.const (by simp)
    · intro i hi ih
      refine Ev.succ ?_
      simp only [spec_IsRow.l0, if_pos (show (i : Int) < (l.length : Int) by omega), if_pos (show (0 : Int) ≤ i by omega), rd_nat l i hi, spec_l1In_eq, Option.bind_some, wrap_succ (show i ≤ 4611686018427387903 by omega)]
      rw [drop_cons l i hi, List.all_cons]
      by_cases h : -1 ≤ l[i] ∧ l[i] ≤ 1
      · simp only [mark3, h, decide_true, if_true, Bool.true_and]
        exact ih
      · simp only [mark3, h, decide_false, Bool.false_eq_true, if_false, Bool.false_and]
        exact Ev.const rfl
  exact key 0 (by omega)

theorem impl_within_eq (a b c : Int) : impl_within.f a b c = some (decide (b ≤ a ∧ a ≤ c)) := by
  unfold impl_within.f
  split
  · simp [*]
  · simp [*]

theorem impl_IsRow_ev (l : List Int) (n : Int) (hl : l.length ≤ 1048576) : Ev (fun k => impl_IsRow.f k l n) (row_ l n) := by
  unfold impl_IsRow.f
  have key : ∀ i, i ≤ l.length → Ev (fun k => impl_IsRow.l0 k n l (l.length : Int) (i : Int) l) ((l.drop i).all mark3 && decide (1 ≤ n ∧ n ≤ 5) && decide ((l.length : Int) = n)) := by
    refine down_ind ?_ ?_
    · refine Ev.succ ?_
      simp only [impl_IsRow.l0, Int.lt_irrefl, if_false, impl_within_eq, Option.bind_some]
      rw [List.drop_of_length_le (Nat.le_refl _)]
      by_cases h : 1 ≤ n ∧ n ≤ 5
      · simp only [h, decide_true, if_true]
        exact Ev.const (by simp; rfl)
      · simp only [h, decide_false, Bool.false_eq_true, if_false]
        exact Ev.const (by simp)
    · intro i hi ih
      refine Ev.succ ?_
      simp only [impl_IsRow.l0, if_pos (show (i : Int) < (l.length : Int) by omega), if_pos (show (0 : Int) ≤ i by omega), rd_nat l i hi, impl_within_eq, Option.bind_some, wrap_succ (show i ≤ 4611686018427387903 by omega)]
      rw [drop_cons l i hi, List.all_cons]
      by_cases h : -1 ≤ l[i] ∧ l[i] ≤ 1
      · simp only [mark3, h, decide_true, if_true, Bool.true_and]
        exact ih
      · simp only [mark3, h, decide_false, Bool.false_eq_true, if_false, Bool.false_and]
        exact Ev.const rfl
  exact key 0 (by omega)


theorem impl_isAnyRow_ev (l : List Int) (hl : l.length ≤ 1048576) : Ev (fun k => impl_isAnyRow.f k l) (row_ l l.length) := by
  unfold impl_isAnyRow.f
  exact Ev.bind (impl_IsRow_ev l _ hl) (Ev.const rfl)

def wl (m : Int) : ByteArray := if m = 1 then ⟨#[87]⟩ else if m = -1 then ⟨#[76]⟩ else ⟨#[101]⟩
theorem wl_size (m : Int) : (wl m).size = 1 := by
  unfold wl
  split
  · rfl
  · split <;> rfl
theorem wl_cut (m : Int) (h : mark3 m = true) : (⟨#[76, 101, 87]⟩ : ByteArray).extract (m + 1).toNat (m + 2).toNat = wl m := by
  have h' : -1 ≤ m ∧ m ≤ 1 := of_decide_eq_true h
  rcases (show m = -1 ∨ m = 0 ∨ m = 1 by omega) with rfl | rfl | rfl <;> decide +kernel
def fmtWL (l : List Int) : ByteArray := if row_ l l.length then (l.map wl).foldl (· ++ ·) ⟨#[]⟩ else ⟨#[]⟩
theorem size_app (a b : ByteArray) : (a ++ b).size = a.size + b.size := by
  rw [← B_length, ← B_length, ← B_length, B_append, List.length_append]
theorem impl_FormatWL_ev (l : List Int) (hl : l.length ≤ 1048576) : Ev (fun k => impl_FormatWL.f k l) (fmtWL l) := by
  unfold impl_FormatWL.f fmtWL
  refine Ev.bind (impl_isAnyRow_ev l hl) ?_
  cases hr : row_ l l.length
  · simp only [Bool.false_eq_true, if_false]
    exact Ev.const rfl
  · have hall : l.all mark3 = true := by
      unfold row_ at hr
      simp only [Bool.and_eq_true] at hr
      exact hr.1.1
    simp only [if_true]
    have key : ∀ i, i ≤ l.length → ∀ acc : ByteArray, acc.size = i → Ev (fun k => impl_FormatWL.l0 k acc l (l.length : Int) (i : Int)) (((l.drop i).map wl).foldl (· ++ ·) acc) := by
      refine down_ind ?_ ?_
      · intro acc _
        refine Ev.succ ?_
        simp only [impl_FormatWL.l0, Int.lt_irrefl, if_false]
        exact Ev.const (by simp)
      · intro i hi ih acc hacc
        have hm := List.all_eq_true.1 hall _ (List.getElem_mem hi)
        have hm' : -1 ≤ l[i] ∧ l[i] ≤ 1 := of_decide_eq_true hm
        have hw1 : wrap64 (l[i] + 1) = l[i] + 1 := by unfold wrap64; omega
        have hw2 : wrap64 (l[i] + 2) = l[i] + 2 := by unfold wrap64; omega
        refine Ev.succ ?_
        simp only [impl_FormatWL.l0, if_pos (show (i : Int) < (l.length : Int) by omega), if_pos (show (0 : Int) ≤ i by omega), rd_nat l i hi, hw1, hw2, if_pos (show 0 ≤ l[i] + 1 by omega), if_pos (show l[i] + 1 ≤ l[i] + 2 by omega), if_pos (show l[i] + 2 ≤ 3 by omega), wl_cut _ hm, wl_size, if_pos (show acc.size + 1 ≤ 9223372036854775807 by omega), wrap_succ (show i ≤ 4611686018427387903 by omega)]
        refine Ev.cast (ih (acc ++ wl l[i]) (by rw [size_app, wl_size]; omega)) ?_
        rw [drop_cons l i hi]
        rfl
    exact key 0 (by omega) _ rfl
theorem spec_FormatWL_ev (l : List Int) (hl : l.length ≤ 1048576) : Ev (fun k => spec_FormatWL.f k l) (fmtWL l) := by
  unfold spec_FormatWL.f fmtWL
  cases hr : row_ l l.length
  · simp only [Bool.false_eq_true, if_false]
    refine Ev.succ ?_
    by_cases h0 : l.length = 0
    · simp only [spec_FormatWL.l0, if_neg (show ¬ (0 : Int) < (l.length : Int) by omega)]
      refine Ev.succ ?_
      simp only [spec_FormatWL.j1, Bool.false_eq_true, if_false]
      exact Ev.const rfl
    · simp only [spec_FormatWL.l0, if_pos (show (0 : Int) < (l.length : Int) by omega)]
      refine Ev.bind (spec_IsRow_ev l _ hl) ?_
      rw [hr]
      refine Ev.succ ?_
      simp only [spec_FormatWL.j1, Bool.false_eq_true, if_false]
      exact Ev.const rfl
  · have hall : l.all mark3 = true := by
      unfold row_ at hr
      simp only [Bool.and_eq_true] at hr
      exact hr.1.1
    simp only [if_true]
    have key : ∀ i, i ≤ l.length → ∀ acc : ByteArray, acc.size = i → Ev (fun k => spec_FormatWL.l0 k acc (i : Int) l) (((l.drop i).map wl).foldl (· ++ ·) acc) := by
      refine down_ind ?_ ?_
      · intro acc _
        refine Ev.succ ?_
        simp only [spec_FormatWL.l0, Int.lt_irrefl, if_false]
        refine Ev.succ ?_
        simp only [spec_FormatWL.j1, Bool.false_eq_true, if_false]
        exact Ev.const (by simp)
      · intro i hi ih acc hacc
        refine Ev.succ ?_
        simp only [spec_FormatWL.l0, if_pos (show (i : Int) < (l.length : Int) by omega)]
        refine Ev.bind (spec_IsRow_ev l _ hl) ?_
        rw [hr]
        refine Ev.succ ?_
        simp only [spec_FormatWL.j1, if_true, if_pos (show (i : Int) < (l.length : Int) by omega), if_pos (show (0 : Int) ≤ i by omega), rd_nat l i hi, if_pos (show acc.size + 1 ≤ 9223372036854775807 by omega), wrap_succ (show i ≤ 4611686018427387903 by omega)]
        have ih' := ih (acc ++ wl l[i]) (by rw [size_app, wl_size]; omega)
        rw [drop_cons l i hi]
        by_cases h1 : l[i] = 1
        · simp only [if_pos h1]
          have e : wl l[i] = ⟨#[87]⟩ := by simp [wl, h1]
          rw [e] at ih'
          exact Ev.cast ih' (by rw [List.map_cons, List.foldl_cons, e])
        · by_cases h2 : l[i] = -1
          · simp only [if_neg h1, if_pos h2]
            have e : wl l[i] = ⟨#[76]⟩ := by simp [wl, h2]
            rw [e] at ih'
            exact Ev.cast ih' (by rw [List.map_cons, List.foldl_cons, e])
          · simp only [if_neg h1, if_neg h2]
            have e : wl l[i] = ⟨#[101]⟩ := by simp [wl, h1, h2]
            rw [e] at ih'
            exact Ev.cast ih' (by rw [List.map_cons, List.foldl_cons, e])
    exact key 0 (by omega) _ rfl

theorem FnExactFormatWL : laws_FnExactFormatWL.Pure := by
  intro l hl
  have hl' : l.length ≤ 140737488351232 := by have := hl.1; omega
  refine Ev.rounds ?_
  unfold laws_FnExactFormatWL.f
  simp only [show (1048576 : Int) = ((1048576 : Nat) : Int) from rfl, laws_szRow_eq l 1048576 (Nat.le_refl _) hl', Option.bind_some]
  by_cases h : l.length ≤ 1048576
  · simp only [if_pos h, if_neg (show ¬ (((1048576 - l.length : Nat) : Int)) < 0 by omega)]
    refine Ev.bind (laws_toRow_ev l h) (Ev.bind (spec_FormatWL_ev l h) (Ev.bind (laws_toRow_ev l h) (Ev.bind (impl_FormatWL_ev l h) ?_)))
    simp only [if_true]
    refine Ev.bind (laws_toRow_ev l h) (Ev.bind (laws_eqRow_ev l l h) ?_)
    simp only [decide_true, if_true]
    exact Ev.const rfl
  · simp only [if_neg h]
    exact Ev.const rfl

end Go.Proofs.Ytdamagcfmhimfaa.Pure
