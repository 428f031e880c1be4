/- The pure statement of the law FnExactEntailsRow: for all arguments within bounds its printed function answers true. -/
import Derived.Test.YtdamagcfmhimfabPFnExactEntailsRowx
import Derived.Test.YtdamagcfmhimfabBase
namespace Go.Proofs.Ytdamagcfmhimfab.Pure
open Go.RowKit Go.Proofs.YtdamagcfmhimfabB Go.Proofs.Ytdamagcfmhimfab.PFnExactEntailsRow Go.Proofs.YtdamagcfmhimfabW.PrintWords Go.Proofs.YtdamagcfmhimfabW.PrintLast Go.Proofs.YtdamagcfmhimfabW.PrintMore
set_option linter.unusedVariables false
set_option linter.unusedSimpArgs false

theorem laws_toIntS_ev (l : List Int) (hl : l.length ≤ 1048576) : Ev (fun k => laws_toIntS.f k l) l := by
  unfold laws_toIntS.f
  simp only [if_pos (show (0 : Int) ≤ (l.length : Int) by omega), Int.toNat_natCast, if_pos (show l.length ≤ 35184372088832 by omega)]
  have key : ∀ i, i ≤ l.length → Ev (fun k => laws_toIntS.l0 k l (l.take i ++ List.replicate (l.length - i) 0) (i : Int)) l := by
    refine down_ind ?_ ?_
    · refine Ev.succ ?_
      simp only [laws_toIntS.l0, Int.lt_irrefl, if_false]
      exact Ev.const (by simp)
    · intro i hi ih
      refine Ev.succ ?_
      have hlen : (l.take i ++ List.replicate (l.length - i) 0).length = l.length := by simp; omega
      simp only [laws_toIntS.l0, hlen, if_pos (show (i : Int) < (l.length : Int) by omega), if_pos (show (0 : Int) ≤ i by omega), rd_nat l i hi, Int.toNat_natCast, set_fill l 0 i hi, wrap_succ (show i ≤ 4611686018427387903 by omega)]
      exact ih
  have := key 0 (by omega)
  simpa using this

theorem laws_toRow_ev (l : List Int) (hl : l.length ≤ 1048576) : Ev (fun k => laws_toRow.f k l) l := by
  unfold laws_toRow.f
  exact Ev.bind (laws_toIntS_ev l hl) (Ev.const rfl)

theorem laws_eqIntS_ev (a b : List Int) (hl : a.length ≤ 1048576) : Ev (fun k => laws_eqIntS.f k a b) (decide (a = b)) := by
  unfold laws_eqIntS.f
  by_cases hab : a.length = b.length
  · simp only [if_pos (show (a.length : Int) = (b.length : Int) by omega)]
    have key : ∀ i, i ≤ a.length → Ev (fun k => laws_eqIntS.l0 k a b (i : Int)) (decide (a.drop i = b.drop i)) := by
      refine down_ind ?_ ?_
      · refine Ev.succ ?_
        simp only [laws_eqIntS.l0, Int.lt_irrefl, if_false]
        refine Ev.const ?_
        rw [List.drop_of_length_le (Nat.le_refl _), List.drop_of_length_le (by omega)]
        rfl
      · intro i hi ih
        have hb : i < b.length := by omega
        refine Ev.succ ?_
        simp only [laws_eqIntS.l0, if_pos (show (i : Int) < (a.length : Int) by omega), if_pos (show (0 : Int) ≤ i by omega), if_pos (show (i : Int) < (b.length : Int) by omega), rd_nat a i hi, rd_nat b i hb, wrap_succ (show i ≤ 4611686018427387903 by omega)]
        rw [drop_cons a i hi, drop_cons b i hb]
        by_cases he : a[i] = b[i]
        · simp only [if_pos he]
          exact Ev.cast ih (by simp only [List.cons.injEq, he, true_and])
        · simp only [if_neg he]
          exact Ev.const (by simp only [List.cons.injEq, he, false_and, decide_false])
    exact key 0 (by omega)
  · simp only [if_neg (show ¬ (a.length : Int) = (b.length : Int) by omega)]
    exact Ev.const (by
      have : a ≠ b := fun h => hab (by rw [h])
      simp [this])

theorem laws_eqRow_ev (a b : List Int) (hl : a.length ≤ 1048576) : Ev (fun k => laws_eqRow.f k a b) (decide (a = b)) := by
  unfold laws_eqRow.f
  refine Ev.bind (laws_eqIntS_ev a b hl) ?_
  by_cases h : a = b
  · simp [h]; exact Ev.const rfl
  · simp [h]; exact Ev.const rfl

theorem laws_szIntS_eq (l : List Int) (n : Nat) (hn : n ≤ 1048576) (hl : l.length ≤ 140737488351232) : laws_szIntS.f l n = some (if l.length ≤ n then ((n - l.length : Nat) : Int) else -1) := by
  unfold laws_szIntS.f
  rw [wrap_in (by omega) (by omega)]
  by_cases h : l.length ≤ n
  · rw [if_neg (by omega), if_pos h]
    congr 1
    omega
  · rw [if_pos (by omega), if_neg h]

theorem laws_szRow_eq (l : List Int) (n : Nat) (hn : n ≤ 1048576) (hl : l.length ≤ 140737488351232) : laws_szRow.f l n = some (if l.length ≤ n then ((n - l.length : Nat) : Int) else -1) := by
  unfold laws_szRow.f
  rw [laws_szIntS_eq l n hn hl]
  simp only [Option.bind_some]
  by_cases h : l.length ≤ n
  · simp only [if_pos h]
    rw [if_neg (by omega)]
  · simp only [if_neg h]
    rfl

/-- a row: n marks of -1, 0, 1; n from 1 to 5 -/
def mark3 (m : Int) : Bool := decide (-1 ≤ m ∧ m ≤ 1)
def row_ (l : List Int) (n : Int) : Bool := l.all mark3 && decide (1 ≤ n ∧ n ≤ 5) && decide ((l.length : Int) = n)

theorem spec_l1In_eq (a b c : Int) : spec_l1In.f a b c = some (decide (b ≤ a ∧ a ≤ c)) := by
  unfold spec_l1In.f
  split
  · have : b ≤ a := by omega
    simp [*]
  · have : ¬ b ≤ a := by omega
    simp [*]

theorem spec_IsRow_ev (l : List Int) (n : Int) (hl : l.length ≤ 1048576) : Ev (fun k => spec_IsRow.f k l n) (row_ l n) := by
  unfold spec_IsRow.f
  have key : ∀ i, i ≤ l.length → Ev (fun k => spec_IsRow.l0 k n (i : Int) l) ((l.drop i).all mark3 && decide (1 ≤ n ∧ n ≤ 5) && decide ((l.length : Int) = n)) := by
    refine down_ind ?_ ?_
    · refine Ev.succ ?_
      simp only [spec_IsRow.l0, Int.lt_irrefl, if_false, spec_l1In_eq, Option.bind_some]
      rw [List.drop_of_length_le (Nat.le_refl _)]
      by_cases h : 1 ≤ n ∧ n ≤ 5
      · simp only [h, decide_true, if_true]
        exact Ev.const (by simp; rfl)
      · simp only [h, decide_false, Bool.false_eq_true, if_false]
        exact Ev.const (by simp)
    · intro i hi ih
      refine Ev.succ ?_
      simp only [spec_IsRow.l0, if_pos (show (i : Int) < (l.length : Int) by omega), if_pos (show (0 : Int) ≤ i by omega), rd_nat l i hi, spec_l1In_eq, Option.bind_some, wrap_succ (show i ≤ 4611686018427387903 by omega)]
      rw [drop_cons l i hi, List.all_cons]
      by_cases h : -1 ≤ l[i] ∧ l[i] ≤ 1
      · simp only [mark3, h, decide_true, if_true, Bool.true_and]
        exact ih
      · simp only [mark3, h, decide_false, Bool.false_eq_true, if_false, Bool.false_and]
        exact Ev.const rfl
  exact key 0 (by omega)

theorem impl_within_eq (a b c : Int) : impl_within.f a b c = some (decide (b ≤ a ∧ a ≤ c)) := by
  unfold impl_within.f
  split
  · simp [*]
  · simp [*]

theorem impl_IsRow_ev (l : List Int) (n : Int) (hl : l.length ≤ 1048576) : Ev (fun k => impl_IsRow.f k l n) (row_ l n) := by
  unfold impl_IsRow.f
  have key : ∀ i, i ≤ l.length → Ev (fun k => impl_IsRow.l0 k n l (l.length : Int) (i : Int) l) ((l.drop i).all mark3 && decide (1 ≤ n ∧ n ≤ 5) && decide ((l.length : Int) = n)) := by
    refine down_ind ?_ ?_
    · refine Ev.succ ?_
      simp only [impl_IsRow.l0, Int.lt_irrefl, if_false, impl_within_eq, Option.bind_some]
      rw [List.drop_of_length_le (Nat.le_refl _)]
      by_cases h : 1 ≤ n ∧ n ≤ 5
      · simp only [h, decide_true, if_true]
        exact Ev.const (by simp; rfl)
      · simp only [h, decide_false, Bool.false_eq_true, if_false]
        exact Ev.const (by simp)
    · intro i hi ih
      refine Ev.succ ?_
      simp only [impl_IsRow.l0, if_pos (show (i : Int) < (l.length : Int) by omega), if_pos (show (0 : Int) ≤ i by omega), rd_nat l i hi, impl_within_eq, Option.bind_some, wrap_succ (show i ≤ 4611686018427387903 by omega)]
      rw [drop_cons l i hi, List.all_cons]
      by_cases h : -1 ≤ l[i] ∧ l[i] ≤ 1
      · simp only [mark3, h, decide_true, if_true, Bool.true_and]
        exact ih
      · simp only [mark3, h, decide_false, Bool.false_eq_true, if_false, Bool.false_and]
        exact Ev.const rfl
  exact key 0 (by omega)


theorem impl_isAnyRow_ev (l : List Int) (hl : l.length ≤ 1048576) : Ev (fun k => impl_isAnyRow.f k l) (row_ l l.length) := by
  unfold impl_isAnyRow.f
  exact Ev.bind (impl_IsRow_ev l _ hl) (Ev.const rfl)

theorem slices_Index_int_ev (l : List Int) (x : Int) (hl : l.length ≤ 1048576) : ∃ j : Int, Ev (fun k => slices_Index_int_int.f k l x) j ∧ (0 ≤ j ↔ x ∈ l) := by
  unfold slices_Index_int_int.f
  have key : ∀ i, i ≤ l.length → ∃ j : Int, Ev (fun k => slices_Index_int_int.l0 k l x (l.length : Int) (i : Int)) j ∧ (0 ≤ j ↔ x ∈ l.drop i) := by
    refine down_ind ?_ ?_
    · refine ⟨-1, Ev.succ ?_, by simp⟩
      simp only [slices_Index_int_int.l0, Int.lt_irrefl, if_false]
      exact Ev.const rfl
    · intro i hi ih
      rw [drop_cons l i hi]
      by_cases h : x = l[i]
      · refine ⟨(i : Int), Ev.succ ?_, ⟨fun _ => h ▸ List.mem_cons_self, fun _ => by omega⟩⟩
        simp only [slices_Index_int_int.l0, if_pos (show (i : Int) < (l.length : Int) by omega), if_pos (show (0 : Int) ≤ i by omega), rd_nat l i hi, if_pos h]
        exact Ev.const rfl
      · obtain ⟨j, hj, hij⟩ := ih
        refine ⟨j, Ev.succ ?_, by rw [hij, List.mem_cons]; simp [h]⟩
        simp only [slices_Index_int_int.l0, if_pos (show (i : Int) < (l.length : Int) by omega), if_pos (show (0 : Int) ≤ i by omega), rd_nat l i hi, if_neg h, wrap_succ (show i ≤ 4611686018427387903 by omega)]
        exact hj
  exact key 0 (by omega)
theorem slices_Contains_int_ev (l : List Int) (x : Int) (hl : l.length ≤ 1048576) : Ev (fun k => slices_Contains_int_int.f k l x) (decide (x ∈ l)) := by
  unfold slices_Contains_int_int.f
  obtain ⟨j, hj, hm⟩ := slices_Index_int_ev l x hl
  refine Ev.bind hj (Ev.const ?_)
  simp only [ge_iff_le, hm]

theorem spec_l13Count_ev (l : List Int) (x : Int) (hl : l.length ≤ 1048576) : Ev (fun k => spec_l13Count.f k l x) ((l.count x : Nat) : Int) := by
  unfold spec_l13Count.f
  have key : ∀ i, i ≤ l.length → ∀ n : Nat, n ≤ i → Ev (fun k => spec_l13Count.l0 k x (n : Int) (i : Int) l) ((n + (l.drop i).count x : Nat) : Int) := by
    refine down_ind ?_ ?_
    · intro n hn
      refine Ev.succ ?_
      simp only [spec_l13Count.l0, Int.lt_irrefl, if_false]
      exact Ev.const (by simp)
    · intro i hi ih n hn
      refine Ev.succ ?_
      simp only [spec_l13Count.l0, if_pos (show (i : Int) < (l.length : Int) by omega), if_pos (show (0 : Int) ≤ i by omega), rd_nat l i hi, wrap_succ (show i ≤ 4611686018427387903 by omega)]
      rw [drop_cons l i hi]
      by_cases h : l[i] = x
      · simp only [if_pos h, wrap_succ (show n ≤ 4611686018427387903 by omega)]
        refine Ev.cast (ih (n + 1) (by omega)) ?_
        rw [h, List.count_cons_self]
        omega
      · simp only [if_neg h]
        refine Ev.cast (ih n (by omega)) ?_
        rw [List.count_cons_of_ne h]
  have := key 0 (by omega) 0 (by omega)
  simpa using this

/-- nothing speaks for the loser -/
def triv (l : List Int) : Bool := row_ l l.length && !decide (-1 ∈ l)
theorem spec_IsTrivial_ev (l : List Int) (hl : l.length ≤ 1048576) : Ev (fun k => spec_IsTrivial.f k l) (triv l) := by
  unfold spec_IsTrivial.f triv
  refine Ev.bind (spec_IsRow_ev l _ hl) ?_
  cases row_ l l.length
  · simp only [Bool.false_eq_true, if_false]
    exact Ev.const rfl
  · simp only [if_true]
    refine Ev.bind (spec_l13Count_ev l (-1) hl) (Ev.const ?_)
    congr 1
    by_cases h : (-1 : Int) ∈ l
    · have := List.count_pos_iff.2 h
      simp only [h, decide_true, Bool.not_true, Bool.and_false, beq_eq_false_iff_ne]
      omega
    · have := List.count_eq_zero.2 h
      simp [h, this]
theorem impl_IsTrivial_ev (l : List Int) (hl : l.length ≤ 1048576) : Ev (fun k => impl_IsTrivial.f k l) (triv l) := by
  unfold impl_IsTrivial.f triv
  refine Ev.bind (impl_isAnyRow_ev l hl) ?_
  cases row_ l l.length
  · simp only [Bool.false_eq_true, if_false]
    exact Ev.const rfl
  · simp only [if_true]
    exact Ev.bind (slices_Contains_int_ev l (-1) hl) (Ev.const rfl)

/-- nothing speaks for the winner alone -/
def impo (l : List Int) : Bool := row_ l l.length && (decide (-1 ∈ l) && !decide (1 ∈ l))
theorem spec_IsImpossible_ev (l : List Int) (hl : l.length ≤ 1048576) : Ev (fun k => spec_IsImpossible.f k l) (impo l) := by
  unfold spec_IsImpossible.f impo
  refine Ev.bind (spec_IsRow_ev l _ hl) ?_
  cases row_ l l.length
  · simp only [Bool.false_eq_true, if_false]
    exact Ev.const rfl
  · simp only [if_true, Bool.true_and]
    refine Ev.bind (spec_l13Count_ev l (-1) hl) ?_
    by_cases h : (-1 : Int) ∈ l
    · have := List.count_pos_iff.2 h
      simp only [if_pos (show ((l.count (-1) : Nat) : Int) > 0 by omega)]
      refine Ev.bind (spec_l13Count_ev l 1 hl) (Ev.const ?_)
      congr 1
      by_cases h1 : (1 : Int) ∈ l
      · have := List.count_pos_iff.2 h1
        simp only [h, h1, decide_true, Bool.not_true, Bool.and_false, beq_eq_false_iff_ne]
        omega
      · have := List.count_eq_zero.2 h1
        simp [h, h1, this]
    · have := List.count_eq_zero.2 h
      simp only [if_neg (show ¬ ((l.count (-1) : Nat) : Int) > 0 by omega)]
      exact Ev.const (by simp [h])
theorem impl_IsImpossible_ev (l : List Int) (hl : l.length ≤ 1048576) : Ev (fun k => impl_IsImpossible.f k l) (impo l) := by
  unfold impl_IsImpossible.f impo
  refine Ev.bind (impl_isAnyRow_ev l hl) ?_
  cases row_ l l.length
  · simp only [Bool.false_eq_true, if_false]
    exact Ev.const rfl
  · simp only [if_true, Bool.true_and]
    refine Ev.bind (slices_Contains_int_ev l (-1) hl) ?_
    by_cases h : (-1 : Int) ∈ l
    · simp only [h, decide_true, if_true, Bool.true_and]
      exact Ev.bind (slices_Contains_int_ev l 1 hl) (Ev.const rfl)
    · simp only [h, decide_false, Bool.false_eq_true, if_false]
      exact Ev.const rfl

def entOk (p : Int × Int) : Bool := !(decide (p.1 = 1) && !decide (p.2 = 1)) && !(decide (p.2 = -1) && !decide (p.1 = -1))
def ent (a b : List Int) : Bool := row_ a a.length && (row_ b a.length && (triv b || (impo a || (a.zip b).all entOk)))
theorem row_len {l : List Int} {n : Int} (h : row_ l n = true) : (l.length : Int) = n := by
  unfold row_ at h
  simp only [Bool.and_eq_true, decide_eq_true_eq] at h
  exact h.2
theorem spec_EntailsRow_ev (a b : List Int) (ha : a.length ≤ 1048576) (hb : b.length ≤ 1048576) : Ev (fun k => spec_EntailsRow.f k a b) (ent a b) := by
  unfold spec_EntailsRow.f ent
  refine Ev.bind (spec_IsRow_ev a _ ha) ?_
  cases row_ a a.length
  · simp only [Bool.false_eq_true, if_false]
    refine Ev.succ ?_
    simp only [spec_EntailsRow.j0, if_true]
    exact Ev.const rfl
  · simp only [if_true, Bool.true_and]
    refine Ev.bind (spec_IsRow_ev b _ hb) ?_
    cases hr : row_ b a.length
    · refine Ev.succ ?_
      simp only [spec_EntailsRow.j0, Bool.not_false, if_true]
      exact Ev.const rfl
    · have hab : a.length = b.length := by have := row_len hr; omega
      refine Ev.succ ?_
      simp only [spec_EntailsRow.j0, Bool.not_true, Bool.false_eq_true, if_false, Bool.true_and]
      refine Ev.bind (spec_IsTrivial_ev b hb) ?_
      cases triv b
      · simp only [Bool.false_eq_true, if_false, Bool.false_or]
        refine Ev.bind (spec_IsImpossible_ev a ha) ?_
        cases impo a
        · refine Ev.succ ?_
          simp only [spec_EntailsRow.j1, Bool.false_eq_true, if_false, Bool.false_or]
          have key : ∀ i, i ≤ a.length → Ev (fun k => spec_EntailsRow.l0 k (i : Int) a b) (((a.drop i).zip (b.drop i)).all entOk) := by
            refine down_ind ?_ ?_
            · refine Ev.succ ?_
              simp only [spec_EntailsRow.l0, Int.lt_irrefl, if_false]
              exact Ev.const (by simp)
            · intro i hi ih
              have hi' : i < b.length := by omega
              refine Ev.succ ?_
              simp only [spec_EntailsRow.l0, if_pos (show (i : Int) < (a.length : Int) by omega), if_pos (show (0 : Int) ≤ i by omega), if_pos (show (i : Int) < (b.length : Int) by omega), rd_nat a i hi, rd_nat b i hi', wrap_succ (show i ≤ 4611686018427387903 by omega)]
              rw [drop_cons a i hi, drop_cons b i hi', List.zip_cons_cons, List.all_cons]
              by_cases h1 : a[i] = 1
              · by_cases h2 : b[i] = 1
                · simp only [h1, h2, if_true, show ¬ ((1 : Int) = -1) by decide, if_false, entOk, decide_true, decide_false, Bool.not_true, Bool.and_false, Bool.not_false, Bool.false_and, Bool.and_self, Bool.true_and]
                  exact ih
                · simp only [h1, h2, if_true, if_false, entOk, decide_true, decide_false, Bool.not_false, Bool.and_self, Bool.not_true, Bool.false_and]
                  exact Ev.const rfl
              · by_cases h2 : b[i] = -1
                · by_cases h3 : a[i] = -1
                  · simp only [h1, h2, h3, if_true, if_false, show ¬ ((-1 : Int) = 1) by decide, entOk, decide_true, decide_false, Bool.not_true, Bool.and_false, Bool.not_false, Bool.false_and, Bool.and_self, Bool.true_and]
                    exact ih
                  · simp only [h1, h2, h3, if_true, if_false, show ¬ ((-1 : Int) = 1) by decide, entOk, decide_true, decide_false, Bool.not_true, Bool.and_false, Bool.not_false, Bool.false_and, Bool.and_self, Bool.true_and]
                    exact Ev.const rfl
                · simp only [h1, h2, if_false, entOk, decide_false, Bool.not_false, Bool.false_and, Bool.and_self, Bool.true_and]
                  exact ih
          exact key 0 (by omega)
        · refine Ev.succ ?_
          simp only [spec_EntailsRow.j1, if_true]
          exact Ev.const rfl
      · simp only [if_true, Bool.true_or]
        refine Ev.succ ?_
        simp only [spec_EntailsRow.j1, if_true]
        exact Ev.const rfl
theorem impl_EntailsRow_ev (a b : List Int) (ha : a.length ≤ 1048576) (hb : b.length ≤ 1048576) : Ev (fun k => impl_EntailsRow.f k a b) (ent a b) := by
  unfold impl_EntailsRow.f ent
  have bad : (row_ a a.length && row_ b a.length) = false → Ev (fun k => impl_EntailsRow.j0 k true a b) (row_ a a.length && (row_ b a.length && (triv b || (impo a || (a.zip b).all entOk)))) := by
    intro h
    refine Ev.succ ?_
    simp only [impl_EntailsRow.j0, if_true]
    refine Ev.const ?_
    rw [← Bool.and_assoc, h]
    rfl
  refine Ev.bind (impl_isAnyRow_ev a ha) ?_
  cases hra : row_ a a.length
  · simp only [Bool.false_eq_true, if_false]
    rw [hra] at bad
    exact bad rfl
  · simp only [if_true]
    refine Ev.bind (impl_isAnyRow_ev b hb) ?_
    cases hrb : row_ b b.length
    · simp only [Bool.false_eq_true, if_false]
      rw [hra] at bad
      refine bad ?_
      cases hr : row_ b a.length
      · rfl
      · rw [← row_len hr, hrb] at hr
        exact absurd hr (by simp)
    · simp only [if_true]
      by_cases hab : a.length = b.length
      · have hr : row_ b a.length = true := by rw [hab]; exact hrb
        rw [hr]
        simp only [show ((a.length : Int) != (b.length : Int)) = false by rw [hab]; exact bne_self_eq_false _]
        refine Ev.succ ?_
        simp only [impl_EntailsRow.j0, Bool.false_eq_true, if_false, Bool.true_and]
        refine Ev.bind (impl_IsTrivial_ev b hb) ?_
        cases triv b
        · simp only [Bool.false_eq_true, if_false, Bool.false_or]
          refine Ev.bind (impl_IsImpossible_ev a ha) ?_
          cases impo a
          · refine Ev.succ ?_
            simp only [impl_EntailsRow.j1, Bool.false_eq_true, if_false, Bool.false_or]
            have key : ∀ i, i ≤ a.length → Ev (fun k => impl_EntailsRow.l0 k a (a.length : Int) (i : Int) b) (((a.drop i).zip (b.drop i)).all entOk) := by
              refine down_ind ?_ ?_
              · refine Ev.succ ?_
                simp only [impl_EntailsRow.l0, Int.lt_irrefl, if_false]
                exact Ev.const (by simp)
              · intro i hi ih
                have hi' : i < b.length := by omega
                refine Ev.succ ?_
                simp only [impl_EntailsRow.l0, if_pos (show (i : Int) < (a.length : Int) by omega), if_pos (show (0 : Int) ≤ i by omega), if_pos (show (i : Int) < (b.length : Int) by omega), rd_nat a i hi, rd_nat b i hi', wrap_succ (show i ≤ 4611686018427387903 by omega)]
                rw [drop_cons a i hi, drop_cons b i hi', List.zip_cons_cons, List.all_cons]
                by_cases h1 : a[i] = 1
                · by_cases h2 : b[i] = 1
                  · simp only [h1, h2, if_true, show ¬ ((1 : Int) = -1) by decide, if_false, entOk, decide_true, decide_false, Bool.not_true, Bool.and_false, Bool.not_false, Bool.false_and, Bool.and_self, Bool.true_and]
                    exact ih
                  · simp only [h1, h2, if_true, if_false, entOk, decide_true, decide_false, Bool.not_false, Bool.and_self, Bool.not_true, Bool.false_and]
                    exact Ev.const rfl
                · by_cases h2 : b[i] = -1
                  · by_cases h3 : a[i] = -1
                    · simp only [h1, h2, h3, if_true, if_false, show ¬ ((-1 : Int) = 1) by decide, entOk, decide_true, decide_false, Bool.not_true, Bool.and_false, Bool.not_false, Bool.false_and, Bool.and_self, Bool.true_and]
                      exact ih
                    · simp only [h1, h2, h3, if_true, if_false, show ¬ ((-1 : Int) = 1) by decide, entOk, decide_true, decide_false, Bool.not_true, Bool.and_false, Bool.not_false, Bool.false_and, Bool.and_self, Bool.true_and]
                      exact Ev.const rfl
                  · by_cases h3 : a[i] = -1
                    · simp only [h1, h2, h3, if_true, if_false, show ¬ ((-1 : Int) = 1) by decide, entOk, decide_true, decide_false, Bool.not_true, Bool.and_false, Bool.not_false, Bool.false_and, Bool.and_self, Bool.true_and]
                      exact ih
                    · simp only [h1, h2, h3, if_false, entOk, decide_false, Bool.not_false, Bool.false_and, Bool.and_self, Bool.true_and]
                      exact ih
            exact key 0 (by omega)
          · refine Ev.succ ?_
            simp only [impl_EntailsRow.j1, if_true]
            exact Ev.const rfl
        · simp only [if_true, Bool.true_or]
          refine Ev.succ ?_
          simp only [impl_EntailsRow.j1, if_true]
          exact Ev.const rfl
      · simp only [show ((a.length : Int) != (b.length : Int)) = true by rw [bne_iff_ne]; omega]
        rw [hra] at bad
        refine bad ?_
        cases hr : row_ b a.length
        · rfl
        · exact absurd (row_len hr) (by omega)

theorem FnExactEntailsRow : laws_FnExactEntailsRow.Pure := by
  intro a b ha hb
  have ha' : a.length ≤ 140737488351232 := by have := ha.1; omega
  have hb' : b.length ≤ 140737488351232 := by have := hb.1; omega
  refine Ev.rounds ?_
  unfold laws_FnExactEntailsRow.f
  simp only [show (1048576 : Int) = ((1048576 : Nat) : Int) from rfl, laws_szRow_eq a 1048576 (Nat.le_refl _) ha', Option.bind_some]
  by_cases h : a.length ≤ 1048576
  · simp only [if_pos h, if_neg (show ¬ (((1048576 - a.length : Nat) : Int)) < 0 by omega), laws_szRow_eq b _ (show 1048576 - a.length ≤ 1048576 by omega) hb', Option.bind_some]
    by_cases g : b.length ≤ 1048576 - a.length
    · have g' : b.length ≤ 1048576 := by omega
      simp only [if_pos g, if_neg (show ¬ (((1048576 - a.length - b.length : Nat) : Int)) < 0 by omega)]
      refine Ev.bind (laws_toRow_ev a h) (Ev.bind (laws_toRow_ev b g') (Ev.bind (spec_EntailsRow_ev a b h g') (Ev.bind (laws_toRow_ev a h) (Ev.bind (laws_toRow_ev b g') (Ev.bind (impl_EntailsRow_ev a b h g') ?_)))))
      simp only [bne_self_eq_false, Bool.false_eq_true, if_false]
      refine Ev.bind (laws_toRow_ev a h) (Ev.bind (laws_eqRow_ev a a h) ?_)
      simp only [decide_true, if_true]
      refine Ev.bind (laws_toRow_ev b g') (Ev.bind (laws_eqRow_ev b b g') ?_)
      simp only [decide_true, if_true]
      exact Ev.const rfl
    · simp only [if_neg g]
      exact Ev.const rfl
  · simp only [if_neg h]
    exact Ev.const rfl

end Go.Proofs.Ytdamagcfmhimfab.Pure
