/- The pure statement of the law FnExactFuseRows: for all arguments within bounds its printed function answers true. -/
import Derived.Test.YtdamagcfmhimfabPFnExactFuseRowsx
import Derived.Test.YtdamagcfmhimfabBase
namespace Go.Proofs.Ytdamagcfmhimfab.Pure
open Go.RowKit Go.Proofs.YtdamagcfmhimfabB Go.Proofs.Ytdamagcfmhimfab.PFnExactFuseRows Go.Proofs.YtdamagcfmhimfabW.PrintWords Go.Proofs.YtdamagcfmhimfabW.PrintLast Go.Proofs.YtdamagcfmhimfabW.PrintMore
set_option linter.unusedVariables false
set_option linter.unusedSimpArgs false

theorem laws_toIntS_ev (l : List Int) (hl : l.length ≤ 1048576) : Ev (fun k => laws_toIntS.f k l) l := by
  unfold laws_toIntS.f
  simp only [if_pos (show (0 : Int) ≤ (l.length : Int) by omega), Int.toNat_natCast, if_pos (show l.length ≤ 35184372088832 by omega)]
  have key : ∀ i, i ≤ l.length → Ev (fun k => laws_toIntS.l0 k l (l.take i ++ List.replicate (l.length - i) 0) (i : Int)) l := by
    refine down_ind ?_ ?_
    · refine Ev.succ ?_
      simp only [laws_toIntS.l0, Int.lt_irrefl, if_false]
      exact Ev.const (by simp)
    · intro i hi ih
      refine Ev.succ ?_
      have hlen : (l.take i ++ List.replicate (l.length - i) 0).length = l.length := by simp; omega
      simp only [laws_toIntS.l0, hlen, if_pos (show (i : Int) < (l.length : Int) by omega), if_pos (show (0 : Int) ≤ i by omega), rd_nat l i hi, Int.toNat_natCast, set_fill l 0 i hi, wrap_succ (show i ≤ 4611686018427387903 by omega)]
      exact ih
  have := key 0 (by omega)
  simpa using this

theorem laws_toRow_ev (l : List Int) (hl : l.length ≤ 1048576) : Ev (fun k => laws_toRow.f k l) l := by
  unfold laws_toRow.f
  exact Ev.bind (laws_toIntS_ev l hl) (Ev.const rfl)

theorem laws_eqIntS_ev (a b : List Int) (hl : a.length ≤ 1048576) : Ev (fun k => laws_eqIntS.f k a b) (decide (a = b)) := by
  unfold laws_eqIntS.f
  by_cases hab : a.length = b.length
  · simp only [if_pos (show (a.length : Int) = (b.length : Int) by omega)]
    have key : ∀ i, i ≤ a.length → Ev (fun k => laws_eqIntS.l0 k a b (i : Int)) (decide (a.drop i = b.drop i)) := by
      refine down_ind ?_ ?_
      · refine Ev.succ ?_
        simp only [laws_eqIntS.l0, Int.lt_irrefl, if_false]
        refine Ev.const ?_
        rw [List.drop_of_length_le (Nat.le_refl _), List.drop_of_length_le (by omega)]
        rfl
      · intro i hi ih
        have hb : i < b.length := by omega
        refine Ev.succ ?_
        simp only [laws_eqIntS.l0, if_pos (show (i : Int) < (a.length : Int) by omega), if_pos (show (0 : Int) ≤ i by omega), if_pos (show (i : Int) < (b.length : Int) by omega), rd_nat a i hi, rd_nat b i hb, wrap_succ (show i ≤ 4611686018427387903 by omega)]
        rw [drop_cons a i hi, drop_cons b i hb]
        by_cases he : a[i] = b[i]
        · simp only [if_pos he]
          exact Ev.cast ih (by simp only [List.cons.injEq, he, true_and])
        · simp only [if_neg he]
          exact Ev.const (by simp only [List.cons.injEq, he, false_and, decide_false])
    exact key 0 (by omega)
  · simp only [if_neg (show ¬ (a.length : Int) = (b.length : Int) by omega)]
    exact Ev.const (by
      have : a ≠ b := fun h => hab (by rw [h])
      simp [this])

theorem laws_eqRow_ev (a b : List Int) (hl : a.length ≤ 1048576) : Ev (fun k => laws_eqRow.f k a b) (decide (a = b)) := by
  unfold laws_eqRow.f
  refine Ev.bind (laws_eqIntS_ev a b hl) ?_
  by_cases h : a = b
  · simp [h]; exact Ev.const rfl
  · simp [h]; exact Ev.const rfl

theorem laws_szIntS_eq (l : List Int) (n : Nat) (hn : n ≤ 1048576) (hl : l.length ≤ 140737488351232) : laws_szIntS.f l n = some (if l.length ≤ n then ((n - l.length : Nat) : Int) else -1) := by
  unfold laws_szIntS.f
  rw [wrap_in (by omega) (by omega)]
  by_cases h : l.length ≤ n
  · rw [if_neg (by omega), if_pos h]
    congr 1
    omega
  · rw [if_pos (by omega), if_neg h]

theorem laws_szRow_eq (l : List Int) (n : Nat) (hn : n ≤ 1048576) (hl : l.length ≤ 140737488351232) : laws_szRow.f l n = some (if l.length ≤ n then ((n - l.length : Nat) : Int) else -1) := by
  unfold laws_szRow.f
  rw [laws_szIntS_eq l n hn hl]
  simp only [Option.bind_some]
  by_cases h : l.length ≤ n
  · simp only [if_pos h]
    rw [if_neg (by omega)]
  · simp only [if_neg h]
    rfl

/-- a row: n marks of -1, 0, 1; n from 1 to 5 -/
def mark3 (m : Int) : Bool := decide (-1 ≤ m ∧ m ≤ 1)
def row_ (l : List Int) (n : Int) : Bool := l.all mark3 && decide (1 ≤ n ∧ n ≤ 5) && decide ((l.length : Int) = n)

theorem spec_l1In_eq (a b c : Int) : spec_l1In.f a b c = some (decide (b ≤ a ∧ a ≤ c)) := by
  unfold spec_l1In.f
  split
  · have : b ≤ a := by omega
    simp [*]
  · have : ¬ b ≤ a := by omega
    simp [*]

theorem spec_IsRow_ev (l : List Int) (n : Int) (hl : l.length ≤ 1048576) : Ev (fun k => spec_IsRow.f k l n) (row_ l n) := by
  unfold spec_IsRow.f
  have key : ∀ i, i ≤ l.length → Ev (fun k => spec_IsRow.l0 k n (i : Int) l) ((l.drop i).all mark3 && decide (1 ≤ n ∧ n ≤ 5) && decide ((l.length : Int) = n)) := by
    refine down_ind ?_ ?_
    · refine Ev.succ ?_
      simp only [spec_IsRow.l0, Int.lt_irrefl, if_false, spec_l1In_eq, Option.bind_some]
      rw [List.drop_of_length_le (Nat.le_refl _)]
      by_cases h : 1 ≤ n ∧ n ≤ 5
      · simp only [h, decide_true, if_true]
        exact Ev.const (by simp; rfl)
      · simp only [h, decide_false, Bool.false_eq_true, if_false]
        exact Ev.const (by simp)
    · intro i hi ih
      refine Ev.succ ?_
      simp only [spec_IsRow.l0, if_pos (show (i : Int) < (l.length : Int) by omega), if_pos (show (0 : Int) ≤ i by omega), rd_nat l i hi, spec_l1In_eq, Option.bind_some, wrap_succ (show i ≤ 4611686018427387903 by omega)]
      rw [drop_cons l i hi, List.all_cons]
      by_cases h : -1 ≤ l[i] ∧ l[i] ≤ 1
      · simp only [mark3, h, decide_true, if_true, Bool.true_and]
        exact ih
      · simp only [mark3, h, decide_false, Bool.false_eq_true, if_false, Bool.false_and]
        exact Ev.const rfl
  exact key 0 (by omega)

theorem impl_within_eq (a b c : Int) : impl_within.f a b c = some (decide (b ≤ a ∧ a ≤ c)) := by
  unfold impl_within.f
  split
  · simp [*]
  · simp [*]

theorem impl_IsRow_ev (l : List Int) (n : Int) (hl : l.length ≤ 1048576) : Ev (fun k => impl_IsRow.f k l n) (row_ l n) := by
  unfold impl_IsRow.f
  have key : ∀ i, i ≤ l.length → Ev (fun k => impl_IsRow.l0 k n l (l.length : Int) (i : Int) l) ((l.drop i).all mark3 && decide (1 ≤ n ∧ n ≤ 5) && decide ((l.length : Int) = n)) := by
    refine down_ind ?_ ?_
    · refine Ev.succ ?_
      simp only [impl_IsRow.l0, Int.lt_irrefl, if_false, impl_within_eq, Option.bind_some]
      rw [List.drop_of_length_le (Nat.le_refl _)]
      by_cases h : 1 ≤ n ∧ n ≤ 5
      · simp only [h, decide_true, if_true]
        exact Ev.const (by simp; rfl)
      · simp only [h, decide_false, Bool.false_eq_true, if_false]
        exact Ev.const (by simp)
    · intro i hi ih
      refine Ev.succ ?_
      simp only [impl_IsRow.l0, if_pos (show (i : Int) < (l.length : Int) by omega), if_pos (show (0 : Int) ≤ i by omega), rd_nat l i hi, impl_within_eq, Option.bind_some, wrap_succ (show i ≤ 4611686018427387903 by omega)]
      rw [drop_cons l i hi, List.all_cons]
      by_cases h : -1 ≤ l[i] ∧ l[i] ≤ 1
      · simp only [mark3, h, decide_true, if_true, Bool.true_and]
        exact ih
      · simp only [mark3, h, decide_false, Bool.false_eq_true, if_false, Bool.false_and]
        exact Ev.const rfl
  exact key 0 (by omega)


theorem impl_isAnyRow_ev (l : List Int) (hl : l.length ≤ 1048576) : Ev (fun k => impl_isAnyRow.f k l) (row_ l l.length) := by
  unfold impl_isAnyRow.f
  exact Ev.bind (impl_IsRow_ev l _ hl) (Ev.const rfl)

theorem row_len {l : List Int} {n : Int} (h : row_ l n = true) : (l.length : Int) = n := by
  unfold row_ at h
  simp only [Bool.and_eq_true, decide_eq_true_eq] at h
  exact h.2

def fz (x y : Int) : Int := if x = -1 then -1 else if y = -1 then -1 else mx x y
def fused (a b : List Int) : List Int × Bool := if row_ a a.length = true ∧ row_ b a.length = true then (List.zipWith fz a b, true) else ([], false)
theorem zip_snoc (a b : List Int) (i : Nat) (h : i < a.length) (h' : i < b.length) : List.zipWith fz (a.take (i + 1)) (b.take (i + 1)) = List.zipWith fz (a.take i) (b.take i) ++ [fz a[i] b[i]] := by
  rw [take_snoc a i h, take_snoc b i h', List.zipWith_append (by simp; omega)]
  rfl
theorem zip_len (a b : List Int) (i : Nat) : (List.zipWith fz (a.take i) (b.take i)).length ≤ i := by
  rw [List.length_zipWith, List.length_take]
  omega
theorem row_mark {l : List Int} {n : Int} (h : row_ l n = true) (i : Nat) (hi : i < l.length) : -1 ≤ l[i] ∧ l[i] ≤ 1 := by
  unfold row_ at h
  simp only [Bool.and_eq_true] at h
  have := List.all_eq_true.1 h.1.1 _ (List.getElem_mem hi)
  exact of_decide_eq_true this
theorem fused_len (a b : List Int) : (fused a b).1.length ≤ a.length := by
  unfold fused
  split
  · simp only [List.length_zipWith]
    omega
  · simp
theorem spec_FuseRows_ev (a b : List Int) (ha : a.length ≤ 1048576) (hb : b.length ≤ 1048576) : Ev (fun k => spec_FuseRows.f k a b) (fused a b) := by
  unfold spec_FuseRows.f fused
  refine Ev.bind (spec_IsRow_ev a _ ha) ?_
  cases hra : row_ a a.length
  · simp only [Bool.false_eq_true, if_false, false_and]
    refine Ev.succ ?_
    simp only [spec_FuseRows.j0, if_true]
    exact Ev.const rfl
  · simp only [if_true, true_and]
    refine Ev.bind (spec_IsRow_ev b _ hb) ?_
    cases hrb : row_ b a.length
    · refine Ev.succ ?_
      simp only [spec_FuseRows.j0, Bool.not_false, if_true, Bool.false_eq_true, if_false]
      exact Ev.const rfl
    · have hlen : b.length = a.length := by have := row_len hrb; omega
      refine Ev.succ ?_
      simp only [spec_FuseRows.j0, Bool.not_true, Bool.false_eq_true, if_false, if_true]
      have key : ∀ i, i ≤ a.length → Ev (fun k => spec_FuseRows.l0 k (i : Int) a b (List.zipWith fz (a.take i) (b.take i))) (List.zipWith fz a b, true) := by
        refine down_ind ?_ ?_
        · refine Ev.succ ?_
          simp only [spec_FuseRows.l0, Int.lt_irrefl, if_false]
          rw [List.take_of_length_le (Nat.le_refl _), List.take_of_length_le (by omega)]
          exact Ev.const rfl
        · intro i hi ih
          have hi' : i < b.length := by omega
          have hz := zip_len a b i
          rw [zip_snoc a b i hi hi'] at ih
          refine Ev.succ ?_
          simp only [spec_FuseRows.l0, if_pos (show (i : Int) < (a.length : Int) by omega), if_pos (show (i : Int) < (b.length : Int) by omega), if_pos (show (0 : Int) ≤ i by omega), rd_nat a i hi, rd_nat b i hi', if_pos (show (List.zipWith fz (a.take i) (b.take i)).length < 17592186044416 by omega), wrap_succ (show i ≤ 4611686018427387903 by omega)]
          unfold fz at ih ⊢
          by_cases h1 : a[i] = -1
          · simp only [if_pos h1] at ih ⊢
            exact ih
          · by_cases h2 : b[i] = -1
            · simp only [if_neg h1, if_pos h2] at ih ⊢
              exact ih
            · simp only [if_neg h1, if_neg h2] at ih ⊢
              exact ih
      exact key 0 (by omega)
theorem impl_FuseRows_ev (a b : List Int) (ha : a.length ≤ 1048576) (hb : b.length ≤ 1048576) : Ev (fun k => impl_FuseRows.f k a b) (fused a b) := by
  unfold impl_FuseRows.f fused
  refine Ev.bind (impl_isAnyRow_ev a ha) ?_
  have bad : ¬ (row_ a a.length = true ∧ row_ b a.length = true) → Ev (fun k => impl_FuseRows.j0 k true a b) (if row_ a a.length = true ∧ row_ b a.length = true then (List.zipWith fz a b, true) else ([], false)) := by
    intro h
    refine Ev.succ ?_
    simp only [impl_FuseRows.j0, if_true, if_neg h]
    exact Ev.const rfl
  cases hra : row_ a a.length
  · rw [hra] at bad
    simp only [Bool.false_eq_true, if_false]
    exact bad (by simp)
  · rw [hra] at bad
    simp only [true_and] at bad
    simp only [if_true, true_and]
    refine Ev.bind (impl_isAnyRow_ev b hb) ?_
    cases hrb : row_ b b.length
    · simp only [Bool.false_eq_true, if_false]
      refine bad ?_
      intro h
      rw [← row_len h, hrb] at h
      exact absurd h (by simp)
    · simp only [if_true]
      by_cases hab : a.length = b.length
      · rw [hab]
        simp only [bne_self_eq_false, hrb]
        refine Ev.succ ?_
        simp only [impl_FuseRows.j0, Bool.false_eq_true, if_false, true_and, if_true]
        have key : ∀ i, i ≤ a.length → Ev (fun k => impl_FuseRows.l0 k (a.length : Int) (i : Int) a b (List.zipWith fz (a.take i) (b.take i))) (List.zipWith fz a b, true) := by
          refine down_ind ?_ ?_
          · refine Ev.succ ?_
            simp only [impl_FuseRows.l0, Int.lt_irrefl, if_false]
            rw [List.take_of_length_le (Nat.le_refl _), List.take_of_length_le (by omega)]
            exact Ev.const rfl
          · intro i hi ih
            have hi' : i < b.length := by omega
            have hz := zip_len a b i
            have m1 := row_mark hra i hi
            have m2 := row_mark hrb i hi'
            rw [zip_snoc a b i hi hi'] at ih
            refine Ev.succ ?_
            simp only [impl_FuseRows.l0, if_pos (show (i : Int) < (a.length : Int) by omega), if_pos (show (i : Int) < (b.length : Int) by omega), if_pos (show (0 : Int) ≤ i by omega), rd_nat a i hi, rd_nat b i hi', if_pos (show (List.zipWith fz (a.take i) (b.take i)).length < 17592186044416 by omega), wrap_succ (show i ≤ 4611686018427387903 by omega)]
            by_cases hm : mn a[i] b[i] < 0
            · simp only [if_pos hm]
              have : fz a[i] b[i] = -1 := by
                unfold fz mn at *
                split at hm <;> split <;> first | rfl | (split <;> first | rfl | (unfold mx; split <;> omega))
              rwa [this] at ih
            · simp only [if_neg hm]
              have : fz a[i] b[i] = mx a[i] b[i] := by
                unfold fz
                rw [if_neg (by unfold mn at hm; split at hm <;> omega), if_neg (by unfold mn at hm; split at hm <;> omega)]
              rwa [this] at ih
        have := key 0 (by omega)
        simpa using this
      · simp only [show ((a.length : Int) != (b.length : Int)) = true by rw [bne_iff_ne]; omega]
        refine bad ?_
        intro h
        have := row_len h
        omega

theorem laws_markIntS_ev (l : List Int) (m : Int) (hl : l.length ≤ 2097152) (h0 : 0 ≤ m) (h1 : m ≤ 1099511627776) : Ev (fun k => laws_markIntS.f k l m) (m + l.length, idxs m l.length) := by
  unfold laws_markIntS.f
  have key : ∀ i, i ≤ l.length → Ev (fun k => laws_markIntS.l0 k (idxs m i ++ l.drop i) (m + (i : Int)) (i : Int)) (m + l.length, idxs m l.length) := by
    refine down_ind ?_ ?_
    · refine Ev.succ ?_
      have hlen : (idxs m l.length ++ l.drop l.length).length = l.length := by simp [idxs_length]
      simp only [laws_markIntS.l0, hlen, Int.lt_irrefl, if_false]
      exact Ev.const (by simp)
    · intro i hi ih
      refine Ev.succ ?_
      have hlen : (idxs m i ++ l.drop i).length = l.length := by rw [List.length_append, idxs_length, List.length_drop]; omega
      have hset : (idxs m i ++ l.drop i).set i (m + i) = idxs m (i + 1) ++ l.drop (i + 1) := by
        rw [List.set_append, idxs_length, if_neg (by omega), Nat.sub_self, drop_cons l i hi, List.set_cons_zero, idxs_snoc, List.append_assoc]
        rfl
      simp only [laws_markIntS.l0, hlen, if_pos (show (i : Int) < (l.length : Int) by omega), if_pos (show (0 : Int) ≤ i by omega), Int.toNat_natCast, hset, wrap_succ (show i ≤ 4611686018427387903 by omega), wrap_in (show -4611686018427387904 ≤ m + (i : Int) + 1 by omega) (show m + (i : Int) + 1 ≤ 4611686018427387904 by omega)]
      exact (show m + ((i + 1 : Nat) : Int) = m + (i : Int) + 1 by omega) ▸ ih
  have := key 0 (by omega)
  simpa [idxs] using this

theorem laws_heldIntS_ev (n : Nat) (m : Int) (hl : n ≤ 2097152) (h0 : 0 ≤ m) (h1 : m ≤ 1099511627776) : Ev (fun k => laws_heldIntS.f k (idxs m n) m) (m + n) := by
  unfold laws_heldIntS.f
  have key : ∀ i, i ≤ n → Ev (fun k => laws_heldIntS.l0 k (idxs m n) (m + (i : Int)) (i : Int)) (m + n) := by
    refine down_ind ?_ ?_
    · refine Ev.succ ?_
      simp only [laws_heldIntS.l0, idxs_length, Int.lt_irrefl, if_false]
      exact Ev.const rfl
    · intro i hi ih
      refine Ev.succ ?_
      have hi' : i < (idxs m n).length := by rw [idxs_length]; exact hi
      simp only [laws_heldIntS.l0, idxs_length, if_pos (show (i : Int) < (n : Int) by omega), if_pos (show (0 : Int) ≤ i by omega), rd_nat _ i hi', idxs_get, if_true, wrap_succ (show i ≤ 4611686018427387903 by omega), wrap_in (show -4611686018427387904 ≤ m + (i : Int) + 1 by omega) (show m + (i : Int) + 1 ≤ 4611686018427387904 by omega)]
      exact (show m + ((i + 1 : Nat) : Int) = m + (i : Int) + 1 by omega) ▸ ih
  have := key 0 (by omega)
  simpa using this

theorem laws_markRow_ev (l : List Int) (m : Int) (hl : l.length ≤ 2097152) (h0 : 0 ≤ m) (h1 : m ≤ 1099511627776) : Ev (fun k => laws_markRow.f k l m) (m + l.length, idxs m l.length) := by
  unfold laws_markRow.f
  exact Ev.bind (laws_markIntS_ev l m hl h0 h1) (Ev.const rfl)
theorem laws_heldRow_ev (n : Nat) (m : Int) (hl : n ≤ 2097152) (h0 : 0 ≤ m) (h1 : m ≤ 1099511627776) : Ev (fun k => laws_heldRow.f k (idxs m n) m) (m + n) := by
  unfold laws_heldRow.f
  refine Ev.bind (laws_heldIntS_ev n m hl h0 h1) ?_
  simp only [if_neg (show ¬ m + (n : Int) < 0 by omega)]
  exact Ev.const rfl

theorem FnExactFuseRows : laws_FnExactFuseRows.Pure := by
  intro a b hba hbb
  refine Ev.rounds ?_
  unfold laws_FnExactFuseRows.f
  rw [show (1048576 : Int) = ((1048576 : Nat) : Int) from rfl, laws_szRow_eq a 1048576 (Nat.le_refl _) (by have := hba.1; omega)]
  simp only [Option.bind_some]
  by_cases ha : a.length ≤ 1048576
  · simp only [if_pos ha, if_neg (show ¬ ((1048576 - a.length : Nat) : Int) < 0 by omega)]
    rw [laws_szRow_eq b (1048576 - a.length) (by omega) (by have := hbb.1; omega)]
    simp only [Option.bind_some]
    by_cases hb : b.length ≤ 1048576 - a.length
    · simp only [if_pos hb, if_neg (show ¬ ((1048576 - a.length - b.length : Nat) : Int) < 0 by omega)]
      have hb' : b.length ≤ 1048576 := by omega
      refine Ev.bind (laws_toRow_ev a ha) (Ev.bind (laws_toRow_ev b hb') (Ev.bind (spec_FuseRows_ev a b ha hb') (Ev.bind (laws_toRow_ev a ha) (Ev.bind (laws_toRow_ev b hb') (Ev.bind (impl_FuseRows_ev a b ha hb') ?_)))))
      have hr := fused_len a b
      generalize hro : fused a b = ro at hr ⊢
      obtain ⟨r, ok⟩ := ro
      simp only at hr
      refine Ev.bind (laws_eqRow_ev r r (by omega)) ?_
      simp only [decide_true, if_true, bne_self_eq_false]
      refine Ev.succ ?_
      simp only [laws_FnExactFuseRows.j0, Bool.false_eq_true, if_false]
      refine Ev.bind (laws_toRow_ev a ha) (Ev.bind (laws_eqRow_ev a a ha) ?_)
      simp only [decide_true, if_true]
      refine Ev.bind (laws_toRow_ev b hb') (Ev.bind (laws_eqRow_ev b b hb') ?_)
      simp only [decide_true, if_true]
      refine Ev.bind (laws_markRow_ev a 1 (by omega) (by omega) (by omega)) (Ev.bind (laws_markRow_ev b _ (by omega) (by simp; omega) (by simp; omega)) ?_)
      simp only [if_neg (show ¬ (1 + (a.length : Int) + (b.length : Int)) < 0 by omega)]
      refine Ev.bind (laws_eqRow_ev r r (by omega)) ?_
      simp only [decide_true, if_true, bne_self_eq_false]
      refine Ev.succ ?_
      simp only [laws_FnExactFuseRows.j1, Bool.false_eq_true, if_false]
      refine Ev.bind (laws_markRow_ev r 1 (by omega) (by omega) (by omega)) (Ev.bind (laws_heldRow_ev r.length 1 (by omega) (by omega) (by omega)) ?_)
      simp only [if_neg (show ¬ (1 + (r.length : Int)) < 0 by omega), if_true]
      refine Ev.bind (laws_toRow_ev a ha) (Ev.bind (laws_toRow_ev b hb') (Ev.bind (impl_FuseRows_ev a b ha hb') ?_))
      rw [hro]
      refine Ev.bind (laws_eqRow_ev r r (by omega)) ?_
      simp only [decide_true, if_true, bne_self_eq_false]
      refine Ev.succ ?_
      simp only [laws_FnExactFuseRows.j2, Bool.false_eq_true, if_false]
      refine Ev.bind (laws_heldRow_ev r.length 1 (by omega) (by omega) (by omega)) ?_
      simp only [if_neg (show ¬ (1 + (r.length : Int)) < 0 by omega), if_true]
      exact Ev.const rfl
    · simp only [if_neg hb]
      exact Ev.const rfl
  · simp only [if_neg ha]
    exact Ev.const rfl

end Go.Proofs.Ytdamagcfmhimfab.Pure
