/- The pure statement of the law FnExactRowOf: for all arguments within bounds its printed function answers true. -/
import Derived.Test.YtdamagcfmhimfaaPFnExactRowOfx
import Derived.Test.YtdamagcfmhimfaaBase
namespace Go.Proofs.Ytdamagcfmhimfaa.Pure
open Go.RowKit Go.Proofs.YtdamagcfmhimfaaB Go.Proofs.Ytdamagcfmhimfaa.PFnExactRowOf Go.Proofs.YtdamagcfmhimfaaW.PrintWords Go.Proofs.YtdamagcfmhimfaaW.PrintLast Go.Proofs.YtdamagcfmhimfaaW.PrintMore
set_option linter.unusedVariables false
set_option linter.unusedSimpArgs false

theorem laws_toIntS_ev (l : List Int) (hl : l.length ≤ 1048576) : Ev (fun k => laws_toIntS.f k l) l := by
  unfold laws_toIntS.f
  simp only [if_pos (show (0 : Int) ≤ (l.length : Int) by omega), Int.toNat_natCast, if_pos (show l.length ≤ 35184372088832 by omega)]
  have key : ∀ i, i ≤ l.length → Ev (fun k => laws_toIntS.l0 k l (l.take i ++ List.replicate (l.length - i) 0) (i : Int)) l := by
    refine down_ind ?_ ?_
    · refine Ev.succ ?_
      simp only [laws_toIntS.l0, Int.lt_irrefl, if_false]
      exact Ev.const (by simp)
    · intro i hi ih
      refine Ev.succ ?_
      have hlen : (l.take i ++ List.replicate (l.length - i) 0).length = l.length := by simp; omega
      simp only [laws_toIntS.l0, hlen, if_pos (show (i : Int) < (l.length : Int) by omega), if_pos (show (0 : Int) ≤ i by omega), rd_nat l i hi, Int.toNat_natCast, set_fill l 0 i hi, wrap_succ (show i ≤ 4611686018427387903 by omega)]
      exact ih
  have := key 0 (by omega)
  simpa using this

theorem laws_eqIntS_ev (a b : List Int) (hl : a.length ≤ 1048576) : Ev (fun k => laws_eqIntS.f k a b) (decide (a = b)) := by
  unfold laws_eqIntS.f
  by_cases hab : a.length = b.length
  · simp only [if_pos (show (a.length : Int) = (b.length : Int) by omega)]
    have key : ∀ i, i ≤ a.length → Ev (fun k => laws_eqIntS.l0 k a b (i : Int)) (decide (a.drop i = b.drop i)) := by
      refine down_ind ?_ ?_
      · refine Ev.succ ?_
        simp only [laws_eqIntS.l0, Int.lt_irrefl, if_false]
        refine Ev.const ?_
        rw [List.drop_of_length_le (Nat.le_refl _), List.drop_of_length_le (by omega)]
        rfl
      · intro i hi ih
        have hb : i < b.length := by omega
        refine Ev.succ ?_
        simp only [laws_eqIntS.l0, if_pos (show (i : Int) < (a.length : Int) by omega), if_pos (show (0 : Int) ≤ i by omega), if_pos (show (i : Int) < (b.length : Int) by omega), rd_nat a i hi, rd_nat b i hb, wrap_succ (show i ≤ 4611686018427387903 by omega)]
        rw [drop_cons a i hi, drop_cons b i hb]
        by_cases he : a[i] = b[i]
        · simp only [if_pos he]
          exact Ev.cast ih (by simp only [List.cons.injEq, he, true_and])
        · simp only [if_neg he]
          exact Ev.const (by simp only [List.cons.injEq, he, false_and, decide_false])
    exact key 0 (by omega)
  · simp only [if_neg (show ¬ (a.length : Int) = (b.length : Int) by omega)]
    exact Ev.const (by
      have : a ≠ b := fun h => hab (by rw [h])
      simp [this])

theorem laws_eqRow_ev (a b : List Int) (hl : a.length ≤ 1048576) : Ev (fun k => laws_eqRow.f k a b) (decide (a = b)) := by
  unfold laws_eqRow.f
  refine Ev.bind (laws_eqIntS_ev a b hl) ?_
  by_cases h : a = b
  · simp [h]; exact Ev.const rfl
  · simp [h]; exact Ev.const rfl

theorem spec_l1In_eq (a b c : Int) : spec_l1In.f a b c = some (decide (b ≤ a ∧ a ≤ c)) := by
  unfold spec_l1In.f
  split
  · have : b ≤ a := by omega
    simp [*]
  · have : ¬ b ≤ a := by omega
    simp [*]

theorem impl_within_eq (a b c : Int) : impl_within.f a b c = some (decide (b ≤ a ∧ a ≤ c)) := by
  unfold impl_within.f
  split
  · simp [*]
  · simp [*]

def cmpM (p : Int × Int) : Int := if p.1 < p.2 then 1 else if p.1 > p.2 then -1 else 0
def rowOf (a b : List Int) : List Int × Bool := if a.length = b.length ∧ 1 ≤ a.length ∧ a.length ≤ 5 then ((a.zip b).map cmpM, true) else ([], false)
theorem impl_RowOf_ev (a b : List Int) (ha : a.length ≤ 1048576) : Ev (fun k => impl_RowOf.f k a b) (rowOf a b) := by
  unfold impl_RowOf.f rowOf
  have bad : a.length ≠ b.length ∨ ¬ (1 ≤ a.length ∧ a.length ≤ 5) → Ev (fun k => impl_RowOf.j0 k a b true) (if a.length = b.length ∧ 1 ≤ a.length ∧ a.length ≤ 5 then ((a.zip b).map cmpM, true) else ([], false)) := by
    intro h
    refine Ev.succ ?_
    simp only [impl_RowOf.j0, if_true]
    exact Ev.const (by rw [if_neg (by omega)])
  by_cases hab : a.length = b.length
  · simp only [if_pos (show (a.length : Int) = (b.length : Int) by omega), impl_within_eq, Option.bind_some]
    by_cases h5 : 1 ≤ a.length ∧ a.length ≤ 5
    · simp only [show (1 : Int) ≤ (a.length : Int) ∧ (a.length : Int) ≤ 5 by omega, decide_true, Bool.not_true]
      refine Ev.succ ?_
      simp only [impl_RowOf.j0, Bool.false_eq_true, if_false]
      rw [if_pos ⟨hab, h5⟩]
      have key : ∀ i, i ≤ a.length → ∀ acc : List Int, acc.length = i → Ev (fun k => impl_RowOf.l0 k a b (a.length : Int) (i : Int) acc) (acc ++ ((a.drop i).zip (b.drop i)).map cmpM, true) := by
        refine down_ind ?_ ?_
        · intro acc _
          refine Ev.succ ?_
          simp only [impl_RowOf.l0, Int.lt_irrefl, if_false]
          exact Ev.const (by simp)
        · intro i hi ih acc hacc
          have hb : i < b.length := by omega
          refine Ev.succ ?_
          simp only [impl_RowOf.l0, if_pos (show (i : Int) < (a.length : Int) by omega), if_pos (show (0 : Int) ≤ i by omega), if_pos (show (i : Int) < (b.length : Int) by omega), rd_nat a i hi, rd_nat b i hb, if_pos (show acc.length < 17592186044416 by omega), wrap_succ (show i ≤ 4611686018427387903 by omega)]
          rw [drop_cons a i hi, drop_cons b i hb, List.zip_cons_cons, List.map_cons]
          by_cases h1 : a[i] < b[i]
          · simp only [if_pos h1]
            refine Ev.cast (ih (acc ++ [1]) (by simp; omega)) ?_
            simp [cmpM, h1]
          · by_cases h2 : a[i] > b[i]
            · simp only [if_neg h1, if_pos h2]
              refine Ev.cast (ih (acc ++ [-1]) (by simp; omega)) ?_
              simp only [cmpM, if_neg h1, if_pos h2, List.append_assoc, List.singleton_append]
            · simp only [if_neg h1, if_neg h2]
              refine Ev.cast (ih (acc ++ [0]) (by simp; omega)) ?_
              simp only [cmpM, if_neg h1, if_neg h2, List.append_assoc, List.singleton_append]
      exact key 0 (by omega) [] rfl
    · simp only [show ¬ ((1 : Int) ≤ (a.length : Int) ∧ (a.length : Int) ≤ 5) by omega, decide_false, Bool.not_false]
      exact bad (.inr h5)
  · simp only [if_neg (show ¬ (a.length : Int) = (b.length : Int) by omega)]
    exact bad (.inl hab)
theorem spec_RowOf_ev (a b : List Int) (ha : a.length ≤ 1048576) : Ev (fun k => spec_RowOf.f k a b) (rowOf a b) := by
  unfold spec_RowOf.f rowOf
  have bad : a.length ≠ b.length ∨ ¬ (1 ≤ a.length ∧ a.length ≤ 5) → Ev (fun k => spec_RowOf.j0 k a b true) (if a.length = b.length ∧ 1 ≤ a.length ∧ a.length ≤ 5 then ((a.zip b).map cmpM, true) else ([], false)) := by
    intro h
    refine Ev.succ ?_
    simp only [spec_RowOf.j0, if_true]
    exact Ev.const (by rw [if_neg (by omega)])
  by_cases hab : a.length = b.length
  · simp only [if_pos (show (a.length : Int) = (b.length : Int) by omega), spec_l1In_eq, Option.bind_some]
    by_cases h5 : 1 ≤ a.length ∧ a.length ≤ 5
    · simp only [show (1 : Int) ≤ (a.length : Int) ∧ (a.length : Int) ≤ 5 by omega, decide_true, Bool.not_true]
      refine Ev.succ ?_
      simp only [spec_RowOf.j0, Bool.false_eq_true, if_false]
      rw [if_pos ⟨hab, h5⟩]
      have key : ∀ i, i ≤ a.length → ∀ acc : List Int, acc.length = i → Ev (fun k => spec_RowOf.l0 k a b (i : Int) acc) (acc ++ ((a.drop i).zip (b.drop i)).map cmpM, true) := by
        refine down_ind ?_ ?_
        · intro acc _
          refine Ev.succ ?_
          simp only [spec_RowOf.l0, Int.lt_irrefl, if_false]
          exact Ev.const (by simp)
        · intro i hi ih acc hacc
          have hb : i < b.length := by omega
          refine Ev.succ ?_
          simp only [spec_RowOf.l0, if_pos (show (i : Int) < (a.length : Int) by omega), if_pos (show (0 : Int) ≤ i by omega), if_pos (show (i : Int) < (b.length : Int) by omega), rd_nat a i hi, rd_nat b i hb, if_pos (show acc.length < 17592186044416 by omega), wrap_succ (show i ≤ 4611686018427387903 by omega)]
          rw [drop_cons a i hi, drop_cons b i hb, List.zip_cons_cons, List.map_cons]
          by_cases h1 : a[i] < b[i]
          · simp only [if_pos h1]
            refine Ev.cast (ih (acc ++ [1]) (by simp; omega)) ?_
            simp [cmpM, h1]
          · by_cases h2 : a[i] > b[i]
            · simp only [if_neg h1, if_pos h2]
              refine Ev.cast (ih (acc ++ [-1]) (by simp; omega)) ?_
              simp only [cmpM, if_neg h1, if_pos h2, List.append_assoc, List.singleton_append]
            · simp only [if_neg h1, if_neg h2]
              refine Ev.cast (ih (acc ++ [0]) (by simp; omega)) ?_
              simp only [cmpM, if_neg h1, if_neg h2, List.append_assoc, List.singleton_append]
      exact key 0 (by omega) [] rfl
    · simp only [show ¬ ((1 : Int) ≤ (a.length : Int) ∧ (a.length : Int) ≤ 5) by omega, decide_false, Bool.not_false]
      exact bad (.inr h5)
  · simp only [if_neg (show ¬ (a.length : Int) = (b.length : Int) by omega)]
    exact bad (.inl hab)
theorem rowOf_len (a b : List Int) : (rowOf a b).1.length ≤ 5 := by
  unfold rowOf
  split
  · simp; omega
  · simp

theorem laws_markIntS_ev (l : List Int) (m : Int) (hl : l.length ≤ 2097152) (h0 : 0 ≤ m) (h1 : m ≤ 1099511627776) : Ev (fun k => laws_markIntS.f k l m) (m + l.length, idxs m l.length) := by
  unfold laws_markIntS.f
  have key : ∀ i, i ≤ l.length → Ev (fun k => laws_markIntS.l0 k (idxs m i ++ l.drop i) (m + (i : Int)) (i : Int)) (m + l.length, idxs m l.length) := by
    refine down_ind ?_ ?_
    · refine Ev.succ ?_
      have hlen : (idxs m l.length ++ l.drop l.length).length = l.length := by simp [idxs_length]
      simp only [laws_markIntS.l0, hlen, Int.lt_irrefl, if_false]
      exact Ev.const (by simp)
    · intro i hi ih
      refine Ev.succ ?_
      have hlen : (idxs m i ++ l.drop i).length = l.length := by rw [List.length_append, idxs_length, List.length_drop]; omega
      have hset : (idxs m i ++ l.drop i).set i (m + i) = idxs m (i + 1) ++ l.drop (i + 1) := by
        rw [List.set_append, idxs_length, if_neg (by omega), Nat.sub_self, drop_cons l i hi, List.set_cons_zero, idxs_snoc, List.append_assoc]
        rfl
      simp only [laws_markIntS.l0, hlen, if_pos (show (i : Int) < (l.length : Int) by omega), if_pos (show (0 : Int) ≤ i by omega), Int.toNat_natCast, hset, wrap_succ (show i ≤ 4611686018427387903 by omega), wrap_in (show -4611686018427387904 ≤ m + (i : Int) + 1 by omega) (show m + (i : Int) + 1 ≤ 4611686018427387904 by omega)]
      exact (show m + ((i + 1 : Nat) : Int) = m + (i : Int) + 1 by omega) ▸ ih
  have := key 0 (by omega)
  simpa [idxs] using this

theorem laws_heldIntS_ev (n : Nat) (m : Int) (hl : n ≤ 2097152) (h0 : 0 ≤ m) (h1 : m ≤ 1099511627776) : Ev (fun k => laws_heldIntS.f k (idxs m n) m) (m + n) := by
  unfold laws_heldIntS.f
  have key : ∀ i, i ≤ n → Ev (fun k => laws_heldIntS.l0 k (idxs m n) (m + (i : Int)) (i : Int)) (m + n) := by
    refine down_ind ?_ ?_
    · refine Ev.succ ?_
      simp only [laws_heldIntS.l0, idxs_length, Int.lt_irrefl, if_false]
      exact Ev.const rfl
    · intro i hi ih
      refine Ev.succ ?_
      have hi' : i < (idxs m n).length := by rw [idxs_length]; exact hi
      simp only [laws_heldIntS.l0, idxs_length, if_pos (show (i : Int) < (n : Int) by omega), if_pos (show (0 : Int) ≤ i by omega), rd_nat _ i hi', idxs_get, if_true, wrap_succ (show i ≤ 4611686018427387903 by omega), wrap_in (show -4611686018427387904 ≤ m + (i : Int) + 1 by omega) (show m + (i : Int) + 1 ≤ 4611686018427387904 by omega)]
      exact (show m + ((i + 1 : Nat) : Int) = m + (i : Int) + 1 by omega) ▸ ih
  have := key 0 (by omega)
  simpa using this

theorem laws_markRow_ev (l : List Int) (m : Int) (hl : l.length ≤ 2097152) (h0 : 0 ≤ m) (h1 : m ≤ 1099511627776) : Ev (fun k => laws_markRow.f k l m) (m + l.length, idxs m l.length) := by
  unfold laws_markRow.f
  exact Ev.bind (laws_markIntS_ev l m hl h0 h1) (Ev.const rfl)
theorem laws_heldRow_ev (n : Nat) (m : Int) (hl : n ≤ 2097152) (h0 : 0 ≤ m) (h1 : m ≤ 1099511627776) : Ev (fun k => laws_heldRow.f k (idxs m n) m) (m + n) := by
  unfold laws_heldRow.f
  refine Ev.bind (laws_heldIntS_ev n m hl h0 h1) ?_
  simp only [if_neg (show ¬ m + (n : Int) < 0 by omega)]
  exact Ev.const rfl

theorem FnExactRowOf : laws_FnExactRowOf.Pure := by
  intro a b _ _
  refine Ev.rounds ?_
  unfold laws_FnExactRowOf.f
  by_cases ha : a.length ≤ 1048576
  · simp only [if_neg (show ¬ (a.length : Int) > 1048576 by omega)]
    by_cases hb : b.length ≤ 1048576
    · simp only [if_neg (show ¬ (b.length : Int) > 1048576 by omega)]
      refine Ev.bind (laws_toIntS_ev a ha) (Ev.bind (laws_toIntS_ev b hb) (Ev.bind (spec_RowOf_ev a b ha) (Ev.bind (laws_toIntS_ev a ha) (Ev.bind (laws_toIntS_ev b hb) (Ev.bind (impl_RowOf_ev a b ha) ?_)))))
      have hr := rowOf_len a b
      generalize hro : rowOf a b = ro at hr ⊢
      obtain ⟨r, ok⟩ := ro
      refine Ev.bind (laws_eqRow_ev r r (by simp at hr; omega)) ?_
      simp only [decide_true, if_true, bne_self_eq_false]
      refine Ev.succ ?_
      simp only [laws_FnExactRowOf.j0, Bool.false_eq_true, if_false]
      refine Ev.bind (laws_toIntS_ev a ha) (Ev.bind (laws_eqIntS_ev a a ha) ?_)
      simp only [decide_true, if_true]
      refine Ev.bind (laws_toIntS_ev b hb) (Ev.bind (laws_eqIntS_ev b b hb) ?_)
      simp only [decide_true, if_true]
      refine Ev.bind (laws_markIntS_ev a 1 (by omega) (by omega) (by omega)) (Ev.bind (laws_markIntS_ev b _ (by omega) (by simp; omega) (by simp; omega)) ?_)
      simp only [if_neg (show ¬ (1 + (a.length : Int) + (b.length : Int)) < 0 by omega)]
      refine Ev.bind (laws_eqRow_ev r r (by simp at hr; omega)) ?_
      simp only [decide_true, if_true, bne_self_eq_false]
      refine Ev.succ ?_
      simp only [laws_FnExactRowOf.j1, Bool.false_eq_true, if_false]
      simp only at hr
      refine Ev.bind (laws_markRow_ev r 1 (by omega) (by omega) (by omega)) (Ev.bind (laws_heldRow_ev r.length 1 (by omega) (by omega) (by omega)) ?_)
      simp only [if_neg (show ¬ (1 + (r.length : Int)) < 0 by omega), if_true]
      refine Ev.bind (laws_toIntS_ev a ha) (Ev.bind (laws_toIntS_ev b hb) (Ev.bind (impl_RowOf_ev a b ha) ?_))
      rw [hro]
      refine Ev.bind (laws_eqRow_ev r r (by omega)) ?_
      simp only [decide_true, if_true, bne_self_eq_false]
      refine Ev.succ ?_
      simp only [laws_FnExactRowOf.j2, Bool.false_eq_true, if_false]
      refine Ev.bind (laws_heldRow_ev r.length 1 (by omega) (by omega) (by omega)) ?_
      simp only [if_neg (show ¬ (1 + (r.length : Int)) < 0 by omega), if_true]
      exact Ev.const rfl
    · simp only [if_pos (show (b.length : Int) > 1048576 by omega)]
      exact Ev.const rfl
  · simp only [if_pos (show (a.length : Int) > 1048576 by omega)]
    exact Ev.const rfl

end Go.Proofs.Ytdamagcfmhimfaa.Pure
