/- The pure statement of the law FnExactSatisfiesAll: for all arguments within bounds its printed function answers true. -/
import Derived.Test.YtdamagcfmhimfadPFnExactSatisfiesAllx
import Derived.Test.YtdamagcfmhimfadBase
namespace Go.Proofs.Ytdamagcfmhimfad.Pure
open Go.RowKit Go.Proofs.YtdamagcfmhimfadB Go.Proofs.Ytdamagcfmhimfad.PFnExactSatisfiesAll Go.Proofs.YtdamagcfmhimfadW.PrintWords Go.Proofs.YtdamagcfmhimfadW.PrintLast Go.Proofs.YtdamagcfmhimfadW.PrintMore
set_option linter.unusedVariables false
set_option linter.unusedSimpArgs false

theorem laws_toIntS_ev (l : List Int) (hl : l.length ≤ 1048576) : Ev (fun k => laws_toIntS.f k l) l := by
  unfold laws_toIntS.f
  simp only [if_pos (show (0 : Int) ≤ (l.length : Int) by omega), Int.toNat_natCast, if_pos (show l.length ≤ 35184372088832 by omega)]
  have key : ∀ i, i ≤ l.length → Ev (fun k => laws_toIntS.l0 k l (l.take i ++ List.replicate (l.length - i) 0) (i : Int)) l := by
    refine down_ind ?_ ?_
    · refine Ev.succ ?_
      simp only [laws_toIntS.l0, Int.lt_irrefl, if_false]
      exact Ev.const (by simp)
    · intro i hi ih
      refine Ev.succ ?_
      have hlen : (l.take i ++ List.replicate (l.length - i) 0).length = l.length := by simp; omega
      simp only [laws_toIntS.l0, hlen, if_pos (show (i : Int) < (l.length : Int) by omega), if_pos (show (0 : Int) ≤ i by omega), rd_nat l i hi, Int.toNat_natCast, set_fill l 0 i hi, wrap_succ (show i ≤ 4611686018427387903 by omega)]
      exact ih
  have := key 0 (by omega)
  simpa using this

theorem laws_eqIntS_ev (a b : List Int) (hl : a.length ≤ 1048576) : Ev (fun k => laws_eqIntS.f k a b) (decide (a = b)) := by
  unfold laws_eqIntS.f
  by_cases hab : a.length = b.length
  · simp only [if_pos (show (a.length : Int) = (b.length : Int) by omega)]
    have key : ∀ i, i ≤ a.length → Ev (fun k => laws_eqIntS.l0 k a b (i : Int)) (decide (a.drop i = b.drop i)) := by
      refine down_ind ?_ ?_
      · refine Ev.succ ?_
        simp only [laws_eqIntS.l0, Int.lt_irrefl, if_false]
        refine Ev.const ?_
        rw [List.drop_of_length_le (Nat.le_refl _), List.drop_of_length_le (by omega)]
        rfl
      · intro i hi ih
        have hb : i < b.length := by omega
        refine Ev.succ ?_
        simp only [laws_eqIntS.l0, if_pos (show (i : Int) < (a.length : Int) by omega), if_pos (show (0 : Int) ≤ i by omega), if_pos (show (i : Int) < (b.length : Int) by omega), rd_nat a i hi, rd_nat b i hb, wrap_succ (show i ≤ 4611686018427387903 by omega)]
        rw [drop_cons a i hi, drop_cons b i hb]
        by_cases he : a[i] = b[i]
        · simp only [if_pos he]
          exact Ev.cast ih (by simp only [List.cons.injEq, he, true_and])
        · simp only [if_neg he]
          exact Ev.const (by simp only [List.cons.injEq, he, false_and, decide_false])
    exact key 0 (by omega)
  · simp only [if_neg (show ¬ (a.length : Int) = (b.length : Int) by omega)]
    exact Ev.const (by
      have : a ≠ b := fun h => hab (by rw [h])
      simp [this])

/-- a row of the laws, a row of the program -/
abbrev LRow := S39
abbrev IRow := S42
def toI (x : LRow) : IRow := ⟨x.f0⟩
theorem rdL (l : List LRow) (i : Nat) (h : i < l.length) : rd_T39 l (i : Int) = l[i] := by simp [rd_T39, h]
theorem rdI (l : List IRow) (i : Nat) (h : i < l.length) : rd_T42 l (i : Int) = l[i] := by simp [rd_T42, h]
def lens (l : List IRow) : Nat := (l.map fun x => x.f0.length).sum
def lensL (l : List LRow) : Nat := (l.map fun x => x.f0.length).sum
theorem lens_get (l : List IRow) (i : Nat) (h : i < l.length) : l[i].f0.length ≤ lens l := by
  unfold lens
  induction l generalizing i with
  | nil => simp at h
  | cons a l ih =>
    cases i with
    | zero => simp
    | succ i =>
      simp only [List.getElem_cons_succ, List.map_cons, List.sum_cons]
      have := ih i (by simpa using h)
      omega
theorem lensL_get (l : List LRow) (i : Nat) (h : i < l.length) : l[i].f0.length ≤ lensL l := by
  unfold lensL
  induction l generalizing i with
  | nil => simp at h
  | cons a l ih =>
    cases i with
    | zero => simp
    | succ i =>
      simp only [List.getElem_cons_succ, List.map_cons, List.sum_cons]
      have := ih i (by simpa using h)
      omega
theorem lens_toI (l : List LRow) : lens (l.map toI) = lensL l := by simp [lens, lensL, toI, Function.comp_def]

theorem laws_szIntS_eq (l : List Int) (n : Nat) (hn : n ≤ 1048576) (hl : l.length ≤ 140737488351232) : laws_szIntS.f l n = some (if l.length ≤ n then ((n - l.length : Nat) : Int) else -1) := by
  unfold laws_szIntS.f
  rw [wrap_in (by omega) (by omega)]
  by_cases h : l.length ≤ n
  · rw [if_neg (by omega), if_pos h]
    congr 1
    omega
  · rw [if_pos (by omega), if_neg h]

theorem laws_szRow_eq (l : List Int) (n : Nat) (hn : n ≤ 1048576) (hl : l.length ≤ 140737488351232) : laws_szRow.f l n = some (if l.length ≤ n then ((n - l.length : Nat) : Int) else -1) := by
  unfold laws_szRow.f
  rw [laws_szIntS_eq l n hn hl]
  simp only [Option.bind_some]
  by_cases h : l.length ≤ n
  · simp only [if_pos h]
    rw [if_neg (by omega)]
  · simp only [if_neg h]
    rfl

theorem laws_szRowS_ev (l : List LRow) (n : Nat) (hn : n ≤ 1048576) (hl : BdSlice 24 Bd39 l) : Ev (fun k => laws_szRowS.f k l n) (if l.length + lensL l ≤ n then ((n - (l.length + lensL l) : Nat) : Int) else -1) := by
  have hl' : l.length ≤ 140737488351232 := by have := hl.1; omega
  unfold laws_szRowS.f
  rw [wrap_in (by omega) (by omega)]
  by_cases h : l.length ≤ n
  · rw [show ((n : Int) - (l.length : Int)) = ((n - l.length : Nat) : Int) by omega]
    simp only [if_neg (show ¬ ((n - l.length : Nat) : Int) < 0 by omega)]
    have key : ∀ i, i ≤ l.length → ∀ m : Nat, m ≤ n → Ev (fun k => laws_szRowS.l0 k l (m : Int) (i : Int)) (if lensL (l.drop i) ≤ m then ((m - lensL (l.drop i) : Nat) : Int) else -1) := by
      refine down_ind ?_ ?_
      · intro m hm
        refine Ev.succ ?_
        simp only [laws_szRowS.l0, Int.lt_irrefl, if_false]
        exact Ev.const (by simp [lensL])
      · intro i hi ih m hm
        have hb : l[i].f0.length ≤ 140737488351232 := by have := (bd_get hl i hi).1; omega
        refine Ev.succ ?_
        simp only [laws_szRowS.l0, if_pos (show (i : Int) < (l.length : Int) by omega), if_pos (show (0 : Int) ≤ i by omega), rdL l i hi, laws_szRow_eq l[i].f0 m (by omega) hb, Option.bind_some, wrap_succ (show i ≤ 4611686018427387903 by omega)]
        have hd : lensL (l.drop i) = l[i].f0.length + lensL (l.drop (i + 1)) := by rw [drop_cons l i hi]; rfl
        rw [hd]
        by_cases hs : l[i].f0.length ≤ m
        · simp only [if_pos hs, if_neg (show ¬ ((m - l[i].f0.length : Nat) : Int) < 0 by omega)]
          refine Ev.cast (ih (m - l[i].f0.length) (by omega)) ?_
          by_cases h2 : lensL (l.drop (i + 1)) ≤ m - l[i].f0.length
          · rw [if_pos h2, if_pos (by omega)]
            congr 1
            omega
          · rw [if_neg h2, if_neg (by omega)]
        · simp only [if_neg hs]
          exact Ev.const (by rw [if_neg (by omega)])
    refine Ev.cast (key 0 (by omega) (n - l.length) (by omega)) ?_
    simp only [List.drop_zero]
    by_cases h2 : lensL l ≤ n - l.length
    · rw [if_pos h2, if_pos (by omega)]
      congr 1
      omega
    · rw [if_neg h2, if_neg (by omega)]
  · simp only [if_pos (show ((n : Int) - (l.length : Int)) < 0 by omega)]
    exact Ev.const (by rw [if_neg (by omega)])

theorem laws_toRow_ev (l : List Int) (hl : l.length ≤ 1048576) : Ev (fun k => laws_toRow.f k l) l := by
  unfold laws_toRow.f
  exact Ev.bind (laws_toIntS_ev l hl) (Ev.const rfl)

theorem laws_toRowS_ev (l : List LRow) (hl : l.length + lensL l ≤ 1048576) : Ev (fun k => laws_toRowS.f k l) (l.map toI) := by
  unfold laws_toRowS.f
  simp only [if_pos (show (0 : Int) ≤ (l.length : Int) by omega), Int.toNat_natCast, if_pos (show l.length ≤ 11728124029610 by omega)]
  have key : ∀ i, i ≤ l.length → Ev (fun k => laws_toRowS.l0 k l ((l.take i).map toI ++ List.replicate (l.length - i) z42) (i : Int)) (l.map toI) := by
    refine down_ind ?_ ?_
    · refine Ev.succ ?_
      simp only [laws_toRowS.l0, Int.lt_irrefl, if_false]
      exact Ev.const (by simp)
    · intro i hi ih
      have := lensL_get l i hi
      refine Ev.succ ?_
      have hlen : ((l.take i).map toI ++ List.replicate (l.length - i) z42).length = l.length := by simp; omega
      simp only [laws_toRowS.l0, hlen, if_pos (show (i : Int) < (l.length : Int) by omega), if_pos (show (0 : Int) ≤ i by omega), rdL l i hi]
      refine Ev.bind (laws_toRow_ev l[i].f0 (by omega)) ?_
      simp only [Int.toNat_natCast, show (⟨l[i].f0⟩ : IRow) = toI l[i] from rfl, set_fill2 l toI _ i hi, wrap_succ (show i ≤ 4611686018427387903 by omega)]
      exact ih
  have := key 0 (by omega)
  simpa using this

theorem laws_eqRow_ev (a b : List Int) (hl : a.length ≤ 1048576) : Ev (fun k => laws_eqRow.f k a b) (decide (a = b)) := by
  unfold laws_eqRow.f
  refine Ev.bind (laws_eqIntS_ev a b hl) ?_
  by_cases h : a = b
  · simp [h]; exact Ev.const rfl
  · simp [h]; exact Ev.const rfl

theorem laws_eqRowS_ev (a : List IRow) (hl : a.length + lens a ≤ 1048576) : Ev (fun k => laws_eqRowS.f k a a) true := by
  unfold laws_eqRowS.f
  simp only [if_true]
  have key : ∀ i, i ≤ a.length → Ev (fun k => laws_eqRowS.l0 k a a (i : Int)) true := by
    refine down_ind ?_ ?_
    · refine Ev.succ ?_
      simp only [laws_eqRowS.l0, Int.lt_irrefl, if_false]
      exact Ev.const rfl
    · intro i hi ih
      have := lens_get a i hi
      refine Ev.succ ?_
      simp only [laws_eqRowS.l0, if_pos (show (i : Int) < (a.length : Int) by omega), if_pos (show (0 : Int) ≤ i by omega), rdI a i hi]
      refine Ev.bind (laws_eqRow_ev _ _ (by omega)) ?_
      simp only [decide_true, if_true, wrap_succ (show i ≤ 4611686018427387903 by omega)]
      exact ih
  exact key 0 (by omega)

theorem getD_in (l : List Int) (i : Nat) (h : i < l.length) : l.getD i 0 = l[i] := by simp [h]

/-- a ranking of n constraints -/
def rankAt (l : List Int) (n : Int) (j : Nat) : Bool := decide (0 ≤ l.getD j 0) && (decide (l.getD j 0 < n) && !((l.take j).contains (l.getD j 0)))
def rank (l : List Int) (n : Int) : Bool := allFrom (rankAt l n) l.length 0 && (decide (1 ≤ n ∧ n ≤ 5) && decide ((l.length : Int) = n))
theorem rank_len {l : List Int} {n : Int} (h : rank l n = true) : (l.length : Int) = n := of_decide_eq_true (Bool.and_eq_true_iff.1 (Bool.and_eq_true_iff.1 h).2).2
theorem rank_five {l : List Int} {n : Int} (h : rank l n = true) : n ≤ 5 := (of_decide_eq_true (Bool.and_eq_true_iff.1 (Bool.and_eq_true_iff.1 h).2).1).2
theorem rank_get {l : List Int} {n : Int} (h : rank l n = true) (j : Nat) (hj : j < l.length) : 0 ≤ l[j] ∧ l[j] < n := by
  have := (allFrom_iff _ _ _).1 (Bool.and_eq_true_iff.1 h).1 j (by omega) hj
  simp [rankAt, hj] at this
  omega

theorem spec_l1In_eq (a b c : Int) : spec_l1In.f a b c = some (decide (b ≤ a ∧ a ≤ c)) := by
  unfold spec_l1In.f
  split
  · have : b ≤ a := by omega
    simp [*]
  · have : ¬ b ≤ a := by omega
    simp [*]

theorem spec_l12Has_ev (l : List Int) (x : Int) (hl : l.length ≤ 140737488351232) : Ev (fun k => spec_l12Has.f k l x) (l.contains x) := by
  unfold spec_l12Has.f
  have key : ∀ i, i ≤ l.length → Ev (fun k => spec_l12Has.l0 k l x (i : Int)) ((l.drop i).contains x) := by
    refine down_ind ?_ ?_
    · refine Ev.succ ?_
      simp only [spec_l12Has.l0, Int.lt_irrefl, if_false]
      exact Ev.const (by simp)
    · intro i hi ih
      refine Ev.succ ?_
      simp only [spec_l12Has.l0, if_pos (show (i : Int) < (l.length : Int) by omega), if_pos (show (0 : Int) ≤ i by omega), rd_nat l i hi, wrap_succ (show i ≤ 4611686018427387903 by omega)]
      rw [drop_cons l i hi, List.contains_cons]
      by_cases h : l[i] = x
      · simp only [if_pos h]
        exact Ev.const (by simp [h])
      · simp only [if_neg h]
        rw [show (x == l[i]) = false from beq_eq_false_iff_ne.2 (fun e => h e.symm), Bool.false_or]
        exact ih
  exact key 0 (by omega)
theorem spec_IsRanking_ev (l : List Int) (n : Int) (hl : l.length ≤ 140737488351232) : Ev (fun k => spec_IsRanking.f k l n) (rank l n) := by
  unfold spec_IsRanking.f rank
  have key : ∀ i, i ≤ l.length → Ev (fun k => spec_IsRanking.l0 k l n (i : Int)) (allFrom (rankAt l n) l.length i && (decide (1 ≤ n ∧ n ≤ 5) && decide ((l.length : Int) = n))) := by
    refine down_ind ?_ ?_
    · refine Ev.succ ?_
      simp only [spec_IsRanking.l0, Int.lt_irrefl, if_false, spec_l1In_eq, Option.bind_some]
      rw [allFrom_end _ (Nat.le_refl _), Bool.true_and]
      by_cases h : 1 ≤ n ∧ n ≤ 5
      · simp only [h, decide_true, if_true, Bool.true_and]
        exact Ev.const (congrArg some (by by_cases e : (l.length : Int) = n <;> simp [e]))
      · simp only [h, decide_false, Bool.false_eq_true, if_false, Bool.false_and]
        exact Ev.const rfl
    · intro i hi ih
      refine Ev.succ ?_
      simp only [spec_IsRanking.l0, if_pos (show (i : Int) < (l.length : Int) by omega), if_pos (show (0 : Int) ≤ i by omega), if_pos (show (i : Int) ≤ (l.length : Int) by omega), rd_nat l i hi, Int.toNat_natCast, wrap_succ (show i ≤ 4611686018427387903 by omega)]
      rw [allFrom_step _ hi, rankAt, getD_in l i hi]
      by_cases h0 : l[i] < 0
      · simp only [if_pos h0, show ¬ 0 ≤ l[i] by omega, decide_false, Bool.false_and]
        exact Ev.const rfl
      · by_cases h1 : l[i] ≥ n
        · simp only [if_neg h0, if_pos h1, show ¬ l[i] < n by omega, decide_false, Bool.false_and, Bool.and_false]
          exact Ev.const rfl
        · simp only [if_neg h0, if_neg h1]
          refine Ev.bind (spec_l12Has_ev (l.take i) l[i] (by rw [List.length_take]; omega)) ?_
          simp only [show 0 ≤ l[i] by omega, show l[i] < n by omega, decide_true, Bool.true_and]
          cases (l.take i).contains l[i]
          · simp only [Bool.false_eq_true, if_false, Bool.not_false, Bool.true_and]
            exact ih
          · simp only [if_true, Bool.not_true, Bool.false_and]
            exact Ev.const rfl
  exact key 0 (by omega)

theorem less_eq (a b : Int) : cmp_Less_int.f a b = some (decide (a < b)) := by
  unfold cmp_Less_int.f cmp_isNaN_int.f
  simp
theorem rd_mid (A : List Int) (v : Int) (T : List Int) : rd (A ++ v :: T) (A.length : Int) = v := by simp [rd]
theorem swap_mid (A : List Int) (a v : Int) (T : List Int) : ((A ++ a :: v :: T).set (A.length + 1) a).set A.length v = A ++ v :: a :: T := by
  rw [List.set_append_right _ _ (by omega), show A.length + 1 - A.length = 1 by omega, List.set_cons_succ, List.set_cons_zero, List.set_append_right _ _ (Nat.le_refl _), Nat.sub_self, List.set_cons_zero]
abbrev asc (l : List Int) : Prop := l.Pairwise (· ≤ ·)
/-- what the insertion sort makes: the same numbers, ascending -/
theorem insertion_ev (n : Nat) (hn : n ≤ 1000) : ∀ i, i ≤ n → 1 ≤ i → ∀ x : List Int, x.length = n → asc (x.take i) → ∃ s, Ev (fun k => slices_insertionSortOrdered_int.l0 k x 0 (n : Int) (i : Int)) s ∧ s.Perm x ∧ asc s := by
  refine down_ind ?_ ?_
  · intro _ x hx hs
    refine ⟨x, Ev.succ ?_, List.Perm.refl _, ?_⟩
    · simp only [slices_insertionSortOrdered_int.l0, Int.lt_irrefl, if_false]
      exact Ev.const rfl
    · rwa [List.take_of_length_le (by omega)] at hs
  · intro i hi ih hi1 x hx hs
    have inner : ∀ m : Nat, ∀ (A : List Int) (v : Int) (C D : List Int), A.length = m → A.length + C.length = i → (A ++ v :: (C ++ D)).length = n → asc (A ++ C) → (∀ c ∈ C, v < c) →
        ∃ s, Ev (fun k => slices_insertionSortOrdered_int.l1 k (A ++ v :: (C ++ D)) 0 (n : Int) (i : Int) (A.length : Int)) s ∧ s.Perm (A ++ v :: (C ++ D)) ∧ asc s := by
      intro m
      induction m with
      | zero =>
        intro A v C D hm hAC hlen hasc hv
        obtain rfl : A = [] := List.eq_nil_of_length_eq_zero hm
        obtain ⟨s, he, hp, hss⟩ := ih (by omega) (v :: (C ++ D)) (by simpa using hlen) (by
          rw [List.take_succ_cons, List.take_append_of_le_length (by simp at hAC; omega), List.take_of_length_le (by simp at hAC; omega)]
          exact List.pairwise_cons.2 ⟨fun c hc => Int.le_of_lt (hv c hc), by simpa using hasc⟩)
        refine ⟨s, Ev.succ ?_, hp, hss⟩
        simp only [slices_insertionSortOrdered_int.l1, List.nil_append, List.length_nil, Int.natCast_zero, gt_iff_lt, Int.lt_irrefl, if_false, wrap_succ (show i ≤ 4611686018427387903 by omega)]
        exact he
      | succ m ihm =>
        intro A v C D hm hAC hlen hasc hv
        obtain ⟨A', a, rfl⟩ : ∃ A' a, A = A' ++ [a] := ⟨A.dropLast, A.getLast (by intro e; simp [e] at hm), (List.dropLast_concat_getLast _).symm⟩
        have hA' : A'.length = m := by simpa using hm
        have e0 : A' ++ [a] ++ v :: (C ++ D) = A' ++ a :: v :: (C ++ D) := by simp
        have r1 : rd (A' ++ [a] ++ v :: (C ++ D)) ((m + 1 : Nat) : Int) = v := by
          rw [show ((m + 1 : Nat) : Int) = ((A' ++ [a]).length : Int) by simp [hA'], rd_mid]
        have r0 : rd (A' ++ [a] ++ v :: (C ++ D)) ((m : Nat) : Int) = a := by
          rw [e0, ← hA', rd_mid]
        have hm1 : m + 1 < n := by simp at hlen hAC; omega
        have hwr : wrap64 (((m + 1 : Nat) : Int) - 1) = ((m : Nat) : Int) := by unfold wrap64; omega
        by_cases hlt : v < a
        · obtain ⟨s, he, hp, hss⟩ := ihm A' v (a :: C) D hA' (by simp at hAC ⊢; omega) (by simp at hlen ⊢; omega) (by simpa using hasc) (by
            intro c hc
            rcases List.mem_cons.1 hc with rfl | hc
            · exact hlt
            · exact hv c hc)
          refine ⟨s, Ev.succ ?_, hp.trans ?_, hss⟩
          · simp only [slices_insertionSortOrdered_int.l1, hm, hwr, r1, r0, less_eq, Option.bind_some, hlt, decide_true, if_true, Int.toNat_natCast]
            simp only [if_pos (show ((m + 1 : Nat) : Int) > 0 by omega), if_pos (show (0 : Int) ≤ ((m + 1 : Nat) : Int) by omega), if_pos (show (0 : Int) ≤ (m : Int) by omega), if_pos (show ((m + 1 : Nat) : Int) < ((A' ++ [a] ++ v :: (C ++ D)).length : Int) by rw [hlen]; omega), if_pos (show (m : Int) < ((A' ++ [a] ++ v :: (C ++ D)).length : Int) by rw [hlen]; omega)]
            rw [e0, ← hA', swap_mid]
            exact he
          · rw [e0]
            exact (List.Perm.swap a v (C ++ D)).append_left A' |>.trans (List.Perm.refl _)
        · obtain ⟨s, he, hp, hss⟩ := ih (by omega) (A' ++ [a] ++ v :: (C ++ D)) hlen (by
            rw [show A' ++ [a] ++ v :: (C ++ D) = (A' ++ [a] ++ v :: C) ++ D by simp, List.take_append_of_le_length (by simp at hAC ⊢; omega), List.take_of_length_le (by simp at hAC ⊢; omega)]
            refine List.pairwise_append.2 ⟨(List.pairwise_append.1 hasc).1, List.pairwise_cons.2 ⟨fun c hc => Int.le_of_lt (hv c hc), (List.pairwise_append.1 hasc).2.1⟩, ?_⟩
            intro b hb c hc
            have hba : b ≤ v := by
              have h1 := (List.pairwise_append.1 (List.pairwise_append.1 hasc).1).2.2
              rcases List.mem_append.1 hb with hb | hb
              · have := h1 b hb a (by simp)
                omega
              · obtain rfl : b = a := by simpa using hb
                omega
            rcases List.mem_cons.1 hc with rfl | hc
            · exact hba
            · have := hv c hc
              omega)
          refine ⟨s, Ev.succ ?_, hp, hss⟩
          simp only [slices_insertionSortOrdered_int.l1, hm, hwr, r1, r0, less_eq, Option.bind_some, hlt, decide_false, Bool.false_eq_true, if_false]
          simp only [if_pos (show ((m + 1 : Nat) : Int) > 0 by omega), if_pos (show (0 : Int) ≤ ((m + 1 : Nat) : Int) by omega), if_pos (show (0 : Int) ≤ (m : Int) by omega), if_pos (show ((m + 1 : Nat) : Int) < ((A' ++ [a] ++ v :: (C ++ D)).length : Int) by rw [hlen]; omega), if_pos (show (m : Int) < ((A' ++ [a] ++ v :: (C ++ D)).length : Int) by rw [hlen]; omega), wrap_succ (show i ≤ 4611686018427387903 by omega)]
          exact he
    have hlt : i < x.length := by omega
    have hx' : x = x.take i ++ x[i] :: ([] ++ x.drop (i + 1)) := by
      rw [List.nil_append, ← drop_cons x i hlt, List.take_append_drop]
    have hti : (x.take i).length = i := by rw [List.length_take]; omega
    obtain ⟨s, he, hp, hss⟩ := inner i (x.take i) x[i] [] (x.drop (i + 1)) hti (by simp [hti]) (by rw [← hx']; exact hx) (by simpa using hs) (by simp)
    rw [← hx'] at he hp
    rw [hti] at he
    refine ⟨s, Ev.succ ?_, hp, hss⟩
    simp only [slices_insertionSortOrdered_int.l0, if_pos (show (i : Int) < (n : Int) by omega)]
    exact he
theorem insertionSort_ev (l : List Int) (h1 : 1 ≤ l.length) (hl : l.length ≤ 1000) : ∃ s, Ev (fun k => slices_insertionSortOrdered_int.f k l 0 l.length) s ∧ s.Perm l ∧ asc s := by
  obtain ⟨s, he, hp, hs⟩ := insertion_ev l.length hl 1 h1 (Nat.le_refl _) l rfl (by
    cases l with
    | nil => simp at h1
    | cons a l => simp)
  refine ⟨s, ?_, hp, hs⟩
  unfold slices_insertionSortOrdered_int.f
  rw [show wrap64 (0 + 1) = ((1 : Nat) : Int) by unfold wrap64; omega]
  exact he

theorem impl_within_eq (a b c : Int) : impl_within.f a b c = some (decide (b ≤ a ∧ a ≤ c)) := by
  unfold impl_within.f
  split
  · simp [*]
  · simp [*]

def strictAt (s : List Int) (n : Int) (j : Nat) : Bool := decide (0 ≤ s.getD j 0 ∧ s.getD j 0 ≤ n - 1) && (decide (j = 0) || decide (s.getD (j - 1) 0 < s.getD j 0))
theorem impl_isStrict_ev (s : List Int) (n : Int) (hl : s.length ≤ 140737488351232) (hn : 1 ≤ n ∧ n ≤ 1048576) : Ev (fun k => impl_isStrict.f k s n) (allFrom (strictAt s n) s.length 0) := by
  unfold impl_isStrict.f
  have key : ∀ i, i ≤ s.length → Ev (fun k => impl_isStrict.l0 k s n s (s.length : Int) (i : Int)) (allFrom (strictAt s n) s.length i) := by
    refine down_ind ?_ ?_
    · refine Ev.succ ?_
      simp only [impl_isStrict.l0, Int.lt_irrefl, if_false]
      rw [allFrom_end _ (Nat.le_refl _)]
      exact Ev.const rfl
    · intro i hi ih
      refine Ev.succ ?_
      simp only [impl_isStrict.l0, if_pos (show (i : Int) < (s.length : Int) by omega), if_pos (show (0 : Int) ≤ i by omega), rd_nat s i hi, wrap_succ (show i ≤ 4611686018427387903 by omega), impl_within_eq, Option.bind_some, show wrap64 (n - 1) = n - 1 from wrap_in (by omega) (by omega)]
      rw [allFrom_step _ hi, strictAt, getD_in s i hi]
      by_cases h : 0 ≤ s[i] ∧ s[i] ≤ n - 1
      · simp only [h, decide_true, if_true, Bool.true_and]
        by_cases h0 : i = 0
        · subst h0
          simp only [gt_iff_lt, Int.natCast_zero, Int.lt_irrefl, if_false, decide_true, Bool.true_or, Bool.true_and]
          exact ih
        · have hi' : i - 1 < s.length := by omega
          simp only [if_pos (show (i : Int) > 0 by omega), show wrap64 ((i : Int) - 1) = ((i - 1 : Nat) : Int) by unfold wrap64; omega, if_pos (show (0 : Int) ≤ ((i - 1 : Nat) : Int) by omega), if_pos (show ((i - 1 : Nat) : Int) < (s.length : Int) by omega), rd_nat s (i - 1) hi', h0, decide_false, Bool.false_or]
          rw [getD_in s (i - 1) hi']
          by_cases h2 : s[i] ≤ s[i - 1]
          · simp only [if_pos h2, show ¬ s[i - 1] < s[i] by omega, decide_false, Bool.false_and]
            exact Ev.const rfl
          · simp only [if_neg h2, show s[i - 1] < s[i] by omega, decide_true, Bool.true_and]
            exact ih
      · simp only [h, decide_false, Bool.false_eq_true, if_false, Bool.false_and]
        exact Ev.const rfl
  exact key 0 (by omega)

theorem strict_rank (l s : List Int) (n : Int) (hp : s.Perm l) (hs : asc s) : allFrom (strictAt s n) s.length 0 = allFrom (rankAt l n) l.length 0 := by
  have hasc := List.pairwise_iff_getElem.1 hs
  rw [Bool.eq_iff_iff, allFrom_iff, allFrom_iff]
  have A : (∀ j, 0 ≤ j → j < s.length → strictAt s n j = true) ↔ ((∀ x ∈ s, 0 ≤ x ∧ x < n) ∧ s.Nodup) := by
    constructor
    · intro h
      have h' : ∀ j (hj : j < s.length), (0 ≤ s[j] ∧ s[j] ≤ n - 1) ∧ (j = 0 ∨ s.getD (j - 1) 0 < s[j]) := by
        intro j hj
        have := h j (by omega) hj
        rw [strictAt, getD_in s j hj] at this
        simpa using this
      refine ⟨?_, ?_⟩
      · intro x hx
        obtain ⟨j, hj, rfl⟩ := List.mem_iff_getElem.1 hx
        have := (h' j hj).1
        omega
      · refine List.pairwise_iff_getElem.2 ?_
        intro i j hi hj hij
        have h2 := (h' j hj).2
        rcases h2 with h2 | h2
        · omega
        · rw [getD_in s (j - 1) (by omega)] at h2
          by_cases he : i = j - 1
          · subst he
            omega
          · have := hasc i (j - 1) hi (by omega) (by omega)
            omega
    · rintro ⟨h1, h2⟩ j _ hj
      have h2' := List.pairwise_iff_getElem.1 h2
      have h3 := h1 s[j] (List.getElem_mem hj)
      rw [strictAt, getD_in s j hj]
      simp only [Bool.and_eq_true, Bool.or_eq_true, decide_eq_true_eq]
      refine ⟨by omega, ?_⟩
      by_cases h0 : j = 0
      · exact .inl h0
      · refine .inr ?_
        rw [getD_in s (j - 1) (by omega)]
        have a := hasc (j - 1) j (by omega) hj (by omega)
        have b := h2' (j - 1) j (by omega) hj (by omega)
        omega
  have Bq : (∀ j, 0 ≤ j → j < l.length → rankAt l n j = true) ↔ ((∀ x ∈ l, 0 ≤ x ∧ x < n) ∧ l.Nodup) := by
    have e : ∀ j (hj : j < l.length), rankAt l n j = true ↔ ((0 ≤ l[j] ∧ l[j] < n) ∧ ∀ i (hi : i < j), l[i]'(by omega) ≠ l[j]) := by
      intro j hj
      rw [rankAt, getD_in l j hj]
      simp only [Bool.and_eq_true, decide_eq_true_eq, Bool.not_eq_true', and_assoc]
      refine and_congr Iff.rfl (and_congr Iff.rfl ?_)
      rw [← Bool.not_eq_true, List.contains_iff_mem, List.mem_take_iff_getElem]
      constructor
      · intro h i hi e
        exact h ⟨i, by omega, e⟩
      · rintro h ⟨i, hi, e⟩
        exact h i (by omega) e
    constructor
    · intro h
      refine ⟨?_, ?_⟩
      · intro x hx
        obtain ⟨j, hj, rfl⟩ := List.mem_iff_getElem.1 hx
        exact ((e j hj).1 (h j (by omega) hj)).1
      · refine List.pairwise_iff_getElem.2 ?_
        intro i j hi hj hij
        exact ((e j hj).1 (h j (by omega) hj)).2 i hij
    · rintro ⟨h1, h2⟩ j _ hj
      have h2' := List.pairwise_iff_getElem.1 h2
      exact (e j hj).2 ⟨h1 _ (List.getElem_mem hj), fun i hi => h2' i j (by omega) hj hi⟩
  rw [A, Bq, hp.nodup_iff]
  exact and_congr ⟨fun h x hx => h x (hp.mem_iff.2 hx), fun h x hx => h x (hp.mem_iff.1 hx)⟩ Iff.rfl
theorem impl_IsRanking_ev (l : List Int) (n : Int) (hl : l.length ≤ 140737488351232) : Ev (fun k => impl_IsRanking.f k l n) (rank l n) := by
  unfold impl_IsRanking.f rank
  simp only [impl_within_eq, Option.bind_some]
  by_cases h : 1 ≤ n ∧ n ≤ 5
  · simp only [h, decide_true, if_true, Bool.true_and]
    by_cases hn : (l.length : Int) = n
    · simp only [if_pos hn, hn, decide_true, Bool.and_true]
      obtain ⟨s, he, hp, hs⟩ := insertionSort_ev l (by omega) (by omega)
      rw [hn] at he
      refine Ev.bind he ?_
      rw [← strict_rank l s n hp hs, show decide (True ∧ True) = true by decide, Bool.and_true]
      exact impl_isStrict_ev s n (by rw [hp.length_eq]; exact hl) (by omega)
    · simp only [if_neg hn, hn, decide_false, Bool.and_false]
      exact Ev.const rfl
  · simp only [h, decide_false, Bool.false_eq_true, if_false, Bool.false_and, Bool.and_false]
    exact Ev.const rfl

/-- a row: n marks of -1, 0, 1; n from 1 to 5 -/
def mark3 (m : Int) : Bool := decide (-1 ≤ m ∧ m ≤ 1)
def row_ (l : List Int) (n : Int) : Bool := l.all mark3 && decide (1 ≤ n ∧ n ≤ 5) && decide ((l.length : Int) = n)

theorem spec_IsRow_ev (l : List Int) (n : Int) (hl : l.length ≤ 1048576) : Ev (fun k => spec_IsRow.f k l n) (row_ l n) := by
  unfold spec_IsRow.f
  have key : ∀ i, i ≤ l.length → Ev (fun k => spec_IsRow.l0 k n (i : Int) l) ((l.drop i).all mark3 && decide (1 ≤ n ∧ n ≤ 5) && decide ((l.length : Int) = n)) := by
    refine down_ind ?_ ?_
    · refine Ev.succ ?_
      simp only [spec_IsRow.l0, Int.lt_irrefl, if_false, spec_l1In_eq, Option.bind_some]
      rw [List.drop_of_length_le (Nat.le_refl _)]
      by_cases h : 1 ≤ n ∧ n ≤ 5
      · simp only [h, decide_true, if_true]
        exact Ev.const (by simp; rfl)
      · simp only [h, decide_false, Bool.false_eq_true, if_false]
        exact Ev.const (by simp)
    · intro i hi ih
      refine Ev.succ ?_
      simp only [spec_IsRow.l0, if_pos (show (i : Int) < (l.length : Int) by omega), if_pos (show (0 : Int) ≤ i by omega), rd_nat l i hi, spec_l1In_eq, Option.bind_some, wrap_succ (show i ≤ 4611686018427387903 by omega)]
      rw [drop_cons l i hi, List.all_cons]
      by_cases h : -1 ≤ l[i] ∧ l[i] ≤ 1
      · simp only [mark3, h, decide_true, if_true, Bool.true_and]
        exact ih
      · simp only [mark3, h, decide_false, Bool.false_eq_true, if_false, Bool.false_and]
        exact Ev.const rfl
  exact key 0 (by omega)

theorem impl_IsRow_ev (l : List Int) (n : Int) (hl : l.length ≤ 1048576) : Ev (fun k => impl_IsRow.f k l n) (row_ l n) := by
  unfold impl_IsRow.f
  have key : ∀ i, i ≤ l.length → Ev (fun k => impl_IsRow.l0 k n l (l.length : Int) (i : Int) l) ((l.drop i).all mark3 && decide (1 ≤ n ∧ n ≤ 5) && decide ((l.length : Int) = n)) := by
    refine down_ind ?_ ?_
    · refine Ev.succ ?_
      simp only [impl_IsRow.l0, Int.lt_irrefl, if_false, impl_within_eq, Option.bind_some]
      rw [List.drop_of_length_le (Nat.le_refl _)]
      by_cases h : 1 ≤ n ∧ n ≤ 5
      · simp only [h, decide_true, if_true]
        exact Ev.const (by simp; rfl)
      · simp only [h, decide_false, Bool.false_eq_true, if_false]
        exact Ev.const (by simp)
    · intro i hi ih
      refine Ev.succ ?_
      simp only [impl_IsRow.l0, if_pos (show (i : Int) < (l.length : Int) by omega), if_pos (show (0 : Int) ≤ i by omega), rd_nat l i hi, impl_within_eq, Option.bind_some, wrap_succ (show i ≤ 4611686018427387903 by omega)]
      rw [drop_cons l i hi, List.all_cons]
      by_cases h : -1 ≤ l[i] ∧ l[i] ≤ 1
      · simp only [mark3, h, decide_true, if_true, Bool.true_and]
        exact ih
      · simp only [mark3, h, decide_false, Bool.false_eq_true, if_false, Bool.false_and]
        exact Ev.const rfl
  exact key 0 (by omega)


theorem impl_isAnyRow_ev (l : List Int) (hl : l.length ≤ 1048576) : Ev (fun k => impl_isAnyRow.f k l) (row_ l l.length) := by
  unfold impl_isAnyRow.f
  exact Ev.bind (impl_IsRow_ev l _ hl) (Ev.const rfl)

theorem row_len {l : List Int} {n : Int} (h : row_ l n = true) : (l.length : Int) = n := by
  unfold row_ at h
  simp only [Bool.and_eq_true, decide_eq_true_eq] at h
  exact h.2

def satL (x : List Int) : List Int → Bool
  | [] => true
  | k :: r => if rd x k = 0 then satL x r else rd x k == 1
def sat (r x : List Int) : Bool := rank r x.length && (row_ x x.length && satL x r)
theorem spec_Satisfies_ev (r x : List Int) (hr : r.length ≤ 1048576) (hx : x.length ≤ 1048576) : Ev (fun k => spec_Satisfies.f k r x) (sat r x) := by
  unfold spec_Satisfies.f sat
  refine Ev.bind (spec_IsRanking_ev r _ (by omega)) ?_
  cases hk : rank r x.length
  · simp only [Bool.false_eq_true, if_false, Bool.false_and]
    refine Ev.succ ?_
    simp only [spec_Satisfies.j0, if_true]
    exact Ev.const rfl
  · simp only [if_true, Bool.true_and]
    rw [show (r.length : Int) = (x.length : Int) from rank_len hk]
    refine Ev.bind (spec_IsRow_ev x _ hx) ?_
    cases row_ x x.length
    · refine Ev.succ ?_
      simp only [spec_Satisfies.j0, Bool.not_false, if_true, Bool.false_and]
      exact Ev.const rfl
    · refine Ev.succ ?_
      simp only [spec_Satisfies.j0, Bool.not_true, Bool.false_eq_true, if_false, Bool.true_and]
      have key : ∀ i, i ≤ r.length → Ev (fun k => spec_Satisfies.l0 k r (i : Int) x) (satL x (r.drop i)) := by
        refine down_ind ?_ ?_
        · refine Ev.succ ?_
          simp only [spec_Satisfies.l0, Int.lt_irrefl, if_false]
          exact Ev.const (by simp [satL])
        · intro i hi ih
          have hg := rank_get hk i hi
          refine Ev.succ ?_
          simp only [spec_Satisfies.l0, if_pos (show (i : Int) < (r.length : Int) by omega), if_pos (show (0 : Int) ≤ i by omega), rd_nat r i hi, if_pos hg.1, if_pos hg.2, wrap_succ (show i ≤ 4611686018427387903 by omega)]
          rw [drop_cons r i hi, satL]
          by_cases h1 : rd x r[i] = 0
          · simp only [if_pos h1]
            exact ih
          · simp only [if_neg h1]
            exact Ev.const rfl
      exact key 0 (by omega)
theorem impl_Satisfies_ev (r x : List Int) (hr : r.length ≤ 1048576) (hx : x.length ≤ 1048576) : Ev (fun k => impl_Satisfies.f k r x) (sat r x) := by
  unfold impl_Satisfies.f sat
  refine Ev.bind (impl_isAnyRow_ev x hx) ?_
  cases row_ x x.length
  · simp only [Bool.false_eq_true, if_false, Bool.false_and, Bool.and_false]
    refine Ev.succ ?_
    simp only [impl_Satisfies.j0, if_true]
    exact Ev.const rfl
  · simp only [if_true, Bool.true_and]
    refine Ev.bind (impl_IsRanking_ev r _ (by omega)) ?_
    cases hk : rank r x.length
    · refine Ev.succ ?_
      simp only [impl_Satisfies.j0, Bool.not_false, if_true, Bool.false_and]
      exact Ev.const rfl
    · refine Ev.succ ?_
      simp only [impl_Satisfies.j0, Bool.not_true, Bool.false_eq_true, if_false, Bool.true_and]
      have key : ∀ i, i ≤ r.length → Ev (fun k => impl_Satisfies.l0 k r (r.length : Int) (i : Int) x) (satL x (r.drop i)) := by
        refine down_ind ?_ ?_
        · refine Ev.succ ?_
          simp only [impl_Satisfies.l0, Int.lt_irrefl, if_false]
          exact Ev.const (by simp [satL])
        · intro i hi ih
          have hg := rank_get hk i hi
          refine Ev.succ ?_
          simp only [impl_Satisfies.l0, if_pos (show (i : Int) < (r.length : Int) by omega), if_pos (show (0 : Int) ≤ i by omega), rd_nat r i hi, if_pos hg.1, if_pos hg.2, wrap_succ (show i ≤ 4611686018427387903 by omega)]
          rw [drop_cons r i hi, satL]
          by_cases h1 : rd x r[i] = 0
          · simp only [if_pos h1]
            exact ih
          · simp only [if_neg h1]
            exact Ev.const rfl
      exact key 0 (by omega)

def satAll (r : List Int) (l : List IRow) : Bool := l.all (fun x => sat r x.f0) && rank r r.length
theorem spec_SatisfiesAll_ev (r : List Int) (l : List IRow) (hr : r.length ≤ 1048576) (hl : l.length + lens l ≤ 1048576) : Ev (fun k => spec_SatisfiesAll.f k r l) (satAll r l) := by
  unfold spec_SatisfiesAll.f satAll
  have key : ∀ i, i ≤ l.length → Ev (fun k => spec_SatisfiesAll.l0 k r l (i : Int)) ((l.drop i).all (fun x => sat r x.f0) && rank r r.length) := by
    refine down_ind ?_ ?_
    · refine Ev.succ ?_
      simp only [spec_SatisfiesAll.l0, Int.lt_irrefl, if_false]
      rw [List.drop_of_length_le (Nat.le_refl _), List.all_nil, Bool.true_and]
      exact Ev.bind (spec_IsRanking_ev r _ (by omega)) (Ev.const rfl)
    · intro i hi ih
      have := lens_get l i hi
      refine Ev.succ ?_
      simp only [spec_SatisfiesAll.l0, if_pos (show (i : Int) < (l.length : Int) by omega), if_pos (show (0 : Int) ≤ i by omega), rdI l i hi, wrap_succ (show i ≤ 4611686018427387903 by omega)]
      refine Ev.bind (spec_Satisfies_ev r l[i].f0 hr (by omega)) ?_
      rw [drop_cons l i hi, List.all_cons]
      cases sat r l[i].f0
      · simp only [Bool.false_eq_true, if_false, Bool.false_and]
        exact Ev.const rfl
      · simp only [if_true, Bool.true_and]
        exact ih
  exact key 0 (by omega)
theorem impl_SatisfiesAll_ev (r : List Int) (l : List IRow) (hr : r.length ≤ 1048576) (hl : l.length + lens l ≤ 1048576) : Ev (fun k => impl_SatisfiesAll.f k r l) (satAll r l) := by
  unfold impl_SatisfiesAll.f satAll
  have key : ∀ i, i ≤ l.length → Ev (fun k => impl_SatisfiesAll.l0 k r l (l.length : Int) (i : Int)) ((l.drop i).all (fun x => sat r x.f0) && rank r r.length) := by
    refine down_ind ?_ ?_
    · refine Ev.succ ?_
      simp only [impl_SatisfiesAll.l0, Int.lt_irrefl, if_false]
      rw [List.drop_of_length_le (Nat.le_refl _), List.all_nil, Bool.true_and]
      exact Ev.bind (impl_IsRanking_ev r _ (by omega)) (Ev.const rfl)
    · intro i hi ih
      have := lens_get l i hi
      refine Ev.succ ?_
      simp only [impl_SatisfiesAll.l0, if_pos (show (i : Int) < (l.length : Int) by omega), if_pos (show (0 : Int) ≤ i by omega), rdI l i hi, wrap_succ (show i ≤ 4611686018427387903 by omega)]
      refine Ev.bind (impl_Satisfies_ev r l[i].f0 hr (by omega)) ?_
      rw [drop_cons l i hi, List.all_cons]
      cases sat r l[i].f0
      · simp only [Bool.false_eq_true, if_false, Bool.false_and]
        exact Ev.const rfl
      · simp only [if_true, Bool.true_and]
        exact ih
  exact key 0 (by omega)

theorem FnExactSatisfiesAll : laws_FnExactSatisfiesAll.Pure := by
  intro r l hr hl
  refine Ev.rounds ?_
  unfold laws_FnExactSatisfiesAll.f
  by_cases h1 : (r.length : Int) > 1048576
  · simp only [if_pos h1]
    exact Ev.const rfl
  · simp only [if_neg h1]
    have h1' : r.length ≤ 1048576 := by omega
    refine Ev.bind (laws_szRowS_ev l 1048576 (Nat.le_refl _) hl) ?_
    by_cases h : l.length + lensL l ≤ 1048576
    · have hi : (l.map toI).length + lens (l.map toI) ≤ 1048576 := by rw [List.length_map, lens_toI]; exact h
      simp only [if_pos h, if_neg (show ¬ ((1048576 - (l.length + lensL l) : Nat) : Int) < 0 by omega)]
      refine Ev.bind (laws_toIntS_ev r h1') (Ev.bind (laws_toRowS_ev l h) (Ev.bind (spec_SatisfiesAll_ev r _ h1' hi) ?_))
      refine Ev.bind (laws_toIntS_ev r h1') (Ev.bind (laws_toRowS_ev l h) (Ev.bind (impl_SatisfiesAll_ev r _ h1' hi) ?_))
      simp only [bne_self_eq_false, Bool.false_eq_true, if_false]
      refine Ev.bind (laws_toIntS_ev r h1') (Ev.bind (laws_eqIntS_ev r r h1') ?_)
      simp only [decide_true, if_true]
      refine Ev.bind (laws_toRowS_ev l h) (Ev.bind (laws_eqRowS_ev _ hi) ?_)
      simp only [if_true]
      exact Ev.const rfl
    · simp only [if_neg h]
      exact Ev.const rfl

end Go.Proofs.Ytdamagcfmhimfad.Pure
