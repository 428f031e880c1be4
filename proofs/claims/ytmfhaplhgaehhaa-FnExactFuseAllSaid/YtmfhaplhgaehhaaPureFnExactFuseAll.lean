/- The pure statement of the law FnExactFuseAll: for all arguments within bounds its printed function answers true. -/
import Derived.Test.YtmfhaplhgaehhaaPFnExactFuseAllx
import Derived.Test.YtmfhaplhgaehhaaBase
namespace Go.Proofs.Ytmfhaplhgaehhaa.Pure
open Go.RowKit Go.Proofs.YtmfhaplhgaehhaaB Go.Proofs.Ytmfhaplhgaehhaa.PFnExactFuseAll Go.Proofs.YtmfhaplhgaehhaaW.PrintWords Go.Proofs.YtmfhaplhgaehhaaW.PrintLast Go.Proofs.YtmfhaplhgaehhaaW.PrintMore
set_option linter.unusedVariables false
set_option linter.unusedSimpArgs false

/-- a row: n marks of -1, 0, 1; n from 1 to 5 -/
def mark3 (m : Int) : Bool := decide (-1 ≤ m ∧ m ≤ 1)
def row_ (l : List Int) (n : Int) : Bool := l.all mark3 && decide (1 ≤ n ∧ n ≤ 5) && decide ((l.length : Int) = n)

theorem spec_l1In_eq (a b c : Int) : spec_l1In.f a b c = some (decide (b ≤ a ∧ a ≤ c)) := by
  unfold spec_l1In.f
  split
  · have : b ≤ a := by omega
    simp [*]
  · have : ¬ b ≤ a := by omega
    simp [*]

theorem spec_IsRow_ev (l : List Int) (n : Int) (hl : l.length ≤ 1048576) : Ev (fun k => spec_IsRow.f k l n) (row_ l n) := by
  unfold spec_IsRow.f
  have key : ∀ i, i ≤ l.length → Ev (fun k => spec_IsRow.l0 k n (i : Int) l) ((l.drop i).all mark3 && decide (1 ≤ n ∧ n ≤ 5) && decide ((l.length : Int) = n)) := by
    refine down_ind ?_ ?_
    · refine Ev.succ ?_
      simp only [spec_IsRow.l0, Int.lt_irrefl, if_false, spec_l1In_eq, Option.bind_some]
      rw [List.drop_of_length_le (Nat.le_refl _)]
      by_cases h : 1 ≤ n ∧ n ≤ 5
      · simp only [h, decide_true, if_true]
        exact Ev.const (by simp; rfl)
      · simp only [h, decide_false, Bool.false_eq_true, if_false]
        exact Ev.const (by simp)
    · intro i hi ih
      refine Ev.succ ?_
      simp only [spec_IsRow.l0, if_pos (show (i : Int) < (l.length : Int) by omega), if_pos (show (0 : Int) ≤ i by omega), rd_nat l i hi, spec_l1In_eq, Option.bind_some, wrap_succ (show i ≤ 4611686018427387903 by omega)]
      rw [drop_cons l i hi, List.all_cons]
      by_cases h : -1 ≤ l[i] ∧ l[i] ≤ 1
      · simp only [mark3, h, decide_true, if_true, Bool.true_and]
        exact ih
      · simp only [mark3, h, decide_false, Bool.false_eq_true, if_false, Bool.false_and]
        exact Ev.const rfl
  exact key 0 (by omega)

theorem impl_within_eq (a b c : Int) : impl_within.f a b c = some (decide (b ≤ a ∧ a ≤ c)) := by
  unfold impl_within.f
  split
  · simp [*]
  · simp [*]

theorem impl_IsRow_ev (l : List Int) (n : Int) (hl : l.length ≤ 1048576) : Ev (fun k => impl_IsRow.f k l n) (row_ l n) := by
  unfold impl_IsRow.f
  have key : ∀ i, i ≤ l.length → Ev (fun k => impl_IsRow.l0 k n l (l.length : Int) (i : Int) l) ((l.drop i).all mark3 && decide (1 ≤ n ∧ n ≤ 5) && decide ((l.length : Int) = n)) := by
    refine down_ind ?_ ?_
    · refine Ev.succ ?_
      simp only [impl_IsRow.l0, Int.lt_irrefl, if_false, impl_within_eq, Option.bind_some]
      rw [List.drop_of_length_le (Nat.le_refl _)]
      by_cases h : 1 ≤ n ∧ n ≤ 5
      · simp only [h, decide_true, if_true]
        exact Ev.const (by simp; rfl)
      · simp only [h, decide_false, Bool.false_eq_true, if_false]
        exact Ev.const (by simp)
    · intro i hi ih
      refine Ev.succ ?_
      simp only [impl_IsRow.l0, if_pos (show (i : Int) < (l.length : Int) by omega), if_pos (show (0 : Int) ≤ i by omega), rd_nat l i hi, impl_within_eq, Option.bind_some, wrap_succ (show i ≤ 4611686018427387903 by omega)]
      rw [drop_cons l i hi, List.all_cons]
      by_cases h : -1 ≤ l[i] ∧ l[i] ≤ 1
      · simp only [mark3, h, decide_true, if_true, Bool.true_and]
        exact ih
      · simp only [mark3, h, decide_false, Bool.false_eq_true, if_false, Bool.false_and]
        exact Ev.const rfl
  exact key 0 (by omega)


theorem impl_isAnyRow_ev (l : List Int) (hl : l.length ≤ 1048576) : Ev (fun k => impl_isAnyRow.f k l) (row_ l l.length) := by
  unfold impl_isAnyRow.f
  exact Ev.bind (impl_IsRow_ev l _ hl) (Ev.const rfl)

theorem row_len {l : List Int} {n : Int} (h : row_ l n = true) : (l.length : Int) = n := by
  unfold row_ at h
  simp only [Bool.and_eq_true, decide_eq_true_eq] at h
  exact h.2

def fz (x y : Int) : Int := if x = -1 then -1 else if y = -1 then -1 else mx x y
def fused (a b : List Int) : List Int × Bool := if row_ a a.length = true ∧ row_ b a.length = true then (List.zipWith fz a b, true) else ([], false)
theorem zip_snoc (a b : List Int) (i : Nat) (h : i < a.length) (h' : i < b.length) : List.zipWith fz (a.take (i + 1)) (b.take (i + 1)) = List.zipWith fz (a.take i) (b.take i) ++ [fz a[i] b[i]] := by
  rw [take_snoc a i h, take_snoc b i h', List.zipWith_append (by simp; omega)]
  rfl
theorem zip_len (a b : List Int) (i : Nat) : (List.zipWith fz (a.take i) (b.take i)).length ≤ i := by
  rw [List.length_zipWith, List.length_take]
  omega
theorem row_mark {l : List Int} {n : Int} (h : row_ l n = true) (i : Nat) (hi : i < l.length) : -1 ≤ l[i] ∧ l[i] ≤ 1 := by
  unfold row_ at h
  simp only [Bool.and_eq_true] at h
  have := List.all_eq_true.1 h.1.1 _ (List.getElem_mem hi)
  exact of_decide_eq_true this
theorem fused_len (a b : List Int) : (fused a b).1.length ≤ a.length := by
  unfold fused
  split
  · simp only [List.length_zipWith]
    omega
  · simp
theorem spec_FuseRows_ev (a b : List Int) (ha : a.length ≤ 1048576) (hb : b.length ≤ 1048576) : Ev (fun k => spec_FuseRows.f k a b) (fused a b) := by
  unfold spec_FuseRows.f fused
  refine Ev.bind (spec_IsRow_ev a _ ha) ?_
  cases hra : row_ a a.length
  · simp only [Bool.false_eq_true, if_false, false_and]
    refine Ev.succ ?_
    simp only [spec_FuseRows.j0, if_true]
    exact Ev.const rfl
  · simp only [if_true, true_and]
    refine Ev.bind (spec_IsRow_ev b _ hb) ?_
    cases hrb : row_ b a.length
    · refine Ev.succ ?_
      simp only [spec_FuseRows.j0, Bool.not_false, if_true, Bool.false_eq_true, if_false]
      exact Ev.const rfl
    · have hlen : b.length = a.length := by have := row_len hrb; omega
      refine Ev.succ ?_
      simp only [spec_FuseRows.j0, Bool.not_true, Bool.false_eq_true, if_false, if_true]
      have key : ∀ i, i ≤ a.length → Ev (fun k => spec_FuseRows.l0 k (i : Int) a b (List.zipWith fz (a.take i) (b.take i))) (List.zipWith fz a b, true) := by
        refine down_ind ?_ ?_
        · refine Ev.succ ?_
          simp only [spec_FuseRows.l0, Int.lt_irrefl, if_false]
          rw [List.take_of_length_le (Nat.le_refl _), List.take_of_length_le (by omega)]
          exact Ev.const rfl
        · intro i hi ih
          have hi' : i < b.length := by omega
          have hz := zip_len a b i
          rw [zip_snoc a b i hi hi'] at ih
          refine Ev.succ ?_
          simp only [spec_FuseRows.l0, if_pos (show (i : Int) < (a.length : Int) by omega), if_pos (show (i : Int) < (b.length : Int) by omega), if_pos (show (0 : Int) ≤ i by omega), rd_nat a i hi, rd_nat b i hi', if_pos (show (List.zipWith fz (a.take i) (b.take i)).length < 17592186044416 by omega), wrap_succ (show i ≤ 4611686018427387903 by omega)]
          unfold fz at ih ⊢
          by_cases h1 : a[i] = -1
          · simp only [if_pos h1] at ih ⊢
            exact ih
          · by_cases h2 : b[i] = -1
            · simp only [if_neg h1, if_pos h2] at ih ⊢
              exact ih
            · simp only [if_neg h1, if_neg h2] at ih ⊢
              exact ih
      exact key 0 (by omega)
theorem impl_FuseRows_ev (a b : List Int) (ha : a.length ≤ 1048576) (hb : b.length ≤ 1048576) : Ev (fun k => impl_FuseRows.f k a b) (fused a b) := by
  unfold impl_FuseRows.f fused
  refine Ev.bind (impl_isAnyRow_ev a ha) ?_
  have bad : ¬ (row_ a a.length = true ∧ row_ b a.length = true) → Ev (fun k => impl_FuseRows.j0 k true a b) (if row_ a a.length = true ∧ row_ b a.length = true then (List.zipWith fz a b, true) else ([], false)) := by
    intro h
    refine Ev.succ ?_
    simp only [impl_FuseRows.j0, if_true, if_neg h]
    exact Ev.const rfl
  cases hra : row_ a a.length
  · rw [hra] at bad
    simp only [Bool.false_eq_true, if_false]
    exact bad (by simp)
  · rw [hra] at bad
    simp only [true_and] at bad
    simp only [if_true, true_and]
    refine Ev.bind (impl_isAnyRow_ev b hb) ?_
    cases hrb : row_ b b.length
    · simp only [Bool.false_eq_true, if_false]
      refine bad ?_
      intro h
      rw [← row_len h, hrb] at h
      exact absurd h (by simp)
    · simp only [if_true]
      by_cases hab : a.length = b.length
      · rw [hab]
        simp only [bne_self_eq_false, hrb]
        refine Ev.succ ?_
        simp only [impl_FuseRows.j0, Bool.false_eq_true, if_false, true_and, if_true]
        have key : ∀ i, i ≤ a.length → Ev (fun k => impl_FuseRows.l0 k (a.length : Int) (i : Int) a b (List.zipWith fz (a.take i) (b.take i))) (List.zipWith fz a b, true) := by
          refine down_ind ?_ ?_
          · refine Ev.succ ?_
            simp only [impl_FuseRows.l0, Int.lt_irrefl, if_false]
            rw [List.take_of_length_le (Nat.le_refl _), List.take_of_length_le (by omega)]
            exact Ev.const rfl
          · intro i hi ih
            have hi' : i < b.length := by omega
            have hz := zip_len a b i
            have m1 := row_mark hra i hi
            have m2 := row_mark hrb i hi'
            rw [zip_snoc a b i hi hi'] at ih
            refine Ev.succ ?_
            simp only [impl_FuseRows.l0, if_pos (show (i : Int) < (a.length : Int) by omega), if_pos (show (i : Int) < (b.length : Int) by omega), if_pos (show (0 : Int) ≤ i by omega), rd_nat a i hi, rd_nat b i hi', if_pos (show (List.zipWith fz (a.take i) (b.take i)).length < 17592186044416 by omega), wrap_succ (show i ≤ 4611686018427387903 by omega)]
            by_cases hm : mn a[i] b[i] < 0
            · simp only [if_pos hm]
              have : fz a[i] b[i] = -1 := by
                unfold fz mn at *
                split at hm <;> split <;> first | rfl | (split <;> first | rfl | (unfold mx; split <;> omega))
              rwa [this] at ih
            · simp only [if_neg hm]
              have : fz a[i] b[i] = mx a[i] b[i] := by
                unfold fz
                rw [if_neg (by unfold mn at hm; split at hm <;> omega), if_neg (by unfold mn at hm; split at hm <;> omega)]
              rwa [this] at ih
        have := key 0 (by omega)
        simpa using this
      · simp only [show ((a.length : Int) != (b.length : Int)) = true by rw [bne_iff_ne]; omega]
        refine bad ?_
        intro h
        have := row_len h
        omega

/-- a row of the laws, a row of the program -/
abbrev LRow := S110
abbrev IRow := S60
def toI (x : LRow) : IRow := ⟨x.f0⟩
theorem rdL (l : List LRow) (i : Nat) (h : i < l.length) : rd_T110 l (i : Int) = l[i] := by simp [rd_T110, h]
theorem rdI (l : List IRow) (i : Nat) (h : i < l.length) : rd_T60 l (i : Int) = l[i] := by simp [rd_T60, h]
def lens (l : List IRow) : Nat := (l.map fun x => x.f0.length).sum
def lensL (l : List LRow) : Nat := (l.map fun x => x.f0.length).sum
theorem lens_get (l : List IRow) (i : Nat) (h : i < l.length) : l[i].f0.length ≤ lens l := by
  unfold lens
  induction l generalizing i with
  | nil => simp at h
  | cons a l ih =>
    cases i with
    | zero => simp
    | succ i =>
      simp only [List.getElem_cons_succ, List.map_cons, List.sum_cons]
      have := ih i (by simpa using h)
      omega
theorem lensL_get (l : List LRow) (i : Nat) (h : i < l.length) : l[i].f0.length ≤ lensL l := by
  unfold lensL
  induction l generalizing i with
  | nil => simp at h
  | cons a l ih =>
    cases i with
    | zero => simp
    | succ i =>
      simp only [List.getElem_cons_succ, List.map_cons, List.sum_cons]
      have := ih i (by simpa using h)
      omega
theorem lens_toI (l : List LRow) : lens (l.map toI) = lensL l := by simp [lens, lensL, toI, Function.comp_def]

def fuseL : List Int → List IRow → List Int × Bool
  | out, [] => (out, true)
  | out, r :: l => if (fused out r.f0).2 = true then fuseL (fused out r.f0).1 l else ([], false)
theorem fuseL_len (l : List IRow) (out : List Int) : (fuseL out l).1.length ≤ out.length := by
  induction l generalizing out with
  | nil => exact Nat.le_refl _
  | cons r l ih =>
    unfold fuseL
    split
    · exact Nat.le_trans (ih _) (fused_len _ _)
    · simp
theorem fz_self (x : Int) : fz x x = x := by
  unfold fz mx
  split
  · omega
  · split <;> omega
theorem zip_self (l : List Int) : List.zipWith fz l l = l := by
  induction l with
  | nil => rfl
  | cons a l ih => simp [ih, fz_self]
theorem fused_self (l : List Int) : fused l l = if row_ l l.length = true then (l, true) else ([], false) := by
  unfold fused
  rw [zip_self]
  by_cases h : row_ l l.length = true <;> simp [h]
theorem row_nil : row_ [] 0 = false := by decide
def fuseR : List IRow → List Int × Bool
  | [] => ([], false)
  | r :: l => if l.length + 1 ≤ 20 ∧ row_ r.f0 r.f0.length = true then fuseL r.f0 l else ([], false)
theorem spec_FuseAll_ev (l : List IRow) (hl : l.length + lens l ≤ 1048576) : Ev (fun k => spec_FuseAll.f k l) (fuseR l) := by
  have hj : ∀ v, v = true → Ev (fun k => spec_FuseAll.j0 k l v) (([] : List Int), false) := by
    intro v hv
    refine Ev.succ ?_
    simp only [spec_FuseAll.j0, hv, if_true]
    exact Ev.const rfl
  unfold spec_FuseAll.f
  cases hc : l with
  | nil =>
    rw [hc] at hj
    simp only [List.length_nil, Int.natCast_zero, Int.ofNat_eq_natCast, if_true]
    exact hj true rfl
  | cons r t =>
    rw [hc] at hj hl
    have h0 : rd_T60 (r :: t) 0 = r := by simp [rd_T60]
    have hr : r.f0.length ≤ 1048576 := by
      have := lens_get (r :: t) 0 (by simp)
      simp only [List.getElem_cons_zero] at this
      omega
    simp only [List.length_cons] at hl ⊢
    simp only [if_neg (show ¬ ((t.length + 1 : Nat) : Int) = 0 by omega), h0]
    by_cases h20 : t.length + 1 ≤ 20
    · simp only [if_neg (show ¬ ((t.length + 1 : Nat) : Int) > 20 by omega), if_pos (show (0 : Int) < ((t.length + 1 : Nat) : Int) by omega)]
      refine Ev.bind (spec_IsRow_ev r.f0 _ hr) ?_
      cases hv : row_ r.f0 (r.f0.length : Int)
      · refine Ev.cast (hj _ rfl) ?_
        simp [fuseR, hv]
      · refine Ev.succ ?_
        simp only [spec_FuseAll.j0, Bool.not_true, Bool.false_eq_true, if_false, Option.bind_some, List.length_cons, if_pos (show (0 : Int) < ((t.length + 1 : Nat) : Int) by omega), h0, List.length_nil, if_pos (show 0 + r.f0.length < 17592186044416 by omega), List.nil_append]
        have key : ∀ i, i ≤ (r :: t).length → ∀ out : List Int, out.length ≤ 1048576 → Ev (fun k => spec_FuseAll.l0 k (r :: t) (i : Int) out) (fuseL out ((r :: t).drop i)) := by
          refine down_ind ?_ ?_
          · intro out _
            refine Ev.succ ?_
            simp only [spec_FuseAll.l0, Int.lt_irrefl, if_false]
            exact Ev.const (by simp [fuseL])
          · intro i hi ih out ho
            have hg := lens_get (r :: t) i hi
            refine Ev.succ ?_
            simp only [spec_FuseAll.l0, if_pos (show (i : Int) < ((r :: t).length : Int) by omega), if_pos (show (0 : Int) ≤ i by omega), rdI (r :: t) i hi, wrap_succ (show i ≤ 4611686018427387903 by simp at hi; omega)]
            refine Ev.bind (spec_FuseRows_ev out _ ho (by omega)) ?_
            rw [drop_cons (r :: t) i hi, fuseL]
            by_cases hf : (fused out (r :: t)[i].f0).2 = true
            · simp only [if_pos hf]
              exact ih _ (Nat.le_trans (fused_len _ _) ho)
            · simp only [if_neg hf]
              exact Ev.const rfl
        refine Ev.cast (key 1 (by simp) r.f0 hr) ?_
        simp [fuseR, hv, h20]
    · simp only [if_pos (show ((t.length + 1 : Nat) : Int) > 20 by omega)]
      refine Ev.cast (hj true rfl) ?_
      simp only [fuseR, if_neg (show ¬ (t.length + 1 ≤ 20 ∧ row_ r.f0 r.f0.length = true) by omega)]
theorem impl_FuseAll_ev (l : List IRow) (hl : l.length + lens l ≤ 1048576) : Ev (fun k => impl_FuseAll.f k l) (fuseR l) := by
  unfold impl_FuseAll.f
  rw [impl_within_eq]
  simp only [Option.bind_some]
  cases hc : l with
  | nil =>
    simp only [List.length_nil, show decide ((1 : Int) ≤ ((0 : Nat) : Int) ∧ ((0 : Nat) : Int) ≤ 20) = false by decide, Bool.false_eq_true, if_false]
    exact Ev.const rfl
  | cons r t =>
    rw [hc] at hl
    have h0 : rd_T60 (r :: t) 0 = r := by simp [rd_T60]
    have hr : r.f0.length ≤ 1048576 := by
      have := lens_get (r :: t) 0 (by simp)
      simp only [List.getElem_cons_zero] at this
      omega
    simp only [List.length_cons] at hl
    by_cases h20 : t.length + 1 ≤ 20
    · simp only [List.length_cons, decide_eq_true (show (1 : Int) ≤ ((t.length + 1 : Nat) : Int) ∧ ((t.length + 1 : Nat) : Int) ≤ 20 by omega), if_true, if_pos (show (0 : Int) < ((t.length + 1 : Nat) : Int) by omega), h0]
      refine Ev.bind (impl_FuseRows_ev r.f0 r.f0 hr hr) ?_
      have key : ∀ i, i ≤ (r :: t).length → ∀ out : List Int, out.length ≤ 1048576 → Ev (fun k => impl_FuseAll.l0 k (r :: t) ((r :: t).length : Int) (i : Int) out) (fuseL out ((r :: t).drop i)) := by
        refine down_ind ?_ ?_
        · intro out _
          refine Ev.succ ?_
          simp only [impl_FuseAll.l0, Int.lt_irrefl, if_false]
          exact Ev.const (by simp [fuseL])
        · intro i hi ih out ho
          have hg := lens_get (r :: t) i hi
          refine Ev.succ ?_
          simp only [impl_FuseAll.l0, if_pos (show (i : Int) < ((r :: t).length : Int) by omega), if_pos (show (0 : Int) ≤ i by omega), rdI (r :: t) i hi, wrap_succ (show i ≤ 4611686018427387903 by simp at hi; omega)]
          refine Ev.bind (impl_FuseRows_ev out _ ho (by omega)) ?_
          rw [drop_cons (r :: t) i hi, fuseL]
          by_cases hf : (fused out (r :: t)[i].f0).2 = true
          · simp only [if_pos hf]
            exact ih _ (Nat.le_trans (fused_len _ _) ho)
          · simp only [if_neg hf]
            exact Ev.const rfl
      have hk := key 0 (by simp) (fused r.f0 r.f0).1 (Nat.le_trans (fused_len _ _) hr)
      simp only [List.length_cons] at hk
      refine Ev.cast hk ?_
      simp only [List.drop_zero, fuseL, fuseR]
      by_cases hv : row_ r.f0 (r.f0.length : Int) = true
      · have e : fused r.f0 r.f0 = (r.f0, true) := by rw [fused_self, if_pos hv]
        simp only [e, if_true, if_pos (show t.length + 1 ≤ 20 ∧ row_ r.f0 (r.f0.length : Int) = true from ⟨h20, hv⟩)]
      · have e : fused r.f0 r.f0 = ([], false) := by rw [fused_self, if_neg hv]
        have e2 : fused [] r.f0 = ([], false) := by
          unfold fused
          rw [if_neg (by rintro ⟨h, _⟩; simp [row_nil] at h)]
        simp only [e, e2, Bool.false_eq_true, if_false, if_neg (show ¬ (t.length + 1 ≤ 20 ∧ row_ r.f0 (r.f0.length : Int) = true) from fun h => hv h.2)]
    · simp only [List.length_cons, decide_eq_false (show ¬ ((1 : Int) ≤ ((t.length + 1 : Nat) : Int) ∧ ((t.length + 1 : Nat) : Int) ≤ 20) by omega), Bool.false_eq_true, if_false]
      refine Ev.const ?_
      simp only [fuseR, if_neg (show ¬ (t.length + 1 ≤ 20 ∧ row_ r.f0 r.f0.length = true) by omega)]

theorem laws_szIntS_eq (l : List Int) (n : Nat) (hn : n ≤ 1048576) (hl : l.length ≤ 140737488351232) : laws_szIntS.f l n = some (if l.length ≤ n then ((n - l.length : Nat) : Int) else -1) := by
  unfold laws_szIntS.f
  rw [wrap_in (by omega) (by omega)]
  by_cases h : l.length ≤ n
  · rw [if_neg (by omega), if_pos h]
    congr 1
    omega
  · rw [if_pos (by omega), if_neg h]

theorem laws_szRow_eq (l : List Int) (n : Nat) (hn : n ≤ 1048576) (hl : l.length ≤ 140737488351232) : laws_szRow.f l n = some (if l.length ≤ n then ((n - l.length : Nat) : Int) else -1) := by
  unfold laws_szRow.f
  rw [laws_szIntS_eq l n hn hl]
  simp only [Option.bind_some]
  by_cases h : l.length ≤ n
  · simp only [if_pos h]
    rw [if_neg (by omega)]
  · simp only [if_neg h]
    rfl

theorem laws_szRowS_ev (l : List LRow) (n : Nat) (hn : n ≤ 1048576) (hl : BdSlice 24 Bd110 l) : Ev (fun k => laws_szRowS.f k l n) (if l.length + lensL l ≤ n then ((n - (l.length + lensL l) : Nat) : Int) else -1) := by
  have hl' : l.length ≤ 140737488351232 := by have := hl.1; omega
  unfold laws_szRowS.f
  rw [wrap_in (by omega) (by omega)]
  by_cases h : l.length ≤ n
  · rw [show ((n : Int) - (l.length : Int)) = ((n - l.length : Nat) : Int) by omega]
    simp only [if_neg (show ¬ ((n - l.length : Nat) : Int) < 0 by omega)]
    have key : ∀ i, i ≤ l.length → ∀ m : Nat, m ≤ n → Ev (fun k => laws_szRowS.l0 k l (m : Int) (i : Int)) (if lensL (l.drop i) ≤ m then ((m - lensL (l.drop i) : Nat) : Int) else -1) := by
      refine down_ind ?_ ?_
      · intro m hm
        refine Ev.succ ?_
        simp only [laws_szRowS.l0, Int.lt_irrefl, if_false]
        exact Ev.const (by simp [lensL])
      · intro i hi ih m hm
        have hb : l[i].f0.length ≤ 140737488351232 := by have := (bd_get hl i hi).1; omega
        refine Ev.succ ?_
        simp only [laws_szRowS.l0, if_pos (show (i : Int) < (l.length : Int) by omega), if_pos (show (0 : Int) ≤ i by omega), rdL l i hi, laws_szRow_eq l[i].f0 m (by omega) hb, Option.bind_some, wrap_succ (show i ≤ 4611686018427387903 by omega)]
        have hd : lensL (l.drop i) = l[i].f0.length + lensL (l.drop (i + 1)) := by rw [drop_cons l i hi]; rfl
        rw [hd]
        by_cases hs : l[i].f0.length ≤ m
        · simp only [if_pos hs, if_neg (show ¬ ((m - l[i].f0.length : Nat) : Int) < 0 by omega)]
          refine Ev.cast (ih (m - l[i].f0.length) (by omega)) ?_
          by_cases h2 : lensL (l.drop (i + 1)) ≤ m - l[i].f0.length
          · rw [if_pos h2, if_pos (by omega)]
            congr 1
            omega
          · rw [if_neg h2, if_neg (by omega)]
        · simp only [if_neg hs]
          exact Ev.const (by rw [if_neg (by omega)])
    refine Ev.cast (key 0 (by omega) (n - l.length) (by omega)) ?_
    simp only [List.drop_zero]
    by_cases h2 : lensL l ≤ n - l.length
    · rw [if_pos h2, if_pos (by omega)]
      congr 1
      omega
    · rw [if_neg h2, if_neg (by omega)]
  · simp only [if_pos (show ((n : Int) - (l.length : Int)) < 0 by omega)]
    exact Ev.const (by rw [if_neg (by omega)])

theorem laws_toIntS_ev (l : List Int) (hl : l.length ≤ 1048576) : Ev (fun k => laws_toIntS.f k l) l := by
  unfold laws_toIntS.f
  simp only [if_pos (show (0 : Int) ≤ (l.length : Int) by omega), Int.toNat_natCast, if_pos (show l.length ≤ 35184372088832 by omega)]
  have key : ∀ i, i ≤ l.length → Ev (fun k => laws_toIntS.l0 k l (l.take i ++ List.replicate (l.length - i) 0) (i : Int)) l := by
    refine down_ind ?_ ?_
    · refine Ev.succ ?_
      simp only [laws_toIntS.l0, Int.lt_irrefl, if_false]
      exact Ev.const (by simp)
    · intro i hi ih
      refine Ev.succ ?_
      have hlen : (l.take i ++ List.replicate (l.length - i) 0).length = l.length := by simp; omega
      simp only [laws_toIntS.l0, hlen, if_pos (show (i : Int) < (l.length : Int) by omega), if_pos (show (0 : Int) ≤ i by omega), rd_nat l i hi, Int.toNat_natCast, set_fill l 0 i hi, wrap_succ (show i ≤ 4611686018427387903 by omega)]
      exact ih
  have := key 0 (by omega)
  simpa using this

theorem laws_toRow_ev (l : List Int) (hl : l.length ≤ 1048576) : Ev (fun k => laws_toRow.f k l) l := by
  unfold laws_toRow.f
  exact Ev.bind (laws_toIntS_ev l hl) (Ev.const rfl)

theorem laws_toRowS_ev (l : List LRow) (hl : l.length + lensL l ≤ 1048576) : Ev (fun k => laws_toRowS.f k l) (l.map toI) := by
  unfold laws_toRowS.f
  simp only [if_pos (show (0 : Int) ≤ (l.length : Int) by omega), Int.toNat_natCast, if_pos (show l.length ≤ 11728124029610 by omega)]
  have key : ∀ i, i ≤ l.length → Ev (fun k => laws_toRowS.l0 k l ((l.take i).map toI ++ List.replicate (l.length - i) z60) (i : Int)) (l.map toI) := by
    refine down_ind ?_ ?_
    · refine Ev.succ ?_
      simp only [laws_toRowS.l0, Int.lt_irrefl, if_false]
      exact Ev.const (by simp)
    · intro i hi ih
      have := lensL_get l i hi
      refine Ev.succ ?_
      have hlen : ((l.take i).map toI ++ List.replicate (l.length - i) z60).length = l.length := by simp; omega
      simp only [laws_toRowS.l0, hlen, if_pos (show (i : Int) < (l.length : Int) by omega), if_pos (show (0 : Int) ≤ i by omega), rdL l i hi]
      refine Ev.bind (laws_toRow_ev l[i].f0 (by omega)) ?_
      simp only [Int.toNat_natCast, show (⟨l[i].f0⟩ : IRow) = toI l[i] from rfl, set_fill2 l toI _ i hi, wrap_succ (show i ≤ 4611686018427387903 by omega)]
      exact ih
  have := key 0 (by omega)
  simpa using this

theorem laws_eqIntS_ev (a b : List Int) (hl : a.length ≤ 1048576) : Ev (fun k => laws_eqIntS.f k a b) (decide (a = b)) := by
  unfold laws_eqIntS.f
  by_cases hab : a.length = b.length
  · simp only [if_pos (show (a.length : Int) = (b.length : Int) by omega)]
    have key : ∀ i, i ≤ a.length → Ev (fun k => laws_eqIntS.l0 k a b (i : Int)) (decide (a.drop i = b.drop i)) := by
      refine down_ind ?_ ?_
      · refine Ev.succ ?_
        simp only [laws_eqIntS.l0, Int.lt_irrefl, if_false]
        refine Ev.const ?_
        rw [List.drop_of_length_le (Nat.le_refl _), List.drop_of_length_le (by omega)]
        rfl
      · intro i hi ih
        have hb : i < b.length := by omega
        refine Ev.succ ?_
        simp only [laws_eqIntS.l0, if_pos (show (i : Int) < (a.length : Int) by omega), if_pos (show (0 : Int) ≤ i by omega), if_pos (show (i : Int) < (b.length : Int) by omega), rd_nat a i hi, rd_nat b i hb, wrap_succ (show i ≤ 4611686018427387903 by omega)]
        rw [drop_cons a i hi, drop_cons b i hb]
        by_cases he : a[i] = b[i]
        · simp only [if_pos he]
          exact Ev.cast ih (by simp only [List.cons.injEq, he, true_and])
        · simp only [if_neg he]
          exact Ev.const (by simp only [List.cons.injEq, he, false_and, decide_false])
    exact key 0 (by omega)
  · simp only [if_neg (show ¬ (a.length : Int) = (b.length : Int) by omega)]
    exact Ev.const (by
      have : a ≠ b := fun h => hab (by rw [h])
      simp [this])

theorem laws_eqRow_ev (a b : List Int) (hl : a.length ≤ 1048576) : Ev (fun k => laws_eqRow.f k a b) (decide (a = b)) := by
  unfold laws_eqRow.f
  refine Ev.bind (laws_eqIntS_ev a b hl) ?_
  by_cases h : a = b
  · simp [h]; exact Ev.const rfl
  · simp [h]; exact Ev.const rfl

theorem laws_eqRowS_ev (a : List IRow) (hl : a.length + lens a ≤ 1048576) : Ev (fun k => laws_eqRowS.f k a a) true := by
  unfold laws_eqRowS.f
  simp only [if_true]
  have key : ∀ i, i ≤ a.length → Ev (fun k => laws_eqRowS.l0 k a a (i : Int)) true := by
    refine down_ind ?_ ?_
    · refine Ev.succ ?_
      simp only [laws_eqRowS.l0, Int.lt_irrefl, if_false]
      exact Ev.const rfl
    · intro i hi ih
      have := lens_get a i hi
      refine Ev.succ ?_
      simp only [laws_eqRowS.l0, if_pos (show (i : Int) < (a.length : Int) by omega), if_pos (show (0 : Int) ≤ i by omega), rdI a i hi]
      refine Ev.bind (laws_eqRow_ev _ _ (by omega)) ?_
      simp only [decide_true, if_true, wrap_succ (show i ≤ 4611686018427387903 by omega)]
      exact ih
  exact key 0 (by omega)

theorem get_mid {α : Type} (pre : List α) (x : α) (rest : List α) (z : α) : (pre ++ x :: rest).getD pre.length z = x := by simp
theorem set_mid {α : Type} (pre : List α) (x y : α) (rest : List α) : (pre ++ x :: rest).set pre.length y = (pre ++ [y]) ++ rest := by simp
def totN : List Nat → Nat
  | [] => 0
  | n :: l => n + totN l

theorem laws_markIntS_ev (l : List Int) (m : Int) (hl : l.length ≤ 2097152) (h0 : 0 ≤ m) (h1 : m ≤ 1099511627776) : Ev (fun k => laws_markIntS.f k l m) (m + l.length, idxs m l.length) := by
  unfold laws_markIntS.f
  have key : ∀ i, i ≤ l.length → Ev (fun k => laws_markIntS.l0 k (idxs m i ++ l.drop i) (m + (i : Int)) (i : Int)) (m + l.length, idxs m l.length) := by
    refine down_ind ?_ ?_
    · refine Ev.succ ?_
      have hlen : (idxs m l.length ++ l.drop l.length).length = l.length := by simp [idxs_length]
      simp only [laws_markIntS.l0, hlen, Int.lt_irrefl, if_false]
      exact Ev.const (by simp)
    · intro i hi ih
      refine Ev.succ ?_
      have hlen : (idxs m i ++ l.drop i).length = l.length := by rw [List.length_append, idxs_length, List.length_drop]; omega
      have hset : (idxs m i ++ l.drop i).set i (m + i) = idxs m (i + 1) ++ l.drop (i + 1) := by
        rw [List.set_append, idxs_length, if_neg (by omega), Nat.sub_self, drop_cons l i hi, List.set_cons_zero, idxs_snoc, List.append_assoc]
        rfl
      simp only [laws_markIntS.l0, hlen, if_pos (show (i : Int) < (l.length : Int) by omega), if_pos (show (0 : Int) ≤ i by omega), Int.toNat_natCast, hset, wrap_succ (show i ≤ 4611686018427387903 by omega), wrap_in (show -4611686018427387904 ≤ m + (i : Int) + 1 by omega) (show m + (i : Int) + 1 ≤ 4611686018427387904 by omega)]
      exact (show m + ((i + 1 : Nat) : Int) = m + (i : Int) + 1 by omega) ▸ ih
  have := key 0 (by omega)
  simpa [idxs] using this

theorem laws_heldIntS_ev (n : Nat) (m : Int) (hl : n ≤ 2097152) (h0 : 0 ≤ m) (h1 : m ≤ 1099511627776) : Ev (fun k => laws_heldIntS.f k (idxs m n) m) (m + n) := by
  unfold laws_heldIntS.f
  have key : ∀ i, i ≤ n → Ev (fun k => laws_heldIntS.l0 k (idxs m n) (m + (i : Int)) (i : Int)) (m + n) := by
    refine down_ind ?_ ?_
    · refine Ev.succ ?_
      simp only [laws_heldIntS.l0, idxs_length, Int.lt_irrefl, if_false]
      exact Ev.const rfl
    · intro i hi ih
      refine Ev.succ ?_
      have hi' : i < (idxs m n).length := by rw [idxs_length]; exact hi
      simp only [laws_heldIntS.l0, idxs_length, if_pos (show (i : Int) < (n : Int) by omega), if_pos (show (0 : Int) ≤ i by omega), rd_nat _ i hi', idxs_get, if_true, wrap_succ (show i ≤ 4611686018427387903 by omega), wrap_in (show -4611686018427387904 ≤ m + (i : Int) + 1 by omega) (show m + (i : Int) + 1 ≤ 4611686018427387904 by omega)]
      exact (show m + ((i + 1 : Nat) : Int) = m + (i : Int) + 1 by omega) ▸ ih
  have := key 0 (by omega)
  simpa using this

def mrrow (m : Nat) : List Nat → List IRow
  | [] => []
  | n :: l => (⟨idxs m n⟩ : IRow) :: mrrow (m + 1 * n) l
theorem mrrow_length (m : Nat) (l : List Nat) : (mrrow m l).length = l.length := by
  induction l generalizing m with
  | nil => rfl
  | cons n l ih => simp [mrrow, ih]
theorem laws_markRowS_ev (l : List IRow) (m : Nat) (hl : l.length + 1 * totN (l.map fun x => (x.f0).length) ≤ 2097152) (h1 : m ≤ 1048576) : Ev (fun k => laws_markRowS.f k l (m : Int)) (((m + 1 * totN (l.map fun x => (x.f0).length) : Nat) : Int), mrrow m (l.map fun x => (x.f0).length)) := by
  unfold laws_markRowS.f
  have key : ∀ (rest pre : List IRow) (m : Nat), pre.length + rest.length + 1 * totN (rest.map fun x => (x.f0).length) ≤ 2097152 → m + 1 * totN (rest.map fun x => (x.f0).length) ≤ 4194304 → Ev (fun k => laws_markRowS.l0 k (pre ++ rest) (m : Int) (pre.length : Int)) (((m + 1 * totN (rest.map fun x => (x.f0).length) : Nat) : Int), pre ++ mrrow m (rest.map fun x => (x.f0).length)) := by
    intro rest
    induction rest with
    | nil =>
      intro pre m _ _
      refine Ev.succ ?_
      simp only [laws_markRowS.l0, List.append_nil, Int.lt_irrefl, if_false]
      exact Ev.const (by simp [mrrow, totN])
    | cons x rest ih =>
      intro pre m h1 h2
      simp only [List.length_cons, List.map_cons, totN] at h1 h2
      refine Ev.succ ?_
      simp only [laws_markRowS.l0, List.length_append, List.length_cons, if_pos (show (pre.length : Int) < ((pre.length + (rest.length + 1) : Nat) : Int) by omega), if_pos (show (0 : Int) ≤ pre.length by omega), Int.toNat_natCast, get_mid]
      refine Ev.bind (laws_markIntS_ev _ (m : Int) (by omega) (by omega) (by omega)) ?_
      simp only [set_mid, show (m : Int) + ((x.f0).length : Int) = ((m + 1 * (x.f0).length : Nat) : Int) by omega, wrap_succ (show pre.length ≤ 4611686018427387903 by omega)]
      have := ih (pre ++ [(⟨idxs m x.f0.length⟩ : IRow)]) (m + 1 * (x.f0).length) (by simp; omega) (by omega)
      rw [List.length_append, List.length_singleton] at this
      refine Ev.cast this ?_
      simp only [mrrow, totN, List.map_cons, List.append_assoc, List.singleton_append, Prod.mk.injEq, and_true]
      omega
  have := key l [] m (by simpa using hl) (by omega)
  simpa using this

theorem laws_markRow_ev (l : List Int) (m : Int) (hl : l.length ≤ 2097152) (h0 : 0 ≤ m) (h1 : m ≤ 1099511627776) : Ev (fun k => laws_markRow.f k l m) (m + l.length, idxs m l.length) := by
  unfold laws_markRow.f
  exact Ev.bind (laws_markIntS_ev l m hl h0 h1) (Ev.const rfl)
theorem laws_heldRow_ev (n : Nat) (m : Int) (hl : n ≤ 2097152) (h0 : 0 ≤ m) (h1 : m ≤ 1099511627776) : Ev (fun k => laws_heldRow.f k (idxs m n) m) (m + n) := by
  unfold laws_heldRow.f
  refine Ev.bind (laws_heldIntS_ev n m hl h0 h1) ?_
  simp only [if_neg (show ¬ m + (n : Int) < 0 by omega)]
  exact Ev.const rfl

theorem totN_lens (l : List IRow) : totN (l.map fun x => (x.f0).length) = lens l := by
  induction l with
  | nil => rfl
  | cons r l ih =>
    simp only [List.map_cons, totN, ih]
    rfl
theorem fuseR_len (l : List IRow) (h : l.length + lens l ≤ 1048576) : (fuseR l).1.length ≤ 1048576 := by
  cases l with
  | nil => simp [fuseR]
  | cons r t =>
    have h1 := lens_get (r :: t) 0 (by simp)
    have h2 := fuseL_len t r.f0
    simp only [List.getElem_cons_zero] at h1
    simp only [fuseR]
    by_cases hc : t.length + 1 ≤ 20 ∧ row_ r.f0 r.f0.length = true
    · rw [if_pos hc]
      omega
    · rw [if_neg hc]
      exact Nat.zero_le _
theorem FnExactFuseAll : laws_FnExactFuseAll.Pure := by
  intro l hb
  refine Ev.rounds ?_
  unfold laws_FnExactFuseAll.f
  refine Ev.bind (laws_szRowS_ev l 1048576 (Nat.le_refl _) hb) ?_
  by_cases h : l.length + lensL l ≤ 1048576
  · simp only [if_pos h, if_neg (show ¬ ((1048576 - (l.length + lensL l) : Nat) : Int) < 0 by omega)]
    have hl : (l.map toI).length + lens (l.map toI) ≤ 1048576 := by rw [List.length_map, lens_toI]; exact h
    have ht := laws_toRowS_ev l h
    have hs := spec_FuseAll_ev _ hl
    have hi := impl_FuseAll_ev _ hl
    have hq := laws_eqRowS_ev _ hl
    have hm := laws_markRowS_ev (l.map toI) 1 (by rw [totN_lens]; omega) (by omega)
    have hr := fuseR_len _ hl
    generalize fuseR (l.map toI) = ro at hs hi hr
    obtain ⟨r, ok⟩ := ro
    simp only at hr
    refine Ev.bind ht (Ev.bind hs (Ev.bind ht (Ev.bind hi (Ev.bind (laws_eqRow_ev r r (by omega)) ?_))))
    simp only [decide_true, if_true]
    refine Ev.bind ht (Ev.bind hq ?_)
    simp only [if_true]
    refine Ev.bind hm ?_
    simp only [if_neg (show ¬ ((1 + 1 * totN ((l.map toI).map fun x => (x.f0).length) : Nat) : Int) < 0 by omega)]
    refine Ev.bind (laws_eqRow_ev r r (by omega)) ?_
    simp only [decide_true, if_true]
    refine Ev.bind (laws_markRow_ev r 1 (by omega) (by omega) (by omega)) (Ev.bind (laws_heldRow_ev r.length 1 (by omega) (by omega) (by omega)) ?_)
    simp only [if_neg (show ¬ (1 + (r.length : Int)) < 0 by omega), if_true]
    refine Ev.bind ht (Ev.bind hi (Ev.bind (laws_eqRow_ev r r (by omega)) ?_))
    simp only [decide_true, if_true]
    refine Ev.bind (laws_heldRow_ev r.length 1 (by omega) (by omega) (by omega)) ?_
    simp only [if_neg (show ¬ (1 + (r.length : Int)) < 0 by omega), if_true]
    exact Ev.const rfl
  · simp only [if_neg h]
    exact Ev.const rfl

end Go.Proofs.Ytmfhaplhgaehhaa.Pure
