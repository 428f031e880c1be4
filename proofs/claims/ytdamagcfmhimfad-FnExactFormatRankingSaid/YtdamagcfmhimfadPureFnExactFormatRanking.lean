/- The pure statement of the law FnExactFormatRanking: for all arguments within bounds its printed function answers true. -/
import Derived.Test.YtdamagcfmhimfadPFnExactFormatRankingx
import Derived.Test.YtdamagcfmhimfadBase
namespace Go.Proofs.Ytdamagcfmhimfad.Pure
open Go.RowKit Go.Proofs.YtdamagcfmhimfadB Go.Proofs.Ytdamagcfmhimfad.PFnExactFormatRanking Go.Proofs.YtdamagcfmhimfadW.PrintWords Go.Proofs.YtdamagcfmhimfadW.PrintLast Go.Proofs.YtdamagcfmhimfadW.PrintMore
set_option linter.unusedVariables false
set_option linter.unusedSimpArgs false

theorem laws_toStringS_ev (l : List ByteArray) (hl : l.length ≤ 1048576) : Ev (fun k => laws_toStringS.f k l) l := by
  unfold laws_toStringS.f
  simp only [if_pos (show (0 : Int) ≤ (l.length : Int) by omega), Int.toNat_natCast, if_pos (show l.length ≤ 17592186044416 by omega)]
  have key : ∀ i, i ≤ l.length → Ev (fun k => laws_toStringS.l0 k l (l.take i ++ List.replicate (l.length - i) (⟨#[]⟩ : ByteArray)) (i : Int)) l := by
    refine down_ind ?_ ?_
    · refine Ev.succ ?_
      simp only [laws_toStringS.l0, Int.lt_irrefl, if_false]
      exact Ev.const (by simp)
    · intro i hi ih
      refine Ev.succ ?_
      have hlen : (l.take i ++ List.replicate (l.length - i) (⟨#[]⟩ : ByteArray)).length = l.length := by simp; omega
      simp only [laws_toStringS.l0, hlen, if_pos (show (i : Int) < (l.length : Int) by omega), if_pos (show (0 : Int) ≤ i by omega), rdOf_nat _ l i hi, Int.toNat_natCast, set_fill l _ i hi, wrap_succ (show i ≤ 4611686018427387903 by omega)]
      exact ih
  have := key 0 (by omega)
  simpa using this

theorem laws_eqStringS_ev (a : List ByteArray) (hl : a.length ≤ 1048576) : Ev (fun k => laws_eqStringS.f k a a) true := by
  unfold laws_eqStringS.f
  simp only [if_true]
  have key : ∀ i, i ≤ a.length → Ev (fun k => laws_eqStringS.l0 k a a (i : Int)) true := by
    refine down_ind ?_ ?_
    · refine Ev.succ ?_
      simp only [laws_eqStringS.l0, Int.lt_irrefl, if_false]
      exact Ev.const rfl
    · intro i hi ih
      refine Ev.succ ?_
      simp only [laws_eqStringS.l0, if_pos (show (i : Int) < (a.length : Int) by omega), if_pos (show (0 : Int) ≤ i by omega), if_true, wrap_succ (show i ≤ 4611686018427387903 by omega)]
      exact ih
  exact key 0 (by omega)

def sizes (l : List ByteArray) : Nat := (l.map ByteArray.size).sum
theorem laws_szStringS_ev (l : List ByteArray) (n : Nat) (hn : n ≤ 1048576) (hl : BdSlice 16 BdStr l) : Ev (fun k => laws_szStringS.f k l n) (if l.length + sizes l ≤ n then ((n - (l.length + sizes l) : Nat) : Int) else -1) := by
  have hl' : l.length ≤ 140737488351232 := by have := hl.1; omega
  unfold laws_szStringS.f
  rw [wrap_in (by omega) (by omega)]
  by_cases h : l.length ≤ n
  · rw [show ((n : Int) - (l.length : Int)) = ((n - l.length : Nat) : Int) by omega]
    simp only [if_neg (show ¬ ((n - l.length : Nat) : Int) < 0 by omega)]
    have key : ∀ i, i ≤ l.length → ∀ m : Nat, m ≤ n → Ev (fun k => laws_szStringS.l0 k l (m : Int) (i : Int)) (if sizes (l.drop i) ≤ m then ((m - sizes (l.drop i) : Nat) : Int) else -1) := by
      refine down_ind ?_ ?_
      · intro m hm
        refine Ev.succ ?_
        simp only [laws_szStringS.l0, Int.lt_irrefl, if_false]
        exact Ev.const (by simp [sizes])
      · intro i hi ih m hm
        have hb : l[i].size ≤ 140737488351232 := bd_get hl i hi
        refine Ev.succ ?_
        simp only [laws_szStringS.l0, if_pos (show (i : Int) < (l.length : Int) by omega), if_pos (show (0 : Int) ≤ i by omega), rdOf_nat _ l i hi, wrap_in (show -4611686018427387904 ≤ (m : Int) - (l[i].size : Int) by omega) (show (m : Int) - (l[i].size : Int) ≤ 4611686018427387904 by omega), wrap_succ (show i ≤ 4611686018427387903 by omega)]
        have hd : sizes (l.drop i) = l[i].size + sizes (l.drop (i + 1)) := by rw [drop_cons l i hi]; rfl
        rw [hd]
        by_cases hs : l[i].size ≤ m
        · simp only [if_neg (show ¬ (m : Int) - (l[i].size : Int) < 0 by omega), show (m : Int) - (l[i].size : Int) = ((m - l[i].size : Nat) : Int) by omega]
          refine Ev.cast (ih (m - l[i].size) (by omega)) ?_
          by_cases h2 : sizes (l.drop (i + 1)) ≤ m - l[i].size
          · rw [if_pos h2, if_pos (by omega)]
            congr 1
            omega
          · rw [if_neg h2, if_neg (by omega)]
        · simp only [if_pos (show (m : Int) - (l[i].size : Int) < 0 by omega)]
          exact Ev.const (by rw [if_neg (by omega)])
    refine Ev.cast (key 0 (by omega) (n - l.length) (by omega)) ?_
    simp only [List.drop_zero]
    by_cases h2 : sizes l ≤ n - l.length
    · rw [if_pos h2, if_pos (by omega)]
      congr 1
      omega
    · rw [if_neg h2, if_neg (by omega)]
  · simp only [if_pos (show ((n : Int) - (l.length : Int)) < 0 by omega)]
    exact Ev.const (by rw [if_neg (by omega)])

theorem laws_toIntS_ev (l : List Int) (hl : l.length ≤ 1048576) : Ev (fun k => laws_toIntS.f k l) l := by
  unfold laws_toIntS.f
  simp only [if_pos (show (0 : Int) ≤ (l.length : Int) by omega), Int.toNat_natCast, if_pos (show l.length ≤ 35184372088832 by omega)]
  have key : ∀ i, i ≤ l.length → Ev (fun k => laws_toIntS.l0 k l (l.take i ++ List.replicate (l.length - i) 0) (i : Int)) l := by
    refine down_ind ?_ ?_
    · refine Ev.succ ?_
      simp only [laws_toIntS.l0, Int.lt_irrefl, if_false]
      exact Ev.const (by simp)
    · intro i hi ih
      refine Ev.succ ?_
      have hlen : (l.take i ++ List.replicate (l.length - i) 0).length = l.length := by simp; omega
      simp only [laws_toIntS.l0, hlen, if_pos (show (i : Int) < (l.length : Int) by omega), if_pos (show (0 : Int) ≤ i by omega), rd_nat l i hi, Int.toNat_natCast, set_fill l 0 i hi, wrap_succ (show i ≤ 4611686018427387903 by omega)]
      exact ih
  have := key 0 (by omega)
  simpa using this

theorem laws_eqIntS_ev (a b : List Int) (hl : a.length ≤ 1048576) : Ev (fun k => laws_eqIntS.f k a b) (decide (a = b)) := by
  unfold laws_eqIntS.f
  by_cases hab : a.length = b.length
  · simp only [if_pos (show (a.length : Int) = (b.length : Int) by omega)]
    have key : ∀ i, i ≤ a.length → Ev (fun k => laws_eqIntS.l0 k a b (i : Int)) (decide (a.drop i = b.drop i)) := by
      refine down_ind ?_ ?_
      · refine Ev.succ ?_
        simp only [laws_eqIntS.l0, Int.lt_irrefl, if_false]
        refine Ev.const ?_
        rw [List.drop_of_length_le (Nat.le_refl _), List.drop_of_length_le (by omega)]
        rfl
      · intro i hi ih
        have hb : i < b.length := by omega
        refine Ev.succ ?_
        simp only [laws_eqIntS.l0, if_pos (show (i : Int) < (a.length : Int) by omega), if_pos (show (0 : Int) ≤ i by omega), if_pos (show (i : Int) < (b.length : Int) by omega), rd_nat a i hi, rd_nat b i hb, wrap_succ (show i ≤ 4611686018427387903 by omega)]
        rw [drop_cons a i hi, drop_cons b i hb]
        by_cases he : a[i] = b[i]
        · simp only [if_pos he]
          exact Ev.cast ih (by simp only [List.cons.injEq, he, true_and])
        · simp only [if_neg he]
          exact Ev.const (by simp only [List.cons.injEq, he, false_and, decide_false])
    exact key 0 (by omega)
  · simp only [if_neg (show ¬ (a.length : Int) = (b.length : Int) by omega)]
    exact Ev.const (by
      have : a ≠ b := fun h => hab (by rw [h])
      simp [this])

def jn62 (l : List ByteArray) : ByteArray := ⟨(Lib.join (l.map (·.data.toList)) [62]).toArray⟩
theorem jn62_nil : jn62 [] = ⟨#[]⟩ := rfl
theorem jn62_snoc (l : List ByteArray) (i : Nat) (h : i < l.length) : jn62 (l.take (i + 1)) = if i = 0 then jn62 (l.take i) ++ l[i] else (jn62 (l.take i) ++ (⟨#[62]⟩ : ByteArray)) ++ l[i] := by
  apply data_inj
  cases l with
  | nil => simp at h
  | cons a t =>
    cases i with
    | zero => simp [jn62, Lib.join_one, Lib.join_nil]
    | succ m =>
      have hm : m < t.length := by simpa using h
      have := Lib.joinTail_take_succ [62] (t.map (·.data.toList)) m t[m].data.toList (by simp [hm])
      rw [if_neg (by omega)]
      simp only [jn62, List.take_succ_cons, List.map_cons, Lib.join_cons, List.map_take, List.getElem_cons_succ]
      rw [this]
      simp
theorem sizes_lens (l : List ByteArray) : Lib.lens (l.map (·.data.toList)) = sizes l := by
  unfold Lib.lens sizes
  rw [List.map_map]
  congr 1
theorem jn62_size (l : List ByteArray) : (jn62 l).size ≤ l.length + sizes l := by
  cases l with
  | nil => exact Nat.zero_le _
  | cons a t =>
    have := Lib.join_length a.data.toList (t.map (·.data.toList)) [62]
    rw [← List.map_cons (f := fun x : ByteArray => x.data.toList), sizes_lens] at this
    show (Lib.join ((a :: t).map (·.data.toList)) [62]).toArray.size ≤ _
    rw [List.size_toArray, this]
    simp
theorem jn62_take (l : List ByteArray) (i : Nat) : (jn62 (l.take i)).size ≤ l.length + sizes l := by
  have h := jn62_size (l.take i)
  have h2 := Lib.lens_take_le (l.map (·.data.toList)) i
  rw [← List.map_take, sizes_lens, sizes_lens] at h2
  have : (l.take i).length ≤ l.length := by rw [List.length_take]; omega
  omega
theorem size_get (l : List ByteArray) (i : Nat) (h : i < l.length) : l[i].size ≤ sizes l := by
  have h2 := Lib.lens_take_succ (l.map (·.data.toList)) i l[i].data.toList (by simp [h])
  have h3 := Lib.lens_take_le (l.map (·.data.toList)) (i + 1)
  rw [sizes_lens] at h3
  have : l[i].data.toList.length = l[i].size := by rw [Array.length_toList]; rfl
  omega
theorem strings_Join62_eq (l : List ByteArray) (hl : l.length + sizes l ≤ 1048576) : strings_Join.f l (⟨#[62]⟩ : ByteArray) = some (jn62 l) := by
  unfold strings_Join.f
  have := jn62_size l
  have h2 : (Lib.join (l.map (·.data.toList)) [62]).length = (jn62 l).size := by show _ = (Lib.join (l.map (·.data.toList)) [62]).toArray.size; rw [List.size_toArray]
  rw [if_pos]
  · rfl
  · refine ⟨by omega, ?_⟩
    show (Lib.join (l.map (·.data.toList)) [62]).length ≤ _
    omega

def cnames : List ByteArray := [⟨#[111, 110, 115, 101, 116]⟩, ⟨#[110, 111, 99, 111, 100, 97]⟩, ⟨#[99, 108, 117, 115, 116, 101, 114]⟩, ⟨#[118, 111, 105, 99, 101]⟩, ⟨#[102, 105, 110, 97, 108]⟩, ⟨#[110, 97, 115, 97, 108]⟩, ⟨#[109, 97, 120]⟩, ⟨#[100, 101, 112]⟩, ⟨#[105, 100, 101, 110, 116]⟩, ⟨#[99, 111, 110, 116, 105, 103]⟩]
theorem cnames_len : cnames.length = 10 := rfl
theorem spec_ConstraintNames_eq : spec_ConstraintNames.f = some cnames := rfl
theorem impl_ConstraintNames_eq : impl_ConstraintNames.f = some cnames := rfl

/-- each is a constraint's name and none of those before it; there are 1 to 5 -/
def areC1 (l : List ByteArray) (j : Nat) : Bool := decide (l.getD j ByteArray.empty ∈ cnames) && !decide (l.getD j ByteArray.empty ∈ l.take j)
def areC (l : List ByteArray) : Bool := allFrom (areC1 l) l.length 0 && decide (1 ≤ l.length ∧ l.length ≤ 5)
theorem getS (l : List ByteArray) (j : Nat) (h : j < l.length) : l.getD j ByteArray.empty = l[j] := by simp [h]

theorem spec_l1In_eq (a b c : Int) : spec_l1In.f a b c = some (decide (b ≤ a ∧ a ≤ c)) := by
  unfold spec_l1In.f
  split
  · have : b ≤ a := by omega
    simp [*]
  · have : ¬ b ≤ a := by omega
    simp [*]

theorem spec_l3Has_ev (l : List ByteArray) (x : ByteArray) (hl : l.length ≤ 1048576) : Ev (fun k => spec_l3Has.f k l x) (decide (x ∈ l)) := by
  unfold spec_l3Has.f
  have key : ∀ i, i ≤ l.length → Ev (fun k => spec_l3Has.l0 k l x (i : Int)) (decide (x ∈ l.drop i)) := by
    refine down_ind ?_ ?_
    · refine Ev.succ ?_
      simp only [spec_l3Has.l0, Int.lt_irrefl, if_false]
      exact Ev.const (by simp)
    · intro i hi ih
      refine Ev.succ ?_
      simp only [spec_l3Has.l0, if_pos (show (i : Int) < (l.length : Int) by omega), if_pos (show (0 : Int) ≤ i by omega), rdOf_nat _ l i hi, toList_inj, wrap_succ (show i ≤ 4611686018427387903 by omega)]
      rw [drop_cons l i hi]
      by_cases he : l[i] = x
      · simp only [if_pos he]
        exact Ev.const (by rw [he]; simp)
      · simp only [if_neg he]
        refine Ev.cast ih ?_
        rw [decide_eq_decide, List.mem_cons]
        constructor
        · exact .inr
        · rintro (h | h)
          · exact absurd h.symm he
          · exact h
  exact key 0 (by omega)

theorem spec_AreConstraints_ev (l : List ByteArray) (hl : l.length ≤ 1048576) : Ev (fun k => spec_AreConstraints.f k l) (areC l) := by
  unfold spec_AreConstraints.f areC
  have key : ∀ i, i ≤ l.length → Ev (fun k => spec_AreConstraints.l0 k l (i : Int)) (allFrom (areC1 l) l.length i && decide (1 ≤ l.length ∧ l.length ≤ 5)) := by
    refine down_ind ?_ ?_
    · refine Ev.succ ?_
      simp only [spec_AreConstraints.l0, Int.lt_irrefl, if_false, spec_l1In_eq, Option.bind_some, allFrom_end _ (Nat.le_refl _), Bool.true_and]
      exact Ev.const (congrArg some (decide_eq_decide.2 (by omega)))
    · intro i hi ih
      refine Ev.succ ?_
      rw [allFrom_step _ hi, areC1, getS l i hi]
      simp only [spec_AreConstraints.l0, if_pos (show (i : Int) < (l.length : Int) by omega), if_pos (show (0 : Int) ≤ i by omega), spec_ConstraintNames_eq, Option.bind_some, rdOf_nat _ l i hi]
      refine Ev.bind (spec_l3Has_ev cnames l[i] (by decide)) ?_
      by_cases h1 : l[i] ∈ cnames
      · simp only [h1, decide_true, if_true, if_pos (show (i : Int) ≤ (l.length : Int) by omega), Int.toNat_natCast, Bool.true_and]
        refine Ev.bind (spec_l3Has_ev (l.take i) l[i] (by rw [List.length_take]; omega)) ?_
        by_cases h2 : l[i] ∈ l.take i
        · simp only [h2, decide_true, if_true]
          exact Ev.const rfl
        · simp only [h2, decide_false, Bool.false_eq_true, if_false, wrap_succ (show i ≤ 4611686018427387903 by omega), Bool.not_false, Bool.true_and]
          exact ih
      · simp only [h1, decide_false, Bool.false_eq_true, if_false, Bool.false_and]
        exact Ev.const rfl
  exact key 0 (by omega)

theorem impl_within_eq (a b c : Int) : impl_within.f a b c = some (decide (b ≤ a ∧ a ≤ c)) := by
  unfold impl_within.f
  split
  · simp [*]
  · simp [*]

theorem slices_Index_string_ev (l : List ByteArray) (x : ByteArray) (hl : l.length ≤ 1048576) : Ev (fun k => slices_Index_string_string.f k l x) (idxS l x 0) := by
  unfold slices_Index_string_string.f
  have key : ∀ i, i ≤ l.length → Ev (fun k => slices_Index_string_string.l0 k l x (l.length : Int) (i : Int)) (idxS (l.drop i) x i) := by
    refine down_ind ?_ ?_
    · refine Ev.succ ?_
      simp only [slices_Index_string_string.l0, Int.lt_irrefl, if_false]
      exact Ev.const (by rw [List.drop_of_length_le (Nat.le_refl _)]; rfl)
    · intro i hi ih
      refine Ev.succ ?_
      simp only [slices_Index_string_string.l0, if_pos (show (i : Int) < (l.length : Int) by omega), if_pos (show (0 : Int) ≤ i by omega), rdOf_nat _ l i hi, toList_inj, wrap_succ (show i ≤ 4611686018427387903 by omega)]
      rw [drop_cons l i hi]
      by_cases he : x = l[i]
      · simp only [if_pos he]
        exact Ev.const (by simp only [idxS, if_pos he])
      · simp only [if_neg he]
        exact Ev.cast ih (by simp only [idxS, if_neg he]; rfl)
  exact key 0 (by omega)

theorem slices_Contains_string_ev (l : List ByteArray) (x : ByteArray) (hl : l.length ≤ 1048576) : Ev (fun k => slices_Contains_string_string.f k l x) (decide (x ∈ l)) := by
  unfold slices_Contains_string_string.f
  refine Ev.bind (slices_Index_string_ev l x hl) (Ev.const ?_)
  simp only [ge_iff_le, idxS_mem x l 0 (Int.le_refl _)]

theorem impl_AreConstraints_ev (l : List ByteArray) (hl : l.length ≤ 1048576) : Ev (fun k => impl_AreConstraints.f k l) (areC l) := by
  unfold impl_AreConstraints.f areC
  have key : ∀ i, i ≤ l.length → Ev (fun k => impl_AreConstraints.l0 k l l (l.length : Int) (i : Int)) (allFrom (areC1 l) l.length i && decide (1 ≤ l.length ∧ l.length ≤ 5)) := by
    refine down_ind ?_ ?_
    · refine Ev.succ ?_
      simp only [impl_AreConstraints.l0, Int.lt_irrefl, if_false, impl_within_eq, Option.bind_some, allFrom_end _ (Nat.le_refl _), Bool.true_and]
      exact Ev.const (congrArg some (decide_eq_decide.2 (by omega)))
    · intro i hi ih
      refine Ev.succ ?_
      rw [allFrom_step _ hi, areC1, getS l i hi]
      simp only [impl_AreConstraints.l0, if_pos (show (i : Int) < (l.length : Int) by omega), if_pos (show (0 : Int) ≤ i by omega), impl_ConstraintNames_eq, Option.bind_some, rdOf_nat _ l i hi]
      refine Ev.bind (slices_Contains_string_ev cnames l[i] (by decide)) ?_
      by_cases h1 : l[i] ∈ cnames
      · simp only [h1, decide_true, if_true, if_pos (show (i : Int) ≤ (l.length : Int) by omega), Int.toNat_natCast, Bool.true_and]
        refine Ev.bind (slices_Contains_string_ev (l.take i) l[i] (by rw [List.length_take]; omega)) ?_
        by_cases h2 : l[i] ∈ l.take i
        · simp only [h2, decide_true, if_true]
          exact Ev.const rfl
        · simp only [h2, decide_false, Bool.false_eq_true, if_false, wrap_succ (show i ≤ 4611686018427387903 by omega), Bool.not_false, Bool.true_and]
          exact ih
      · simp only [h1, decide_false, Bool.false_eq_true, if_false, Bool.false_and]
        exact Ev.const rfl
  exact key 0 (by omega)

theorem getD_in (l : List Int) (i : Nat) (h : i < l.length) : l.getD i 0 = l[i] := by simp [h]

/-- a ranking of n constraints -/
def rankAt (l : List Int) (n : Int) (j : Nat) : Bool := decide (0 ≤ l.getD j 0) && (decide (l.getD j 0 < n) && !((l.take j).contains (l.getD j 0)))
def rank (l : List Int) (n : Int) : Bool := allFrom (rankAt l n) l.length 0 && (decide (1 ≤ n ∧ n ≤ 5) && decide ((l.length : Int) = n))
theorem rank_len {l : List Int} {n : Int} (h : rank l n = true) : (l.length : Int) = n := of_decide_eq_true (Bool.and_eq_true_iff.1 (Bool.and_eq_true_iff.1 h).2).2
theorem rank_five {l : List Int} {n : Int} (h : rank l n = true) : n ≤ 5 := (of_decide_eq_true (Bool.and_eq_true_iff.1 (Bool.and_eq_true_iff.1 h).2).1).2
theorem rank_get {l : List Int} {n : Int} (h : rank l n = true) (j : Nat) (hj : j < l.length) : 0 ≤ l[j] ∧ l[j] < n := by
  have := (allFrom_iff _ _ _).1 (Bool.and_eq_true_iff.1 h).1 j (by omega) hj
  simp [rankAt, hj] at this
  omega

theorem spec_l12Has_ev (l : List Int) (x : Int) (hl : l.length ≤ 140737488351232) : Ev (fun k => spec_l12Has.f k l x) (l.contains x) := by
  unfold spec_l12Has.f
  have key : ∀ i, i ≤ l.length → Ev (fun k => spec_l12Has.l0 k l x (i : Int)) ((l.drop i).contains x) := by
    refine down_ind ?_ ?_
    · refine Ev.succ ?_
      simp only [spec_l12Has.l0, Int.lt_irrefl, if_false]
      exact Ev.const (by simp)
    · intro i hi ih
      refine Ev.succ ?_
      simp only [spec_l12Has.l0, if_pos (show (i : Int) < (l.length : Int) by omega), if_pos (show (0 : Int) ≤ i by omega), rd_nat l i hi, wrap_succ (show i ≤ 4611686018427387903 by omega)]
      rw [drop_cons l i hi, List.contains_cons]
      by_cases h : l[i] = x
      · simp only [if_pos h]
        exact Ev.const (by simp [h])
      · simp only [if_neg h]
        rw [show (x == l[i]) = false from beq_eq_false_iff_ne.2 (fun e => h e.symm), Bool.false_or]
        exact ih
  exact key 0 (by omega)
theorem spec_IsRanking_ev (l : List Int) (n : Int) (hl : l.length ≤ 140737488351232) : Ev (fun k => spec_IsRanking.f k l n) (rank l n) := by
  unfold spec_IsRanking.f rank
  have key : ∀ i, i ≤ l.length → Ev (fun k => spec_IsRanking.l0 k l n (i : Int)) (allFrom (rankAt l n) l.length i && (decide (1 ≤ n ∧ n ≤ 5) && decide ((l.length : Int) = n))) := by
    refine down_ind ?_ ?_
    · refine Ev.succ ?_
      simp only [spec_IsRanking.l0, Int.lt_irrefl, if_false, spec_l1In_eq, Option.bind_some]
      rw [allFrom_end _ (Nat.le_refl _), Bool.true_and]
      by_cases h : 1 ≤ n ∧ n ≤ 5
      · simp only [h, decide_true, if_true, Bool.true_and]
        exact Ev.const (congrArg some (by by_cases e : (l.length : Int) = n <;> simp [e]))
      · simp only [h, decide_false, Bool.false_eq_true, if_false, Bool.false_and]
        exact Ev.const rfl
    · intro i hi ih
      refine Ev.succ ?_
      simp only [spec_IsRanking.l0, if_pos (show (i : Int) < (l.length : Int) by omega), if_pos (show (0 : Int) ≤ i by omega), if_pos (show (i : Int) ≤ (l.length : Int) by omega), rd_nat l i hi, Int.toNat_natCast, wrap_succ (show i ≤ 4611686018427387903 by omega)]
      rw [allFrom_step _ hi, rankAt, getD_in l i hi]
      by_cases h0 : l[i] < 0
      · simp only [if_pos h0, show ¬ 0 ≤ l[i] by omega, decide_false, Bool.false_and]
        exact Ev.const rfl
      · by_cases h1 : l[i] ≥ n
        · simp only [if_neg h0, if_pos h1, show ¬ l[i] < n by omega, decide_false, Bool.false_and, Bool.and_false]
          exact Ev.const rfl
        · simp only [if_neg h0, if_neg h1]
          refine Ev.bind (spec_l12Has_ev (l.take i) l[i] (by rw [List.length_take]; omega)) ?_
          simp only [show 0 ≤ l[i] by omega, show l[i] < n by omega, decide_true, Bool.true_and]
          cases (l.take i).contains l[i]
          · simp only [Bool.false_eq_true, if_false, Bool.not_false, Bool.true_and]
            exact ih
          · simp only [if_true, Bool.not_true, Bool.false_and]
            exact Ev.const rfl
  exact key 0 (by omega)

theorem less_eq (a b : Int) : cmp_Less_int.f a b = some (decide (a < b)) := by
  unfold cmp_Less_int.f cmp_isNaN_int.f
  simp
theorem rd_mid (A : List Int) (v : Int) (T : List Int) : rd (A ++ v :: T) (A.length : Int) = v := by simp [rd]
theorem swap_mid (A : List Int) (a v : Int) (T : List Int) : ((A ++ a :: v :: T).set (A.length + 1) a).set A.length v = A ++ v :: a :: T := by
  rw [List.set_append_right _ _ (by omega), show A.length + 1 - A.length = 1 by omega, List.set_cons_succ, List.set_cons_zero, List.set_append_right _ _ (Nat.le_refl _), Nat.sub_self, List.set_cons_zero]
abbrev asc (l : List Int) : Prop := l.Pairwise (· ≤ ·)
/-- what the insertion sort makes: the same numbers, ascending -/
theorem insertion_ev (n : Nat) (hn : n ≤ 1000) : ∀ i, i ≤ n → 1 ≤ i → ∀ x : List Int, x.length = n → asc (x.take i) → ∃ s, Ev (fun k => slices_insertionSortOrdered_int.l0 k x 0 (n : Int) (i : Int)) s ∧ s.Perm x ∧ asc s := by
  refine down_ind ?_ ?_
  · intro _ x hx hs
    refine ⟨x, Ev.succ ?_, List.Perm.refl _, ?_⟩
    · simp only [slices_insertionSortOrdered_int.l0, Int.lt_irrefl, if_false]
      exact Ev.const rfl
    · rwa [List.take_of_length_le (by omega)] at hs
  · intro i hi ih hi1 x hx hs
    have inner : ∀ m : Nat, ∀ (A : List Int) (v : Int) (C D : List Int), A.length = m → A.length + C.length = i → (A ++ v :: (C ++ D)).length = n → asc (A ++ C) → (∀ c ∈ C, v < c) →
        ∃ s, Ev (fun k => slices_insertionSortOrdered_int.l1 k (A ++ v :: (C ++ D)) 0 (n : Int) (i : Int) (A.length : Int)) s ∧ s.Perm (A ++ v :: (C ++ D)) ∧ asc s := by
      intro m
      induction m with
      | zero =>
        intro A v C D hm hAC hlen hasc hv
        obtain rfl : A = [] := List.eq_nil_of_length_eq_zero hm
        obtain ⟨s, he, hp, hss⟩ := ih (by omega) (v :: (C ++ D)) (by simpa using hlen) (by
          rw [List.take_succ_cons, List.take_append_of_le_length (by simp at hAC; omega), List.take_of_length_le (by simp at hAC; omega)]
          exact List.pairwise_cons.2 ⟨fun c hc => Int.le_of_lt (hv c hc), by simpa using hasc⟩)
        refine ⟨s, Ev.succ ?_, hp, hss⟩
        simp only [slices_insertionSortOrdered_int.l1, List.nil_append, List.length_nil, Int.natCast_zero, gt_iff_lt, Int.lt_irrefl, if_false, wrap_succ (show i ≤ 4611686018427387903 by omega)]
        exact he
      | succ m ihm =>
        intro A v C D hm hAC hlen hasc hv
        obtain ⟨A', a, rfl⟩ : ∃ A' a, A = A' ++ [a] := ⟨A.dropLast, A.getLast (by intro e; simp [e] at hm), (List.dropLast_concat_getLast _).symm⟩
        have hA' : A'.length = m := by simpa using hm
        have e0 : A' ++ [a] ++ v :: (C ++ D) = A' ++ a :: v :: (C ++ D) := by simp
        have r1 : rd (A' ++ [a] ++ v :: (C ++ D)) ((m + 1 : Nat) : Int) = v := by
          rw [show ((m + 1 : Nat) : Int) = ((A' ++ [a]).length : Int) by simp [hA'], rd_mid]
        have r0 : rd (A' ++ [a] ++ v :: (C ++ D)) ((m : Nat) : Int) = a := by
          rw [e0, ← hA', rd_mid]
        have hm1 : m + 1 < n := by simp at hlen hAC; omega
        have hwr : wrap64 (((m + 1 : Nat) : Int) - 1) = ((m : Nat) : Int) := by unfold wrap64; omega
        by_cases hlt : v < a
        · obtain ⟨s, he, hp, hss⟩ := ihm A' v (a :: C) D hA' (by simp at hAC ⊢; omega) (by simp at hlen ⊢; omega) (by simpa using hasc) (by
            intro c hc
            rcases List.mem_cons.1 hc with rfl | hc
            · exact hlt
            · exact hv c hc)
          refine ⟨s, Ev.succ ?_, hp.trans ?_, hss⟩
          · simp only [slices_insertionSortOrdered_int.l1, hm, hwr, r1, r0, less_eq, Option.bind_some, hlt, decide_true, if_true, Int.toNat_natCast]
            simp only [if_pos (show ((m + 1 : Nat) : Int) > 0 by omega), if_pos (show (0 : Int) ≤ ((m + 1 : Nat) : Int) by omega), if_pos (show (0 : Int) ≤ (m : Int) by omega), if_pos (show ((m + 1 : Nat) : Int) < ((A' ++ [a] ++ v :: (C ++ D)).length : Int) by rw [hlen]; omega), if_pos (show (m : Int) < ((A' ++ [a] ++ v :: (C ++ D)).length : Int) by rw [hlen]; omega)]
            rw [e0, ← hA', swap_mid]
            exact he
          · rw [e0]
            exact (List.Perm.swap a v (C ++ D)).append_left A' |>.trans (List.Perm.refl _)
        · obtain ⟨s, he, hp, hss⟩ := ih (by omega) (A' ++ [a] ++ v :: (C ++ D)) hlen (by
            rw [show A' ++ [a] ++ v :: (C ++ D) = (A' ++ [a] ++ v :: C) ++ D by simp, List.take_append_of_le_length (by simp at hAC ⊢; omega), List.take_of_length_le (by simp at hAC ⊢; omega)]
            refine List.pairwise_append.2 ⟨(List.pairwise_append.1 hasc).1, List.pairwise_cons.2 ⟨fun c hc => Int.le_of_lt (hv c hc), (List.pairwise_append.1 hasc).2.1⟩, ?_⟩
            intro b hb c hc
            have hba : b ≤ v := by
              have h1 := (List.pairwise_append.1 (List.pairwise_append.1 hasc).1).2.2
              rcases List.mem_append.1 hb with hb | hb
              · have := h1 b hb a (by simp)
                omega
              · obtain rfl : b = a := by simpa using hb
                omega
            rcases List.mem_cons.1 hc with rfl | hc
            · exact hba
            · have := hv c hc
              omega)
          refine ⟨s, Ev.succ ?_, hp, hss⟩
          simp only [slices_insertionSortOrdered_int.l1, hm, hwr, r1, r0, less_eq, Option.bind_some, hlt, decide_false, Bool.false_eq_true, if_false]
          simp only [if_pos (show ((m + 1 : Nat) : Int) > 0 by omega), if_pos (show (0 : Int) ≤ ((m + 1 : Nat) : Int) by omega), if_pos (show (0 : Int) ≤ (m : Int) by omega), if_pos (show ((m + 1 : Nat) : Int) < ((A' ++ [a] ++ v :: (C ++ D)).length : Int) by rw [hlen]; omega), if_pos (show (m : Int) < ((A' ++ [a] ++ v :: (C ++ D)).length : Int) by rw [hlen]; omega), wrap_succ (show i ≤ 4611686018427387903 by omega)]
          exact he
    have hlt : i < x.length := by omega
    have hx' : x = x.take i ++ x[i] :: ([] ++ x.drop (i + 1)) := by
      rw [List.nil_append, ← drop_cons x i hlt, List.take_append_drop]
    have hti : (x.take i).length = i := by rw [List.length_take]; omega
    obtain ⟨s, he, hp, hss⟩ := inner i (x.take i) x[i] [] (x.drop (i + 1)) hti (by simp [hti]) (by rw [← hx']; exact hx) (by simpa using hs) (by simp)
    rw [← hx'] at he hp
    rw [hti] at he
    refine ⟨s, Ev.succ ?_, hp, hss⟩
    simp only [slices_insertionSortOrdered_int.l0, if_pos (show (i : Int) < (n : Int) by omega)]
    exact he
theorem insertionSort_ev (l : List Int) (h1 : 1 ≤ l.length) (hl : l.length ≤ 1000) : ∃ s, Ev (fun k => slices_insertionSortOrdered_int.f k l 0 l.length) s ∧ s.Perm l ∧ asc s := by
  obtain ⟨s, he, hp, hs⟩ := insertion_ev l.length hl 1 h1 (Nat.le_refl _) l rfl (by
    cases l with
    | nil => simp at h1
    | cons a l => simp)
  refine ⟨s, ?_, hp, hs⟩
  unfold slices_insertionSortOrdered_int.f
  rw [show wrap64 (0 + 1) = ((1 : Nat) : Int) by unfold wrap64; omega]
  exact he

def strictAt (s : List Int) (n : Int) (j : Nat) : Bool := decide (0 ≤ s.getD j 0 ∧ s.getD j 0 ≤ n - 1) && (decide (j = 0) || decide (s.getD (j - 1) 0 < s.getD j 0))
theorem impl_isStrict_ev (s : List Int) (n : Int) (hl : s.length ≤ 140737488351232) (hn : 1 ≤ n ∧ n ≤ 1048576) : Ev (fun k => impl_isStrict.f k s n) (allFrom (strictAt s n) s.length 0) := by
  unfold impl_isStrict.f
  have key : ∀ i, i ≤ s.length → Ev (fun k => impl_isStrict.l0 k s n s (s.length : Int) (i : Int)) (allFrom (strictAt s n) s.length i) := by
    refine down_ind ?_ ?_
    · refine Ev.succ ?_
      simp only [impl_isStrict.l0, Int.lt_irrefl, if_false]
      rw [allFrom_end _ (Nat.le_refl _)]
      exact Ev.const rfl
    · intro i hi ih
      refine Ev.succ ?_
      simp only [impl_isStrict.l0, if_pos (show (i : Int) < (s.length : Int) by omega), if_pos (show (0 : Int) ≤ i by omega), rd_nat s i hi, wrap_succ (show i ≤ 4611686018427387903 by omega), impl_within_eq, Option.bind_some, show wrap64 (n - 1) = n - 1 from wrap_in (by omega) (by omega)]
      rw [allFrom_step _ hi, strictAt, getD_in s i hi]
      by_cases h : 0 ≤ s[i] ∧ s[i] ≤ n - 1
      · simp only [h, decide_true, if_true, Bool.true_and]
        by_cases h0 : i = 0
        · subst h0
          simp only [gt_iff_lt, Int.natCast_zero, Int.lt_irrefl, if_false, decide_true, Bool.true_or, Bool.true_and]
          exact ih
        · have hi' : i - 1 < s.length := by omega
          simp only [if_pos (show (i : Int) > 0 by omega), show wrap64 ((i : Int) - 1) = ((i - 1 : Nat) : Int) by unfold wrap64; omega, if_pos (show (0 : Int) ≤ ((i - 1 : Nat) : Int) by omega), if_pos (show ((i - 1 : Nat) : Int) < (s.length : Int) by omega), rd_nat s (i - 1) hi', h0, decide_false, Bool.false_or]
          rw [getD_in s (i - 1) hi']
          by_cases h2 : s[i] ≤ s[i - 1]
          · simp only [if_pos h2, show ¬ s[i - 1] < s[i] by omega, decide_false, Bool.false_and]
            exact Ev.const rfl
          · simp only [if_neg h2, show s[i - 1] < s[i] by omega, decide_true, Bool.true_and]
            exact ih
      · simp only [h, decide_false, Bool.false_eq_true, if_false, Bool.false_and]
        exact Ev.const rfl
  exact key 0 (by omega)

theorem strict_rank (l s : List Int) (n : Int) (hp : s.Perm l) (hs : asc s) : allFrom (strictAt s n) s.length 0 = allFrom (rankAt l n) l.length 0 := by
  have hasc := List.pairwise_iff_getElem.1 hs
  rw [Bool.eq_iff_iff, allFrom_iff, allFrom_iff]
  have A : (∀ j, 0 ≤ j → j < s.length → strictAt s n j = true) ↔ ((∀ x ∈ s, 0 ≤ x ∧ x < n) ∧ s.Nodup) := by
    constructor
    · intro h
      have h' : ∀ j (hj : j < s.length), (0 ≤ s[j] ∧ s[j] ≤ n - 1) ∧ (j = 0 ∨ s.getD (j - 1) 0 < s[j]) := by
        intro j hj
        have := h j (by omega) hj
        rw [strictAt, getD_in s j hj] at this
        simpa using this
      refine ⟨?_, ?_⟩
      · intro x hx
        obtain ⟨j, hj, rfl⟩ := List.mem_iff_getElem.1 hx
        have := (h' j hj).1
        omega
      · refine List.pairwise_iff_getElem.2 ?_
        intro i j hi hj hij
        have h2 := (h' j hj).2
        rcases h2 with h2 | h2
        · omega
        · rw [getD_in s (j - 1) (by omega)] at h2
          by_cases he : i = j - 1
          · subst he
            omega
          · have := hasc i (j - 1) hi (by omega) (by omega)
            omega
    · rintro ⟨h1, h2⟩ j _ hj
      have h2' := List.pairwise_iff_getElem.1 h2
      have h3 := h1 s[j] (List.getElem_mem hj)
      rw [strictAt, getD_in s j hj]
      simp only [Bool.and_eq_true, Bool.or_eq_true, decide_eq_true_eq]
      refine ⟨by omega, ?_⟩
      by_cases h0 : j = 0
      · exact .inl h0
      · refine .inr ?_
        rw [getD_in s (j - 1) (by omega)]
        have a := hasc (j - 1) j (by omega) hj (by omega)
        have b := h2' (j - 1) j (by omega) hj (by omega)
        omega
  have Bq : (∀ j, 0 ≤ j → j < l.length → rankAt l n j = true) ↔ ((∀ x ∈ l, 0 ≤ x ∧ x < n) ∧ l.Nodup) := by
    have e : ∀ j (hj : j < l.length), rankAt l n j = true ↔ ((0 ≤ l[j] ∧ l[j] < n) ∧ ∀ i (hi : i < j), l[i]'(by omega) ≠ l[j]) := by
      intro j hj
      rw [rankAt, getD_in l j hj]
      simp only [Bool.and_eq_true, decide_eq_true_eq, Bool.not_eq_true', and_assoc]
      refine and_congr Iff.rfl (and_congr Iff.rfl ?_)
      rw [← Bool.not_eq_true, List.contains_iff_mem, List.mem_take_iff_getElem]
      constructor
      · intro h i hi e
        exact h ⟨i, by omega, e⟩
      · rintro h ⟨i, hi, e⟩
        exact h i (by omega) e
    constructor
    · intro h
      refine ⟨?_, ?_⟩
      · intro x hx
        obtain ⟨j, hj, rfl⟩ := List.mem_iff_getElem.1 hx
        exact ((e j hj).1 (h j (by omega) hj)).1
      · refine List.pairwise_iff_getElem.2 ?_
        intro i j hi hj hij
        exact ((e j hj).1 (h j (by omega) hj)).2 i hij
    · rintro ⟨h1, h2⟩ j _ hj
      have h2' := List.pairwise_iff_getElem.1 h2
      exact (e j hj).2 ⟨h1 _ (List.getElem_mem hj), fun i hi => h2' i j (by omega) hj hi⟩
  rw [A, Bq, hp.nodup_iff]
  exact and_congr ⟨fun h x hx => h x (hp.mem_iff.2 hx), fun h x hx => h x (hp.mem_iff.1 hx)⟩ Iff.rfl
theorem impl_IsRanking_ev (l : List Int) (n : Int) (hl : l.length ≤ 140737488351232) : Ev (fun k => impl_IsRanking.f k l n) (rank l n) := by
  unfold impl_IsRanking.f rank
  simp only [impl_within_eq, Option.bind_some]
  by_cases h : 1 ≤ n ∧ n ≤ 5
  · simp only [h, decide_true, if_true, Bool.true_and]
    by_cases hn : (l.length : Int) = n
    · simp only [if_pos hn, hn, decide_true, Bool.and_true]
      obtain ⟨s, he, hp, hs⟩ := insertionSort_ev l (by omega) (by omega)
      rw [hn] at he
      refine Ev.bind he ?_
      rw [← strict_rank l s n hp hs, show decide (True ∧ True) = true by decide, Bool.and_true]
      exact impl_isStrict_ev s n (by rw [hp.length_eq]; exact hl) (by omega)
    · simp only [if_neg hn, hn, decide_false, Bool.and_false]
      exact Ev.const rfl
  · simp only [h, decide_false, Bool.false_eq_true, if_false, Bool.false_and, Bool.and_false]
    exact Ev.const rfl

def picks (names : List ByteArray) (r : List Int) : List ByteArray := r.map (rdOf ByteArray.empty names)
def fmtR (names : List ByteArray) (r : List Int) : ByteArray := if areC names = true ∧ rank r names.length = true then jn62 (picks names r) else ⟨#[]⟩
theorem sizes_le (b : Nat) (l : List ByteArray) (h : ∀ x ∈ l, x.size ≤ b) : sizes l ≤ l.length * b := by
  induction l with
  | nil => simp [sizes]
  | cons a t ih =>
    have h1 := h a List.mem_cons_self
    have h2 := ih (fun x hx => h x (List.mem_cons_of_mem _ hx))
    have : sizes (a :: t) = a.size + sizes t := by simp [sizes]
    rw [this, List.length_cons, Nat.succ_mul]
    omega
theorem picks_facts {names : List ByteArray} {r : List Int} (hl : names.length + sizes names ≤ 1048576) (hr : rank r names.length = true) : (picks names r).length = r.length ∧ r.length ≤ 5 ∧ (picks names r).length + sizes (picks names r) ≤ 8388608 ∧ ∀ j (hj : j < r.length), 0 ≤ r[j] ∧ r[j] < (names.length : Int) := by
  have h5 := rank_five hr
  have hlen := rank_len hr
  have hp : (picks names r).length = r.length := by simp [picks]
  have hb := sizes_le 1048576 (picks names r) (by
    intro x hx
    obtain ⟨i, hi, rfl⟩ := List.mem_map.1 hx
    obtain ⟨j, hj, rfl⟩ := List.mem_iff_getElem.1 hi
    have g := rank_get hr j hj
    obtain ⟨n, hn⟩ := Int.eq_ofNat_of_zero_le g.1
    rw [hn, rdOf_nat _ names n (by omega)]
    have := size_get names n (by omega)
    omega)
  have : (picks names r).length * 1048576 ≤ 5 * 1048576 := Nat.mul_le_mul_right _ (by omega)
  exact ⟨hp, by omega, by omega, fun j hj => rank_get hr j hj⟩
theorem picks_get (names : List ByteArray) (r : List Int) (i : Nat) (hi : i < r.length) (hp : i < (picks names r).length) : (picks names r)[i] = rdOf ByteArray.empty names (rd r i) := by
  rw [rd_nat r i hi]
  simp [picks]
theorem spec_FormatRanking_ev (names : List ByteArray) (r : List Int) (hl : names.length + sizes names ≤ 1048576) (hr : r.length ≤ 1048576) : Ev (fun k => spec_FormatRanking.f k names r) (fmtR names r) := by
  unfold spec_FormatRanking.f fmtR
  refine Ev.bind (spec_AreConstraints_ev names (by omega)) ?_
  by_cases hc : areC names = true
  · simp only [hc, if_true, true_and]
    refine Ev.bind (spec_IsRanking_ev r names.length (by omega)) ?_
    by_cases hk : rank r names.length = true
    · obtain ⟨hp, h5, hs, hg⟩ := picks_facts hl hk
      refine Ev.succ ?_
      simp only [hk, Bool.not_true, Bool.false_eq_true, if_false, if_true, spec_FormatRanking.j0]
      have key : ∀ i, i ≤ r.length → Ev (fun k => spec_FormatRanking.l0 k names r (jn62 ((picks names r).take i)) (i : Int)) (jn62 (picks names r)) := by
        refine down_ind ?_ ?_
        · refine Ev.succ ?_
          simp only [spec_FormatRanking.l0, Int.lt_irrefl, if_false]
          exact Ev.const (by rw [List.take_of_length_le (by omega)])
        · intro i hi ih
          have h1 := jn62_take (picks names r) i
          have h2 := size_get (picks names r) i (by omega)
          have hr0 : 0 ≤ rd r i := by rw [rd_nat r i hi]; exact (hg i hi).1
          have hr1 : rd r i < (names.length : Int) := by rw [rd_nat r i hi]; exact (hg i hi).2
          rw [jn62_snoc (picks names r) i (by omega)] at ih
          rw [picks_get names r i hi (by omega)] at ih h2
          refine Ev.succ ?_
          simp only [spec_FormatRanking.l0, if_pos (show (i : Int) < (r.length : Int) by omega), if_pos (show (0 : Int) ≤ i by omega), if_pos hr0, if_pos hr1, wrap_succ (show i ≤ 4611686018427387903 by omega)]
          by_cases h0 : i = 0
          · simp only [if_neg (show ¬ (i : Int) > 0 by omega), if_pos (show (jn62 ((picks names r).take i)).size + (rdOf ByteArray.empty names (rd r i)).size ≤ 9223372036854775807 by omega)]
            rw [if_pos h0] at ih
            exact ih
          · have h3 : (jn62 ((picks names r).take i) ++ (⟨#[62]⟩ : ByteArray)).size = (jn62 ((picks names r).take i)).size + 1 := by rw [ByteArray.size_append]; rfl
            simp only [if_pos (show (i : Int) > 0 by omega), if_pos (show (jn62 ((picks names r).take i)).size + 1 ≤ 9223372036854775807 by omega), if_pos (show (jn62 ((picks names r).take i) ++ (⟨#[62]⟩ : ByteArray)).size + (rdOf ByteArray.empty names (rd r i)).size ≤ 9223372036854775807 by omega)]
            rw [if_neg h0] at ih
            exact ih
      exact key 0 (by omega)
    · refine Ev.succ ?_
      simp only [Bool.not_eq_true] at hk
      simp only [hk, Bool.not_false, Bool.false_eq_true, if_false, if_true, spec_FormatRanking.j0]
      exact Ev.const rfl
  · simp only [hc, Bool.false_eq_true, if_false, false_and]
    refine Ev.succ ?_
    simp only [spec_FormatRanking.j0, if_true]
    exact Ev.const rfl
theorem strings_Join62_big (l : List ByteArray) (hl : l.length ≤ 1048576) (hb : l.length + sizes l ≤ 8388608) : strings_Join.f l (⟨#[62]⟩ : ByteArray) = some (jn62 l) := by
  unfold strings_Join.f
  have := jn62_size l
  have h2 : (Lib.join (l.map (·.data.toList)) [62]).length = (jn62 l).size := by show _ = (Lib.join (l.map (·.data.toList)) [62]).toArray.size; rw [List.size_toArray]
  rw [if_pos]
  · rfl
  · refine ⟨hl, ?_⟩
    show (Lib.join (l.map (·.data.toList)) [62]).length ≤ _
    omega
theorem impl_FormatRanking_ev (names : List ByteArray) (r : List Int) (hl : names.length + sizes names ≤ 1048576) (hr : r.length ≤ 1048576) : Ev (fun k => impl_FormatRanking.f k names r) (fmtR names r) := by
  unfold impl_FormatRanking.f fmtR
  refine Ev.bind (impl_AreConstraints_ev names (by omega)) ?_
  by_cases hc : areC names = true
  · simp only [hc, if_true, true_and]
    refine Ev.bind (impl_IsRanking_ev r names.length (by omega)) ?_
    by_cases hk : rank r names.length = true
    · obtain ⟨hp, h5, hs, hg⟩ := picks_facts hl hk
      refine Ev.succ ?_
      simp only [hk, Bool.not_true, Bool.false_eq_true, if_false, if_true, impl_FormatRanking.j0]
      have key : ∀ i, i ≤ r.length → Ev (fun k => impl_FormatRanking.l0 k names ((picks names r).take i) r (r.length : Int) (i : Int)) (jn62 (picks names r)) := by
        refine down_ind ?_ ?_
        · refine Ev.succ ?_
          simp only [impl_FormatRanking.l0, Int.lt_irrefl, if_false]
          rw [List.take_of_length_le (by omega), strings_Join62_big _ (by omega) hs]
          exact Ev.const rfl
        · intro i hi ih
          have hr0 : 0 ≤ rd r i := by rw [rd_nat r i hi]; exact (hg i hi).1
          have hr1 : rd r i < (names.length : Int) := by rw [rd_nat r i hi]; exact (hg i hi).2
          have hlen : ((picks names r).take i).length < 8796093022208 := by rw [List.length_take]; omega
          rw [List.take_succ_eq_append_getElem (show i < (picks names r).length by omega), picks_get names r i hi (by omega)] at ih
          refine Ev.succ ?_
          simp only [impl_FormatRanking.l0, if_pos (show (i : Int) < (r.length : Int) by omega), if_pos (show (0 : Int) ≤ i by omega), if_pos hr0, if_pos hr1, if_pos hlen, wrap_succ (show i ≤ 4611686018427387903 by omega)]
          exact ih
      exact key 0 (by omega)
    · refine Ev.succ ?_
      simp only [Bool.not_eq_true] at hk
      simp only [hk, Bool.not_false, Bool.false_eq_true, if_false, if_true, impl_FormatRanking.j0]
      exact Ev.const rfl
  · simp only [hc, Bool.false_eq_true, if_false, false_and]
    refine Ev.succ ?_
    simp only [impl_FormatRanking.j0, if_true]
    exact Ev.const rfl

theorem FnExactFormatRanking : laws_FnExactFormatRanking.Pure := by
  intro l r hl hr
  refine Ev.rounds ?_
  unfold laws_FnExactFormatRanking.f
  by_cases hq : (r.length : Int) > 1048576
  · simp only [if_pos hq]
    exact Ev.const rfl
  · simp only [if_neg hq]
    have hr' : r.length ≤ 1048576 := by omega
    refine Ev.bind (laws_szStringS_ev l 1048576 (Nat.le_refl _) hl) ?_
    by_cases h : l.length + sizes l ≤ 1048576
    · simp only [if_pos h, if_neg (show ¬ (((1048576 - (l.length + sizes l) : Nat) : Int)) < 0 by omega)]
      have hl' : l.length ≤ 1048576 := by omega
      refine Ev.bind (laws_toStringS_ev l hl') (Ev.bind (laws_toIntS_ev r hr') (Ev.bind (spec_FormatRanking_ev l r h hr') (Ev.bind (laws_toStringS_ev l hl') (Ev.bind (laws_toIntS_ev r hr') (Ev.bind (impl_FormatRanking_ev l r h hr') ?_)))))
      simp only [if_true]
      refine Ev.bind (laws_toStringS_ev l hl') (Ev.bind (laws_eqStringS_ev l hl') ?_)
      simp only [if_true]
      refine Ev.bind (laws_toIntS_ev r hr') (Ev.bind (laws_eqIntS_ev r r hr') ?_)
      simp only [decide_true, if_true]
      exact Ev.const rfl
    · simp only [if_neg h]
      exact Ev.const rfl

end Go.Proofs.Ytdamagcfmhimfad.Pure
