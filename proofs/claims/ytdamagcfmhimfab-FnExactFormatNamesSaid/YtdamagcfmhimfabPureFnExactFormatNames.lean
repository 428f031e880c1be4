/- The pure statement of the law FnExactFormatNames: for all arguments within bounds its printed function answers true. -/
import Derived.Test.YtdamagcfmhimfabPFnExactFormatNamesx
import Derived.Test.YtdamagcfmhimfabBase
namespace Go.Proofs.Ytdamagcfmhimfab.Pure
open Go.RowKit Go.Proofs.YtdamagcfmhimfabB Go.Proofs.Ytdamagcfmhimfab.PFnExactFormatNames Go.Proofs.YtdamagcfmhimfabW.PrintWords Go.Proofs.YtdamagcfmhimfabW.PrintLast Go.Proofs.YtdamagcfmhimfabW.PrintMore
set_option linter.unusedVariables false
set_option linter.unusedSimpArgs false

theorem laws_toStringS_ev (l : List ByteArray) (hl : l.length ≤ 1048576) : Ev (fun k => laws_toStringS.f k l) l := by
  unfold laws_toStringS.f
  simp only [if_pos (show (0 : Int) ≤ (l.length : Int) by omega), Int.toNat_natCast, if_pos (show l.length ≤ 17592186044416 by omega)]
  have key : ∀ i, i ≤ l.length → Ev (fun k => laws_toStringS.l0 k l (l.take i ++ List.replicate (l.length - i) (⟨#[]⟩ : ByteArray)) (i : Int)) l := by
    refine down_ind ?_ ?_
    · refine Ev.succ ?_
      simp only [laws_toStringS.l0, Int.lt_irrefl, if_false]
      exact Ev.const (by simp)
    · intro i hi ih
      refine Ev.succ ?_
      have hlen : (l.take i ++ List.replicate (l.length - i) (⟨#[]⟩ : ByteArray)).length = l.length := by simp; omega
      simp only [laws_toStringS.l0, hlen, if_pos (show (i : Int) < (l.length : Int) by omega), if_pos (show (0 : Int) ≤ i by omega), rdOf_nat _ l i hi, Int.toNat_natCast, set_fill l _ i hi, wrap_succ (show i ≤ 4611686018427387903 by omega)]
      exact ih
  have := key 0 (by omega)
  simpa using this

theorem laws_eqStringS_ev (a : List ByteArray) (hl : a.length ≤ 1048576) : Ev (fun k => laws_eqStringS.f k a a) true := by
  unfold laws_eqStringS.f
  simp only [if_true]
  have key : ∀ i, i ≤ a.length → Ev (fun k => laws_eqStringS.l0 k a a (i : Int)) true := by
    refine down_ind ?_ ?_
    · refine Ev.succ ?_
      simp only [laws_eqStringS.l0, Int.lt_irrefl, if_false]
      exact Ev.const rfl
    · intro i hi ih
      refine Ev.succ ?_
      simp only [laws_eqStringS.l0, if_pos (show (i : Int) < (a.length : Int) by omega), if_pos (show (0 : Int) ≤ i by omega), if_true, wrap_succ (show i ≤ 4611686018427387903 by omega)]
      exact ih
  exact key 0 (by omega)

def sizes (l : List ByteArray) : Nat := (l.map ByteArray.size).sum
theorem laws_szStringS_ev (l : List ByteArray) (n : Nat) (hn : n ≤ 1048576) (hl : BdSlice 16 BdStr l) : Ev (fun k => laws_szStringS.f k l n) (if l.length + sizes l ≤ n then ((n - (l.length + sizes l) : Nat) : Int) else -1) := by
  have hl' : l.length ≤ 140737488351232 := by have := hl.1; omega
  unfold laws_szStringS.f
  rw [wrap_in (by omega) (by omega)]
  by_cases h : l.length ≤ n
  · rw [show ((n : Int) - (l.length : Int)) = ((n - l.length : Nat) : Int) by omega]
    simp only [if_neg (show ¬ ((n - l.length : Nat) : Int) < 0 by omega)]
    have key : ∀ i, i ≤ l.length → ∀ m : Nat, m ≤ n → Ev (fun k => laws_szStringS.l0 k l (m : Int) (i : Int)) (if sizes (l.drop i) ≤ m then ((m - sizes (l.drop i) : Nat) : Int) else -1) := by
      refine down_ind ?_ ?_
      · intro m hm
        refine Ev.succ ?_
        simp only [laws_szStringS.l0, Int.lt_irrefl, if_false]
        exact Ev.const (by simp [sizes])
      · intro i hi ih m hm
        have hb : l[i].size ≤ 140737488351232 := bd_get hl i hi
        refine Ev.succ ?_
        simp only [laws_szStringS.l0, if_pos (show (i : Int) < (l.length : Int) by omega), if_pos (show (0 : Int) ≤ i by omega), rdOf_nat _ l i hi, wrap_in (show -4611686018427387904 ≤ (m : Int) - (l[i].size : Int) by omega) (show (m : Int) - (l[i].size : Int) ≤ 4611686018427387904 by omega), wrap_succ (show i ≤ 4611686018427387903 by omega)]
        have hd : sizes (l.drop i) = l[i].size + sizes (l.drop (i + 1)) := by rw [drop_cons l i hi]; rfl
        rw [hd]
        by_cases hs : l[i].size ≤ m
        · simp only [if_neg (show ¬ (m : Int) - (l[i].size : Int) < 0 by omega), show (m : Int) - (l[i].size : Int) = ((m - l[i].size : Nat) : Int) by omega]
          refine Ev.cast (ih (m - l[i].size) (by omega)) ?_
          by_cases h2 : sizes (l.drop (i + 1)) ≤ m - l[i].size
          · rw [if_pos h2, if_pos (by omega)]
            congr 1
            omega
          · rw [if_neg h2, if_neg (by omega)]
        · simp only [if_pos (show (m : Int) - (l[i].size : Int) < 0 by omega)]
          exact Ev.const (by rw [if_neg (by omega)])
    refine Ev.cast (key 0 (by omega) (n - l.length) (by omega)) ?_
    simp only [List.drop_zero]
    by_cases h2 : sizes l ≤ n - l.length
    · rw [if_pos h2, if_pos (by omega)]
      congr 1
      omega
    · rw [if_neg h2, if_neg (by omega)]
  · simp only [if_pos (show ((n : Int) - (l.length : Int)) < 0 by omega)]
    exact Ev.const (by rw [if_neg (by omega)])

def jn44 (l : List ByteArray) : ByteArray := ⟨(Lib.join (l.map (·.data.toList)) [44]).toArray⟩
theorem jn44_nil : jn44 [] = ⟨#[]⟩ := rfl
theorem jn44_snoc (l : List ByteArray) (i : Nat) (h : i < l.length) : jn44 (l.take (i + 1)) = if i = 0 then jn44 (l.take i) ++ l[i] else (jn44 (l.take i) ++ (⟨#[44]⟩ : ByteArray)) ++ l[i] := by
  apply data_inj
  cases l with
  | nil => simp at h
  | cons a t =>
    cases i with
    | zero => simp [jn44, Lib.join_one, Lib.join_nil]
    | succ m =>
      have hm : m < t.length := by simpa using h
      have := Lib.joinTail_take_succ [44] (t.map (·.data.toList)) m t[m].data.toList (by simp [hm])
      rw [if_neg (by omega)]
      simp only [jn44, List.take_succ_cons, List.map_cons, Lib.join_cons, List.map_take, List.getElem_cons_succ]
      rw [this]
      simp
theorem sizes_lens (l : List ByteArray) : Lib.lens (l.map (·.data.toList)) = sizes l := by
  unfold Lib.lens sizes
  rw [List.map_map]
  congr 1
theorem jn44_size (l : List ByteArray) : (jn44 l).size ≤ l.length + sizes l := by
  cases l with
  | nil => exact Nat.zero_le _
  | cons a t =>
    have := Lib.join_length a.data.toList (t.map (·.data.toList)) [44]
    rw [← List.map_cons (f := fun x : ByteArray => x.data.toList), sizes_lens] at this
    show (Lib.join ((a :: t).map (·.data.toList)) [44]).toArray.size ≤ _
    rw [List.size_toArray, this]
    simp
theorem jn44_take (l : List ByteArray) (i : Nat) : (jn44 (l.take i)).size ≤ l.length + sizes l := by
  have h := jn44_size (l.take i)
  have h2 := Lib.lens_take_le (l.map (·.data.toList)) i
  rw [← List.map_take, sizes_lens, sizes_lens] at h2
  have : (l.take i).length ≤ l.length := by rw [List.length_take]; omega
  omega
theorem size_get (l : List ByteArray) (i : Nat) (h : i < l.length) : l[i].size ≤ sizes l := by
  have h2 := Lib.lens_take_succ (l.map (·.data.toList)) i l[i].data.toList (by simp [h])
  have h3 := Lib.lens_take_le (l.map (·.data.toList)) (i + 1)
  rw [sizes_lens] at h3
  have : l[i].data.toList.length = l[i].size := by rw [Array.length_toList]; rfl
  omega
theorem strings_Join44_eq (l : List ByteArray) (hl : l.length + sizes l ≤ 1048576) : strings_Join.f l (⟨#[44]⟩ : ByteArray) = some (jn44 l) := by
  unfold strings_Join.f
  have := jn44_size l
  have h2 : (Lib.join (l.map (·.data.toList)) [44]).length = (jn44 l).size := by show _ = (Lib.join (l.map (·.data.toList)) [44]).toArray.size; rw [List.size_toArray]
  rw [if_pos]
  · rfl
  · refine ⟨by omega, ?_⟩
    show (Lib.join (l.map (·.data.toList)) [44]).length ≤ _
    omega

def cnames : List ByteArray := [⟨#[111, 110, 115, 101, 116]⟩, ⟨#[110, 111, 99, 111, 100, 97]⟩, ⟨#[99, 108, 117, 115, 116, 101, 114]⟩, ⟨#[118, 111, 105, 99, 101]⟩, ⟨#[102, 105, 110, 97, 108]⟩, ⟨#[110, 97, 115, 97, 108]⟩, ⟨#[109, 97, 120]⟩, ⟨#[100, 101, 112]⟩, ⟨#[105, 100, 101, 110, 116]⟩, ⟨#[99, 111, 110, 116, 105, 103]⟩]
theorem cnames_len : cnames.length = 10 := rfl
theorem spec_ConstraintNames_eq : spec_ConstraintNames.f = some cnames := rfl
theorem impl_ConstraintNames_eq : impl_ConstraintNames.f = some cnames := rfl

/-- each is a constraint's name and none of those before it; there are 1 to 5 -/
def areC1 (l : List ByteArray) (j : Nat) : Bool := decide (l.getD j ByteArray.empty ∈ cnames) && !decide (l.getD j ByteArray.empty ∈ l.take j)
def areC (l : List ByteArray) : Bool := allFrom (areC1 l) l.length 0 && decide (1 ≤ l.length ∧ l.length ≤ 5)
theorem getS (l : List ByteArray) (j : Nat) (h : j < l.length) : l.getD j ByteArray.empty = l[j] := by simp [h]

theorem spec_l1In_eq (a b c : Int) : spec_l1In.f a b c = some (decide (b ≤ a ∧ a ≤ c)) := by
  unfold spec_l1In.f
  split
  · have : b ≤ a := by omega
    simp [*]
  · have : ¬ b ≤ a := by omega
    simp [*]

theorem spec_l3Has_ev (l : List ByteArray) (x : ByteArray) (hl : l.length ≤ 1048576) : Ev (fun k => spec_l3Has.f k l x) (decide (x ∈ l)) := by
  unfold spec_l3Has.f
  have key : ∀ i, i ≤ l.length → Ev (fun k => spec_l3Has.l0 k l x (i : Int)) (decide (x ∈ l.drop i)) := by
    refine down_ind ?_ ?_
    · refine Ev.succ ?_
      simp only [spec_l3Has.l0, Int.lt_irrefl, if_false]
      exact Ev.const (by simp)
    · intro i hi ih
      refine Ev.succ ?_
      simp only [spec_l3Has.l0, if_pos (show (i : Int) < (l.length : Int) by omega), if_pos (show (0 : Int) ≤ i by omega), rdOf_nat _ l i hi, toList_inj, wrap_succ (show i ≤ 4611686018427387903 by omega)]
      rw [drop_cons l i hi]
      by_cases he : l[i] = x
      · simp only [if_pos he]
        exact Ev.const (by rw [he]; simp)
      · simp only [if_neg he]
        refine Ev.cast ih ?_
        rw [decide_eq_decide, List.mem_cons]
        constructor
        · exact .inr
        · rintro (h | h)
          · exact absurd h.symm he
          · exact h
  exact key 0 (by omega)

theorem spec_AreConstraints_ev (l : List ByteArray) (hl : l.length ≤ 1048576) : Ev (fun k => spec_AreConstraints.f k l) (areC l) := by
  unfold spec_AreConstraints.f areC
  have key : ∀ i, i ≤ l.length → Ev (fun k => spec_AreConstraints.l0 k l (i : Int)) (allFrom (areC1 l) l.length i && decide (1 ≤ l.length ∧ l.length ≤ 5)) := by
    refine down_ind ?_ ?_
    · refine Ev.succ ?_
      simp only [spec_AreConstraints.l0, Int.lt_irrefl, if_false, spec_l1In_eq, Option.bind_some, allFrom_end _ (Nat.le_refl _), Bool.true_and]
      exact Ev.const (congrArg some (decide_eq_decide.2 (by omega)))
    · intro i hi ih
      refine Ev.succ ?_
      rw [allFrom_step _ hi, areC1, getS l i hi]
      simp only [spec_AreConstraints.l0, if_pos (show (i : Int) < (l.length : Int) by omega), if_pos (show (0 : Int) ≤ i by omega), spec_ConstraintNames_eq, Option.bind_some, rdOf_nat _ l i hi]
      refine Ev.bind (spec_l3Has_ev cnames l[i] (by decide)) ?_
      by_cases h1 : l[i] ∈ cnames
      · simp only [h1, decide_true, if_true, if_pos (show (i : Int) ≤ (l.length : Int) by omega), Int.toNat_natCast, Bool.true_and]
        refine Ev.bind (spec_l3Has_ev (l.take i) l[i] (by rw [List.length_take]; omega)) ?_
        by_cases h2 : l[i] ∈ l.take i
        · simp only [h2, decide_true, if_true]
          exact Ev.const rfl
        · simp only [h2, decide_false, Bool.false_eq_true, if_false, wrap_succ (show i ≤ 4611686018427387903 by omega), Bool.not_false, Bool.true_and]
          exact ih
      · simp only [h1, decide_false, Bool.false_eq_true, if_false, Bool.false_and]
        exact Ev.const rfl
  exact key 0 (by omega)

theorem impl_within_eq (a b c : Int) : impl_within.f a b c = some (decide (b ≤ a ∧ a ≤ c)) := by
  unfold impl_within.f
  split
  · simp [*]
  · simp [*]

theorem slices_Index_string_ev (l : List ByteArray) (x : ByteArray) (hl : l.length ≤ 1048576) : Ev (fun k => slices_Index_string_string.f k l x) (idxS l x 0) := by
  unfold slices_Index_string_string.f
  have key : ∀ i, i ≤ l.length → Ev (fun k => slices_Index_string_string.l0 k l x (l.length : Int) (i : Int)) (idxS (l.drop i) x i) := by
    refine down_ind ?_ ?_
    · refine Ev.succ ?_
      simp only [slices_Index_string_string.l0, Int.lt_irrefl, if_false]
      exact Ev.const (by rw [List.drop_of_length_le (Nat.le_refl _)]; rfl)
    · intro i hi ih
      refine Ev.succ ?_
      simp only [slices_Index_string_string.l0, if_pos (show (i : Int) < (l.length : Int) by omega), if_pos (show (0 : Int) ≤ i by omega), rdOf_nat _ l i hi, toList_inj, wrap_succ (show i ≤ 4611686018427387903 by omega)]
      rw [drop_cons l i hi]
      by_cases he : x = l[i]
      · simp only [if_pos he]
        exact Ev.const (by simp only [idxS, if_pos he])
      · simp only [if_neg he]
        exact Ev.cast ih (by simp only [idxS, if_neg he]; rfl)
  exact key 0 (by omega)

theorem slices_Contains_string_ev (l : List ByteArray) (x : ByteArray) (hl : l.length ≤ 1048576) : Ev (fun k => slices_Contains_string_string.f k l x) (decide (x ∈ l)) := by
  unfold slices_Contains_string_string.f
  refine Ev.bind (slices_Index_string_ev l x hl) (Ev.const ?_)
  simp only [ge_iff_le, idxS_mem x l 0 (Int.le_refl _)]

theorem impl_AreConstraints_ev (l : List ByteArray) (hl : l.length ≤ 1048576) : Ev (fun k => impl_AreConstraints.f k l) (areC l) := by
  unfold impl_AreConstraints.f areC
  have key : ∀ i, i ≤ l.length → Ev (fun k => impl_AreConstraints.l0 k l l (l.length : Int) (i : Int)) (allFrom (areC1 l) l.length i && decide (1 ≤ l.length ∧ l.length ≤ 5)) := by
    refine down_ind ?_ ?_
    · refine Ev.succ ?_
      simp only [impl_AreConstraints.l0, Int.lt_irrefl, if_false, impl_within_eq, Option.bind_some, allFrom_end _ (Nat.le_refl _), Bool.true_and]
      exact Ev.const (congrArg some (decide_eq_decide.2 (by omega)))
    · intro i hi ih
      refine Ev.succ ?_
      rw [allFrom_step _ hi, areC1, getS l i hi]
      simp only [impl_AreConstraints.l0, if_pos (show (i : Int) < (l.length : Int) by omega), if_pos (show (0 : Int) ≤ i by omega), impl_ConstraintNames_eq, Option.bind_some, rdOf_nat _ l i hi]
      refine Ev.bind (slices_Contains_string_ev cnames l[i] (by decide)) ?_
      by_cases h1 : l[i] ∈ cnames
      · simp only [h1, decide_true, if_true, if_pos (show (i : Int) ≤ (l.length : Int) by omega), Int.toNat_natCast, Bool.true_and]
        refine Ev.bind (slices_Contains_string_ev (l.take i) l[i] (by rw [List.length_take]; omega)) ?_
        by_cases h2 : l[i] ∈ l.take i
        · simp only [h2, decide_true, if_true]
          exact Ev.const rfl
        · simp only [h2, decide_false, Bool.false_eq_true, if_false, wrap_succ (show i ≤ 4611686018427387903 by omega), Bool.not_false, Bool.true_and]
          exact ih
      · simp only [h1, decide_false, Bool.false_eq_true, if_false, Bool.false_and]
        exact Ev.const rfl
  exact key 0 (by omega)

def fmtN (l : List ByteArray) : ByteArray := if areC l = true then jn44 l else ⟨#[]⟩
theorem spec_FormatNames_ev (l : List ByteArray) (hl : l.length + sizes l ≤ 1048576) : Ev (fun k => spec_FormatNames.f k l) (fmtN l) := by
  unfold spec_FormatNames.f fmtN
  have key : ∀ i, i ≤ l.length → Ev (fun k => spec_FormatNames.l0 k l (jn44 (l.take i)) (i : Int)) (if areC l = true then jn44 l else jn44 (l.take i)) := by
    refine down_ind ?_ ?_
    · refine Ev.succ ?_
      simp only [spec_FormatNames.l0, Int.lt_irrefl, if_false]
      refine Ev.succ ?_
      simp only [spec_FormatNames.j1, Bool.false_eq_true, if_false]
      exact Ev.const (by simp)
    · intro i hi ih
      have h1 := jn44_take l i
      have h2 := size_get l i hi
      refine Ev.succ ?_
      simp only [spec_FormatNames.l0, if_pos (show (i : Int) < (l.length : Int) by omega)]
      refine Ev.bind (spec_AreConstraints_ev l (by omega)) ?_
      cases hc : areC l
      · refine Ev.succ ?_
        simp only [spec_FormatNames.j1, Bool.false_eq_true, if_false]
        exact Ev.const rfl
      · rw [hc] at ih
        simp only [if_true] at ih
        rw [jn44_snoc l i hi] at ih
        refine Ev.succ ?_
        simp only [spec_FormatNames.j1, if_true, if_pos (show (0 : Int) ≤ i by omega), if_pos (show (i : Int) < (l.length : Int) by omega), rdOf_nat _ l i hi, wrap_succ (show i ≤ 4611686018427387903 by omega)]
        by_cases h0 : i = 0
        · simp only [if_neg (show ¬ (i : Int) > 0 by omega), if_pos (show (jn44 (l.take i)).size + l[i].size ≤ 9223372036854775807 by omega)]
          rw [if_pos h0] at ih
          exact ih
        · have h3 : (jn44 (l.take i) ++ (⟨#[44]⟩ : ByteArray)).size = (jn44 (l.take i)).size + 1 := by rw [ByteArray.size_append]; rfl
          simp only [if_pos (show (i : Int) > 0 by omega), if_pos (show (jn44 (l.take i)).size + 1 ≤ 9223372036854775807 by omega), if_pos (show (jn44 (l.take i) ++ (⟨#[44]⟩ : ByteArray)).size + l[i].size ≤ 9223372036854775807 by omega)]
          rw [if_neg h0] at ih
          exact ih
  exact key 0 (by omega)
theorem impl_FormatNames_ev (l : List ByteArray) (hl : l.length + sizes l ≤ 1048576) : Ev (fun k => impl_FormatNames.f k l) (fmtN l) := by
  unfold impl_FormatNames.f fmtN
  refine Ev.bind (impl_AreConstraints_ev l (by omega)) ?_
  cases areC l
  · simp only [Bool.false_eq_true, if_false]
    exact Ev.const rfl
  · simp only [if_true, strings_Join44_eq l hl, Option.bind_some]
    exact Ev.const rfl

theorem FnExactFormatNames : laws_FnExactFormatNames.Pure := by
  intro l hl
  refine Ev.rounds ?_
  unfold laws_FnExactFormatNames.f
  refine Ev.bind (laws_szStringS_ev l 1048576 (Nat.le_refl _) hl) ?_
  by_cases h : l.length + sizes l ≤ 1048576
  · simp only [if_pos h, if_neg (show ¬ (((1048576 - (l.length + sizes l) : Nat) : Int)) < 0 by omega)]
    have hl' : l.length ≤ 1048576 := by omega
    refine Ev.bind (laws_toStringS_ev l hl') (Ev.bind (spec_FormatNames_ev l h) (Ev.bind (laws_toStringS_ev l hl') (Ev.bind (impl_FormatNames_ev l h) ?_)))
    simp only [if_true]
    refine Ev.bind (laws_toStringS_ev l hl') (Ev.bind (laws_eqStringS_ev l hl') ?_)
    simp only [if_true]
    exact Ev.const rfl
  · simp only [if_neg h]
    exact Ev.const rfl

end Go.Proofs.Ytdamagcfmhimfab.Pure
