/- The pure statement of the law FnExactParseNames: for all arguments within bounds its printed function answers true. -/
import Derived.Test.YtlmfpkiaikjlbaaDoorPFnExactParseNamesx
import Derived.Test.YtlmfpkiaikjlbaaDoorBase
namespace Go.Proofs.YtlmfpkiaikjlbaaDoor.Pure
open Go.RowKit Go.Proofs.YtlmfpkiaikjlbaaDoorB Go.Proofs.YtlmfpkiaikjlbaaDoor.PFnExactParseNames Go.Proofs.YtlmfpkiaikjlbaaDoorW.PrintWords Go.Proofs.YtlmfpkiaikjlbaaDoorW.PrintLast Go.Proofs.YtlmfpkiaikjlbaaDoorW.PrintMore
set_option linter.unusedVariables false
set_option linter.unusedSimpArgs false

def cutP (c : UInt8) : List UInt8 → List UInt8 → List (List UInt8)
  | [], p => [p]
  | b :: r, p => if b = c then p :: cutP c r [] else cutP c r (p ++ [b])
def mkB (l : List UInt8) : ByteArray := ⟨l.toArray⟩
theorem mkB_data (s : ByteArray) : mkB s.data.toList = s := by
  cases s
  simp [mkB]
def cutS (s : ByteArray) (c : UInt8) : List ByteArray := (cutP c s.data.toList []).map mkB
theorem cutP_acc (c : UInt8) (l : List UInt8) : ∀ p, cutP c l p = (p ++ (cutP c l []).head?.getD []) :: (cutP c l []).tail := by
  induction l with
  | nil =>
    intro p
    simp [cutP]
  | cons b r ih =>
    intro p
    by_cases hb : b = c
    · simp [cutP, hb]
    · simp only [cutP, if_neg hb]
      rw [ih (p ++ [b]), ih ([] ++ [b])]
      simp
theorem cutP_sum (c : UInt8) (l : List UInt8) : ∀ p, ((cutP c l p).map List.length).sum + (cutP c l p).length = l.length + p.length + 1 := by
  induction l with
  | nil =>
    intro p
    simp [cutP]
  | cons b r ih =>
    intro p
    by_cases hb : b = c
    · simp only [cutP, if_pos hb, List.map_cons, List.sum_cons, List.length_cons]
      have := ih []
      simp only [List.length_nil] at this
      omega
    · simp only [cutP, if_neg hb, List.length_cons]
      have := ih (p ++ [b])
      simp only [List.length_append, List.length_cons, List.length_nil] at this
      omega
theorem index_one (b c : UInt8) (r : List UInt8) : Lib.index (b :: r) [c] = if b = c then 0 else if Lib.index r [c] = -1 then -1 else Lib.index r [c] + 1 := by
  have e : ([c].isPrefixOf (b :: r)) = decide (b = c) := by
    rw [Bool.eq_iff_iff]
    simp only [List.isPrefixOf, Bool.and_true, beq_iff_eq, decide_eq_true_eq]
    exact ⟨fun h => h.symm, fun h => h.symm⟩
  rw [Lib.index, e]
  by_cases hb : b = c <;> simp [hb]
theorem index_nil (c : UInt8) : Lib.index [] [c] = -1 := rfl
theorem splitK_hit (c : UInt8) (k : Nat) (l : List UInt8) (i : Nat) (h : Lib.index l [c] = i) : Lib.splitK [c] 0 (k + 1) l = l.take i :: Lib.splitK [c] 0 k (l.drop (i + 1)) := by
  rw [Lib.splitK, h]
  rw [if_neg (by simp)]
  simp
theorem splitK_cut (c : UInt8) (l : List UInt8) : Lib.splitK [c] 0 (Lib.count l [c]) l = cutP c l [] := by
  induction l with
  | nil =>
    rw [Lib.count_miss (index_nil c)]
    rfl
  | cons b r ih =>
    have hi := index_one b c r
    by_cases hb : b = c
    · rw [if_pos hb] at hi
      have h0 : Lib.index (b :: r) [c] = ((0 : Nat) : Int) := hi
      rw [Lib.count_hit (by simp) h0, Nat.add_comm, splitK_hit c _ _ 0 h0]
      simp only [List.length_cons, List.length_nil, Nat.zero_add, List.drop_succ_cons, List.drop_zero, List.take_zero]
      rw [ih]
      simp [cutP, hb]
    · rw [if_neg hb] at hi
      simp only [cutP, if_neg hb]
      rw [cutP_acc]
      by_cases hr : Lib.index r [c] = -1
      · rw [if_pos hr] at hi
        rw [Lib.count_miss hr] at ih
        rw [Lib.count_miss hi, ← ih]
        simp [Lib.splitK]
      · rw [if_neg hr] at hi
        obtain ⟨i, hi2⟩ : ∃ i : Nat, Lib.index r [c] = i := ⟨(Lib.index r [c]).toNat, by have := Lib.index_ge r [c]; omega⟩
        have h2 : Lib.index (b :: r) [c] = ((i + 1 : Nat) : Int) := by rw [hi, hi2]; omega
        rw [Lib.count_hit (by simp) hi2, Nat.add_comm, splitK_hit c _ _ i hi2] at ih
        rw [Lib.count_hit (by simp) h2, Nat.add_comm, splitK_hit c _ _ (i + 1) h2, ← ih]
        simp
theorem splitB_cut (s : ByteArray) (c : UInt8) : Lib.splitB ⟨#[c]⟩ 0 (Lib.countB s ⟨#[c]⟩) s = cutS s c := by
  refine map_inj_of (f := fun b : ByteArray => b.data.toList) (fun x y e => data_inj e) ?_
  rw [Lib.splitB_data]
  unfold cutS
  rw [List.map_map, show ((fun b : ByteArray => b.data.toList) ∘ mkB) = id from rfl, List.map_id]
  exact splitK_cut c s.data.toList
theorem cutS_length (s : ByteArray) (c : UInt8) : (cutS s c).length ≤ s.size + 1 := by
  have h := cutP_sum c s.data.toList []
  have e : s.data.toList.length = s.size := by rw [Array.length_toList]; rfl
  unfold cutS
  rw [List.length_map]
  simp only [List.length_nil] at h
  omega
theorem cutS_sizes (s : ByteArray) (c : UInt8) : ((cutS s c).map (·.size)).sum + (cutS s c).length = s.size + 1 := by
  have h := cutP_sum c s.data.toList []
  have e : s.data.toList.length = s.size := by rw [Array.length_toList]; rfl
  have e2 : (cutS s c).map (·.size) = (cutP c s.data.toList []).map List.length := by
    unfold cutS
    rw [List.map_map]
    rfl
  rw [e2]
  unfold cutS
  rw [List.length_map]
  simp only [List.length_nil] at h
  omega

theorem spec_l10Cut_ev (s : ByteArray) (c : UInt8) (hs : s.size ≤ 1048576) : Ev (fun k => spec_l10Cut.f k s (c.toNat : Int)) (cutS s c) := by
  unfold spec_l10Cut.f
  have e : s.data.toList.length = s.size := by rw [Array.length_toList]; rfl
  have key : ∀ i, i ≤ s.size → ∀ (acc : List ByteArray) (p : ByteArray), acc.length ≤ i → p.size ≤ i → Ev (fun k => spec_l10Cut.l0 k s (c.toNat : Int) acc p (i : Int)) (acc ++ (cutP c (s.data.toList.drop i) p.data.toList).map mkB) := by
    refine down_ind ?_ ?_
    · intro acc p ha hp
      refine Ev.succ ?_
      simp only [spec_l10Cut.l0, Int.lt_irrefl, if_false, if_pos (show acc.length < 8796093022208 by omega)]
      refine Ev.const ?_
      rw [List.drop_of_length_le (by omega)]
      simp [cutP, mkB_data]
    · intro i hi ih acc p ha hp
      have hb : bt s (i : Int) = (s.data.toList[i].toNat : Int) := by
        simp [bt, hi, ByteArray.getElem_eq_getElem_data]
      refine Ev.succ ?_
      rw [drop_cons s.data.toList i (by omega)]
      simp only [spec_l10Cut.l0, if_pos (show (i : Int) < (s.size : Int) by omega), if_pos (show (0 : Int) ≤ i by omega), hb, if_pos (show acc.length < 8796093022208 by omega), wrap_succ (show i ≤ 4611686018427387903 by omega), if_pos (show (i : Int) ≤ ((i + 1 : Nat) : Int) by omega), if_pos (show ((i + 1 : Nat) : Int) ≤ (s.size : Int) by omega), Int.toNat_natCast]
      by_cases h : s.data.toList[i] = c
      · simp only [if_pos (show (s.data.toList[i].toNat : Int) = (c.toNat : Int) by rw [h]), cutP, if_pos h, List.map_cons, mkB_data]
        refine Ev.cast (ih (acc ++ [p]) ⟨#[]⟩ (by simp; omega) (Nat.zero_le _)) ?_
        simp
      · have hx : (s.extract i (i + 1)).data.toList = [s.data.toList[i]] := by
          rw [Lib.extract_data, show i + 1 - i = 1 by omega, drop_cons s.data.toList i (by omega)]
          rfl
        have hxs : (s.extract i (i + 1)).size = 1 := by
          have : (s.extract i (i + 1)).data.toList.length = 1 := by rw [hx]; rfl
          rw [Array.length_toList] at this
          exact this
        simp only [if_neg (show ¬ (s.data.toList[i].toNat : Int) = (c.toNat : Int) from fun e => h (UInt8.toNat_inj.1 (by omega))), cutP, if_neg h, if_pos (show p.size + (s.extract i (i + 1)).size ≤ 9223372036854775807 by omega)]
        refine Ev.cast (ih acc (p ++ s.extract i (i + 1)) (by omega) (by rw [ByteArray.size_append]; omega)) ?_
        rw [ByteArray.data_append, Array.toList_append, hx]
  exact Ev.cast (key 0 (by omega) [] ⟨#[]⟩ (Nat.le_refl _) (Nat.le_refl _)) (by simp [cutS])

def cnames : List ByteArray := [⟨#[111, 110, 115, 101, 116]⟩, ⟨#[110, 111, 99, 111, 100, 97]⟩, ⟨#[99, 108, 117, 115, 116, 101, 114]⟩, ⟨#[118, 111, 105, 99, 101]⟩, ⟨#[102, 105, 110, 97, 108]⟩, ⟨#[110, 97, 115, 97, 108]⟩, ⟨#[109, 97, 120]⟩, ⟨#[100, 101, 112]⟩, ⟨#[105, 100, 101, 110, 116]⟩, ⟨#[99, 111, 110, 116, 105, 103]⟩]
theorem cnames_len : cnames.length = 10 := rfl
theorem spec_ConstraintNames_eq : spec_ConstraintNames.f = some cnames := rfl
theorem impl_ConstraintNames_eq : impl_ConstraintNames.f = some cnames := rfl

/-- each is a constraint's name and none of those before it; there are 1 to 5 -/
def areC1 (l : List ByteArray) (j : Nat) : Bool := decide (l.getD j ByteArray.empty ∈ cnames) && !decide (l.getD j ByteArray.empty ∈ l.take j)
def areC (l : List ByteArray) : Bool := allFrom (areC1 l) l.length 0 && decide (1 ≤ l.length ∧ l.length ≤ 5)
theorem getS (l : List ByteArray) (j : Nat) (h : j < l.length) : l.getD j ByteArray.empty = l[j] := by simp [h]

theorem spec_l1In_eq (a b c : Int) : spec_l1In.f a b c = some (decide (b ≤ a ∧ a ≤ c)) := by
  unfold spec_l1In.f
  split
  · have : b ≤ a := by omega
    simp [*]
  · have : ¬ b ≤ a := by omega
    simp [*]

theorem spec_l3Has_ev (l : List ByteArray) (x : ByteArray) (hl : l.length ≤ 1048576) : Ev (fun k => spec_l3Has.f k l x) (decide (x ∈ l)) := by
  unfold spec_l3Has.f
  have key : ∀ i, i ≤ l.length → Ev (fun k => spec_l3Has.l0 k l x (i : Int)) (decide (x ∈ l.drop i)) := by
    refine down_ind ?_ ?_
    · refine Ev.succ ?_
      simp only [spec_l3Has.l0, Int.lt_irrefl, if_false]
      exact Ev.const (by simp)
    · intro i hi ih
      refine Ev.succ ?_
      simp only [spec_l3Has.l0, if_pos (show (i : Int) < (l.length : Int) by omega), if_pos (show (0 : Int) ≤ i by omega), rdOf_nat _ l i hi, toList_inj, wrap_succ (show i ≤ 4611686018427387903 by omega)]
      rw [drop_cons l i hi]
      by_cases he : l[i] = x
      · simp only [if_pos he]
        exact Ev.const (by rw [he]; simp)
      · simp only [if_neg he]
        refine Ev.cast ih ?_
        rw [decide_eq_decide, List.mem_cons]
        constructor
        · exact .inr
        · rintro (h | h)
          · exact absurd h.symm he
          · exact h
  exact key 0 (by omega)

theorem spec_AreConstraints_ev (l : List ByteArray) (hl : l.length ≤ 1048576) : Ev (fun k => spec_AreConstraints.f k l) (areC l) := by
  unfold spec_AreConstraints.f areC
  have key : ∀ i, i ≤ l.length → Ev (fun k => spec_AreConstraints.l0 k l (i : Int)) (allFrom (areC1 l) l.length i && decide (1 ≤ l.length ∧ l.length ≤ 5)) := by
    refine down_ind ?_ ?_
    · refine Ev.succ ?_
      simp only [spec_AreConstraints.l0, Int.lt_irrefl, if_false, spec_l1In_eq, Option.bind_some, allFrom_end _ (Nat.le_refl _), Bool.true_and]
      exact Ev.const (congrArg some (decide_eq_decide.2 (by omega)))
    · intro i hi ih
      refine Ev.succ ?_
      rw [allFrom_step _ hi, areC1, getS l i hi]
      simp only [spec_AreConstraints.l0, if_pos (show (i : Int) < (l.length : Int) by omega), if_pos (show (0 : Int) ≤ i by omega), spec_ConstraintNames_eq, Option.bind_some, rdOf_nat _ l i hi]
      refine Ev.bind (spec_l3Has_ev cnames l[i] (by decide)) ?_
      by_cases h1 : l[i] ∈ cnames
      · simp only [h1, decide_true, if_true, if_pos (show (i : Int) ≤ (l.length : Int) by omega), Int.toNat_natCast, Bool.true_and]
        refine Ev.bind (spec_l3Has_ev (l.take i) l[i] (by rw [List.length_take]; omega)) ?_
        by_cases h2 : l[i] ∈ l.take i
        · simp only [h2, decide_true, if_true]
          exact Ev.const rfl
        · simp only [h2, decide_false, Bool.false_eq_true, if_false, wrap_succ (show i ≤ 4611686018427387903 by omega), Bool.not_false, Bool.true_and]
          exact ih
      · simp only [h1, decide_false, Bool.false_eq_true, if_false, Bool.false_and]
        exact Ev.const rfl
  exact key 0 (by omega)

theorem impl_within_eq (a b c : Int) : impl_within.f a b c = some (decide (b ≤ a ∧ a ≤ c)) := by
  unfold impl_within.f
  split
  · simp [*]
  · simp [*]

theorem slices_Index_string_ev2 (l : List ByteArray) (x : ByteArray) (hl : l.length ≤ 2097152) : Ev (fun k => slices_Index_string_string.f k l x) (idxS l x 0) := by
  unfold slices_Index_string_string.f
  have key : ∀ i, i ≤ l.length → Ev (fun k => slices_Index_string_string.l0 k l x (l.length : Int) (i : Int)) (idxS (l.drop i) x i) := by
    refine down_ind ?_ ?_
    · refine Ev.succ ?_
      simp only [slices_Index_string_string.l0, Int.lt_irrefl, if_false]
      exact Ev.const (by rw [List.drop_of_length_le (Nat.le_refl _)]; rfl)
    · intro i hi ih
      refine Ev.succ ?_
      simp only [slices_Index_string_string.l0, if_pos (show (i : Int) < (l.length : Int) by omega), if_pos (show (0 : Int) ≤ i by omega), rdOf_nat _ l i hi, toList_inj, wrap_succ (show i ≤ 4611686018427387903 by omega)]
      rw [drop_cons l i hi]
      by_cases he : x = l[i]
      · simp only [if_pos he]
        exact Ev.const (by simp only [idxS, if_pos he])
      · simp only [if_neg he]
        exact Ev.cast ih (by simp only [idxS, if_neg he]; rfl)
  exact key 0 (by omega)
theorem slices_Index_string_ev (l : List ByteArray) (x : ByteArray) (hl : l.length ≤ 1048576) : Ev (fun k => slices_Index_string_string.f k l x) (idxS l x 0) := slices_Index_string_ev2 l x (by omega)

theorem slices_Contains_string_ev2 (l : List ByteArray) (x : ByteArray) (hl : l.length ≤ 2097152) : Ev (fun k => slices_Contains_string_string.f k l x) (decide (x ∈ l)) := by
  unfold slices_Contains_string_string.f
  refine Ev.bind (slices_Index_string_ev2 l x hl) (Ev.const ?_)
  simp only [ge_iff_le, idxS_mem x l 0 (Int.le_refl _)]
theorem slices_Contains_string_ev (l : List ByteArray) (x : ByteArray) (hl : l.length ≤ 1048576) : Ev (fun k => slices_Contains_string_string.f k l x) (decide (x ∈ l)) := slices_Contains_string_ev2 l x (by omega)

theorem impl_AreConstraints_ev2 (l : List ByteArray) (hl : l.length ≤ 2097152) : Ev (fun k => impl_AreConstraints.f k l) (areC l) := by
  unfold impl_AreConstraints.f areC
  have key : ∀ i, i ≤ l.length → Ev (fun k => impl_AreConstraints.l0 k l l (l.length : Int) (i : Int)) (allFrom (areC1 l) l.length i && decide (1 ≤ l.length ∧ l.length ≤ 5)) := by
    refine down_ind ?_ ?_
    · refine Ev.succ ?_
      simp only [impl_AreConstraints.l0, Int.lt_irrefl, if_false, impl_within_eq, Option.bind_some, allFrom_end _ (Nat.le_refl _), Bool.true_and]
      exact Ev.const (congrArg some (decide_eq_decide.2 (by omega)))
    · intro i hi ih
      refine Ev.succ ?_
      rw [allFrom_step _ hi, areC1, getS l i hi]
      simp only [impl_AreConstraints.l0, if_pos (show (i : Int) < (l.length : Int) by omega), if_pos (show (0 : Int) ≤ i by omega), impl_ConstraintNames_eq, Option.bind_some, rdOf_nat _ l i hi]
      refine Ev.bind (slices_Contains_string_ev cnames l[i] (by decide)) ?_
      by_cases h1 : l[i] ∈ cnames
      · simp only [h1, decide_true, if_true, if_pos (show (i : Int) ≤ (l.length : Int) by omega), Int.toNat_natCast, Bool.true_and]
        refine Ev.bind (slices_Contains_string_ev2 (l.take i) l[i] (by rw [List.length_take]; omega)) ?_
        by_cases h2 : l[i] ∈ l.take i
        · simp only [h2, decide_true, if_true]
          exact Ev.const rfl
        · simp only [h2, decide_false, Bool.false_eq_true, if_false, wrap_succ (show i ≤ 4611686018427387903 by omega), Bool.not_false, Bool.true_and]
          exact ih
      · simp only [h1, decide_false, Bool.false_eq_true, if_false, Bool.false_and]
        exact Ev.const rfl
  exact key 0 (by omega)
theorem impl_AreConstraints_ev (l : List ByteArray) (hl : l.length ≤ 1048576) : Ev (fun k => impl_AreConstraints.f k l) (areC l) := impl_AreConstraints_ev2 l (by omega)

def pnS (s : ByteArray) : List ByteArray × Bool := if areC (cutS s 44) = true then (cutS s 44, true) else ([], false)
theorem cnames_small : ∀ x ∈ cnames, x.size ≤ 7 := by decide
theorem areC_in (l : List ByteArray) (h : areC l = true) : l.length ≤ 5 ∧ ∀ x ∈ l, x ∈ cnames := by
  unfold areC at h
  rw [Bool.and_eq_true, decide_eq_true_eq] at h
  refine ⟨h.2.2, ?_⟩
  intro x hx
  obtain ⟨j, hj, rfl⟩ := List.getElem_of_mem hx
  have := (allFrom_iff _ _ _).1 h.1 j (Nat.zero_le _) hj
  unfold areC1 at this
  rw [getS l j hj, Bool.and_eq_true, decide_eq_true_eq] at this
  exact this.1
theorem sum_small (l : List ByteArray) (b : Nat) (h : ∀ x ∈ l, x.size ≤ b) : (l.map (·.size)).sum ≤ b * l.length := by
  induction l with
  | nil => exact Nat.zero_le _
  | cons a r ih =>
    have h1 := h a List.mem_cons_self
    have h2 := ih (fun x hx => h x (List.mem_cons_of_mem _ hx))
    simp only [List.map_cons, List.sum_cons, List.length_cons, Nat.mul_add, Nat.mul_one]
    omega
theorem areC_cut (s : ByteArray) (c : UInt8) (h : areC (cutS s c) = true) : s.size ≤ 100 := by
  have h1 := areC_in _ h
  have h2 := cutS_sizes s c
  have h3 := sum_small (cutS s c) 7 (fun x hx => cnames_small x (h1.2 x hx))
  omega
theorem spec_ParseNames_ev (s : ByteArray) : Ev (fun k => spec_ParseNames.f k s) (pnS s) := by
  unfold spec_ParseNames.f pnS
  by_cases h : (s.size : Int) > 100
  · simp only [if_pos h, if_neg (show ¬ areC (cutS s 44) = true from fun e => by have := areC_cut s 44 e; omega)]
    exact Ev.const rfl
  · simp only [if_neg h]
    have hl := cutS_length s 44
    refine Ev.bind (spec_l10Cut_ev s 44 (by omega)) (Ev.bind (spec_AreConstraints_ev _ (by omega)) ?_)
    by_cases ha : areC (cutS s 44) = true
    · simp only [if_pos ha]
      exact Ev.const rfl
    · simp only [if_neg ha]
      exact Ev.const rfl
theorem impl_ParseNames_ev (s : ByteArray) (hs : s.size ≤ 1048576) : Ev (fun k => impl_ParseNames.f k s) (pnS s) := by
  unfold impl_ParseNames.f pnS strings_Split.f
  have hl := cutS_length s 44
  simp only [splitB_cut, if_pos (show s.size ≤ 1048576 ∧ 1 ≤ (⟨#[44]⟩ : ByteArray).size from ⟨hs, by decide⟩), Option.bind_some]
  refine Ev.bind (impl_AreConstraints_ev2 _ (by omega)) ?_
  by_cases ha : areC (cutS s 44) = true
  · simp only [if_pos ha]
    exact Ev.const rfl
  · simp only [if_neg ha]
    exact Ev.const rfl
theorem pnS_length (s : ByteArray) : (pnS s).1.length ≤ 5 := by
  unfold pnS
  split
  · rename_i h
    exact (areC_in _ h).1
  · exact Nat.zero_le _

theorem laws_eqStringS_ev (a : List ByteArray) (hl : a.length ≤ 1048576) : Ev (fun k => laws_eqStringS.f k a a) true := by
  unfold laws_eqStringS.f
  simp only [if_true]
  have key : ∀ i, i ≤ a.length → Ev (fun k => laws_eqStringS.l0 k a a (i : Int)) true := by
    refine down_ind ?_ ?_
    · refine Ev.succ ?_
      simp only [laws_eqStringS.l0, Int.lt_irrefl, if_false]
      exact Ev.const rfl
    · intro i hi ih
      refine Ev.succ ?_
      simp only [laws_eqStringS.l0, if_pos (show (i : Int) < (a.length : Int) by omega), if_pos (show (0 : Int) ≤ i by omega), if_true, wrap_succ (show i ≤ 4611686018427387903 by omega)]
      exact ih
  exact key 0 (by omega)

theorem size_append (a b : ByteArray) : (a ++ b).size = a.size + b.size := by
  rw [← B_length, ← B_length, ← B_length, B_append, List.length_append]
theorem laws_markText_some (m : Int) (h0 : 0 ≤ m) (h1 : m ≤ 4398046511104) : ∃ s, Ev (fun k => laws_markText.f k m) s := by
  unfold laws_markText.f
  by_cases hm : m ≤ 0
  · simp only [if_pos hm]
    exact ⟨_, Ev.const rfl⟩
  · simp only [if_neg hm]
    obtain ⟨n, rfl⟩ := Int.eq_ofNat_of_zero_le h0
    have key : ∀ (n : Nat) (x : ByteArray), x.size + n ≤ 8796093022208 → ∃ s, Ev (fun k => laws_markText.l0 k (n : Int) x) s := by
      intro n
      induction n using Nat.strongRecOn with
      | _ n ih =>
        intro x hx
        by_cases hn : n = 0
        · subst hn
          refine ⟨(⟨#[109]⟩ : ByteArray) ++ x, Ev.succ ?_⟩
          simp only [laws_markText.l0, if_neg (show ¬ ((0 : Nat) : Int) > 0 by omega), if_pos (show 1 + x.size ≤ 9223372036854775807 by omega)]
          exact Ev.const rfl
        · have hs : ∀ d : Int, (strOfNums [d]).size = 1 := fun d => rfl
          obtain ⟨s, hs'⟩ := ih (n / 10) (by omega) (strOfNums [wrap64 (48 + Int.tmod (n : Int) 10) % 256] ++ x) (by rw [size_append, hs]; omega)
          refine ⟨s, Ev.succ ?_⟩
          have hd : wrap64 (Int.tdiv (n : Int) 10) = ((n / 10 : Nat) : Int) := by
            rw [show Int.tdiv (n : Int) 10 = ((n / 10 : Nat) : Int) from by rw [Int.tdiv_eq_ediv_of_nonneg (by omega)]; omega]
            exact wrap_nat (by omega)
          simp only [laws_markText.l0, if_pos (show (n : Int) > 0 by omega), Option.bind_some, hs, if_pos (show 1 + x.size ≤ 9223372036854775807 by omega), hd]
          exact hs'
    exact key n _ (by show 0 + n ≤ _; omega)
noncomputable def mtx (m : Int) : ByteArray := Classical.epsilon fun s => Ev (fun k => laws_markText.f k m) s
theorem laws_markText_ev (m : Int) (h0 : 0 ≤ m) (h1 : m ≤ 4398046511104) : Ev (fun k => laws_markText.f k m) (mtx m) := Classical.epsilon_spec (laws_markText_some m h0 h1)

theorem laws_markStringS_ev (l : List ByteArray) (m : Int) (hl : l.length ≤ 2097152) (h0 : 0 ≤ m) (h1 : m ≤ 1099511627776) : Ev (fun k => laws_markStringS.f k l m) (m + l.length, (idxs m l.length).map mtx) := by
  unfold laws_markStringS.f
  have key : ∀ i, i ≤ l.length → Ev (fun k => laws_markStringS.l0 k ((idxs m i).map mtx ++ l.drop i) (m + (i : Int)) (i : Int)) (m + l.length, (idxs m l.length).map mtx) := by
    refine down_ind ?_ ?_
    · refine Ev.succ ?_
      have hlen : ((idxs m l.length).map mtx ++ l.drop l.length).length = l.length := by simp [idxs_length]
      simp only [laws_markStringS.l0, hlen, Int.lt_irrefl, if_false]
      exact Ev.const (by simp)
    · intro i hi ih
      refine Ev.succ ?_
      have hlen : ((idxs m i).map mtx ++ l.drop i).length = l.length := by rw [List.length_append, List.length_map, idxs_length, List.length_drop]; omega
      have hset : ((idxs m i).map mtx ++ l.drop i).set i (mtx (m + i)) = (idxs m (i + 1)).map mtx ++ l.drop (i + 1) := by
        rw [List.set_append, List.length_map, idxs_length, if_neg (by omega), Nat.sub_self, drop_cons l i hi, List.set_cons_zero, idxs_snoc, List.map_append, List.append_assoc]
        rfl
      simp only [laws_markStringS.l0, hlen, if_pos (show (i : Int) < (l.length : Int) by omega)]
      refine Ev.bind (laws_markText_ev (m + i) (by omega) (by omega)) ?_
      simp only [if_pos (show (0 : Int) ≤ i by omega), Int.toNat_natCast, hset, wrap_succ (show i ≤ 4611686018427387903 by omega), wrap_in (show -4611686018427387904 ≤ m + (i : Int) + 1 by omega) (show m + (i : Int) + 1 ≤ 4611686018427387904 by omega)]
      exact (show m + ((i + 1 : Nat) : Int) = m + (i : Int) + 1 by omega) ▸ ih
  have := key 0 (by omega)
  simpa [idxs] using this

theorem laws_heldStringS_ev (n : Nat) (m : Int) (hl : n ≤ 2097152) (h0 : 0 ≤ m) (h1 : m ≤ 1099511627776) : Ev (fun k => laws_heldStringS.f k ((idxs m n).map mtx) m) (m + n) := by
  unfold laws_heldStringS.f
  have key : ∀ i, i ≤ n → Ev (fun k => laws_heldStringS.l0 k ((idxs m n).map mtx) (m + (i : Int)) (i : Int)) (m + n) := by
    refine down_ind ?_ ?_
    · refine Ev.succ ?_
      simp only [laws_heldStringS.l0, List.length_map, idxs_length, Int.lt_irrefl, if_false]
      exact Ev.const rfl
    · intro i hi ih
      refine Ev.succ ?_
      have hi' : i < ((idxs m n).map mtx).length := by rw [List.length_map, idxs_length]; exact hi
      simp only [laws_heldStringS.l0, List.length_map, idxs_length, if_pos (show (i : Int) < (n : Int) by omega), if_pos (show (0 : Int) ≤ i by omega)]
      refine Ev.bind (laws_markText_ev (m + i) (by omega) (by omega)) ?_
      have hg : rdOf ByteArray.empty ((idxs m n).map mtx) (i : Int) = mtx (m + i) := by rw [rdOf_nat _ _ i hi', List.getElem_map, idxs_get]
      simp only [hg, if_true, wrap_succ (show i ≤ 4611686018427387903 by omega), wrap_in (show -4611686018427387904 ≤ m + (i : Int) + 1 by omega) (show m + (i : Int) + 1 ≤ 4611686018427387904 by omega)]
      exact (show m + ((i + 1 : Nat) : Int) = m + (i : Int) + 1 by omega) ▸ ih
  have := key 0 (by omega)
  simpa using this

theorem FnExactParseNames : laws_FnExactParseNames.Pure := by
  intro s hs
  refine Ev.rounds ?_
  unfold laws_FnExactParseNames.f
  by_cases hq : (s.size : Int) > 1048576
  · simp only [if_pos hq]
    exact Ev.const rfl
  simp only [if_neg hq]
  have hl := pnS_length s
  have him := impl_ParseNames_ev s (by omega)
  refine Ev.bind (spec_ParseNames_ev s) (Ev.bind him ?_)
  generalize pnS s = W at him hl
  have hee := laws_eqStringS_ev W.1 (by omega)
  refine Ev.bind hee ?_
  simp only [if_true]
  have hh := laws_heldStringS_ev W.1.length 1 (by omega) (by omega) (by omega)
  refine Ev.bind (laws_markStringS_ev W.1 1 (by omega) (by omega) (by omega)) (Ev.bind hh ?_)
  simp only [if_neg (show ¬ (1 + (W.1.length : Int)) < 0 by omega), if_true]
  refine Ev.bind him (Ev.bind hee ?_)
  simp only [if_true]
  refine Ev.bind hh ?_
  simp only [if_neg (show ¬ (1 + (W.1.length : Int)) < 0 by omega), if_true]
  exact Ev.const rfl

end Go.Proofs.YtlmfpkiaikjlbaaDoor.Pure
