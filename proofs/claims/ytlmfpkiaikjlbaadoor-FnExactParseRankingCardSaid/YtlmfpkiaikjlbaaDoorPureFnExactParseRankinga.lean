/- The pure statement of the law FnExactParseRanking: for all arguments within bounds its printed function answers true. -/
import Derived.Test.YtlmfpkiaikjlbaaDoorPFnExactParseRankingx
import Derived.Test.YtlmfpkiaikjlbaaDoorBase
namespace Go.Proofs.YtlmfpkiaikjlbaaDoor.Pure
open Go.RowKit Go.Proofs.YtlmfpkiaikjlbaaDoorB Go.Proofs.YtlmfpkiaikjlbaaDoor.PFnExactParseRanking Go.Proofs.YtlmfpkiaikjlbaaDoorW.PrintWords Go.Proofs.YtlmfpkiaikjlbaaDoorW.PrintLast Go.Proofs.YtlmfpkiaikjlbaaDoorW.PrintMore
set_option linter.unusedVariables false
set_option linter.unusedSimpArgs false

def cutP (c : UInt8) : List UInt8 → List UInt8 → List (List UInt8)
  | [], p => [p]
  | b :: r, p => if b = c then p :: cutP c r [] else cutP c r (p ++ [b])
def mkB (l : List UInt8) : ByteArray := ⟨l.toArray⟩
theorem mkB_data (s : ByteArray) : mkB s.data.toList = s := by
  cases s
  simp [mkB]
def cutS (s : ByteArray) (c : UInt8) : List ByteArray := (cutP c s.data.toList []).map mkB
theorem cutP_acc (c : UInt8) (l : List UInt8) : ∀ p, cutP c l p = (p ++ (cutP c l []).head?.getD []) :: (cutP c l []).tail := by
  induction l with
  | nil =>
    intro p
    simp [cutP]
  | cons b r ih =>
    intro p
    by_cases hb : b = c
    · simp [cutP, hb]
    · simp only [cutP, if_neg hb]
      rw [ih (p ++ [b]), ih ([] ++ [b])]
      simp
theorem cutP_sum (c : UInt8) (l : List UInt8) : ∀ p, ((cutP c l p).map List.length).sum + (cutP c l p).length = l.length + p.length + 1 := by
  induction l with
  | nil =>
    intro p
    simp [cutP]
  | cons b r ih =>
    intro p
    by_cases hb : b = c
    · simp only [cutP, if_pos hb, List.map_cons, List.sum_cons, List.length_cons]
      have := ih []
      simp only [List.length_nil] at this
      omega
    · simp only [cutP, if_neg hb, List.length_cons]
      have := ih (p ++ [b])
      simp only [List.length_append, List.length_cons, List.length_nil] at this
      omega
theorem index_one (b c : UInt8) (r : List UInt8) : Lib.index (b :: r) [c] = if b = c then 0 else if Lib.index r [c] = -1 then -1 else Lib.index r [c] + 1 := by
  have e : ([c].isPrefixOf (b :: r)) = decide (b = c) := by
    rw [Bool.eq_iff_iff]
    simp only [List.isPrefixOf, Bool.and_true, beq_iff_eq, decide_eq_true_eq]
    exact ⟨fun h => h.symm, fun h => h.symm⟩
  rw [Lib.index, e]
  by_cases hb : b = c <;> simp [hb]
theorem index_nil (c : UInt8) : Lib.index [] [c] = -1 := rfl
theorem splitK_hit (c : UInt8) (k : Nat) (l : List UInt8) (i : Nat) (h : Lib.index l [c] = i) : Lib.splitK [c] 0 (k + 1) l = l.take i :: Lib.splitK [c] 0 k (l.drop (i + 1)) := by
  rw [Lib.splitK, h]
  rw [if_neg (by simp)]
  simp
theorem splitK_cut (c : UInt8) (l : List UInt8) : Lib.splitK [c] 0 (Lib.count l [c]) l = cutP c l [] := by
  induction l with
  | nil =>
    rw [Lib.count_miss (index_nil c)]
    rfl
  | cons b r ih =>
    have hi := index_one b c r
    by_cases hb : b = c
    · rw [if_pos hb] at hi
      have h0 : Lib.index (b :: r) [c] = ((0 : Nat) : Int) := hi
      rw [Lib.count_hit (by simp) h0, Nat.add_comm, splitK_hit c _ _ 0 h0]
      simp only [List.length_cons, List.length_nil, Nat.zero_add, List.drop_succ_cons, List.drop_zero, List.take_zero]
      rw [ih]
      simp [cutP, hb]
    · rw [if_neg hb] at hi
      simp only [cutP, if_neg hb]
      rw [cutP_acc]
      by_cases hr : Lib.index r [c] = -1
      · rw [if_pos hr] at hi
        rw [Lib.count_miss hr] at ih
        rw [Lib.count_miss hi, ← ih]
        simp [Lib.splitK]
      · rw [if_neg hr] at hi
        obtain ⟨i, hi2⟩ : ∃ i : Nat, Lib.index r [c] = i := ⟨(Lib.index r [c]).toNat, by have := Lib.index_ge r [c]; omega⟩
        have h2 : Lib.index (b :: r) [c] = ((i + 1 : Nat) : Int) := by rw [hi, hi2]; omega
        rw [Lib.count_hit (by simp) hi2, Nat.add_comm, splitK_hit c _ _ i hi2] at ih
        rw [Lib.count_hit (by simp) h2, Nat.add_comm, splitK_hit c _ _ (i + 1) h2, ← ih]
        simp
theorem splitB_cut (s : ByteArray) (c : UInt8) : Lib.splitB ⟨#[c]⟩ 0 (Lib.countB s ⟨#[c]⟩) s = cutS s c := by
  refine map_inj_of (f := fun b : ByteArray => b.data.toList) (fun x y e => data_inj e) ?_
  rw [Lib.splitB_data]
  unfold cutS
  rw [List.map_map, show ((fun b : ByteArray => b.data.toList) ∘ mkB) = id from rfl, List.map_id]
  exact splitK_cut c s.data.toList
theorem cutS_length (s : ByteArray) (c : UInt8) : (cutS s c).length ≤ s.size + 1 := by
  have h := cutP_sum c s.data.toList []
  have e : s.data.toList.length = s.size := by rw [Array.length_toList]; rfl
  unfold cutS
  rw [List.length_map]
  simp only [List.length_nil] at h
  omega
theorem cutS_sizes (s : ByteArray) (c : UInt8) : ((cutS s c).map (·.size)).sum + (cutS s c).length = s.size + 1 := by
  have h := cutP_sum c s.data.toList []
  have e : s.data.toList.length = s.size := by rw [Array.length_toList]; rfl
  have e2 : (cutS s c).map (·.size) = (cutP c s.data.toList []).map List.length := by
    unfold cutS
    rw [List.map_map]
    rfl
  rw [e2]
  unfold cutS
  rw [List.length_map]
  simp only [List.length_nil] at h
  omega

def cnames : List ByteArray := [⟨#[111, 110, 115, 101, 116]⟩, ⟨#[110, 111, 99, 111, 100, 97]⟩, ⟨#[99, 108, 117, 115, 116, 101, 114]⟩, ⟨#[118, 111, 105, 99, 101]⟩, ⟨#[102, 105, 110, 97, 108]⟩, ⟨#[110, 97, 115, 97, 108]⟩, ⟨#[109, 97, 120]⟩, ⟨#[100, 101, 112]⟩, ⟨#[105, 100, 101, 110, 116]⟩, ⟨#[99, 111, 110, 116, 105, 103]⟩]
theorem cnames_len : cnames.length = 10 := rfl
theorem spec_ConstraintNames_eq : spec_ConstraintNames.f = some cnames := rfl
theorem impl_ConstraintNames_eq : impl_ConstraintNames.f = some cnames := rfl

/-- each is a constraint's name and none of those before it; there are 1 to 5 -/
def areC1 (l : List ByteArray) (j : Nat) : Bool := decide (l.getD j ByteArray.empty ∈ cnames) && !decide (l.getD j ByteArray.empty ∈ l.take j)
def areC (l : List ByteArray) : Bool := allFrom (areC1 l) l.length 0 && decide (1 ≤ l.length ∧ l.length ≤ 5)
theorem getS (l : List ByteArray) (j : Nat) (h : j < l.length) : l.getD j ByteArray.empty = l[j] := by simp [h]

theorem cnames_small : ∀ x ∈ cnames, x.size ≤ 7 := by decide
theorem areC_in (l : List ByteArray) (h : areC l = true) : l.length ≤ 5 ∧ ∀ x ∈ l, x ∈ cnames := by
  unfold areC at h
  rw [Bool.and_eq_true, decide_eq_true_eq] at h
  refine ⟨h.2.2, ?_⟩
  intro x hx
  obtain ⟨j, hj, rfl⟩ := List.getElem_of_mem hx
  have := (allFrom_iff _ _ _).1 h.1 j (Nat.zero_le _) hj
  unfold areC1 at this
  rw [getS l j hj, Bool.and_eq_true, decide_eq_true_eq] at this
  exact this.1
theorem sum_small (l : List ByteArray) (b : Nat) (h : ∀ x ∈ l, x.size ≤ b) : (l.map (·.size)).sum ≤ b * l.length := by
  induction l with
  | nil => exact Nat.zero_le _
  | cons a r ih =>
    have h1 := h a List.mem_cons_self
    have h2 := ih (fun x hx => h x (List.mem_cons_of_mem _ hx))
    simp only [List.map_cons, List.sum_cons, List.length_cons, Nat.mul_add, Nat.mul_one]
    omega
theorem areC_cut (s : ByteArray) (c : UInt8) (h : areC (cutS s c) = true) : s.size ≤ 100 := by
  have h1 := areC_in _ h
  have h2 := cutS_sizes s c
  have h3 := sum_small (cutS s c) 7 (fun x hx => cnames_small x (h1.2 x hx))
  omega

theorem spec_l10Cut_ev (s : ByteArray) (c : UInt8) (hs : s.size ≤ 1048576) : Ev (fun k => spec_l10Cut.f k s (c.toNat : Int)) (cutS s c) := by
  unfold spec_l10Cut.f
  have e : s.data.toList.length = s.size := by rw [Array.length_toList]; rfl
  have key : ∀ i, i ≤ s.size → ∀ (acc : List ByteArray) (p : ByteArray), acc.length ≤ i → p.size ≤ i → Ev (fun k => spec_l10Cut.l0 k s (c.toNat : Int) acc p (i : Int)) (acc ++ (cutP c (s.data.toList.drop i) p.data.toList).map mkB) := by
    refine down_ind ?_ ?_
    · intro acc p ha hp
      refine Ev.succ ?_
      simp only [spec_l10Cut.l0, Int.lt_irrefl, if_false, if_pos (show acc.length < 8796093022208 by omega)]
      refine Ev.const ?_
      rw [List.drop_of_length_le (by omega)]
      simp [cutP, mkB_data]
    · intro i hi ih acc p ha hp
      have hb : bt s (i : Int) = (s.data.toList[i].toNat : Int) := by
        simp [bt, hi, ByteArray.getElem_eq_getElem_data]
      refine Ev.succ ?_
      rw [drop_cons s.data.toList i (by omega)]
      simp only [spec_l10Cut.l0, if_pos (show (i : Int) < (s.size : Int) by omega), if_pos (show (0 : Int) ≤ i by omega), hb, if_pos (show acc.length < 8796093022208 by omega), wrap_succ (show i ≤ 4611686018427387903 by omega), if_pos (show (i : Int) ≤ ((i + 1 : Nat) : Int) by omega), if_pos (show ((i + 1 : Nat) : Int) ≤ (s.size : Int) by omega), Int.toNat_natCast]
      by_cases h : s.data.toList[i] = c
      · simp only [if_pos (show (s.data.toList[i].toNat : Int) = (c.toNat : Int) by rw [h]), cutP, if_pos h, List.map_cons, mkB_data]
        refine Ev.cast (ih (acc ++ [p]) ⟨#[]⟩ (by simp; omega) (Nat.zero_le _)) ?_
        simp
      · have hx : (s.extract i (i + 1)).data.toList = [s.data.toList[i]] := by
          rw [Lib.extract_data, show i + 1 - i = 1 by omega, drop_cons s.data.toList i (by omega)]
          rfl
        have hxs : (s.extract i (i + 1)).size = 1 := by
          have : (s.extract i (i + 1)).data.toList.length = 1 := by rw [hx]; rfl
          rw [Array.length_toList] at this
          exact this
        simp only [if_neg (show ¬ (s.data.toList[i].toNat : Int) = (c.toNat : Int) from fun e => h (UInt8.toNat_inj.1 (by omega))), cutP, if_neg h, if_pos (show p.size + (s.extract i (i + 1)).size ≤ 9223372036854775807 by omega)]
        refine Ev.cast (ih acc (p ++ s.extract i (i + 1)) (by omega) (by rw [ByteArray.size_append]; omega)) ?_
        rw [ByteArray.data_append, Array.toList_append, hx]
  exact Ev.cast (key 0 (by omega) [] ⟨#[]⟩ (Nat.le_refl _) (Nat.le_refl _)) (by simp [cutS])

def sizes (l : List ByteArray) : Nat := (l.map ByteArray.size).sum
theorem laws_szStringS_ev (l : List ByteArray) (n : Nat) (hn : n ≤ 1048576) (hl : BdSlice 16 BdStr l) : Ev (fun k => laws_szStringS.f k l n) (if l.length + sizes l ≤ n then ((n - (l.length + sizes l) : Nat) : Int) else -1) := by
  have hl' : l.length ≤ 140737488351232 := by have := hl.1; omega
  unfold laws_szStringS.f
  rw [wrap_in (by omega) (by omega)]
  by_cases h : l.length ≤ n
  · rw [show ((n : Int) - (l.length : Int)) = ((n - l.length : Nat) : Int) by omega]
    simp only [if_neg (show ¬ ((n - l.length : Nat) : Int) < 0 by omega)]
    have key : ∀ i, i ≤ l.length → ∀ m : Nat, m ≤ n → Ev (fun k => laws_szStringS.l0 k l (m : Int) (i : Int)) (if sizes (l.drop i) ≤ m then ((m - sizes (l.drop i) : Nat) : Int) else -1) := by
      refine down_ind ?_ ?_
      · intro m hm
        refine Ev.succ ?_
        simp only [laws_szStringS.l0, Int.lt_irrefl, if_false]
        exact Ev.const (by simp [sizes])
      · intro i hi ih m hm
        have hb : l[i].size ≤ 140737488351232 := bd_get hl i hi
        refine Ev.succ ?_
        simp only [laws_szStringS.l0, if_pos (show (i : Int) < (l.length : Int) by omega), if_pos (show (0 : Int) ≤ i by omega), rdOf_nat _ l i hi, wrap_in (show -4611686018427387904 ≤ (m : Int) - (l[i].size : Int) by omega) (show (m : Int) - (l[i].size : Int) ≤ 4611686018427387904 by omega), wrap_succ (show i ≤ 4611686018427387903 by omega)]
        have hd : sizes (l.drop i) = l[i].size + sizes (l.drop (i + 1)) := by rw [drop_cons l i hi]; rfl
        rw [hd]
        by_cases hs : l[i].size ≤ m
        · simp only [if_neg (show ¬ (m : Int) - (l[i].size : Int) < 0 by omega), show (m : Int) - (l[i].size : Int) = ((m - l[i].size : Nat) : Int) by omega]
          refine Ev.cast (ih (m - l[i].size) (by omega)) ?_
          by_cases h2 : sizes (l.drop (i + 1)) ≤ m - l[i].size
          · rw [if_pos h2, if_pos (by omega)]
            congr 1
            omega
          · rw [if_neg h2, if_neg (by omega)]
        · simp only [if_pos (show (m : Int) - (l[i].size : Int) < 0 by omega)]
          exact Ev.const (by rw [if_neg (by omega)])
    refine Ev.cast (key 0 (by omega) (n - l.length) (by omega)) ?_
    simp only [List.drop_zero]
    by_cases h2 : sizes l ≤ n - l.length
    · rw [if_pos h2, if_pos (by omega)]
      congr 1
      omega
    · rw [if_neg h2, if_neg (by omega)]
  · simp only [if_pos (show ((n : Int) - (l.length : Int)) < 0 by omega)]
    exact Ev.const (by rw [if_neg (by omega)])

def jn62 (l : List ByteArray) : ByteArray := ⟨(Lib.join (l.map (·.data.toList)) [62]).toArray⟩
theorem jn62_nil : jn62 [] = ⟨#[]⟩ := rfl
theorem jn62_snoc (l : List ByteArray) (i : Nat) (h : i < l.length) : jn62 (l.take (i + 1)) = if i = 0 then jn62 (l.take i) ++ l[i] else (jn62 (l.take i) ++ (⟨#[62]⟩ : ByteArray)) ++ l[i] := by
  apply data_inj
  cases l with
  | nil => simp at h
  | cons a t =>
    cases i with
    | zero => simp [jn62, Lib.join_one, Lib.join_nil]
    | succ m =>
      have hm : m < t.length := by simpa using h
      have := Lib.joinTail_take_succ [62] (t.map (·.data.toList)) m t[m].data.toList (by simp [hm])
      rw [if_neg (by omega)]
      simp only [jn62, List.take_succ_cons, List.map_cons, Lib.join_cons, List.map_take, List.getElem_cons_succ]
      rw [this]
      simp
theorem sizes_lens (l : List ByteArray) : Lib.lens (l.map (·.data.toList)) = sizes l := by
  unfold Lib.lens sizes
  rw [List.map_map]
  congr 1
theorem jn62_size (l : List ByteArray) : (jn62 l).size ≤ l.length + sizes l := by
  cases l with
  | nil => exact Nat.zero_le _
  | cons a t =>
    have := Lib.join_length a.data.toList (t.map (·.data.toList)) [62]
    rw [← List.map_cons (f := fun x : ByteArray => x.data.toList), sizes_lens] at this
    show (Lib.join ((a :: t).map (·.data.toList)) [62]).toArray.size ≤ _
    rw [List.size_toArray, this]
    simp
theorem jn62_take (l : List ByteArray) (i : Nat) : (jn62 (l.take i)).size ≤ l.length + sizes l := by
  have h := jn62_size (l.take i)
  have h2 := Lib.lens_take_le (l.map (·.data.toList)) i
  rw [← List.map_take, sizes_lens, sizes_lens] at h2
  have : (l.take i).length ≤ l.length := by rw [List.length_take]; omega
  omega
theorem size_get (l : List ByteArray) (i : Nat) (h : i < l.length) : l[i].size ≤ sizes l := by
  have h2 := Lib.lens_take_succ (l.map (·.data.toList)) i l[i].data.toList (by simp [h])
  have h3 := Lib.lens_take_le (l.map (·.data.toList)) (i + 1)
  rw [sizes_lens] at h3
  have : l[i].data.toList.length = l[i].size := by rw [Array.length_toList]; rfl
  omega

theorem spec_l1In_eq (a b c : Int) : spec_l1In.f a b c = some (decide (b ≤ a ∧ a ≤ c)) := by
  unfold spec_l1In.f
  split
  · have : b ≤ a := by omega
    simp [*]
  · have : ¬ b ≤ a := by omega
    simp [*]

theorem spec_l3Has_ev (l : List ByteArray) (x : ByteArray) (hl : l.length ≤ 1048576) : Ev (fun k => spec_l3Has.f k l x) (decide (x ∈ l)) := by
  unfold spec_l3Has.f
  have key : ∀ i, i ≤ l.length → Ev (fun k => spec_l3Has.l0 k l x (i : Int)) (decide (x ∈ l.drop i)) := by
    refine down_ind ?_ ?_
    · refine Ev.succ ?_
      simp only [spec_l3Has.l0, Int.lt_irrefl, if_false]
      exact Ev.const (by simp)
    · intro i hi ih
      refine Ev.succ ?_
      simp only [spec_l3Has.l0, if_pos (show (i : Int) < (l.length : Int) by omega), if_pos (show (0 : Int) ≤ i by omega), rdOf_nat _ l i hi, toList_inj, wrap_succ (show i ≤ 4611686018427387903 by omega)]
      rw [drop_cons l i hi]
      by_cases he : l[i] = x
      · simp only [if_pos he]
        exact Ev.const (by rw [he]; simp)
      · simp only [if_neg he]
        refine Ev.cast ih ?_
        rw [decide_eq_decide, List.mem_cons]
        constructor
        · exact .inr
        · rintro (h | h)
          · exact absurd h.symm he
          · exact h
  exact key 0 (by omega)

theorem spec_AreConstraints_ev (l : List ByteArray) (hl : l.length ≤ 1048576) : Ev (fun k => spec_AreConstraints.f k l) (areC l) := by
  unfold spec_AreConstraints.f areC
  have key : ∀ i, i ≤ l.length → Ev (fun k => spec_AreConstraints.l0 k l (i : Int)) (allFrom (areC1 l) l.length i && decide (1 ≤ l.length ∧ l.length ≤ 5)) := by
    refine down_ind ?_ ?_
    · refine Ev.succ ?_
      simp only [spec_AreConstraints.l0, Int.lt_irrefl, if_false, spec_l1In_eq, Option.bind_some, allFrom_end _ (Nat.le_refl _), Bool.true_and]
      exact Ev.const (congrArg some (decide_eq_decide.2 (by omega)))
    · intro i hi ih
      refine Ev.succ ?_
      rw [allFrom_step _ hi, areC1, getS l i hi]
      simp only [spec_AreConstraints.l0, if_pos (show (i : Int) < (l.length : Int) by omega), if_pos (show (0 : Int) ≤ i by omega), spec_ConstraintNames_eq, Option.bind_some, rdOf_nat _ l i hi]
      refine Ev.bind (spec_l3Has_ev cnames l[i] (by decide)) ?_
      by_cases h1 : l[i] ∈ cnames
      · simp only [h1, decide_true, if_true, if_pos (show (i : Int) ≤ (l.length : Int) by omega), Int.toNat_natCast, Bool.true_and]
        refine Ev.bind (spec_l3Has_ev (l.take i) l[i] (by rw [List.length_take]; omega)) ?_
        by_cases h2 : l[i] ∈ l.take i
        · simp only [h2, decide_true, if_true]
          exact Ev.const rfl
        · simp only [h2, decide_false, Bool.false_eq_true, if_false, wrap_succ (show i ≤ 4611686018427387903 by omega), Bool.not_false, Bool.true_and]
          exact ih
      · simp only [h1, decide_false, Bool.false_eq_true, if_false, Bool.false_and]
        exact Ev.const rfl
  exact key 0 (by omega)

theorem impl_within_eq (a b c : Int) : impl_within.f a b c = some (decide (b ≤ a ∧ a ≤ c)) := by
  unfold impl_within.f
  split
  · simp [*]
  · simp [*]

theorem slices_Index_string_ev2 (l : List ByteArray) (x : ByteArray) (hl : l.length ≤ 2097152) : Ev (fun k => slices_Index_string_string.f k l x) (idxS l x 0) := by
  unfold slices_Index_string_string.f
  have key : ∀ i, i ≤ l.length → Ev (fun k => slices_Index_string_string.l0 k l x (l.length : Int) (i : Int)) (idxS (l.drop i) x i) := by
    refine down_ind ?_ ?_
    · refine Ev.succ ?_
      simp only [slices_Index_string_string.l0, Int.lt_irrefl, if_false]
      exact Ev.const (by rw [List.drop_of_length_le (Nat.le_refl _)]; rfl)
    · intro i hi ih
      refine Ev.succ ?_
      simp only [slices_Index_string_string.l0, if_pos (show (i : Int) < (l.length : Int) by omega), if_pos (show (0 : Int) ≤ i by omega), rdOf_nat _ l i hi, toList_inj, wrap_succ (show i ≤ 4611686018427387903 by omega)]
      rw [drop_cons l i hi]
      by_cases he : x = l[i]
      · simp only [if_pos he]
        exact Ev.const (by simp only [idxS, if_pos he])
      · simp only [if_neg he]
        exact Ev.cast ih (by simp only [idxS, if_neg he]; rfl)
  exact key 0 (by omega)
theorem slices_Index_string_ev (l : List ByteArray) (x : ByteArray) (hl : l.length ≤ 1048576) : Ev (fun k => slices_Index_string_string.f k l x) (idxS l x 0) := slices_Index_string_ev2 l x (by omega)

theorem slices_Contains_string_ev2 (l : List ByteArray) (x : ByteArray) (hl : l.length ≤ 2097152) : Ev (fun k => slices_Contains_string_string.f k l x) (decide (x ∈ l)) := by
  unfold slices_Contains_string_string.f
  refine Ev.bind (slices_Index_string_ev2 l x hl) (Ev.const ?_)
  simp only [ge_iff_le, idxS_mem x l 0 (Int.le_refl _)]
theorem slices_Contains_string_ev (l : List ByteArray) (x : ByteArray) (hl : l.length ≤ 1048576) : Ev (fun k => slices_Contains_string_string.f k l x) (decide (x ∈ l)) := slices_Contains_string_ev2 l x (by omega)

theorem impl_AreConstraints_ev2 (l : List ByteArray) (hl : l.length ≤ 2097152) : Ev (fun k => impl_AreConstraints.f k l) (areC l) := by
  unfold impl_AreConstraints.f areC
  have key : ∀ i, i ≤ l.length → Ev (fun k => impl_AreConstraints.l0 k l l (l.length : Int) (i : Int)) (allFrom (areC1 l) l.length i && decide (1 ≤ l.length ∧ l.length ≤ 5)) := by
    refine down_ind ?_ ?_
    · refine Ev.succ ?_
      simp only [impl_AreConstraints.l0, Int.lt_irrefl, if_false, impl_within_eq, Option.bind_some, allFrom_end _ (Nat.le_refl _), Bool.true_and]
      exact Ev.const (congrArg some (decide_eq_decide.2 (by omega)))
    · intro i hi ih
      refine Ev.succ ?_
      rw [allFrom_step _ hi, areC1, getS l i hi]
      simp only [impl_AreConstraints.l0, if_pos (show (i : Int) < (l.length : Int) by omega), if_pos (show (0 : Int) ≤ i by omega), impl_ConstraintNames_eq, Option.bind_some, rdOf_nat _ l i hi]
      refine Ev.bind (slices_Contains_string_ev cnames l[i] (by decide)) ?_
      by_cases h1 : l[i] ∈ cnames
      · simp only [h1, decide_true, if_true, if_pos (show (i : Int) ≤ (l.length : Int) by omega), Int.toNat_natCast, Bool.true_and]
        refine Ev.bind (slices_Contains_string_ev2 (l.take i) l[i] (by rw [List.length_take]; omega)) ?_
        by_cases h2 : l[i] ∈ l.take i
        · simp only [h2, decide_true, if_true]
          exact Ev.const rfl
        · simp only [h2, decide_false, Bool.false_eq_true, if_false, wrap_succ (show i ≤ 4611686018427387903 by omega), Bool.not_false, Bool.true_and]
          exact ih
      · simp only [h1, decide_false, Bool.false_eq_true, if_false, Bool.false_and]
        exact Ev.const rfl
  exact key 0 (by omega)
theorem impl_AreConstraints_ev (l : List ByteArray) (hl : l.length ≤ 1048576) : Ev (fun k => impl_AreConstraints.f k l) (areC l) := impl_AreConstraints_ev2 l (by omega)

theorem getD_in (l : List Int) (i : Nat) (h : i < l.length) : l.getD i 0 = l[i] := by simp [h]

/-- a ranking of n constraints -/
def rankAt (l : List Int) (n : Int) (j : Nat) : Bool := decide (0 ≤ l.getD j 0) && (decide (l.getD j 0 < n) && !((l.take j).contains (l.getD j 0)))
def rank (l : List Int) (n : Int) : Bool := allFrom (rankAt l n) l.length 0 && (decide (1 ≤ n ∧ n ≤ 5) && decide ((l.length : Int) = n))
theorem rank_len {l : List Int} {n : Int} (h : rank l n = true) : (l.length : Int) = n := of_decide_eq_true (Bool.and_eq_true_iff.1 (Bool.and_eq_true_iff.1 h).2).2
theorem rank_five {l : List Int} {n : Int} (h : rank l n = true) : n ≤ 5 := (of_decide_eq_true (Bool.and_eq_true_iff.1 (Bool.and_eq_true_iff.1 h).2).1).2
theorem rank_get {l : List Int} {n : Int} (h : rank l n = true) (j : Nat) (hj : j < l.length) : 0 ≤ l[j] ∧ l[j] < n := by
  have := (allFrom_iff _ _ _).1 (Bool.and_eq_true_iff.1 h).1 j (by omega) hj
  simp [rankAt, hj] at this
  omega

theorem spec_l12Has_ev (l : List Int) (x : Int) (hl : l.length ≤ 140737488351232) : Ev (fun k => spec_l12Has.f k l x) (l.contains x) := by
  unfold spec_l12Has.f
  have key : ∀ i, i ≤ l.length → Ev (fun k => spec_l12Has.l0 k l x (i : Int)) ((l.drop i).contains x) := by
    refine down_ind ?_ ?_
    · refine Ev.succ ?_
      simp only [spec_l12Has.l0, Int.lt_irrefl, if_false]
      exact Ev.const (by simp)
    · intro i hi ih
      refine Ev.succ ?_
      simp only [spec_l12Has.l0, if_pos (show (i : Int) < (l.length : Int) by omega), if_pos (show (0 : Int) ≤ i by omega), rd_nat l i hi, wrap_succ (show i ≤ 4611686018427387903 by omega)]
      rw [drop_cons l i hi, List.contains_cons]
      by_cases h : l[i] = x
      · simp only [if_pos h]
        exact Ev.const (by simp [h])
      · simp only [if_neg h]
        rw [show (x == l[i]) = false from beq_eq_false_iff_ne.2 (fun e => h e.symm), Bool.false_or]
        exact ih
  exact key 0 (by omega)
theorem spec_IsRanking_ev (l : List Int) (n : Int) (hl : l.length ≤ 140737488351232) : Ev (fun k => spec_IsRanking.f k l n) (rank l n) := by
  unfold spec_IsRanking.f rank
  have key : ∀ i, i ≤ l.length → Ev (fun k => spec_IsRanking.l0 k l n (i : Int)) (allFrom (rankAt l n) l.length i && (decide (1 ≤ n ∧ n ≤ 5) && decide ((l.length : Int) = n))) := by
    refine down_ind ?_ ?_
    · refine Ev.succ ?_
      simp only [spec_IsRanking.l0, Int.lt_irrefl, if_false, spec_l1In_eq, Option.bind_some]
      rw [allFrom_end _ (Nat.le_refl _), Bool.true_and]
      by_cases h : 1 ≤ n ∧ n ≤ 5
      · simp only [h, decide_true, if_true, Bool.true_and]
        exact Ev.const (congrArg some (by by_cases e : (l.length : Int) = n <;> simp [e]))
      · simp only [h, decide_false, Bool.false_eq_true, if_false, Bool.false_and]
        exact Ev.const rfl
    · intro i hi ih
      refine Ev.succ ?_
      simp only [spec_IsRanking.l0, if_pos (show (i : Int) < (l.length : Int) by omega), if_pos (show (0 : Int) ≤ i by omega), if_pos (show (i : Int) ≤ (l.length : Int) by omega), rd_nat l i hi, Int.toNat_natCast, wrap_succ (show i ≤ 4611686018427387903 by omega)]
      rw [allFrom_step _ hi, rankAt, getD_in l i hi]
      by_cases h0 : l[i] < 0
      · simp only [if_pos h0, show ¬ 0 ≤ l[i] by omega, decide_false, Bool.false_and]
        exact Ev.const rfl
      · by_cases h1 : l[i] ≥ n
        · simp only [if_neg h0, if_pos h1, show ¬ l[i] < n by omega, decide_false, Bool.false_and, Bool.and_false]
          exact Ev.const rfl
        · simp only [if_neg h0, if_neg h1]
          refine Ev.bind (spec_l12Has_ev (l.take i) l[i] (by rw [List.length_take]; omega)) ?_
          simp only [show 0 ≤ l[i] by omega, show l[i] < n by omega, decide_true, Bool.true_and]
          cases (l.take i).contains l[i]
          · simp only [Bool.false_eq_true, if_false, Bool.not_false, Bool.true_and]
            exact ih
          · simp only [if_true, Bool.not_true, Bool.false_and]
            exact Ev.const rfl
  exact key 0 (by omega)

theorem less_eq (a b : Int) : cmp_Less_int.f a b = some (decide (a < b)) := by
  unfold cmp_Less_int.f cmp_isNaN_int.f
  simp
theorem rd_mid (A : List Int) (v : Int) (T : List Int) : rd (A ++ v :: T) (A.length : Int) = v := by simp [rd]
theorem swap_mid (A : List Int) (a v : Int) (T : List Int) : ((A ++ a :: v :: T).set (A.length + 1) a).set A.length v = A ++ v :: a :: T := by
  rw [List.set_append_right _ _ (by omega), show A.length + 1 - A.length = 1 by omega, List.set_cons_succ, List.set_cons_zero, List.set_append_right _ _ (Nat.le_refl _), Nat.sub_self, List.set_cons_zero]
abbrev asc (l : List Int) : Prop := l.Pairwise (· ≤ ·)
/-- what the insertion sort makes: the same numbers, ascending -/
theorem insertion_ev (n : Nat) (hn : n ≤ 1000) : ∀ i, i ≤ n → 1 ≤ i → ∀ x : List Int, x.length = n → asc (x.take i) → ∃ s, Ev (fun k => slices_insertionSortOrdered_int.l0 k x 0 (n : Int) (i : Int)) s ∧ s.Perm x ∧ asc s := by
  refine down_ind ?_ ?_
  · intro _ x hx hs
    refine ⟨x, Ev.succ ?_, List.Perm.refl _, ?_⟩
    · simp only [slices_insertionSortOrdered_int.l0, Int.lt_irrefl, if_false]
      exact Ev.const rfl
    · rwa [List.take_of_length_le (by omega)] at hs
  · intro i hi ih hi1 x hx hs
    have inner : ∀ m : Nat, ∀ (A : List Int) (v : Int) (C D : List Int), A.length = m → A.length + C.length = i → (A ++ v :: (C ++ D)).length = n → asc (A ++ C) → (∀ c ∈ C, v < c) →
        ∃ s, Ev (fun k => slices_insertionSortOrdered_int.l1 k (A ++ v :: (C ++ D)) 0 (n : Int) (i : Int) (A.length : Int)) s ∧ s.Perm (A ++ v :: (C ++ D)) ∧ asc s := by
      intro m
      induction m with
      | zero =>
        intro A v C D hm hAC hlen hasc hv
        obtain rfl : A = [] := List.eq_nil_of_length_eq_zero hm
        obtain ⟨s, he, hp, hss⟩ := ih (by omega) (v :: (C ++ D)) (by simpa using hlen) (by
          rw [List.take_succ_cons, List.take_append_of_le_length (by simp at hAC; omega), List.take_of_length_le (by simp at hAC; omega)]
          exact List.pairwise_cons.2 ⟨fun c hc => Int.le_of_lt (hv c hc), by simpa using hasc⟩)
        refine ⟨s, Ev.succ ?_, hp, hss⟩
        simp only [slices_insertionSortOrdered_int.l1, List.nil_append, List.length_nil, Int.natCast_zero, gt_iff_lt, Int.lt_irrefl, if_false, wrap_succ (show i ≤ 4611686018427387903 by omega)]
        exact he
      | succ m ihm =>
        intro A v C D hm hAC hlen hasc hv
        obtain ⟨A', a, rfl⟩ : ∃ A' a, A = A' ++ [a] := ⟨A.dropLast, A.getLast (by intro e; simp [e] at hm), (List.dropLast_concat_getLast _).symm⟩
        have hA' : A'.length = m := by simpa using hm
        have e0 : A' ++ [a] ++ v :: (C ++ D) = A' ++ a :: v :: (C ++ D) := by simp
        have r1 : rd (A' ++ [a] ++ v :: (C ++ D)) ((m + 1 : Nat) : Int) = v := by
          rw [show ((m + 1 : Nat) : Int) = ((A' ++ [a]).length : Int) by simp [hA'], rd_mid]
        have r0 : rd (A' ++ [a] ++ v :: (C ++ D)) ((m : Nat) : Int) = a := by
          rw [e0, ← hA', rd_mid]
        have hm1 : m + 1 < n := by simp at hlen hAC; omega
        have hwr : wrap64 (((m + 1 : Nat) : Int) - 1) = ((m : Nat) : Int) := by unfold wrap64; omega
        by_cases hlt : v < a
        · obtain ⟨s, he, hp, hss⟩ := ihm A' v (a :: C) D hA' (by simp at hAC ⊢; omega) (by simp at hlen ⊢; omega) (by simpa using hasc) (by
            intro c hc
            rcases List.mem_cons.1 hc with rfl | hc
            · exact hlt
            · exact hv c hc)
          refine ⟨s, Ev.succ ?_, hp.trans ?_, hss⟩
          · simp only [slices_insertionSortOrdered_int.l1, hm, hwr, r1, r0, less_eq, Option.bind_some, hlt, decide_true, if_true, Int.toNat_natCast]
            simp only [if_pos (show ((m + 1 : Nat) : Int) > 0 by omega), if_pos (show (0 : Int) ≤ ((m + 1 : Nat) : Int) by omega), if_pos (show (0 : Int) ≤ (m : Int) by omega), if_pos (show ((m + 1 : Nat) : Int) < ((A' ++ [a] ++ v :: (C ++ D)).length : Int) by rw [hlen]; omega), if_pos (show (m : Int) < ((A' ++ [a] ++ v :: (C ++ D)).length : Int) by rw [hlen]; omega)]
            rw [e0, ← hA', swap_mid]
            exact he
          · rw [e0]
            exact (List.Perm.swap a v (C ++ D)).append_left A' |>.trans (List.Perm.refl _)
        · obtain ⟨s, he, hp, hss⟩ := ih (by omega) (A' ++ [a] ++ v :: (C ++ D)) hlen (by
            rw [show A' ++ [a] ++ v :: (C ++ D) = (A' ++ [a] ++ v :: C) ++ D by simp, List.take_append_of_le_length (by simp at hAC ⊢; omega), List.take_of_length_le (by simp at hAC ⊢; omega)]
            refine List.pairwise_append.2 ⟨(List.pairwise_append.1 hasc).1, List.pairwise_cons.2 ⟨fun c hc => Int.le_of_lt (hv c hc), (List.pairwise_append.1 hasc).2.1⟩, ?_⟩
            intro b hb c hc
            have hba : b ≤ v := by
              have h1 := (List.pairwise_append.1 (List.pairwise_append.1 hasc).1).2.2
              rcases List.mem_append.1 hb with hb | hb
              · have := h1 b hb a (by simp)
                omega
              · obtain rfl : b = a := by simpa using hb
                omega
            rcases List.mem_cons.1 hc with rfl | hc
            · exact hba
            · have := hv c hc
              omega)
          refine ⟨s, Ev.succ ?_, hp, hss⟩
          simp only [slices_insertionSortOrdered_int.l1, hm, hwr, r1, r0, less_eq, Option.bind_some, hlt, decide_false, Bool.false_eq_true, if_false]
          simp only [if_pos (show ((m + 1 : Nat) : Int) > 0 by omega), if_pos (show (0 : Int) ≤ ((m + 1 : Nat) : Int) by omega), if_pos (show (0 : Int) ≤ (m : Int) by omega), if_pos (show ((m + 1 : Nat) : Int) < ((A' ++ [a] ++ v :: (C ++ D)).length : Int) by rw [hlen]; omega), if_pos (show (m : Int) < ((A' ++ [a] ++ v :: (C ++ D)).length : Int) by rw [hlen]; omega), wrap_succ (show i ≤ 4611686018427387903 by omega)]
          exact he
    have hlt : i < x.length := by omega
    have hx' : x = x.take i ++ x[i] :: ([] ++ x.drop (i + 1)) := by
      rw [List.nil_append, ← drop_cons x i hlt, List.take_append_drop]
    have hti : (x.take i).length = i := by rw [List.length_take]; omega
    obtain ⟨s, he, hp, hss⟩ := inner i (x.take i) x[i] [] (x.drop (i + 1)) hti (by simp [hti]) (by rw [← hx']; exact hx) (by simpa using hs) (by simp)
    rw [← hx'] at he hp
    rw [hti] at he
    refine ⟨s, Ev.succ ?_, hp, hss⟩
    simp only [slices_insertionSortOrdered_int.l0, if_pos (show (i : Int) < (n : Int) by omega)]
    exact he
theorem insertionSort_ev (l : List Int) (h1 : 1 ≤ l.length) (hl : l.length ≤ 1000) : ∃ s, Ev (fun k => slices_insertionSortOrdered_int.f k l 0 l.length) s ∧ s.Perm l ∧ asc s := by
  obtain ⟨s, he, hp, hs⟩ := insertion_ev l.length hl 1 h1 (Nat.le_refl _) l rfl (by
    cases l with
    | nil => simp at h1
    | cons a l => simp)
  refine ⟨s, ?_, hp, hs⟩
  unfold slices_insertionSortOrdered_int.f
  rw [show wrap64 (0 + 1) = ((1 : Nat) : Int) by unfold wrap64; omega]
  exact he

def strictAt (s : List Int) (n : Int) (j : Nat) : Bool := decide (0 ≤ s.getD j 0 ∧ s.getD j 0 ≤ n - 1) && (decide (j = 0) || decide (s.getD (j - 1) 0 < s.getD j 0))
theorem impl_isStrict_ev (s : List Int) (n : Int) (hl : s.length ≤ 140737488351232) (hn : 1 ≤ n ∧ n ≤ 1048576) : Ev (fun k => impl_isStrict.f k s n) (allFrom (strictAt s n) s.length 0) := by
  unfold impl_isStrict.f
  have key : ∀ i, i ≤ s.length → Ev (fun k => impl_isStrict.l0 k s n s (s.length : Int) (i : Int)) (allFrom (strictAt s n) s.length i) := by
    refine down_ind ?_ ?_
    · refine Ev.succ ?_
      simp only [impl_isStrict.l0, Int.lt_irrefl, if_false]
      rw [allFrom_end _ (Nat.le_refl _)]
      exact Ev.const rfl
    · intro i hi ih
      refine Ev.succ ?_
      simp only [impl_isStrict.l0, if_pos (show (i : Int) < (s.length : Int) by omega), if_pos (show (0 : Int) ≤ i by omega), rd_nat s i hi, wrap_succ (show i ≤ 4611686018427387903 by omega), impl_within_eq, Option.bind_some, show wrap64 (n - 1) = n - 1 from wrap_in (by omega) (by omega)]
      rw [allFrom_step _ hi, strictAt, getD_in s i hi]
      by_cases h : 0 ≤ s[i] ∧ s[i] ≤ n - 1
      · simp only [h, decide_true, if_true, Bool.true_and]
        by_cases h0 : i = 0
        · subst h0
          simp only [gt_iff_lt, Int.natCast_zero, Int.lt_irrefl, if_false, decide_true, Bool.true_or, Bool.true_and]
          exact ih
        · have hi' : i - 1 < s.length := by omega
          simp only [if_pos (show (i : Int) > 0 by omega), show wrap64 ((i : Int) - 1) = ((i - 1 : Nat) : Int) by unfold wrap64; omega, if_pos (show (0 : Int) ≤ ((i - 1 : Nat) : Int) by omega), if_pos (show ((i - 1 : Nat) : Int) < (s.length : Int) by omega), rd_nat s (i - 1) hi', h0, decide_false, Bool.false_or]
          rw [getD_in s (i - 1) hi']
          by_cases h2 : s[i] ≤ s[i - 1]
          · simp only [if_pos h2, show ¬ s[i - 1] < s[i] by omega, decide_false, Bool.false_and]
            exact Ev.const rfl
          · simp only [if_neg h2, show s[i - 1] < s[i] by omega, decide_true, Bool.true_and]
            exact ih
      · simp only [h, decide_false, Bool.false_eq_true, if_false, Bool.false_and]
        exact Ev.const rfl
  exact key 0 (by omega)

theorem strict_rank (l s : List Int) (n : Int) (hp : s.Perm l) (hs : asc s) : allFrom (strictAt s n) s.length 0 = allFrom (rankAt l n) l.length 0 := by
  have hasc := List.pairwise_iff_getElem.1 hs
  rw [Bool.eq_iff_iff, allFrom_iff, allFrom_iff]
  have A : (∀ j, 0 ≤ j → j < s.length → strictAt s n j = true) ↔ ((∀ x ∈ s, 0 ≤ x ∧ x < n) ∧ s.Nodup) := by
    constructor
    · intro h
      have h' : ∀ j (hj : j < s.length), (0 ≤ s[j] ∧ s[j] ≤ n - 1) ∧ (j = 0 ∨ s.getD (j - 1) 0 < s[j]) := by
        intro j hj
        have := h j (by omega) hj
        rw [strictAt, getD_in s j hj] at this
        simpa using this
      refine ⟨?_, ?_⟩
      · intro x hx
        obtain ⟨j, hj, rfl⟩ := List.mem_iff_getElem.1 hx
        have := (h' j hj).1
        omega
      · refine List.pairwise_iff_getElem.2 ?_
        intro i j hi hj hij
        have h2 := (h' j hj).2
        rcases h2 with h2 | h2
        · omega
        · rw [getD_in s (j - 1) (by omega)] at h2
          by_cases he : i = j - 1
          · subst he
            omega
          · have := hasc i (j - 1) hi (by omega) (by omega)
            omega
    · rintro ⟨h1, h2⟩ j _ hj
      have h2' := List.pairwise_iff_getElem.1 h2
      have h3 := h1 s[j] (List.getElem_mem hj)
      rw [strictAt, getD_in s j hj]
      simp only [Bool.and_eq_true, Bool.or_eq_true, decide_eq_true_eq]
      refine ⟨by omega, ?_⟩
      by_cases h0 : j = 0
      · exact .inl h0
      · refine .inr ?_
        rw [getD_in s (j - 1) (by omega)]
        have a := hasc (j - 1) j (by omega) hj (by omega)
        have b := h2' (j - 1) j (by omega) hj (by omega)
        omega
  have Bq : (∀ j, 0 ≤ j → j < l.length → rankAt l n j = true) ↔ ((∀ x ∈ l, 0 ≤ x ∧ x < n) ∧ l.Nodup) := by
    have e : ∀ j (hj : j < l.length), rankAt l n j = true ↔ ((0 ≤ l[j] ∧ l[j] < n) ∧ ∀ i (hi : i < j), l[i]'(by omega) ≠ l[j]) := by
      intro j hj
      rw [rankAt, getD_in l j hj]
      simp only [Bool.and_eq_true, decide_eq_true_eq, Bool.not_eq_true', and_assoc]
      refine and_congr Iff.rfl (and_congr Iff.rfl ?_)
      rw [← Bool.not_eq_true, List.contains_iff_mem, List.mem_take_iff_getElem]
      constructor
      · intro h i hi e
        exact h ⟨i, by omega, e⟩
      · rintro h ⟨i, hi, e⟩
        exact h i (by omega) e
    constructor
    · intro h
      refine ⟨?_, ?_⟩
      · intro x hx
        obtain ⟨j, hj, rfl⟩ := List.mem_iff_getElem.1 hx
        exact ((e j hj).1 (h j (by omega) hj)).1
      · refine List.pairwise_iff_getElem.2 ?_
        intro i j hi hj hij
        exact ((e j hj).1 (h j (by omega) hj)).2 i hij
    · rintro ⟨h1, h2⟩ j _ hj
      have h2' := List.pairwise_iff_getElem.1 h2
      exact (e j hj).2 ⟨h1 _ (List.getElem_mem hj), fun i hi => h2' i j (by omega) hj hi⟩
  rw [A, Bq, hp.nodup_iff]
  exact and_congr ⟨fun h x hx => h x (hp.mem_iff.2 hx), fun h x hx => h x (hp.mem_iff.1 hx)⟩ Iff.rfl
theorem impl_IsRanking_ev (l : List Int) (n : Int) (hl : l.length ≤ 140737488351232) : Ev (fun k => impl_IsRanking.f k l n) (rank l n) := by
  unfold impl_IsRanking.f rank
  simp only [impl_within_eq, Option.bind_some]
  by_cases h : 1 ≤ n ∧ n ≤ 5
  · simp only [h, decide_true, if_true, Bool.true_and]
    by_cases hn : (l.length : Int) = n
    · simp only [if_pos hn, hn, decide_true, Bool.and_true]
      obtain ⟨s, he, hp, hs⟩ := insertionSort_ev l (by omega) (by omega)
      rw [hn] at he
      refine Ev.bind he ?_
      rw [← strict_rank l s n hp hs, show decide (True ∧ True) = true by decide, Bool.and_true]
      exact impl_isStrict_ev s n (by rw [hp.length_eq]; exact hl) (by omega)
    · simp only [if_neg hn, hn, decide_false, Bool.and_false]
      exact Ev.const rfl
  · simp only [h, decide_false, Bool.false_eq_true, if_false, Bool.false_and, Bool.and_false]
    exact Ev.const rfl

def picks (names : List ByteArray) (r : List Int) : List ByteArray := r.map (rdOf ByteArray.empty names)
def fmtR (names : List ByteArray) (r : List Int) : ByteArray := if areC names = true ∧ rank r names.length = true then jn62 (picks names r) else ⟨#[]⟩
theorem sizes_le (b : Nat) (l : List ByteArray) (h : ∀ x ∈ l, x.size ≤ b) : sizes l ≤ l.length * b := by
  induction l with
  | nil => simp [sizes]
  | cons a t ih =>
    have h1 := h a List.mem_cons_self
    have h2 := ih (fun x hx => h x (List.mem_cons_of_mem _ hx))
    have : sizes (a :: t) = a.size + sizes t := by simp [sizes]
    rw [this, List.length_cons, Nat.succ_mul]
    omega
theorem picks_facts {names : List ByteArray} {r : List Int} (hl : names.length + sizes names ≤ 1048576) (hr : rank r names.length = true) : (picks names r).length = r.length ∧ r.length ≤ 5 ∧ (picks names r).length + sizes (picks names r) ≤ 8388608 ∧ ∀ j (hj : j < r.length), 0 ≤ r[j] ∧ r[j] < (names.length : Int) := by
  have h5 := rank_five hr
  have hlen := rank_len hr
  have hp : (picks names r).length = r.length := by simp [picks]
  have hb := sizes_le 1048576 (picks names r) (by
    intro x hx
    obtain ⟨i, hi, rfl⟩ := List.mem_map.1 hx
    obtain ⟨j, hj, rfl⟩ := List.mem_iff_getElem.1 hi
    have g := rank_get hr j hj
    obtain ⟨n, hn⟩ := Int.eq_ofNat_of_zero_le g.1
    rw [hn, rdOf_nat _ names n (by omega)]
    have := size_get names n (by omega)
    omega)
  have : (picks names r).length * 1048576 ≤ 5 * 1048576 := Nat.mul_le_mul_right _ (by omega)
  exact ⟨hp, by omega, by omega, fun j hj => rank_get hr j hj⟩
theorem picks_get (names : List ByteArray) (r : List Int) (i : Nat) (hi : i < r.length) (hp : i < (picks names r).length) : (picks names r)[i] = rdOf ByteArray.empty names (rd r i) := by
  rw [rd_nat r i hi]
  simp [picks]
theorem spec_FormatRanking_ev (names : List ByteArray) (r : List Int) (hl : names.length + sizes names ≤ 1048576) (hr : r.length ≤ 1048576) : Ev (fun k => spec_FormatRanking.f k names r) (fmtR names r) := by
  unfold spec_FormatRanking.f fmtR
  refine Ev.bind (spec_AreConstraints_ev names (by omega)) ?_
  by_cases hc : areC names = true
  · simp only [hc, if_true, true_and]
    refine Ev.bind (spec_IsRanking_ev r names.length (by omega)) ?_
    by_cases hk : rank r names.length = true
    · obtain ⟨hp, h5, hs, hg⟩ := picks_facts hl hk
      refine Ev.succ ?_
      simp only [hk, Bool.not_true, Bool.false_eq_true, if_false, if_true, spec_FormatRanking.j0]
      have key : ∀ i, i ≤ r.length → Ev (fun k => spec_FormatRanking.l0 k names r (jn62 ((picks names r).take i)) (i : Int)) (jn62 (picks names r)) := by
        refine down_ind ?_ ?_
        · refine Ev.succ ?_
          simp only [spec_FormatRanking.l0, Int.lt_irrefl, if_false]
          exact Ev.const (by rw [List.take_of_length_le (by omega)])
        · intro i hi ih
          have h1 := jn62_take (picks names r) i
          have h2 := size_get (picks names r) i (by omega)
          have hr0 : 0 ≤ rd r i := by rw [rd_nat r i hi]; exact (hg i hi).1
          have hr1 : rd r i < (names.length : Int) := by rw [rd_nat r i hi]; exact (hg i hi).2
          rw [jn62_snoc (picks names r) i (by omega)] at ih
          rw [picks_get names r i hi (by omega)] at ih h2
          refine Ev.succ ?_
          simp only [spec_FormatRanking.l0, if_pos (show (i : Int) < (r.length : Int) by omega), if_pos (show (0 : Int) ≤ i by omega), if_pos hr0, if_pos hr1, wrap_succ (show i ≤ 4611686018427387903 by omega)]
          by_cases h0 : i = 0
          · simp only [if_neg (show ¬ (i : Int) > 0 by omega), if_pos (show (jn62 ((picks names r).take i)).size + (rdOf ByteArray.empty names (rd r i)).size ≤ 9223372036854775807 by omega)]
            rw [if_pos h0] at ih
            exact ih
          · have h3 : (jn62 ((picks names r).take i) ++ (⟨#[62]⟩ : ByteArray)).size = (jn62 ((picks names r).take i)).size + 1 := by rw [ByteArray.size_append]; rfl
            simp only [if_pos (show (i : Int) > 0 by omega), if_pos (show (jn62 ((picks names r).take i)).size + 1 ≤ 9223372036854775807 by omega), if_pos (show (jn62 ((picks names r).take i) ++ (⟨#[62]⟩ : ByteArray)).size + (rdOf ByteArray.empty names (rd r i)).size ≤ 9223372036854775807 by omega)]
            rw [if_neg h0] at ih
            exact ih
      exact key 0 (by omega)
    · refine Ev.succ ?_
      simp only [Bool.not_eq_true] at hk
      simp only [hk, Bool.not_false, Bool.false_eq_true, if_false, if_true, spec_FormatRanking.j0]
      exact Ev.const rfl
  · simp only [hc, Bool.false_eq_true, if_false, false_and]
    refine Ev.succ ?_
    simp only [spec_FormatRanking.j0, if_true]
    exact Ev.const rfl

theorem areC_nodup (l : List ByteArray) (h : areC l = true) : l.Nodup := by
  unfold areC at h
  rw [Bool.and_eq_true] at h
  refine List.pairwise_iff_getElem.2 ?_
  intro i j hi hj hij e
  have := (allFrom_iff _ _ _).1 h.1 j (Nat.zero_le _) hj
  unfold areC1 at this
  rw [getS l j hj, Bool.and_eq_true, Bool.not_eq_true', decide_eq_false_iff_not] at this
  refine this.2 ?_
  rw [← e]
  have hm : i < (l.take j).length := by rw [List.length_take]; omega
  have : (l.take j)[i] = l[i] := by simp
  rw [← this]
  exact List.getElem_mem hm
theorem idxS_get (x : ByteArray) : ∀ (l : List ByteArray) (i : Int), 0 ≤ i → 0 ≤ idxS l x i → ∃ n, ∃ h : n < l.length, idxS l x i = i + n ∧ l[n] = x
  | [], i, _, h => by simp [idxS] at h
  | a :: t, i, h0, h => by
    unfold idxS at h ⊢
    by_cases e : x = a
    · rw [if_pos e]
      exact ⟨0, by simp, by simp, e.symm⟩
    · rw [if_neg e] at h ⊢
      obtain ⟨n, hn, e1, e2⟩ := idxS_get x t (i + 1) (by omega) h
      exact ⟨n + 1, by simpa using hn, by omega, by simpa using e2⟩
theorem idxS_at : ∀ (l : List ByteArray), l.Nodup → ∀ (n : Nat) (h : n < l.length) (i : Int), idxS l l[n] i = i + n
  | [], _, n, h, _ => by simp at h
  | a :: t, hd, 0, h, i => by simp [idxS]
  | a :: t, hd, n + 1, h, i => by
    have hd' := List.nodup_cons.1 hd
    have hn : n < t.length := by simpa using h
    have hne : t[n] ≠ a := fun e => hd'.1 (e ▸ List.getElem_mem hn)
    have := idxS_at t hd'.2 n hn (i + 1)
    simp only [List.getElem_cons_succ]
    unfold idxS
    rw [if_neg hne, this]
    omega
def hitL (q : ByteArray) : List ByteArray → Int → List Int
  | [], _ => []
  | a :: t, i => if a = q then i :: hitL q t (i + 1) else hitL q t (i + 1)
theorem hitL_none (q : ByteArray) : ∀ (l : List ByteArray) (i : Int), q ∉ l → hitL q l i = []
  | [], _, _ => rfl
  | a :: t, i, h => by
    simp only [List.mem_cons, not_or] at h
    unfold hitL
    rw [if_neg (fun e => h.1 e.symm)]
    exact hitL_none q t (i + 1) h.2
theorem hitL_one (q : ByteArray) : ∀ (l : List ByteArray), l.Nodup → ∀ i : Int, 0 ≤ i → hitL q l i = if 0 ≤ idxS l q i then [idxS l q i] else []
  | [], _, i, _ => by simp [hitL, idxS]
  | a :: t, hd, i, hi => by
    have hd' := List.nodup_cons.1 hd
    unfold hitL idxS
    by_cases e : a = q
    · rw [if_pos e, if_pos e.symm, if_pos hi, hitL_none q t (i + 1) (e ▸ hd'.1)]
    · rw [if_neg e, if_neg (show ¬ q = a from fun h => e h.symm)]
      exact hitL_one q t hd'.2 (i + 1) (by omega)
theorem hitL_length (q : ByteArray) : ∀ (l : List ByteArray) (i : Int), (hitL q l i).length ≤ l.length
  | [], _ => Nat.zero_le _
  | a :: t, i => by
    have := hitL_length q t (i + 1)
    unfold hitL
    split <;> simp only [List.length_cons] <;> omega
theorem join_cut (c : UInt8) (l : List UInt8) : ∀ p, Lib.join (cutP c l p) [c] = p ++ l := by
  induction l with
  | nil =>
    intro p
    simp [cutP, Lib.join_one]
  | cons b r ih =>
    intro p
    by_cases hb : b = c
    · simp only [cutP, if_pos hb]
      rw [cutP_acc, Lib.join_cons]
      have := ih []
      rw [cutP_acc, Lib.join_cons] at this
      simp only [List.nil_append] at this ⊢
      simp only [Lib.joinTail, List.map_cons, List.flatten_cons] at this ⊢
      rw [List.append_assoc, this, hb]
      rfl
    · simp only [cutP, if_neg hb]
      rw [ih]
      simp
theorem cut_join (c : UInt8) (t : List (List UInt8)) : (∀ x ∈ t, c ∉ x) → ∀ (a p : List UInt8), c ∉ a → cutP c (a ++ Lib.joinTail [c] t) p = (p ++ a) :: t := by
  induction t with
  | nil =>
    intro _ a
    induction a with
    | nil =>
      intro p _
      simp [Lib.joinTail, cutP]
    | cons b a ih =>
      intro p h
      simp only [List.mem_cons, not_or] at h
      simp only [List.cons_append, cutP, if_neg (fun e : b = c => h.1 e.symm)]
      rw [ih (p ++ [b]) h.2]
      simp
  | cons x t iht =>
    intro ht a
    induction a with
    | nil =>
      intro p _
      have := iht (fun y hy => ht y (List.mem_cons_of_mem _ hy)) x [] (ht x List.mem_cons_self)
      show cutP c (c :: (x ++ Lib.joinTail [c] t)) p = (p ++ []) :: x :: t
      rw [cutP, if_pos rfl, this]
      simp
    | cons b a ih =>
      intro p h
      simp only [List.mem_cons, not_or] at h
      simp only [List.cons_append, cutP, if_neg (fun e : b = c => h.1 e.symm)]
      rw [ih (p ++ [b]) h.2]
      simp
theorem jn62_cut (s : ByteArray) : jn62 (cutS s 62) = s := by
  refine data_inj ?_
  unfold jn62 cutS
  rw [List.map_map, show ((fun b : ByteArray => b.data.toList) ∘ mkB) = id from rfl, List.map_id, join_cut]
  simp
theorem cut_jn62 (P : List ByteArray) (h0 : P ≠ []) (h : ∀ x ∈ P, (62 : UInt8) ∉ x.data.toList) : cutS (jn62 P) 62 = P := by
  cases P with
  | nil => exact absurd rfl h0
  | cons a t =>
    unfold jn62 cutS
    simp only [List.map_cons, List.toList_toArray]
    rw [Lib.join_cons, cut_join 62 _ (by
      intro x hx
      obtain ⟨y, hy, rfl⟩ := List.mem_map.1 hx
      exact h y (List.mem_cons_of_mem _ hy)) _ _ (h a List.mem_cons_self)]
    simp only [List.nil_append, List.map_cons, mkB_data, List.map_map]
    congr 1
    rw [show (mkB ∘ fun b : ByteArray => b.data.toList) = id from funext mkB_data, List.map_id]
theorem cnames_no62 : ∀ x ∈ cnames, (62 : UInt8) ∉ x.data.toList := by decide
theorem cnames_empty : (⟨#[]⟩ : ByteArray) ∉ cnames := by decide
def prS (N : List ByteArray) (s : ByteArray) (O : List Int) : List Int × Bool := if fmtR N O = s then (if s.toList = [] then ([], false) else (O, true)) else ([], false)
def prI (N : List ByteArray) (I : List Int) : List Int × Bool := if areC N = true ∧ rank I N.length = true then (I, true) else ([], false)
theorem flat_hits (N : List ByteArray) (hd : N.Nodup) : ∀ Q : List ByteArray, (∀ q ∈ Q, 0 ≤ idxS N q 0) → (Q.flatMap fun q => hitL q N 0) = Q.map fun q => idxS N q 0
  | [], _ => rfl
  | q :: Q, h => by
    rw [List.flatMap_cons, List.map_cons, hitL_one q N hd 0 (Int.le_refl _), if_pos (h q List.mem_cons_self), flat_hits N hd Q (fun y hy => h y (List.mem_cons_of_mem _ hy))]
    rfl
theorem rank_ge {r : List Int} {n : Int} (h : rank r n = true) : ∀ x ∈ r, 0 ≤ x ∧ x < n := by
  intro x hx
  obtain ⟨j, hj, rfl⟩ := List.getElem_of_mem hx
  exact rank_get h j hj
theorem idx_pick (N : List ByteArray) (q : ByteArray) (h : 0 ≤ idxS N q 0) : rdOf ByteArray.empty N (idxS N q 0) = q := by
  obtain ⟨n, hn, e1, e2⟩ := idxS_get q N 0 (Int.le_refl _) h
  rw [e1, Int.zero_add, rdOf_nat _ N n hn, e2]
theorem pick_idx (N : List ByteArray) (hd : N.Nodup) (o : Int) (h : 0 ≤ o ∧ o < (N.length : Int)) : rdOf ByteArray.empty N o ∈ N ∧ idxS N (rdOf ByteArray.empty N o) 0 = o := by
  obtain ⟨n, rfl⟩ := Int.eq_ofNat_of_zero_le h.1
  have hn : n < N.length := by omega
  rw [rdOf_nat _ N n hn]
  exact ⟨List.getElem_mem hn, by rw [idxS_at N hd n hn 0]; omega⟩
theorem pr_same (N : List ByteArray) (s : ByteArray) (hN : areC N = true) : prS N s ((cutS s 62).flatMap fun q => hitL q N 0) = prI N ((cutS s 62).map fun q => idxS N q 0) := by
  have hd := areC_nodup N hN
  have hin := areC_in N hN
  unfold prI
  by_cases hr : rank ((cutS s 62).map fun q => idxS N q 0) N.length = true
  · have hge : ∀ q ∈ cutS s 62, 0 ≤ idxS N q 0 := fun q hq => (rank_ge hr _ (List.mem_map.2 ⟨q, hq, rfl⟩)).1
    rw [if_pos ⟨hN, hr⟩, flat_hits N hd _ hge]
    unfold prS
    have hfm : fmtR N ((cutS s 62).map fun q => idxS N q 0) = jn62 (picks N ((cutS s 62).map fun q => idxS N q 0)) := if_pos ⟨hN, hr⟩
    have hp : picks N ((cutS s 62).map fun q => idxS N q 0) = cutS s 62 := by
      unfold picks
      rw [List.map_map]
      refine (List.map_congr_left (g := id) ?_).trans (List.map_id _)
      intro q hq
      exact idx_pick N q (hge q hq)
    rw [hfm, hp, jn62_cut, if_pos rfl, if_neg]
    intro e
    have e2 : s = ⟨#[]⟩ := by
      rw [Go.Lib.toList_data] at e
      exact data_inj e
    subst e2
    have h1 := hge ⟨#[]⟩ (by simp [cutS, cutP, mkB])
    exact cnames_empty (hin.2 _ ((idxS_mem _ N 0 (Int.le_refl _)).1 h1))
  · rw [if_neg (fun e => hr e.2)]
    generalize hO : ((cutS s 62).flatMap fun q => hitL q N 0) = O
    unfold prS
    by_cases hf : fmtR N O = s
    · rw [if_pos hf]
      by_cases hs : s.toList = []
      · rw [if_pos hs]
      · exfalso
        unfold fmtR at hf
        by_cases hk : rank O N.length = true
        · rw [if_pos ⟨hN, hk⟩] at hf
          have hlen := rank_len hk
          have h1 := (areC_in N hN).1
          have hpos : 1 ≤ N.length := by
            unfold areC at hN
            rw [Bool.and_eq_true, decide_eq_true_eq] at hN
            exact hN.2.1
          have hg := rank_ge hk
          have hc := cut_jn62 (picks N O) (by
            intro e
            have : (picks N O).length = O.length := by simp [picks]
            rw [e] at this
            simp at this
            omega) (by
            intro x hx
            obtain ⟨o, ho, rfl⟩ := List.mem_map.1 hx
            exact cnames_no62 _ (hin.2 _ (pick_idx N hd o (hg o ho)).1))
          rw [hf] at hc
          refine hr ?_
          rw [hc]
          unfold picks
          rw [List.map_map, (List.map_congr_left (f := (fun q => idxS N q 0) ∘ rdOf ByteArray.empty N) (g := id) (fun o ho => (pick_idx N hd o (hg o ho)).2)).trans (List.map_id _)]
          exact hk
        · rw [if_neg (fun e => hk e.2)] at hf
          refine hs ?_
          exact toList_nil.2 (by rw [← hf]; rfl)
    · rw [if_neg hf]
theorem prI_small (N : List ByteArray) (s : ByteArray) (h : s.size > 100) : prI N ((cutS s 62).map fun q => idxS N q 0) = ([], false) := by
  unfold prI
  refine if_neg ?_
  rintro ⟨hN, hr⟩
  have hin := areC_in N hN
  have hge : ∀ q ∈ cutS s 62, q ∈ cnames := fun q hq => hin.2 _ ((idxS_mem _ N 0 (Int.le_refl _)).1 (rank_ge hr _ (List.mem_map.2 ⟨q, hq, rfl⟩)).1)
  have h1 := sum_small (cutS s 62) 7 (fun x hx => cnames_small x (hge x hx))
  have h2 := cutS_sizes s 62
  have h3 := rank_len hr
  rw [List.length_map] at h3
  omega
theorem impl_ParseRanking_ev (N : List ByteArray) (s : ByteArray) (hn : N.length ≤ 1048576) (hs : s.size ≤ 1048576) : Ev (fun k => impl_ParseRanking.f k N s) (prI N ((cutS s 62).map fun q => idxS N q 0)) := by
  unfold impl_ParseRanking.f strings_Split.f
  have hl := cutS_length s 62
  simp only [splitB_cut, if_pos (show s.size ≤ 1048576 ∧ 1 ≤ (⟨#[62]⟩ : ByteArray).size from ⟨hs, by decide⟩), Option.bind_some]
  generalize cutS s 62 = Q at hl ⊢
  have key : ∀ j, j ≤ Q.length → ∀ acc : List Int, acc.length ≤ j → Ev (fun k => impl_ParseRanking.l0 k N acc Q (Q.length : Int) (j : Int)) (prI N (acc ++ (Q.drop j).map fun q => idxS N q 0)) := by
    refine down_ind ?_ ?_
    · intro acc ha
      refine Ev.succ ?_
      simp only [impl_ParseRanking.l0, Int.lt_irrefl, if_false]
      rw [List.drop_of_length_le (Nat.le_refl _), List.map_nil, List.append_nil]
      refine Ev.bind (impl_AreConstraints_ev N hn) ?_
      unfold prI
      by_cases hN : areC N = true
      · simp only [hN, if_true, true_and]
        refine Ev.bind (impl_IsRanking_ev acc N.length (by omega)) ?_
        by_cases hr : rank acc N.length = true
        · simp only [hr, if_true]
          exact Ev.const rfl
        · simp only [hr, if_false, Bool.false_eq_true]
          exact Ev.const rfl
      · simp only [hN, if_false, Bool.false_eq_true, false_and]
        exact Ev.const rfl
    · intro j hj ih acc ha
      refine Ev.succ ?_
      simp only [impl_ParseRanking.l0, if_pos (show (j : Int) < (Q.length : Int) by omega), if_pos (show (0 : Int) ≤ j by omega), rdOf_nat _ Q j hj, wrap_succ (show j ≤ 4611686018427387903 by omega), if_pos (show acc.length < 17592186044416 by omega)]
      refine Ev.bind (slices_Index_string_ev N Q[j] hn) ?_
      rw [drop_cons Q j hj, List.map_cons]
      refine Ev.cast (ih (acc ++ [idxS N Q[j] 0]) (by simp; omega)) ?_
      simp
  exact key 0 (by omega) [] (Nat.zero_le _)
theorem spec_ParseRanking_ev (N : List ByteArray) (s : ByteArray) (hn : N.length + sizes N ≤ 1048576) : Ev (fun k => spec_ParseRanking.f k N s) (prI N ((cutS s 62).map fun q => idxS N q 0)) := by
  unfold spec_ParseRanking.f
  simp only [Option.bind_some]
  refine Ev.bind (spec_AreConstraints_ev N (by omega)) ?_
  by_cases hN : areC N = true
  · simp only [hN, if_true]
    refine Ev.succ ?_
    simp only [spec_ParseRanking.j0]
    by_cases hs : (s.size : Int) > 100
    · simp only [decide_eq_true hs, if_true]
      exact Ev.const (by rw [prI_small N s (by omega)])
    · simp only [decide_eq_false hs, Bool.false_eq_true, if_false]
      refine Ev.bind (spec_l10Cut_ev s 62 (by omega)) ?_
      rw [← pr_same N s hN]
      have hl := cutS_length s 62
      have h5 := (areC_in N hN).1
      generalize cutS s 62 = Q at hl ⊢
      have key : ∀ j, j ≤ Q.length → ∀ acc : List Int, acc.length ≤ 5 * j → Ev (fun k => spec_ParseRanking.l0 k N s acc Q (j : Int)) (prS N s (acc ++ (Q.drop j).flatMap fun q => hitL q N 0)) := by
        refine down_ind ?_ ?_
        · intro acc ha
          refine Ev.succ ?_
          simp only [spec_ParseRanking.l0, Int.lt_irrefl, if_false, toList_inj]
          rw [List.drop_of_length_le (Nat.le_refl _), List.flatMap_nil, List.append_nil]
          refine Ev.bind (spec_FormatRanking_ev N acc hn (by omega)) ?_
          unfold prS
          by_cases hf : fmtR N acc = s
          · simp only [if_pos hf]
            by_cases he : s.toList = []
            · simp only [if_pos he]
              exact Ev.const rfl
            · simp only [if_neg he]
              exact Ev.const rfl
          · simp only [if_neg hf]
            exact Ev.const rfl
        · intro j hj ih acc ha
          refine Ev.succ ?_
          simp only [spec_ParseRanking.l0, if_pos (show (j : Int) < (Q.length : Int) by omega)]
          rw [drop_cons Q j hj, List.flatMap_cons]
          have inner : ∀ i, i ≤ N.length → ∀ acc : List Int, acc.length ≤ 5 * j + i → Ev (fun k => spec_ParseRanking.l1 k N s acc Q (j : Int) (i : Int)) (prS N s (acc ++ (hitL Q[j] (N.drop i) i ++ (Q.drop (j + 1)).flatMap fun q => hitL q N 0))) := by
            refine down_ind ?_ ?_
            · intro acc ha
              refine Ev.succ ?_
              simp only [spec_ParseRanking.l1, Int.lt_irrefl, if_false, wrap_succ (show j ≤ 4611686018427387903 by omega)]
              rw [List.drop_of_length_le (Nat.le_refl _)]
              exact ih acc (by omega)
            · intro i hi ih2 acc ha
              refine Ev.succ ?_
              simp only [spec_ParseRanking.l1, if_pos (show (i : Int) < (N.length : Int) by omega), if_pos (show (0 : Int) ≤ i by omega), if_pos (show (j : Int) < (Q.length : Int) by omega), if_pos (show (0 : Int) ≤ j by omega), rdOf_nat _ Q j hj, rdOf_nat _ N i hi, toList_inj, wrap_succ (show i ≤ 4611686018427387903 by omega), if_pos (show acc.length < 17592186044416 by omega)]
              rw [drop_cons N i hi]
              by_cases he : N[i] = Q[j]
              · simp only [if_pos he, hitL]
                refine Ev.cast (ih2 (acc ++ [(i : Int)]) (by simp; omega)) ?_
                simp
              · simp only [if_neg he, hitL]
                exact ih2 acc (by omega)
          exact inner 0 (by omega) acc (by omega)
      exact key 0 (by omega) [] (Nat.zero_le _)
  · simp only [hN, Bool.false_eq_true, if_false]
    refine Ev.succ ?_
    simp only [spec_ParseRanking.j0, if_true]
    exact Ev.const (by simp [prI, hN])
theorem prI_length (N : List ByteArray) (I : List Int) : (prI N I).1.length ≤ 5 := by
  unfold prI
  split
  · rename_i h
    have h1 := rank_len h.2
    have h2 := rank_five h.2
    show I.length ≤ 5
    omega
  · exact Nat.zero_le _

theorem laws_toStringS_ev (l : List ByteArray) (hl : l.length ≤ 1048576) : Ev (fun k => laws_toStringS.f k l) l := by
  unfold laws_toStringS.f
  simp only [if_pos (show (0 : Int) ≤ (l.length : Int) by omega), Int.toNat_natCast, if_pos (show l.length ≤ 17592186044416 by omega)]
  have key : ∀ i, i ≤ l.length → Ev (fun k => laws_toStringS.l0 k l (l.take i ++ List.replicate (l.length - i) (⟨#[]⟩ : ByteArray)) (i : Int)) l := by
    refine down_ind ?_ ?_
    · refine Ev.succ ?_
      simp only [laws_toStringS.l0, Int.lt_irrefl, if_false]
      exact Ev.const (by simp)
    · intro i hi ih
      refine Ev.succ ?_
      have hlen : (l.take i ++ List.replicate (l.length - i) (⟨#[]⟩ : ByteArray)).length = l.length := by simp; omega
      simp only [laws_toStringS.l0, hlen, if_pos (show (i : Int) < (l.length : Int) by omega), if_pos (show (0 : Int) ≤ i by omega), rdOf_nat _ l i hi, Int.toNat_natCast, set_fill l _ i hi, wrap_succ (show i ≤ 4611686018427387903 by omega)]
      exact ih
  have := key 0 (by omega)
  simpa using this

theorem laws_eqStringS_ev (a : List ByteArray) (hl : a.length ≤ 1048576) : Ev (fun k => laws_eqStringS.f k a a) true := by
  unfold laws_eqStringS.f
  simp only [if_true]
  have key : ∀ i, i ≤ a.length → Ev (fun k => laws_eqStringS.l0 k a a (i : Int)) true := by
    refine down_ind ?_ ?_
    · refine Ev.succ ?_
      simp only [laws_eqStringS.l0, Int.lt_irrefl, if_false]
      exact Ev.const rfl
    · intro i hi ih
      refine Ev.succ ?_
      simp only [laws_eqStringS.l0, if_pos (show (i : Int) < (a.length : Int) by omega), if_pos (show (0 : Int) ≤ i by omega), if_true, wrap_succ (show i ≤ 4611686018427387903 by omega)]
      exact ih
  exact key 0 (by omega)

end Go.Proofs.YtlmfpkiaikjlbaaDoor.Pure
