/- Plain lemmas on lists, numbers and rounds, of no program. -/
import Derived.Test.YtlmfpkiaikjlbaaDoorWWords
import Derived.Test.YtlmfpkiaikjlbaaDoorWNEv
import Derived.Test.YtlmfpkiaikjlbaaDoorWMore
import Derived.Test.YtlmfpkiaikjlbaaDoorOpen
import Derived.Lib.Strings
import Derived.Lib.Bytealg
namespace Go.Proofs.YtlmfpkiaikjlbaaDoorB
open Go.RowKit Go.Proofs.YtlmfpkiaikjlbaaDoorW.PrintWords Go.Proofs.YtlmfpkiaikjlbaaDoorW.PrintLast Go.Proofs.YtlmfpkiaikjlbaaDoorW.PrintMore
set_option linter.unusedVariables false
set_option linter.unusedSimpArgs false

/-! ### rounds -/
theorem Ev.succ {α : Type} {g : Nat → Option α} {r : α} (h : Ev (fun k => g (k + 1)) r) : Ev g r := Ev.step (fun _ => rfl) h
theorem Ev.const {α : Type} {o : Option α} {r : α} (h : o = some r) : Ev (fun _ => o) r := ⟨0, fun _ _ => h⟩
theorem Ev.at_ {α : Type} {g : Nat → Option α} {r : α} (hg : ∀ k, LeO (g k) (g (k + 1))) (k : Nat) (h : g k = some r) : Ev g r := Ev.of hg h
theorem Ev.cast {α : Type} {g : Nat → Option α} {r r' : α} (h : Ev g r) (e : r = r') : Ev g r' := e ▸ h
theorem Ev.inj {α : Type} {g : Nat → Option α} {r r' : α} (h : Ev g r) (h' : Ev g r') : r = r' := by
  obtain ⟨K, h⟩ := h
  obtain ⟨K', h'⟩ := h'
  have a := h (max K K') (Nat.le_max_left _ _)
  have b := h' (max K K') (Nat.le_max_right _ _)
  exact Option.some.inj (a.symm.trans b)
theorem down_ind {n : Nat} {P : Nat → Prop} (h0 : P n) (hs : ∀ i, i < n → P (i + 1) → P i) : ∀ i, i ≤ n → P i := by
  intro i hi
  obtain ⟨d, rfl⟩ : ∃ d, n = i + d := ⟨n - i, by omega⟩
  clear hi
  induction d generalizing i with
  | zero => exact h0
  | succ d ih => exact hs i (by omega) (ih (i + 1) (by rw [show i + 1 + d = i + (d + 1) by omega]; exact h0) (fun j hj => hs j (by omega)))

/-! ### numbers -/
theorem wrap_nat {n : Nat} (h : n ≤ 4611686018427387904) : wrap64 (n : Int) = n := by unfold wrap64; omega
theorem wrap_in {x : Int} (h0 : -4611686018427387904 ≤ x) (h1 : x ≤ 4611686018427387904) : wrap64 x = x := by unfold wrap64; omega
theorem wrap_succ {i : Nat} (h : i ≤ 4611686018427387903) : wrap64 ((i : Int) + 1) = ((i + 1 : Nat) : Int) := by unfold wrap64; omega

/-! ### reading -/
theorem rd_nat (xs : List Int) (i : Nat) (h : i < xs.length) : rd xs (i : Int) = xs[i] := by simp [rd, h]
theorem rdOf_nat {α : Type} (d : α) (xs : List α) (i : Nat) (h : i < xs.length) : rdOf d xs (i : Int) = xs[i] := by simp [rdOf, h]
theorem drop_cons {α : Type} (xs : List α) (i : Nat) (h : i < xs.length) : xs.drop i = xs[i] :: xs.drop (i + 1) := List.drop_eq_getElem_cons h
theorem take_snoc {α : Type} (xs : List α) (i : Nat) (h : i < xs.length) : xs.take (i + 1) = xs.take i ++ [xs[i]] := List.take_succ_eq_append_getElem h

/-! ### strings -/
/-- A string's bytes, as numbers. -/
abbrev B (s : ByteArray) : List Int := bytesOf s
theorem B_length (s : ByteArray) : (B s).length = s.size := by simp [bytesOf]
theorem size_B (s : ByteArray) : s.size = (B s).length := (B_length s).symm
theorem bt_nat (s : ByteArray) (i : Nat) (h : i < (B s).length) : bt s (i : Int) = (B s)[i] := by
  have h' : i < s.size := by rw [← B_length]; exact h
  simp [bt, h', bytesOf, ByteArray.getElem_eq_getElem_data]
theorem B_range (s : ByteArray) : ∀ c ∈ B s, 0 ≤ c ∧ c < 256 := by
  intro c hc
  simp only [B, bytesOf, List.mem_map] at hc
  obtain ⟨b, _, rfl⟩ := hc
  have := b.toNat_lt
  omega
theorem B_get_range (s : ByteArray) (i : Nat) (h : i < (B s).length) : 0 ≤ (B s)[i] ∧ (B s)[i] < 256 := B_range s _ (List.getElem_mem h)
theorem bt_range (s : ByteArray) (i : Int) : 0 ≤ bt s i ∧ bt s i < 256 := by
  unfold bt
  split
  · have := (s[i.toNat]).toNat_lt
    omega
  · omega
theorem map_inj_of {α β : Type} {f : α → β} (hf : ∀ x y, f x = f y → x = y) : ∀ {l m : List α}, l.map f = m.map f → l = m
  | [], [], _ => rfl
  | [], _ :: _, h => by simp at h
  | _ :: _, [], h => by simp at h
  | a :: l, b :: m, h => by
    simp only [List.map_cons, List.cons.injEq] at h
    rw [hf _ _ h.1, map_inj_of hf h.2]
theorem data_inj {a b : ByteArray} (h : a.data.toList = b.data.toList) : a = b := by
  cases a
  cases b
  simpa using h
theorem B_inj {a b : ByteArray} (h : B a = B b) : a = b := by
  refine data_inj (map_inj_of (f := fun b : UInt8 => (b.toNat : Int)) ?_ h)
  intro x y e
  exact UInt8.toNat_inj.1 (by omega)
theorem toList_inj {a b : ByteArray} : a.toList = b.toList ↔ a = b := by
  rw [Go.Lib.toList_data, Go.Lib.toList_data]
  exact ⟨data_inj, fun h => h ▸ rfl⟩
instance : LawfulBEq ByteArray where
  eq_of_beq {a b} h := by
    have h' : (a.data == b.data) = true := h
    cases a
    cases b
    simpa using h'
  rfl {a} := by
    show (a.data == a.data) = true
    simp
theorem toList_nil {a : ByteArray} : a.toList = [] ↔ B a = [] := by
  rw [Go.Lib.toList_data]
  simp [bytesOf]
theorem B_append (a b : ByteArray) : B (a ++ b) = B a ++ B b := by simp [bytesOf]
theorem B_empty : B ByteArray.empty = [] := rfl
theorem B_mk (l : List UInt8) : B ⟨l.toArray⟩ = l.map fun b => (b.toNat : Int) := by simp [bytesOf]
theorem B_extract (s : ByteArray) (i j : Nat) : B (s.extract i j) = ((B s).take j).drop i := by
  simp only [B, bytesOf]
  rw [Go.Lib.extract_data]
  simp only [List.map_take, List.map_drop]
  rw [List.drop_take]
/-! ### lists -/
theorem set_fill {α : Type} (l : List α) (z : α) (i : Nat) (h : i < l.length) : (l.take i ++ List.replicate (l.length - i) z).set i l[i] = l.take (i + 1) ++ List.replicate (l.length - (i + 1)) z := by
  have hl : (l.take i).length = i := by rw [List.length_take]; omega
  rw [List.set_append, if_neg (by omega), hl, Nat.sub_self]
  obtain ⟨d, hd⟩ : ∃ d, l.length - i = d + 1 := ⟨l.length - i - 1, by omega⟩
  rw [hd, List.replicate_succ, List.set_cons_zero, take_snoc l i h, show l.length - (i + 1) = d by omega, List.append_assoc]
  rfl
/-- m, m + 1, .. -/
def idxs (m : Int) : Nat → List Int
  | 0 => []
  | n + 1 => m :: idxs (m + 1) n
theorem idxs_length (m : Int) (n : Nat) : (idxs m n).length = n := by
  induction n generalizing m with
  | zero => rfl
  | succ n ih => simp [idxs, ih]
theorem idxs_snoc (m : Int) (n : Nat) : idxs m (n + 1) = idxs m n ++ [m + n] := by
  induction n generalizing m with
  | zero => simp [idxs]
  | succ n ih =>
    rw [idxs, ih, idxs]
    simp
    omega
theorem idxs_get (m : Int) (n i : Nat) (h : i < (idxs m n).length) : (idxs m n)[i] = m + i := by
  induction n generalizing m i with
  | zero => simp [idxs] at h
  | succ n ih =>
    cases i with
    | zero => simp [idxs]
    | succ i =>
      simp only [idxs, List.getElem_cons_succ]
      rw [ih]
      omega
theorem bne_iff_decide (a b : Int) : (a != b) = !decide (a = b) := by
  by_cases h : a = b <;> simp [h]
theorem decide_and (p q : Prop) [Decidable p] [Decidable q] : decide (p ∧ q) = (decide p && decide q) := by simp
/-! ### places of a list -/
def befA (l : List Int) (i : Nat) : Int := if i = 0 then 0 else l.getD (i - 1) 0
def behA (l : List Int) (i : Nat) : Int := l.getD (i + 1) 0
/-- how many places from i on p holds of: what is before, what is there, what is behind -/
def plc (p : Int → Int → Int → Bool) (l : List Int) (i : Nat) : Nat := (List.range' i (l.length - i)).countP fun j => p (befA l j) (l.getD j 0) (behA l j)
theorem plc_end (p : Int → Int → Int → Bool) (l : List Int) {i : Nat} (h : l.length ≤ i) : plc p l i = 0 := by simp [plc, show l.length - i = 0 by omega]
theorem plc_step (p : Int → Int → Int → Bool) (l : List Int) (i : Nat) (h : i < l.length) : plc p l i = (if p (befA l i) l[i] (behA l i) then 1 else 0) + plc p l (i + 1) := by
  unfold plc
  obtain ⟨d, hd⟩ : ∃ d, l.length - i = d + 1 := ⟨l.length - i - 1, by omega⟩
  rw [hd, List.range'_succ, List.countP_cons, show l.length - (i + 1) = d by omega]
  simp only [List.getD_eq_getElem?_getD, List.getElem?_eq_getElem h, Option.getD_some]
  omega
theorem plc_congr (p q : Int → Int → Int → Bool) (l : List Int) (i : Nat) (h : ∀ j (hj : j < l.length), i ≤ j → p (befA l j) l[j] (behA l j) = q (befA l j) l[j] (behA l j)) : plc p l i = plc q l i := by
  unfold plc
  refine List.countP_congr fun j hj => ?_
  rw [List.mem_range'_1] at hj
  have hj' : j < l.length := by omega
  have := h j hj' hj.1
  simp only [List.getD_eq_getElem?_getD, List.getElem?_eq_getElem hj', Option.getD_some]
  rw [this]
theorem plc_le (p : Int → Int → Int → Bool) (l : List Int) (i : Nat) : plc p l i ≤ l.length - i := by
  unfold plc
  refine Nat.le_trans List.countP_le_length ?_
  simp
theorem befA_pos (l : List Int) (i : Nat) (h0 : i ≠ 0) (h : i < l.length) : befA l i = l[i - 1]'(by omega) := by simp [befA, h0, show i - 1 < l.length by omega]
theorem behA_in (l : List Int) (i : Nat) (h : i + 1 < l.length) : behA l i = l[i + 1] := by simp [behA, h]
theorem behA_out (l : List Int) (i : Nat) (h : ¬ i + 1 < l.length) : behA l i = 0 := by simp [behA, h]
theorem set_fill2 {α β : Type} (l : List α) (g : α → β) (z : β) (i : Nat) (h : i < l.length) : ((l.take i).map g ++ List.replicate (l.length - i) z).set i (g l[i]) = (l.take (i + 1)).map g ++ List.replicate (l.length - (i + 1)) z := by
  have := set_fill (l.map g) z i (by rw [List.length_map]; exact h)
  simpa [List.map_take] using this
theorem bd_get {α : Type} {b : Nat} {p : α → Prop} {l : List α} (h : BdSlice b p l) (i : Nat) (hi : i < l.length) : p l[i] := h.2 _ (List.getElem_mem hi)
/-! ### all places from one on -/
def allFrom (p : Nat → Bool) (n i : Nat) : Bool := (List.range' i (n - i)).all p
theorem allFrom_end (p : Nat → Bool) {n i : Nat} (h : n ≤ i) : allFrom p n i = true := by simp [allFrom, show n - i = 0 by omega]
theorem allFrom_step (p : Nat → Bool) {n i : Nat} (h : i < n) : allFrom p n i = (p i && allFrom p n (i + 1)) := by
  unfold allFrom
  obtain ⟨d, hd⟩ : ∃ d, n - i = d + 1 := ⟨n - i - 1, by omega⟩
  rw [hd, List.range'_succ, List.all_cons, show n - (i + 1) = d by omega]
theorem allFrom_iff (p : Nat → Bool) (n i : Nat) : allFrom p n i = true ↔ ∀ j, i ≤ j → j < n → p j = true := by
  unfold allFrom
  rw [List.all_eq_true]
  constructor
  · intro h j h1 h2
    exact h j (by rw [List.mem_range'_1]; omega)
  · intro h j hj
    rw [List.mem_range'_1] at hj
    exact h j hj.1 (by omega)
/-- where a text stands first, counted from i on; or -1 -/
def idxS : List ByteArray → ByteArray → Int → Int
  | [], _, _ => -1
  | a :: l, x, i => if x = a then i else idxS l x (i + 1)
theorem idxS_take (x : ByteArray) : ∀ (l : List ByteArray) (n : Nat) (i : Int), 0 ≤ i → ((i ≤ idxS l x i ∧ idxS l x i < i + n) ↔ x ∈ l.take n)
  | [], n, i, h => by
    simp [idxS]
    omega
  | a :: l, 0, i, h => by
    simp only [List.take_zero, List.not_mem_nil, iff_false]
    omega
  | a :: l, n + 1, i, h => by
    rw [List.take_succ_cons, List.mem_cons]
    unfold idxS
    by_cases hx : x = a
    · rw [if_pos hx]
      simp only [hx, true_or, iff_true]
      omega
    · rw [if_neg hx]
      simp only [hx, false_or]
      rw [← idxS_take x l n (i + 1) (by omega)]
      have hge : idxS l x (i + 1) = -1 ∨ i + 1 ≤ idxS l x (i + 1) := by
        generalize i + 1 = j
        clear hx h
        induction l generalizing j with
        | nil => exact .inl rfl
        | cons b l ih =>
          unfold idxS
          split
          · exact .inr (Int.le_refl _)
          · rcases ih (j + 1) with h | h
            · exact .inl h
            · exact .inr (by omega)
      omega
theorem idxS_mem (x : ByteArray) (l : List ByteArray) (i : Int) (h : 0 ≤ i) : 0 ≤ idxS l x i ↔ x ∈ l := by
  induction l generalizing i with
  | nil => simp [idxS]
  | cons a l ih =>
    rw [List.mem_cons]
    unfold idxS
    by_cases hx : x = a
    · rw [if_pos hx]
      simp only [hx, true_or, iff_true]
      exact h
    · rw [if_neg hx]
      simp only [hx, false_or]
      exact ih (i + 1) (by omega)
end Go.Proofs.YtlmfpkiaikjlbaaDoorB
