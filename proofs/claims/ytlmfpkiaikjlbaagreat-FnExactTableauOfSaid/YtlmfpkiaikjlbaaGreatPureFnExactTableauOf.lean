/- The pure statement of the law FnExactTableauOf: for all arguments within bounds its printed function answers true. -/
import Derived.Test.YtlmfpkiaikjlbaaGreatPFnExactTableauOfx
import Derived.Test.YtlmfpkiaikjlbaaGreatUFnExactTableauOf
import Derived.Test.YtlmfpkiaikjlbaaGreatPureFnExactTableauOfb
namespace Go.Proofs.YtlmfpkiaikjlbaaGreat.Pure
open Go.RowKit Go.Proofs.YtlmfpkiaikjlbaaGreatB Go.Proofs.YtlmfpkiaikjlbaaGreat.PFnExactTableauOf Go.Proofs.YtlmfpkiaikjlbaaGreatW.PrintWords Go.Proofs.YtlmfpkiaikjlbaaGreatW.PrintLast Go.Proofs.YtlmfpkiaikjlbaaGreatW.PrintMore
set_option linter.unusedVariables false
set_option linter.unusedSimpArgs false

def sizes (l : List ByteArray) : Nat := (l.map ByteArray.size).sum
theorem laws_szStringS_ev (l : List ByteArray) (n : Nat) (hn : n ≤ 1048576) (hl : BdSlice 16 BdStr l) : Ev (fun k => laws_szStringS.f k l n) (if l.length + sizes l ≤ n then ((n - (l.length + sizes l) : Nat) : Int) else -1) := by
 have hl' : l.length ≤ 140737488351232 := by have := hl.1; omega
 unfold laws_szStringS.f
 rw [wrap_in (by omega) (by omega)]
 by_cases h : l.length ≤ n
 · rw [show ((n : Int) - (l.length : Int)) = ((n - l.length : Nat) : Int) by omega]
   simp only [if_neg (show ¬ ((n - l.length : Nat) : Int) < 0 by omega)]
   have key : ∀ i, i ≤ l.length → ∀ m : Nat, m ≤ n → Ev (fun k => laws_szStringS.l0 k l (m : Int) (i : Int)) (if sizes (l.drop i) ≤ m then ((m - sizes (l.drop i) : Nat) : Int) else -1) := by
    refine down_ind ?_ ?_
    · intro m hm
      refine Ev.succ ?_
      simp only [laws_szStringS.l0, Int.lt_irrefl, if_false]
      exact Ev.const (by simp [sizes])
    · intro i hi ih m hm
      have hb : l[i].size ≤ 140737488351232 := bd_get hl i hi
      refine Ev.succ ?_
      simp only [laws_szStringS.l0, if_pos (show (i : Int) < (l.length : Int) by omega), if_pos (show (0 : Int) ≤ i by omega), rdOf_nat _ l i hi, wrap_in (show -4611686018427387904 ≤ (m : Int) - (l[i].size : Int) by omega) (show (m : Int) - (l[i].size : Int) ≤ 4611686018427387904 by omega), wrap_succ (show i ≤ 4611686018427387903 by omega)]
      have hd : sizes (l.drop i) = l[i].size + sizes (l.drop (i + 1)) := by rw [drop_cons l i hi]; rfl
      rw [hd]
      by_cases hs : l[i].size ≤ m
      · simp only [if_neg (show ¬ (m : Int) - (l[i].size : Int) < 0 by omega), show (m : Int) - (l[i].size : Int) = ((m - l[i].size : Nat) : Int) by omega]
        refine Ev.cast (ih (m - l[i].size) (by omega)) ?_
        by_cases h2 : sizes (l.drop (i + 1)) ≤ m - l[i].size
        · rw [if_pos h2, if_pos (by omega)]
          congr 1
          omega
        · rw [if_neg h2, if_neg (by omega)]
      · simp only [if_pos (show (m : Int) - (l[i].size : Int) < 0 by omega)]
        exact Ev.const (by rw [if_neg (by omega)])
   refine Ev.cast (key 0 (by omega) (n - l.length) (by omega)) ?_
   simp only [List.drop_zero]
   by_cases h2 : sizes l ≤ n - l.length
   · rw [if_pos h2, if_pos (by omega)]
     congr 1
     omega
   · rw [if_neg h2, if_neg (by omega)]
 · simp only [if_pos (show ((n : Int) - (l.length : Int)) < 0 by omega)]
   exact Ev.const (by rw [if_neg (by omega)])

theorem size_append (a b : ByteArray) : (a ++ b).size = a.size + b.size := by
 rw [← B_length, ← B_length, ← B_length, B_append, List.length_append]
theorem laws_markText_some (m : Int) (h0 : 0 ≤ m) (h1 : m ≤ 4398046511104) : ∃ s, Ev (fun k => laws_markText.f k m) s := by
 unfold laws_markText.f
 by_cases hm : m ≤ 0
 · simp only [if_pos hm]
   exact ⟨_, Ev.const rfl⟩
 · simp only [if_neg hm]
   obtain ⟨n, rfl⟩ := Int.eq_ofNat_of_zero_le h0
   have key : ∀ (n : Nat) (x : ByteArray), x.size + n ≤ 8796093022208 → ∃ s, Ev (fun k => laws_markText.l0 k (n : Int) x) s := by
    intro n
    induction n using Nat.strongRecOn with
    | _ n ih =>
     intro x hx
     by_cases hn : n = 0
     · subst hn
       refine ⟨(⟨#[109]⟩ : ByteArray) ++ x, Ev.succ ?_⟩
       simp only [laws_markText.l0, if_neg (show ¬ ((0 : Nat) : Int) > 0 by omega), if_pos (show 1 + x.size ≤ 9223372036854775807 by omega)]
       exact Ev.const rfl
     · have hs : ∀ d : Int, (strOfNums [d]).size = 1 := fun d => rfl
       obtain ⟨s, hs'⟩ := ih (n / 10) (by omega) (strOfNums [wrap64 (48 + Int.tmod (n : Int) 10) % 256] ++ x) (by rw [size_append, hs]; omega)
       refine ⟨s, Ev.succ ?_⟩
       have hd : wrap64 (Int.tdiv (n : Int) 10) = ((n / 10 : Nat) : Int) := by
        rw [show Int.tdiv (n : Int) 10 = ((n / 10 : Nat) : Int) from by rw [Int.tdiv_eq_ediv_of_nonneg (by omega)]; omega]
        exact wrap_nat (by omega)
       simp only [laws_markText.l0, if_pos (show (n : Int) > 0 by omega), Option.bind_some, hs, if_pos (show 1 + x.size ≤ 9223372036854775807 by omega), hd]
       exact hs'
   exact key n _ (by show 0 + n ≤ _; omega)
noncomputable def mtx (m : Int) : ByteArray := Classical.epsilon fun s => Ev (fun k => laws_markText.f k m) s
theorem laws_markText_ev (m : Int) (h0 : 0 ≤ m) (h1 : m ≤ 4398046511104) : Ev (fun k => laws_markText.f k m) (mtx m) := Classical.epsilon_spec (laws_markText_some m h0 h1)

theorem laws_markStringS_ev (l : List ByteArray) (m : Int) (hl : l.length ≤ 2097152) (h0 : 0 ≤ m) (h1 : m ≤ 1099511627776) : Ev (fun k => laws_markStringS.f k l m) (m + l.length, (idxs m l.length).map mtx) := by
 unfold laws_markStringS.f
 have key : ∀ i, i ≤ l.length → Ev (fun k => laws_markStringS.l0 k ((idxs m i).map mtx ++ l.drop i) (m + (i : Int)) (i : Int)) (m + l.length, (idxs m l.length).map mtx) := by
  refine down_ind ?_ ?_
  · refine Ev.succ ?_
    have hlen : ((idxs m l.length).map mtx ++ l.drop l.length).length = l.length := by simp [idxs_length]
    simp only [laws_markStringS.l0, hlen, Int.lt_irrefl, if_false]
    exact Ev.const (by simp)
  · intro i hi ih
    refine Ev.succ ?_
    have hlen : ((idxs m i).map mtx ++ l.drop i).length = l.length := by rw [List.length_append, List.length_map, idxs_length, List.length_drop]; omega
    have hset : ((idxs m i).map mtx ++ l.drop i).set i (mtx (m + i)) = (idxs m (i + 1)).map mtx ++ l.drop (i + 1) := by
     rw [List.set_append, List.length_map, idxs_length, if_neg (by omega), Nat.sub_self, drop_cons l i hi, List.set_cons_zero, idxs_snoc, List.map_append, List.append_assoc]
     rfl
    simp only [laws_markStringS.l0, hlen, if_pos (show (i : Int) < (l.length : Int) by omega)]
    refine Ev.bind (laws_markText_ev (m + i) (by omega) (by omega)) ?_
    simp only [if_pos (show (0 : Int) ≤ i by omega), Int.toNat_natCast, hset, wrap_succ (show i ≤ 4611686018427387903 by omega), wrap_in (show -4611686018427387904 ≤ m + (i : Int) + 1 by omega) (show m + (i : Int) + 1 ≤ 4611686018427387904 by omega)]
    exact (show m + ((i + 1 : Nat) : Int) = m + (i : Int) + 1 by omega) ▸ ih
 have := key 0 (by omega)
 simpa [idxs] using this

theorem laws_heldStringS_ev (n : Nat) (m : Int) (hl : n ≤ 2097152) (h0 : 0 ≤ m) (h1 : m ≤ 1099511627776) : Ev (fun k => laws_heldStringS.f k ((idxs m n).map mtx) m) (m + n) := by
 unfold laws_heldStringS.f
 have key : ∀ i, i ≤ n → Ev (fun k => laws_heldStringS.l0 k ((idxs m n).map mtx) (m + (i : Int)) (i : Int)) (m + n) := by
  refine down_ind ?_ ?_
  · refine Ev.succ ?_
    simp only [laws_heldStringS.l0, List.length_map, idxs_length, Int.lt_irrefl, if_false]
    exact Ev.const rfl
  · intro i hi ih
    refine Ev.succ ?_
    have hi' : i < ((idxs m n).map mtx).length := by rw [List.length_map, idxs_length]; exact hi
    simp only [laws_heldStringS.l0, List.length_map, idxs_length, if_pos (show (i : Int) < (n : Int) by omega), if_pos (show (0 : Int) ≤ i by omega)]
    refine Ev.bind (laws_markText_ev (m + i) (by omega) (by omega)) ?_
    have hg : rdOf ByteArray.empty ((idxs m n).map mtx) (i : Int) = mtx (m + i) := by rw [rdOf_nat _ _ i hi', List.getElem_map, idxs_get]
    simp only [hg, if_true, wrap_succ (show i ≤ 4611686018427387903 by omega), wrap_in (show -4611686018427387904 ≤ m + (i : Int) + 1 by omega) (show m + (i : Int) + 1 ≤ 4611686018427387904 by omega)]
    exact (show m + ((i + 1 : Nat) : Int) = m + (i : Int) + 1 by omega) ▸ ih
 have := key 0 (by omega)
 simpa using this

abbrev ICand := S60
theorem rdIC (l : List ICand) (i : Nat) (h : i < l.length) : rd_T60 l (i : Int) = l[i] := by simp [rd_T60, h]
theorem rdII (l : List (List Int)) (i : Nat) (h : i < l.length) : rd_L6 l (i : Int) = l[i] := by simp [rd_L6, h]
def lensII (l : List (List Int)) : Nat := (l.map List.length).sum
theorem sum_get {α : Type} (g : α → Nat) (l : List α) (i : Nat) (h : i < l.length) : g l[i] ≤ (l.map g).sum := by
 induction l generalizing i with
 | nil => simp at h
 | cons a l ih =>
  cases i with
  | zero => simp
  | succ i =>
   simp only [List.getElem_cons_succ, List.map_cons, List.sum_cons]
   have := ih i (by simpa using h)
   omega
theorem lensII_get (l : List (List Int)) (i : Nat) (h : i < l.length) : l[i].length ≤ lensII l := sum_get List.length l i h
theorem laws_eqCandidate_ev (a : List ILink) (hl : a.length ≤ 1048576) : Ev (fun k => laws_eqCandidate.f k a a) true := by
 unfold laws_eqCandidate.f
 refine Ev.bind ?_ (Ev.const (if_pos rfl))
 unfold laws_eqLinkS.f
 simp only [if_true]
 have key : ∀ i, i ≤ a.length → Ev (fun k => laws_eqLinkS.l0 k a a (i : Int)) true := by
  refine down_ind ?_ ?_
  · refine Ev.succ ?_
    simp only [laws_eqLinkS.l0, Int.lt_irrefl, if_false]
    exact Ev.const rfl
  · intro i hi ih
    refine Ev.succ ?_
    simp only [laws_eqLinkS.l0, laws_eqLink.f, Option.bind_some, if_pos (show (i : Int) < (a.length : Int) by omega), if_pos (show (0 : Int) ≤ i by omega), if_true, wrap_succ (show i ≤ 4611686018427387903 by omega)]
    exact ih
 exact key 0 (by omega)

theorem laws_eqIntS_ev (a b : List Int) (hl : a.length ≤ 1048576) : Ev (fun k => laws_eqIntS.f k a b) (decide (a = b)) := by
 unfold laws_eqIntS.f
 by_cases hab : a.length = b.length
 · simp only [if_pos (show (a.length : Int) = (b.length : Int) by omega)]
   have key : ∀ i, i ≤ a.length → Ev (fun k => laws_eqIntS.l0 k a b (i : Int)) (decide (a.drop i = b.drop i)) := by
    refine down_ind ?_ ?_
    · refine Ev.succ ?_
      simp only [laws_eqIntS.l0, Int.lt_irrefl, if_false]
      refine Ev.const ?_
      rw [List.drop_of_length_le (Nat.le_refl _), List.drop_of_length_le (by omega)]
      rfl
    · intro i hi ih
      have hb : i < b.length := by omega
      refine Ev.succ ?_
      simp only [laws_eqIntS.l0, if_pos (show (i : Int) < (a.length : Int) by omega), if_pos (show (0 : Int) ≤ i by omega), if_pos (show (i : Int) < (b.length : Int) by omega), rd_nat a i hi, rd_nat b i hb, wrap_succ (show i ≤ 4611686018427387903 by omega)]
      rw [drop_cons a i hi, drop_cons b i hb]
      by_cases he : a[i] = b[i]
      · simp only [if_pos he]
        exact Ev.cast ih (by simp only [List.cons.injEq, he, true_and])
      · simp only [if_neg he]
        exact Ev.const (by simp only [List.cons.injEq, he, false_and, decide_false])
   exact key 0 (by omega)
 · simp only [if_neg (show ¬ (a.length : Int) = (b.length : Int) by omega)]
   exact Ev.const (by
    have : a ≠ b := fun h => hab (by rw [h])
    simp [this])

theorem laws_eqCandidateS_ev (a : List ICand) (hl : a.length ≤ 1048576) (hr : ∀ x ∈ a, x.f0.length ≤ 1048576) : Ev (fun k => laws_eqCandidateS.f k a a) true := by
 unfold laws_eqCandidateS.f
 simp only [if_true]
 have key : ∀ i, i ≤ a.length → Ev (fun k => laws_eqCandidateS.l0 k a a (i : Int)) true := by
  refine down_ind ?_ ?_
  · refine Ev.succ ?_
    simp only [laws_eqCandidateS.l0, Int.lt_irrefl, if_false]
    exact Ev.const rfl
  · intro i hi ih
    refine Ev.succ ?_
    simp only [laws_eqCandidateS.l0, if_pos (show (i : Int) < (a.length : Int) by omega), if_pos (show (0 : Int) ≤ i by omega), rdIC a i hi]
    refine Ev.bind (laws_eqCandidate_ev _ (hr _ (List.getElem_mem hi))) ?_
    simp only [if_true, wrap_succ (show i ≤ 4611686018427387903 by omega)]
    exact ih
 exact key 0 (by omega)
theorem laws_eqIntSS_ev (a : List (List Int)) (hl : a.length + lensII a ≤ 1048576) : Ev (fun k => laws_eqIntSS.f k a a) true := by
 unfold laws_eqIntSS.f
 simp only [if_true]
 have key : ∀ i, i ≤ a.length → Ev (fun k => laws_eqIntSS.l0 k a a (i : Int)) true := by
  refine down_ind ?_ ?_
  · refine Ev.succ ?_
    simp only [laws_eqIntSS.l0, Int.lt_irrefl, if_false]
    exact Ev.const rfl
  · intro i hi ih
    have := lensII_get a i hi
    refine Ev.succ ?_
    simp only [laws_eqIntSS.l0, if_pos (show (i : Int) < (a.length : Int) by omega), if_pos (show (0 : Int) ≤ i by omega), rdII a i hi]
    refine Ev.bind (laws_eqIntS_ev _ _ (by omega)) ?_
    simp only [decide_true, if_true, wrap_succ (show i ≤ 4611686018427387903 by omega)]
    exact ih
 exact key 0 (by omega)

theorem get_mid {α : Type} (pre : List α) (x : α) (rest : List α) (z : α) : (pre ++ x :: rest).getD pre.length z = x := by simp
theorem set_mid {α : Type} (pre : List α) (x y : α) (rest : List α) : (pre ++ x :: rest).set pre.length y = (pre ++ [y]) ++ rest := by simp
def totN : List Nat → Nat
 | [] => 0
 | n :: l => n + totN l

def mlk (m : Nat) : Nat → List ILink
 | 0 => []
 | n + 1 => (⟨(m : Int) % 256, ((m + 1 : Nat) : Int) % 256⟩ : ILink) :: mlk (m + 2) n
theorem mlk_length (m n : Nat) : (mlk m n).length = n := by
 induction n generalizing m with
 | zero => rfl
 | succ n ih => simp [mlk, ih]
theorem laws_markLinkS_ev (l : List ILink) (m : Nat) (hl : l.length ≤ 2097152) (h1 : m ≤ 1099511627776) : Ev (fun k => laws_markLinkS.f k l (m : Int)) (((m + 2 * l.length : Nat) : Int), mlk m l.length) := by
 unfold laws_markLinkS.f
 have key : ∀ (rest pre : List ILink) (m : Nat), pre.length + rest.length ≤ 2097152 → m + 2 * rest.length ≤ 2199023255552 → Ev (fun k => laws_markLinkS.l0 k (pre ++ rest) (m : Int) (pre.length : Int)) (((m + 2 * rest.length : Nat) : Int), pre ++ mlk m rest.length) := by
  intro rest
  induction rest with
  | nil =>
   intro pre m _ _
   refine Ev.succ ?_
   simp only [laws_markLinkS.l0, List.append_nil, Int.lt_irrefl, if_false]
   exact Ev.const (by simp [mlk])
  | cons x rest ih =>
   intro pre m h1 h2
   simp only [List.length_cons] at h1 h2
   refine Ev.succ ?_
   have e2 : rd_T109 ((pre ++ [(⟨(m : Int) % 256, x.f1⟩ : ILink)]) ++ rest) (pre.length : Int) = ⟨(m : Int) % 256, x.f1⟩ := by
    unfold rd_T109
    simp
   have e1 : rd_T109 (pre ++ x :: rest) (pre.length : Int) = x := by
    unfold rd_T109
    simp
   simp only [laws_markLinkS.l0, List.length_append, List.length_cons, if_pos (show (pre.length : Int) < ((pre.length + (rest.length + 1) : Nat) : Int) by omega), if_pos (show (0 : Int) ≤ pre.length by omega), Int.toNat_natCast, e1, set_mid, Option.bind_some, e2, wrap_succ (show m ≤ 4611686018427387903 by omega), wrap_succ (show m + 1 ≤ 4611686018427387903 by omega), wrap_succ (show pre.length ≤ 4611686018427387903 by omega)]
   rw [show ((pre ++ [(⟨(m : Int) % 256, x.f1⟩ : ILink)]) ++ rest).set pre.length ⟨(m : Int) % 256, ((m + 1 : Nat) : Int) % 256⟩ = (pre ++ [(⟨(m : Int) % 256, ((m + 1 : Nat) : Int) % 256⟩ : ILink)]) ++ rest by simp]
   have := ih (pre ++ [(⟨(m : Int) % 256, ((m + 1 : Nat) : Int) % 256⟩ : ILink)]) (m + 1 + 1) (by simp; omega) (by omega)
   rw [List.length_append, List.length_singleton] at this
   refine Ev.cast this ?_
   simp only [mlk, List.append_assoc, List.singleton_append, Prod.mk.injEq, and_true]
   omega
 have := key l [] m (by simpa using hl) (by omega)
 simpa using this
theorem laws_heldLinkS_ev (n m : Nat) (hl : n ≤ 2097152) (h1 : m ≤ 1099511627776) : Ev (fun k => laws_heldLinkS.f k (mlk m n) (m : Int)) ((m + 2 * n : Nat) : Int) := by
 unfold laws_heldLinkS.f
 have key : ∀ (n : Nat) (pre : List ILink) (m : Nat), pre.length + n ≤ 2097152 → m + 2 * n ≤ 2199023255552 → Ev (fun k => laws_heldLinkS.l0 k (pre ++ mlk m n) (m : Int) (pre.length : Int)) ((m + 2 * n : Nat) : Int) := by
  intro n
  induction n with
  | zero =>
   intro pre m _ _
   refine Ev.succ ?_
   simp only [laws_heldLinkS.l0, mlk, List.append_nil, Int.lt_irrefl, if_false]
   exact Ev.const rfl
  | succ n ih =>
   intro pre m h1 h2
   refine Ev.succ ?_
   have e1 : rd_T109 (pre ++ mlk m (n + 1)) (pre.length : Int) = ⟨(m : Int) % 256, ((m + 1 : Nat) : Int) % 256⟩ := by
    unfold rd_T109
    simp [mlk]
   simp only [laws_heldLinkS.l0, List.length_append, mlk_length, if_pos (show (pre.length : Int) < ((pre.length + (n + 1) : Nat) : Int) by omega), if_pos (show (0 : Int) ≤ pre.length by omega), e1, if_true, wrap_succ (show m ≤ 4611686018427387903 by omega), wrap_succ (show m + 1 ≤ 4611686018427387903 by omega), wrap_succ (show pre.length ≤ 4611686018427387903 by omega)]
   have := ih (pre ++ [(⟨(m : Int) % 256, ((m + 1 : Nat) : Int) % 256⟩ : ILink)]) (m + 1 + 1) (by simp; omega) (by omega)
   rw [List.length_append, List.length_singleton, List.append_assoc] at this
   refine Ev.cast this ?_
   omega
 have := key n [] m (by simpa using hl) (by omega)
 simpa using this

def mcrow (m : Nat) : List Nat → List GC
 | [] => []
 | n :: l => (⟨mlk m n⟩ : GC) :: mcrow (m + 2 * n) l
theorem mcrow_length (m : Nat) (l : List Nat) : (mcrow m l).length = l.length := by
 induction l generalizing m with
 | nil => rfl
 | cons n l ih => simp [mcrow, ih]
theorem laws_markCandidateS_ev (l : List GC) (m : Nat) (hl : l.length + 2 * totN (l.map fun x => (x.f0).length) ≤ 2097152) (h1 : m ≤ 8388608) : Ev (fun k => laws_markCandidateS.f k l (m : Int)) (((m + 2 * totN (l.map fun x => (x.f0).length) : Nat) : Int), mcrow m (l.map fun x => (x.f0).length)) := by
 unfold laws_markCandidateS.f
 have key : ∀ (rest pre : List GC) (m : Nat), pre.length + rest.length + 2 * totN (rest.map fun x => (x.f0).length) ≤ 2097152 → m + 2 * totN (rest.map fun x => (x.f0).length) ≤ 16777216 → Ev (fun k => laws_markCandidateS.l0 k (pre ++ rest) (m : Int) (pre.length : Int)) (((m + 2 * totN (rest.map fun x => (x.f0).length) : Nat) : Int), pre ++ mcrow m (rest.map fun x => (x.f0).length)) := by
  intro rest
  induction rest with
  | nil =>
   intro pre m _ _
   refine Ev.succ ?_
   simp only [laws_markCandidateS.l0, List.append_nil, Int.lt_irrefl, if_false]
   exact Ev.const (by simp [mcrow, totN])
  | cons x rest ih =>
   intro pre m h1 h2
   simp only [List.length_cons, List.map_cons, totN] at h1 h2
   refine Ev.succ ?_
   simp only [laws_markCandidateS.l0, List.length_append, List.length_cons, if_pos (show (pre.length : Int) < ((pre.length + (rest.length + 1) : Nat) : Int) by omega), if_pos (show (0 : Int) ≤ pre.length by omega), Int.toNat_natCast, get_mid]
   refine Ev.bind (laws_markLinkS_ev _ m (by omega) (by omega)) ?_
   simp only [set_mid, wrap_succ (show pre.length ≤ 4611686018427387903 by omega)]
   have := ih (pre ++ [(⟨mlk m x.f0.length⟩ : GC)]) (m + 2 * (x.f0).length) (by simp; omega) (by omega)
   rw [List.length_append, List.length_singleton] at this
   refine Ev.cast this ?_
   simp only [mcrow, totN, List.map_cons, List.append_assoc, List.singleton_append, Prod.mk.injEq, and_true]
   omega
 have := key l [] m (by simpa using hl) (by omega)
 simpa using this
theorem laws_heldCandidateS_ev (l : List Nat) (m : Nat) (hl : l.length + 2 * totN l ≤ 2097152) (h1 : m ≤ 8388608) : Ev (fun k => laws_heldCandidateS.f k (mcrow m l) (m : Int)) ((m + 2 * totN l : Nat) : Int) := by
 unfold laws_heldCandidateS.f
 have key : ∀ (l : List Nat) (pre : List GC) (m : Nat), pre.length + l.length + 2 * totN l ≤ 2097152 → m + 2 * totN l ≤ 16777216 → Ev (fun k => laws_heldCandidateS.l0 k (pre ++ mcrow m l) (m : Int) (pre.length : Int)) ((m + 2 * totN l : Nat) : Int) := by
  intro l
  induction l with
  | nil =>
   intro pre m _ _
   refine Ev.succ ?_
   simp only [laws_heldCandidateS.l0, mcrow, List.append_nil, Int.lt_irrefl, if_false]
   exact Ev.const (by simp [totN])
  | cons n l ih =>
   intro pre m h1 h2
   simp only [List.length_cons, totN] at h1 h2
   refine Ev.succ ?_
   have e1 : rd_T60 (pre ++ mcrow m (n :: l)) (pre.length : Int) = (⟨mlk m n⟩ : GC) := by
    unfold rd_T60
    simp [mcrow]
   simp only [laws_heldCandidateS.l0, List.length_append, mcrow_length, List.length_cons, if_pos (show (pre.length : Int) < ((pre.length + (l.length + 1) : Nat) : Int) by omega), if_pos (show (0 : Int) ≤ pre.length by omega), e1]
   refine Ev.bind (laws_heldLinkS_ev n m (by omega) (by omega)) ?_
   simp only [if_neg (show ¬ ((m + 2 * n : Nat) : Int) < 0 by omega), if_false, wrap_succ (show pre.length ≤ 4611686018427387903 by omega)]
   have := ih (pre ++ [(⟨mlk m n⟩ : GC)]) (m + 2 * n) (by simp; omega) (by omega)
   rw [List.length_append, List.length_singleton, List.append_assoc] at this
   refine Ev.cast this ?_
   simp only [totN]
   omega
 have := key l [] m (by simpa using hl) (by omega)
 simpa using this

theorem laws_markIntS_ev (l : List Int) (m : Int) (hl : l.length ≤ 2097152) (h0 : 0 ≤ m) (h1 : m ≤ 1099511627776) : Ev (fun k => laws_markIntS.f k l m) (m + l.length, idxs m l.length) := by
 unfold laws_markIntS.f
 have key : ∀ i, i ≤ l.length → Ev (fun k => laws_markIntS.l0 k (idxs m i ++ l.drop i) (m + (i : Int)) (i : Int)) (m + l.length, idxs m l.length) := by
  refine down_ind ?_ ?_
  · refine Ev.succ ?_
    have hlen : (idxs m l.length ++ l.drop l.length).length = l.length := by simp [idxs_length]
    simp only [laws_markIntS.l0, hlen, Int.lt_irrefl, if_false]
    exact Ev.const (by simp)
  · intro i hi ih
    refine Ev.succ ?_
    have hlen : (idxs m i ++ l.drop i).length = l.length := by rw [List.length_append, idxs_length, List.length_drop]; omega
    have hset : (idxs m i ++ l.drop i).set i (m + i) = idxs m (i + 1) ++ l.drop (i + 1) := by
     rw [List.set_append, idxs_length, if_neg (by omega), Nat.sub_self, drop_cons l i hi, List.set_cons_zero, idxs_snoc, List.append_assoc]
     rfl
    simp only [laws_markIntS.l0, hlen, if_pos (show (i : Int) < (l.length : Int) by omega), if_pos (show (0 : Int) ≤ i by omega), Int.toNat_natCast, hset, wrap_succ (show i ≤ 4611686018427387903 by omega), wrap_in (show -4611686018427387904 ≤ m + (i : Int) + 1 by omega) (show m + (i : Int) + 1 ≤ 4611686018427387904 by omega)]
    exact (show m + ((i + 1 : Nat) : Int) = m + (i : Int) + 1 by omega) ▸ ih
 have := key 0 (by omega)
 simpa [idxs] using this

theorem laws_heldIntS_ev (n : Nat) (m : Int) (hl : n ≤ 2097152) (h0 : 0 ≤ m) (h1 : m ≤ 1099511627776) : Ev (fun k => laws_heldIntS.f k (idxs m n) m) (m + n) := by
 unfold laws_heldIntS.f
 have key : ∀ i, i ≤ n → Ev (fun k => laws_heldIntS.l0 k (idxs m n) (m + (i : Int)) (i : Int)) (m + n) := by
  refine down_ind ?_ ?_
  · refine Ev.succ ?_
    simp only [laws_heldIntS.l0, idxs_length, Int.lt_irrefl, if_false]
    exact Ev.const rfl
  · intro i hi ih
    refine Ev.succ ?_
    have hi' : i < (idxs m n).length := by rw [idxs_length]; exact hi
    simp only [laws_heldIntS.l0, idxs_length, if_pos (show (i : Int) < (n : Int) by omega), if_pos (show (0 : Int) ≤ i by omega), rd_nat _ i hi', idxs_get, if_true, wrap_succ (show i ≤ 4611686018427387903 by omega), wrap_in (show -4611686018427387904 ≤ m + (i : Int) + 1 by omega) (show m + (i : Int) + 1 ≤ 4611686018427387904 by omega)]
    exact (show m + ((i + 1 : Nat) : Int) = m + (i : Int) + 1 by omega) ▸ ih
 have := key 0 (by omega)
 simpa using this

def mirow (m : Nat) : List Nat → List (List Int)
 | [] => []
 | n :: l => (idxs m n : (List Int)) :: mirow (m + 1 * n) l
theorem mirow_length (m : Nat) (l : List Nat) : (mirow m l).length = l.length := by
 induction l generalizing m with
 | nil => rfl
 | cons n l ih => simp [mirow, ih]
theorem laws_markIntSS_ev (l : List (List Int)) (m : Nat) (hl : l.length + 1 * totN (l.map fun x => (x).length) ≤ 2097152) (h1 : m ≤ 8388608) : Ev (fun k => laws_markIntSS.f k l (m : Int)) (((m + 1 * totN (l.map fun x => (x).length) : Nat) : Int), mirow m (l.map fun x => (x).length)) := by
 unfold laws_markIntSS.f
 have key : ∀ (rest pre : List (List Int)) (m : Nat), pre.length + rest.length + 1 * totN (rest.map fun x => (x).length) ≤ 2097152 → m + 1 * totN (rest.map fun x => (x).length) ≤ 16777216 → Ev (fun k => laws_markIntSS.l0 k (pre ++ rest) (m : Int) (pre.length : Int)) (((m + 1 * totN (rest.map fun x => (x).length) : Nat) : Int), pre ++ mirow m (rest.map fun x => (x).length)) := by
  intro rest
  induction rest with
  | nil =>
   intro pre m _ _
   refine Ev.succ ?_
   simp only [laws_markIntSS.l0, List.append_nil, Int.lt_irrefl, if_false]
   exact Ev.const (by simp [mirow, totN])
  | cons x rest ih =>
   intro pre m h1 h2
   simp only [List.length_cons, List.map_cons, totN] at h1 h2
   refine Ev.succ ?_
   simp only [laws_markIntSS.l0, List.length_append, List.length_cons, if_pos (show (pre.length : Int) < ((pre.length + (rest.length + 1) : Nat) : Int) by omega), if_pos (show (0 : Int) ≤ pre.length by omega), Int.toNat_natCast, get_mid]
   refine Ev.bind (laws_markIntS_ev _ (m : Int) (by omega) (by omega) (by omega)) ?_
   simp only [set_mid, show (m : Int) + ((x).length : Int) = ((m + 1 * (x).length : Nat) : Int) by omega, wrap_succ (show pre.length ≤ 4611686018427387903 by omega)]
   have := ih (pre ++ [(idxs m x.length : (List Int))]) (m + 1 * (x).length) (by simp; omega) (by omega)
   rw [List.length_append, List.length_singleton] at this
   refine Ev.cast this ?_
   simp only [mirow, totN, List.map_cons, List.append_assoc, List.singleton_append, Prod.mk.injEq, and_true]
   omega
 have := key l [] m (by simpa using hl) (by omega)
 simpa using this
theorem laws_heldIntSS_ev (l : List Nat) (m : Nat) (hl : l.length + 1 * totN l ≤ 2097152) (h1 : m ≤ 8388608) : Ev (fun k => laws_heldIntSS.f k (mirow m l) (m : Int)) ((m + 1 * totN l : Nat) : Int) := by
 unfold laws_heldIntSS.f
 have key : ∀ (l : List Nat) (pre : List (List Int)) (m : Nat), pre.length + l.length + 1 * totN l ≤ 2097152 → m + 1 * totN l ≤ 16777216 → Ev (fun k => laws_heldIntSS.l0 k (pre ++ mirow m l) (m : Int) (pre.length : Int)) ((m + 1 * totN l : Nat) : Int) := by
  intro l
  induction l with
  | nil =>
   intro pre m _ _
   refine Ev.succ ?_
   simp only [laws_heldIntSS.l0, mirow, List.append_nil, Int.lt_irrefl, if_false]
   exact Ev.const (by simp [totN])
  | cons n l ih =>
   intro pre m h1 h2
   simp only [List.length_cons, totN] at h1 h2
   refine Ev.succ ?_
   have e1 : rd_L6 (pre ++ mirow m (n :: l)) (pre.length : Int) = (idxs m n : (List Int)) := by
    unfold rd_L6
    simp [mirow]
   simp only [laws_heldIntSS.l0, List.length_append, mirow_length, List.length_cons, if_pos (show (pre.length : Int) < ((pre.length + (l.length + 1) : Nat) : Int) by omega), if_pos (show (0 : Int) ≤ pre.length by omega), e1]
   refine Ev.bind (laws_heldIntS_ev n (m : Int) (by omega) (by omega) (by omega)) ?_
   simp only [show (m : Int) + (n : Int) = ((m + 1 * n : Nat) : Int) by omega, if_neg (show ¬ ((m + 1 * n : Nat) : Int) < 0 by omega), if_false, wrap_succ (show pre.length ≤ 4611686018427387903 by omega)]
   have := ih (pre ++ [(idxs m n : (List Int))]) (m + 1 * n) (by simp; omega) (by omega)
   rw [List.length_append, List.length_singleton, List.append_assoc] at this
   refine Ev.cast this ?_
   simp only [totN]
   omega
 have := key l [] m (by simpa using hl) (by omega)
 simpa using this

theorem totN_sum (l : List Nat) : totN l = l.sum := by
 induction l with
 | nil => rfl
 | cons a l ih => simp [totN, ih]
theorem laws_eqTab_ev (s : ByteArray) (n : List ByteArray) (r : List ICand) (m : List (List Int)) (hn : n.length ≤ 1048576) (hr : r.length ≤ 1048576) (hc : ∀ x ∈ r, x.f0.length ≤ 1048576) (hm : m.length + lensII m ≤ 1048576) : Ev (fun k => laws_eqTableau.f k s n r m s n r m) true := by
 unfold laws_eqTableau.f
 simp only [if_true]
 refine Ev.bind (laws_eqStringS_ev n hn) ?_
 simp only [if_true]
 refine Ev.bind (laws_eqCandidateS_ev r hr hc) ?_
 simp only [if_true]
 refine Ev.bind (laws_eqIntSS_ev m hm) ?_
 simp only [if_true]
 exact Ev.const rfl
theorem laws_markTab_ev (s : ByteArray) (n : List ByteArray) (r : List GC) (m : List (List Int)) (hn : n.length ≤ 1048576) (hr : r.length + totN (r.map fun x => (x.f0).length) ≤ 1048576) (hm : m.length + totN (m.map fun x => (x).length) ≤ 1048576) :
 Ev (fun k => laws_markTableau.f k s n r m 1) (((1 + n.length + 2 * totN (r.map fun x => (x.f0).length) + 1 * totN (m.map fun x => (x).length) : Nat) : Int), (idxs 1 n.length).map mtx, mcrow (1 + n.length) (r.map fun x => (x.f0).length), mirow (1 + n.length + 2 * totN (r.map fun x => (x.f0).length)) (m.map fun x => (x).length)) := by
 unfold laws_markTableau.f
 refine Ev.bind (laws_markStringS_ev n 1 (by omega) (by omega) (by omega)) ?_
 dsimp only
 rw [show (1 : Int) + (n.length : Int) = ((1 + n.length : Nat) : Int) by omega]
 exact Ev.bind (laws_markCandidateS_ev r (1 + n.length) (by omega) (by omega)) (Ev.bind (laws_markIntSS_ev m _ (by omega) (by omega)) (Ev.const rfl))
theorem laws_heldTab_ev (s : ByteArray) (n : Nat) (rl ml : List Nat) (hn : n ≤ 1048576) (hr : rl.length + totN rl ≤ 1048576) (hm : ml.length + totN ml ≤ 1048576) :
 Ev (fun k => laws_heldTableau.f k s ((idxs 1 n).map mtx) (mcrow (1 + n) rl) (mirow (1 + n + 2 * totN rl) ml) 1) ((1 + n + 2 * totN rl + 1 * totN ml : Nat) : Int) := by
 unfold laws_heldTableau.f
 refine Ev.bind (laws_heldStringS_ev n 1 (by omega) (by omega) (by omega)) ?_
 rw [show (1 : Int) + (n : Int) = ((1 + n : Nat) : Int) by omega]
 simp only [if_neg (show ¬ ((1 + n : Nat) : Int) < 0 by omega)]
 refine Ev.bind (laws_heldCandidateS_ev rl (1 + n) (by omega) (by omega)) ?_
 simp only [if_neg (show ¬ ((1 + n + 2 * totN rl : Nat) : Int) < 0 by omega)]
 refine Ev.bind (laws_heldIntSS_ev ml _ (by omega) (by omega)) ?_
 simp only [if_neg (show ¬ ((1 + n + 2 * totN rl + 1 * totN ml : Nat) : Int) < 0 by omega)]
 exact Ev.const rfl
theorem FnExactTableauOf : laws_FnExactTableauOf.Pure := by
 intro s l hs hl
 refine Ev.rounds ?_
 unfold laws_FnExactTableauOf.f
 by_cases hq : (s.size : Int) > 1048576
 · simp only [if_pos hq]
   exact Ev.const rfl
 simp only [if_neg hq]
 refine Ev.bind (laws_szStringS_ev l 1048576 (Nat.le_refl _) hl) ?_
 by_cases h : l.length + sizes l ≤ 1048576
 · simp only [if_pos h, if_neg (show ¬ (((1048576 - (l.length + sizes l) : Nat) : Int)) < 0 by omega)]
   have hl' : l.length ≤ 1048576 := by omega
   have ht := laws_toStringS_ev l hl'
   have hsp := spec_TableauOf_ev s l (by omega) hl'
   have him := impl_TableauOf_ev s l (by omega) hl'
   have hw := tabOf_facts s l
   generalize tabOf s l = W at hsp him hw
   obtain ⟨S, N, R, M, ok⟩ := W
   obtain ⟨h1, h2, h3, h4, h5⟩ := hw
   simp only at h1 h2 h3 h4 h5
   have hR : totN (R.map fun x => (x.f0).length) ≤ 57800 := by
    rw [totN_sum]
    have := sum_le (R.map fun x => (x.f0).length) 8 (fun y hy => by
     obtain ⟨c, hc, rfl⟩ := List.mem_map.1 hy
     exact h3 c hc)
    rw [List.length_map] at this
    omega
   have hM : (M.map fun x => (x).length).sum ≤ 36125 := by
    have := sum_le (M.map fun x => (x).length) 5 (fun y hy => by
     obtain ⟨c, hc, rfl⟩ := List.mem_map.1 hy
     exact h5 c hc)
    rw [List.length_map] at this
    omega
   have hM2 : totN (M.map fun x => (x).length) ≤ 36125 := by rw [totN_sum]; exact hM
   have hee := laws_eqTab_ev S N R M (by omega) (by omega) (fun x hx => by have := h3 x hx; omega) (by
    have : lensII M = (M.map fun x => (x).length).sum := rfl
    omega)
   have hmk := laws_markTab_ev S N R M (by omega) (by omega) (by omega)
   have hh := laws_heldTab_ev S N.length (R.map fun x => (x.f0).length) (M.map fun x => (x).length) (by omega) (by rw [List.length_map]; omega) (by rw [List.length_map]; omega)
   refine Ev.bind ht (Ev.bind hsp (Ev.bind ht (Ev.bind him (Ev.bind hee ?_))))
   simp only [if_true]
   refine Ev.bind ht (Ev.bind (laws_eqStringS_ev l hl') ?_)
   simp only [if_true]
   refine Ev.bind (laws_markStringS_ev l 1 (by omega) (by omega) (by omega)) ?_
   simp only [if_neg (show ¬ (1 + (l.length : Int)) < 0 by omega)]
   refine Ev.bind hee ?_
   simp only [if_true]
   refine Ev.bind hmk (Ev.bind hh ?_)
   simp only [if_neg (show ¬ ((1 + N.length + 2 * totN (R.map fun x => (x.f0).length) + 1 * totN (M.map fun x => (x).length) : Nat) : Int) < 0 by omega), if_true]
   refine Ev.bind ht (Ev.bind him (Ev.bind hee ?_))
   simp only [if_true]
   refine Ev.bind hh ?_
   simp only [if_neg (show ¬ ((1 + N.length + 2 * totN (R.map fun x => (x.f0).length) + 1 * totN (M.map fun x => (x).length) : Nat) : Int) < 0 by omega), if_true]
   exact Ev.const rfl
 · simp only [if_neg h]
   exact Ev.const rfl

end Go.Proofs.YtlmfpkiaikjlbaaGreat.Pure
