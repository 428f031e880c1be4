/- The pure statement of the law FnExactRowsFor: for all arguments within bounds its printed function answers true. -/
import Derived.Test.YtlmfpkiaikjlbaaGreatPFnExactRowsForx
import Derived.Test.YtlmfpkiaikjlbaaGreatUFnExactRowsFor
import Derived.Test.YtlmfpkiaikjlbaaGreatPureFnExactRowsForb
namespace Go.Proofs.YtlmfpkiaikjlbaaGreat.Pure
open Go.RowKit Go.Proofs.YtlmfpkiaikjlbaaGreatB Go.Proofs.YtlmfpkiaikjlbaaGreat.PFnExactRowsFor Go.Proofs.YtlmfpkiaikjlbaaGreatW.PrintWords Go.Proofs.YtlmfpkiaikjlbaaGreatW.PrintLast Go.Proofs.YtlmfpkiaikjlbaaGreatW.PrintMore
set_option linter.unusedVariables false
set_option linter.unusedSimpArgs false

def pushR (W : List Int) (acc : List IRow) (b : List Int) : List IRow := if triv (rowOf W b).1 = true ∨ (rowOf W b).1 ∈ acc.map (fun x => x.f0) then acc else acc ++ [⟨(rowOf W b).1⟩]
def rowsW (W : List Int) : List (List Int) → List IRow → List IRow
 | [], acc => acc
 | b :: l, acc => rowsW W l (pushR W acc b)
def smallR (l : List IRow) : Prop := ∀ x ∈ l, x.f0.length ≤ 5
theorem pushR_small {W b : List Int} {acc : List IRow} (h : smallR acc) : smallR (pushR W acc b) ∧ (pushR W acc b).length ≤ acc.length + 1 := by
 unfold pushR
 split
 · exact ⟨h, by omega⟩
 · refine ⟨fun x hx => ?_, by simp⟩
   rcases List.mem_append.1 hx with hx | hx
   · exact h x hx
   · rw [List.mem_singleton] at hx
     subst hx
     exact rowOf_len W b
theorem rowsW_small (W : List Int) : ∀ (l : List (List Int)) (acc : List IRow), smallR acc → smallR (rowsW W l acc) ∧ (rowsW W l acc).length ≤ acc.length + l.length
 | [], acc, h => ⟨h, Nat.le_refl _⟩
 | b :: l, acc, h => by
  have h1 := pushR_small (W := W) (b := b) h
  have h2 := rowsW_small W l (pushR W acc b) h1.1
  refine ⟨h2.1, ?_⟩
  simp only [rowsW, List.length_cons]
  omega
theorem lens_small : ∀ (l : List IRow), smallR l → lens l ≤ 5 * l.length
 | [], _ => Nat.zero_le _
 | a :: l, h => by
  have h1 := h a List.mem_cons_self
  have h2 := lens_small l (fun x hx => h x (List.mem_cons_of_mem _ hx))
  have e : lens (a :: l) = a.f0.length + lens l := by simp [lens]
  rw [e, List.length_cons, Nat.mul_add]
  omega
def rowsF (s : ByteArray) (n : List ByteArray) (r : List ICand) (m : List (List Int)) (w : Int) : List IRow := if isTab s n r m = true ∧ 0 ≤ w ∧ w < (r.length : Int) then rowsW (m.getD w.toNat []) m [] else []
theorem impl_hasRow_ev (acc : List IRow) (ro : List Int) (hs : smallR acc) (hl : acc.length ≤ 1048576) : Ev (fun k => impl_hasRow.f k acc ro) (decide (ro ∈ acc.map fun x => x.f0)) := by
 unfold impl_hasRow.f
 have key : ∀ i, i ≤ acc.length → Ev (fun k => impl_hasRow.l0 k acc ro (i : Int)) (decide (ro ∈ (acc.drop i).map fun x => x.f0)) := by
  refine down_ind ?_ ?_
  · refine Ev.succ ?_
    simp only [impl_hasRow.l0, Int.lt_irrefl, if_false]
    exact Ev.const (by simp)
  · intro i hi ih
    have h5 := hs acc[i] (List.getElem_mem hi)
    have e : acc.getD (i : Int).toNat z73 = acc[i] := by simp [hi]
    refine Ev.succ ?_
    simp only [impl_hasRow.l0, if_pos (show (i : Int) < (acc.length : Int) by omega), if_pos (show (0 : Int) ≤ i by omega), e, impl_sameRow.f]
    refine Ev.bind (Ev.bind (slices_Equal_int_ev _ _ (by omega)) (Ev.const rfl)) ?_
    rw [drop_cons acc i hi, List.map_cons]
    by_cases he : acc[i].f0 = ro
    · simp only [he, decide_true, if_true]
      exact Ev.const (by simp)
    · simp only [he, decide_false, Bool.false_eq_true, if_false, wrap_succ (show i ≤ 4611686018427387903 by omega)]
      refine Ev.cast ih ?_
      rw [decide_eq_decide, List.mem_cons]
      exact ⟨fun h => .inr h, fun h => h.resolve_left (fun e => he e.symm)⟩
 exact key 0 (by omega)
theorem impl_isRowOf_ev (s : ByteArray) (n : List ByteArray) (r : List ICand) (m : List (List Int)) (w : Int) (hs : s.size ≤ 1048576) (hn : n.length ≤ 1048576) (hr : okR r) (hrl : r.length ≤ 1048576) (hm : m.length + lensII m ≤ 1048576) : Ev (fun k => impl_isRowOf.f k s n r m w) (decide (0 ≤ w ∧ w < (r.length : Int)) && isTab s n r m) := by
 unfold impl_isRowOf.f
 have e : wrap64 ((r.length : Int) - 1) = (r.length : Int) - 1 := by unfold wrap64; omega
 simp only [e, impl_within_eq, Option.bind_some]
 by_cases h : 0 ≤ w ∧ w < (r.length : Int)
 · simp only [decide_eq_true (show 0 ≤ w ∧ w ≤ (r.length : Int) - 1 by omega), decide_eq_true h, if_true, Bool.true_and]
   exact Ev.bind (impl_IsTableau_ev s n r m hs hn hr hrl hm) (Ev.const rfl)
 · simp only [decide_eq_false (show ¬ (0 ≤ w ∧ w ≤ (r.length : Int) - 1) by omega), decide_eq_false h, Bool.false_eq_true, if_false, Bool.false_and]
   exact Ev.const rfl
theorem impl_RowsFor_ev (s : ByteArray) (n : List ByteArray) (r : List ICand) (m : List (List Int)) (w : Int) (hs : s.size ≤ 1048576) (hn : n.length ≤ 1048576) (hr : okR r) (hrl : r.length ≤ 1048576) (hm : m.length + lensII m ≤ 1048576) : Ev (fun k => impl_RowsFor.f k s n r m w) (rowsF s n r m w) := by
 unfold impl_RowsFor.f rowsF
 refine Ev.bind (impl_isRowOf_ev s n r m w hs hn hr hrl hm) ?_
 by_cases hT : isTab s n r m = true
 · by_cases hw : 0 ≤ w ∧ w < (r.length : Int)
   · have hL := isTab_len hT
     obtain ⟨j, rfl⟩ := Int.eq_ofNat_of_zero_le hw.1
     have hj : j < m.length := by omega
     have hmj := lensII_get m j hj
     have eg : m.getD (j : Int).toNat [] = m[j] := by simp [hj]
     simp only [hT, hw, decide_true, Bool.and_self, if_true, and_self, if_pos (show (0 : Int) ≤ (j : Int) by omega), if_pos (show (j : Int) < (m.length : Int) by omega), rdII m j hj, eg]
     refine Ev.bind ?_ (Ev.const rfl)
     unfold impl_rowsAgainst.f
     have key : ∀ i, i ≤ m.length → ∀ acc : List IRow, acc.length ≤ i → smallR acc → Ev (fun k => impl_rowsAgainst.l0 k m[j] acc m (m.length : Int) (i : Int)) (rowsW m[j] (m.drop i) acc) := by
      refine down_ind ?_ ?_
      · intro acc ha _
        refine Ev.succ ?_
        simp only [impl_rowsAgainst.l0, Int.lt_irrefl, if_false]
        exact Ev.const (by simp [rowsW])
      · intro i hi ih acc ha hS
        have hmi := lensII_get m i hi
        have hro := rowOf_len m[j] m[i]
        refine Ev.succ ?_
        simp only [impl_rowsAgainst.l0, if_pos (show (i : Int) < (m.length : Int) by omega), if_pos (show (0 : Int) ≤ i by omega), rdII m i hi, wrap_succ (show i ≤ 4611686018427387903 by omega)]
        rw [drop_cons m i hi, rowsW, pushR]
        refine Ev.bind (impl_RowOf_ev _ _ (by omega)) (Ev.bind (impl_IsTrivial_ev _ (by omega)) ?_)
        by_cases h1 : triv (rowOf m[j] m[i]).1 = true
        · simp only [h1, if_true, true_or]
          exact ih acc (by omega) hS
        · simp only [h1, Bool.false_eq_true, if_false, false_or]
          refine Ev.bind (impl_hasRow_ev acc _ hS (by omega)) ?_
          by_cases h2 : (rowOf m[j] m[i]).1 ∈ acc.map (fun x => x.f0)
          · simp only [h2, decide_true, if_true]
            exact ih acc (by omega) hS
          · simp only [h2, decide_false, Bool.false_eq_true, if_false, if_pos (show acc.length < 5864062014805 by omega)]
            refine ih _ (by simp; omega) (fun x hx => ?_)
            rcases List.mem_append.1 hx with hx | hx
            · exact hS x hx
            · rw [List.mem_singleton] at hx
              subst hx
              exact hro
     exact key 0 (by omega) [] (Nat.zero_le _) (fun x hx => by cases hx)
   · simp only [hT, hw, decide_false, Bool.false_and, Bool.false_eq_true, if_false, and_false]
     exact Ev.const rfl
 · simp only [hT, Bool.and_false, Bool.false_eq_true, if_false, false_and]
   exact Ev.const rfl
theorem spec_RowsFor_ev (s : ByteArray) (n : List ByteArray) (r : List ICand) (m : List (List Int)) (w : Int) (hs : s.size ≤ 1048576) (hn : n.length ≤ 1048576) (hr : okR r) (hrl : r.length ≤ 1048576) (hm : m.length + lensII m ≤ 1048576) : Ev (fun k => spec_RowsFor.f k s n r m w) (rowsF s n r m w) := by
 unfold spec_RowsFor.f rowsF
 simp only [Option.bind_some]
 refine Ev.bind (spec_IsTableau_ev s n r m hs hn hr hrl hm) ?_
 have bad : ∀ x, x = ([] : List IRow) → Ev (fun k => spec_RowsFor.j0 k w [] true s n r m) x := by
  rintro x rfl
  refine Ev.succ ?_
  simp only [spec_RowsFor.j0, if_true]
  exact Ev.const rfl
 by_cases hT : isTab s n r m = true
 · simp only [hT, if_true, true_and]
   by_cases h0 : w < 0
   · simp only [if_pos h0]
     exact bad _ (if_neg (by omega))
   · simp only [if_neg h0]
     by_cases h1 : w ≥ (r.length : Int)
     · simp only [decide_eq_true h1]
       exact bad _ (if_neg (by omega))
     · simp only [decide_eq_false h1]
       have hL := isTab_len hT
       obtain ⟨j, rfl⟩ := Int.eq_ofNat_of_zero_le (show 0 ≤ w by omega)
       have hj : j < m.length := by omega
       have hmj := lensII_get m j hj
       have eg : m.getD (j : Int).toNat [] = m[j] := by simp [hj]
       rw [if_pos (by omega), eg]
       refine Ev.succ ?_
       simp only [spec_RowsFor.j0, Bool.false_eq_true, if_false]
       have key : ∀ i, i ≤ r.length → ∀ acc : List IRow, acc.length ≤ i → smallR acc → Ev (fun k => spec_RowsFor.l0 k (j : Int) acc (i : Int) s n r m) (rowsW m[j] (m.drop i) acc) := by
        refine down_ind ?_ ?_
        · intro acc ha _
          refine Ev.succ ?_
          simp only [spec_RowsFor.l0, Int.lt_irrefl, if_false]
          exact Ev.const (by rw [List.drop_of_length_le (by omega)]; rfl)
        · intro i hi ih acc ha hS
          have him : i < m.length := by omega
          have hmi := lensII_get m i him
          have hro := rowOf_len m[j] m[i]
          refine Ev.succ ?_
          simp only [spec_RowsFor.l0, if_pos (show (i : Int) < (r.length : Int) by omega), if_pos (show (0 : Int) ≤ i by omega), if_pos (show (0 : Int) ≤ (j : Int) by omega), if_pos (show (j : Int) < (m.length : Int) by omega), if_pos (show (i : Int) < (m.length : Int) by omega), rdII m i him, rdII m j hj]
          rw [drop_cons m i him, rowsW, pushR]
          refine Ev.bind (spec_RowOf_ev _ _ (by omega)) (Ev.bind (spec_IsTrivial_ev _ (by omega)) ?_)
          have inner : ∀ q, q ≤ acc.length → ∀ b : Bool, Ev (fun k => spec_RowsFor.l1 k (j : Int) acc (i : Int) b (q : Int) s n r m (rowOf m[j] m[i]).1) (rowsW m[j] (m.drop (i + 1)) (if b = true ∨ (rowOf m[j] m[i]).1 ∈ (acc.drop q).map (fun x => x.f0) then acc else acc ++ [⟨(rowOf m[j] m[i]).1⟩])) := by
           refine down_ind ?_ ?_
           · intro b
             refine Ev.succ ?_
             simp only [spec_RowsFor.l1, Int.lt_irrefl, if_false, wrap_succ (show i ≤ 4611686018427387903 by omega)]
             rw [List.drop_of_length_le (Nat.le_refl _), List.map_nil]
             cases b with
             | true =>
              simp only [if_true, true_or]
              exact ih acc (by omega) hS
             | false =>
              simp only [Bool.false_eq_true, if_false, List.not_mem_nil, or_self, if_pos (show acc.length < 5864062014805 by omega)]
              refine ih _ (by simp; omega) (fun x hx => ?_)
              rcases List.mem_append.1 hx with hx | hx
              · exact hS x hx
              · rw [List.mem_singleton] at hx
                subst hx
                exact hro
           · intro q hq ihq b
             have h5 := hS acc[q] (List.getElem_mem hq)
             refine Ev.succ ?_
             simp only [spec_RowsFor.l1, if_pos (show (q : Int) < (acc.length : Int) by omega), if_pos (show (0 : Int) ≤ q by omega), rdI acc q hq, wrap_succ (show q ≤ 4611686018427387903 by omega), spec_l13Same.f]
             cases b with
             | true =>
              simp only [if_true, true_or]
              refine Ev.cast (ihq true) ?_
              simp only [true_or, if_true]
             | false =>
              simp only [Bool.false_eq_true, if_false, false_or]
              refine Ev.bind (Ev.bind (spec_l5Same_ev _ _ (by omega)) (Ev.const rfl)) ?_
              rw [drop_cons acc q hq, List.map_cons]
              refine Ev.cast (ihq (decide (acc[q].f0 = (rowOf m[j] m[i]).1))) ?_
              have e : (decide (acc[q].f0 = (rowOf m[j] m[i]).1) = true ∨ (rowOf m[j] m[i]).1 ∈ (acc.drop (q + 1)).map (fun x => x.f0)) ↔ ((rowOf m[j] m[i]).1 ∈ acc[q].f0 :: (acc.drop (q + 1)).map (fun x => x.f0)) := by
               rw [decide_eq_true_eq, List.mem_cons]
               exact or_congr ⟨Eq.symm, Eq.symm⟩ Iff.rfl
              simp only [e]
          exact inner 0 (Nat.zero_le _) (triv (rowOf m[j] m[i]).1)
       exact key 0 (by omega) [] (Nat.zero_le _) (fun x hx => by cases hx)
 · simp only [hT, Bool.false_eq_true, if_false, false_and]
   exact bad _ rfl
theorem rowsF_small (s : ByteArray) (n : List ByteArray) (r : List ICand) (m : List (List Int)) (w : Int) : smallR (rowsF s n r m w) ∧ (rowsF s n r m w).length ≤ m.length := by
 unfold rowsF
 split
 · have := rowsW_small (m.getD w.toNat []) m [] (fun x hx => by cases hx)
   exact ⟨this.1, by simpa using this.2⟩
 · exact ⟨(fun x hx => by cases hx), Nat.zero_le _⟩

theorem laws_toStringS_ev (l : List ByteArray) (hl : l.length ≤ 1048576) : Ev (fun k => laws_toStringS.f k l) l := by
 unfold laws_toStringS.f
 simp only [if_pos (show (0 : Int) ≤ (l.length : Int) by omega), Int.toNat_natCast, if_pos (show l.length ≤ 17592186044416 by omega)]
 have key : ∀ i, i ≤ l.length → Ev (fun k => laws_toStringS.l0 k l (l.take i ++ List.replicate (l.length - i) (⟨#[]⟩ : ByteArray)) (i : Int)) l := by
  refine down_ind ?_ ?_
  · refine Ev.succ ?_
    simp only [laws_toStringS.l0, Int.lt_irrefl, if_false]
    exact Ev.const (by simp)
  · intro i hi ih
    refine Ev.succ ?_
    have hlen : (l.take i ++ List.replicate (l.length - i) (⟨#[]⟩ : ByteArray)).length = l.length := by simp; omega
    simp only [laws_toStringS.l0, hlen, if_pos (show (i : Int) < (l.length : Int) by omega), if_pos (show (0 : Int) ≤ i by omega), rdOf_nat _ l i hi, Int.toNat_natCast, set_fill l _ i hi, wrap_succ (show i ≤ 4611686018427387903 by omega)]
    exact ih
 have := key 0 (by omega)
 simpa using this

theorem laws_toCandidate_ev (l : List LLink) (hl : l.length ≤ 1048576) : Ev (fun k => laws_toCandidate.f k l) (l.map toK) := by
 unfold laws_toCandidate.f
 refine Ev.bind ?_ (Ev.const rfl)
 unfold laws_toLinkS.f
 simp only [if_pos (show (0 : Int) ≤ (l.length : Int) by omega), Int.toNat_natCast, if_pos (show l.length ≤ 140737488355328 by omega)]
 have key : ∀ i, i ≤ l.length → Ev (fun k => laws_toLinkS.l0 k l ((l.take i).map toK ++ List.replicate (l.length - i) z109) (i : Int)) (l.map toK) := by
  refine down_ind ?_ ?_
  · refine Ev.succ ?_
    simp only [laws_toLinkS.l0, Int.lt_irrefl, if_false]
    exact Ev.const (by simp)
  · intro i hi ih
    refine Ev.succ ?_
    have hlen : ((l.take i).map toK ++ List.replicate (l.length - i) z109).length = l.length := by simp; omega
    simp only [laws_toLinkS.l0, laws_toLink.f, Option.bind_some, hlen, if_pos (show (i : Int) < (l.length : Int) by omega), if_pos (show (0 : Int) ≤ i by omega), rdLK l i hi, Int.toNat_natCast, show (⟨l[i].f0, l[i].f1⟩ : ILink) = toK l[i] from rfl, set_fill2 l toK _ i hi, wrap_succ (show i ≤ 4611686018427387903 by omega)]
    exact ih
 have := key 0 (by omega)
 simpa using this

theorem laws_toIntS_ev (l : List Int) (hl : l.length ≤ 1048576) : Ev (fun k => laws_toIntS.f k l) l := by
 unfold laws_toIntS.f
 simp only [if_pos (show (0 : Int) ≤ (l.length : Int) by omega), Int.toNat_natCast, if_pos (show l.length ≤ 35184372088832 by omega)]
 have key : ∀ i, i ≤ l.length → Ev (fun k => laws_toIntS.l0 k l (l.take i ++ List.replicate (l.length - i) 0) (i : Int)) l := by
  refine down_ind ?_ ?_
  · refine Ev.succ ?_
    simp only [laws_toIntS.l0, Int.lt_irrefl, if_false]
    exact Ev.const (by simp)
  · intro i hi ih
    refine Ev.succ ?_
    have hlen : (l.take i ++ List.replicate (l.length - i) 0).length = l.length := by simp; omega
    simp only [laws_toIntS.l0, hlen, if_pos (show (i : Int) < (l.length : Int) by omega), if_pos (show (0 : Int) ≤ i by omega), rd_nat l i hi, Int.toNat_natCast, set_fill l 0 i hi, wrap_succ (show i ≤ 4611686018427387903 by omega)]
    exact ih
 have := key 0 (by omega)
 simpa using this

def sizes (l : List ByteArray) : Nat := (l.map ByteArray.size).sum
theorem laws_szStringS_ev (l : List ByteArray) (n : Nat) (hn : n ≤ 1048576) (hl : BdSlice 16 BdStr l) : Ev (fun k => laws_szStringS.f k l n) (if l.length + sizes l ≤ n then ((n - (l.length + sizes l) : Nat) : Int) else -1) := by
 have hl' : l.length ≤ 140737488351232 := by have := hl.1; omega
 unfold laws_szStringS.f
 rw [wrap_in (by omega) (by omega)]
 by_cases h : l.length ≤ n
 · rw [show ((n : Int) - (l.length : Int)) = ((n - l.length : Nat) : Int) by omega]
   simp only [if_neg (show ¬ ((n - l.length : Nat) : Int) < 0 by omega)]
   have key : ∀ i, i ≤ l.length → ∀ m : Nat, m ≤ n → Ev (fun k => laws_szStringS.l0 k l (m : Int) (i : Int)) (if sizes (l.drop i) ≤ m then ((m - sizes (l.drop i) : Nat) : Int) else -1) := by
    refine down_ind ?_ ?_
    · intro m hm
      refine Ev.succ ?_
      simp only [laws_szStringS.l0, Int.lt_irrefl, if_false]
      exact Ev.const (by simp [sizes])
    · intro i hi ih m hm
      have hb : l[i].size ≤ 140737488351232 := bd_get hl i hi
      refine Ev.succ ?_
      simp only [laws_szStringS.l0, if_pos (show (i : Int) < (l.length : Int) by omega), if_pos (show (0 : Int) ≤ i by omega), rdOf_nat _ l i hi, wrap_in (show -4611686018427387904 ≤ (m : Int) - (l[i].size : Int) by omega) (show (m : Int) - (l[i].size : Int) ≤ 4611686018427387904 by omega), wrap_succ (show i ≤ 4611686018427387903 by omega)]
      have hd : sizes (l.drop i) = l[i].size + sizes (l.drop (i + 1)) := by rw [drop_cons l i hi]; rfl
      rw [hd]
      by_cases hs : l[i].size ≤ m
      · simp only [if_neg (show ¬ (m : Int) - (l[i].size : Int) < 0 by omega), show (m : Int) - (l[i].size : Int) = ((m - l[i].size : Nat) : Int) by omega]
        refine Ev.cast (ih (m - l[i].size) (by omega)) ?_
        by_cases h2 : sizes (l.drop (i + 1)) ≤ m - l[i].size
        · rw [if_pos h2, if_pos (by omega)]
          congr 1
          omega
        · rw [if_neg h2, if_neg (by omega)]
      · simp only [if_pos (show (m : Int) - (l[i].size : Int) < 0 by omega)]
        exact Ev.const (by rw [if_neg (by omega)])
   refine Ev.cast (key 0 (by omega) (n - l.length) (by omega)) ?_
   simp only [List.drop_zero]
   by_cases h2 : sizes l ≤ n - l.length
   · rw [if_pos h2, if_pos (by omega)]
     congr 1
     omega
   · rw [if_neg h2, if_neg (by omega)]
 · simp only [if_pos (show ((n : Int) - (l.length : Int)) < 0 by omega)]
   exact Ev.const (by rw [if_neg (by omega)])

theorem laws_szCandidate_eq (l : List LLink) (n : Nat) (hn : n ≤ 1048576) (hl : l.length ≤ 140737488355328) : laws_szCandidate.f l n = some (if l.length ≤ n then ((n - l.length : Nat) : Int) else -1) := by
 unfold laws_szCandidate.f laws_szLinkS.f
 rw [wrap_in (by omega) (by omega)]
 by_cases h : l.length ≤ n
 · rw [if_neg (show ¬ ((n : Int) - (l.length : Int) < 0) by omega), if_pos h]
   simp only [Option.bind_some]
   rw [if_neg (by omega)]
   congr 1
   omega
 · rw [if_pos (show ((n : Int) - (l.length : Int) < 0) by omega), if_neg h]
   simp only [Option.bind_some]
   rfl

theorem laws_szIntS_eq (l : List Int) (n : Nat) (hn : n ≤ 1048576) (hl : l.length ≤ 140737488351232) : laws_szIntS.f l n = some (if l.length ≤ n then ((n - l.length : Nat) : Int) else -1) := by
 unfold laws_szIntS.f
 rw [wrap_in (by omega) (by omega)]
 by_cases h : l.length ≤ n
 · rw [if_neg (by omega), if_pos h]
   congr 1
   omega
 · rw [if_pos (by omega), if_neg h]

theorem laws_szCandidateS_ev (l : List LCand) (n : Nat) (hn : n ≤ 1048576) (hl : BdSlice 24 Bd96 l) : ∃ z, Ev (fun k => laws_szCandidateS.f k l n) z ∧ (z < 0 ∨ ∃ m : Nat, z = m ∧ m + l.length + lensC l = n) := by
 have hl' : l.length ≤ 140737488351232 := by have := hl.1; omega
 unfold laws_szCandidateS.f
 rw [wrap_in (by omega) (by omega)]
 by_cases h : l.length ≤ n
 · rw [show ((n : Int) - (l.length : Int)) = ((n - l.length : Nat) : Int) by omega]
   simp only [if_neg (show ¬ ((n - l.length : Nat) : Int) < 0 by omega)]
   have key : ∀ i, i ≤ l.length → ∀ m : Nat, m ≤ n → ∃ z, Ev (fun k => laws_szCandidateS.l0 k l (m : Int) (i : Int)) z ∧ (z < 0 ∨ ∃ m' : Nat, z = m' ∧ m' + lensC (l.drop i) = m) := by
    refine down_ind ?_ ?_
    · intro m hm
      refine ⟨m, Ev.succ ?_, .inr ⟨m, rfl, by simp [lensC]⟩⟩
      simp only [laws_szCandidateS.l0, Int.lt_irrefl, if_false]
      exact Ev.const rfl
    · intro i hi ih m hm
      have hb := (hl.2 l[i] (List.getElem_mem hi)).1
      have hd : lensC (l.drop i) = l[i].f0.length + lensC (l.drop (i + 1)) := by rw [drop_cons l i hi]; rfl
      by_cases hs : l[i].f0.length ≤ m
      · obtain ⟨z, hz, hz'⟩ := ih (m - l[i].f0.length) (by omega)
        refine ⟨z, Ev.succ ?_, ?_⟩
        · simp only [laws_szCandidateS.l0, if_pos (show (i : Int) < (l.length : Int) by omega), if_pos (show (0 : Int) ≤ i by omega), rdLC l i hi, laws_szCandidate_eq l[i].f0 m (by omega) (by omega), Option.bind_some, if_pos hs, if_neg (show ¬ ((m - l[i].f0.length : Nat) : Int) < 0 by omega), wrap_succ (show i ≤ 4611686018427387903 by omega)]
          exact hz
        · rcases hz' with h' | ⟨m', rfl, h'⟩
          · exact .inl h'
          · exact .inr ⟨m', rfl, by omega⟩
      · refine ⟨-1, Ev.succ ?_, .inl (by omega)⟩
        simp only [laws_szCandidateS.l0, if_pos (show (i : Int) < (l.length : Int) by omega), if_pos (show (0 : Int) ≤ i by omega), rdLC l i hi, laws_szCandidate_eq l[i].f0 m (by omega) (by omega), Option.bind_some, if_neg hs]
        exact Ev.const rfl
   obtain ⟨z, hz, hz'⟩ := key 0 (by omega) (n - l.length) (by omega)
   refine ⟨z, hz, ?_⟩
   rcases hz' with h' | ⟨m', rfl, h'⟩
   · exact .inl h'
   · rw [List.drop_zero] at h'
     exact .inr ⟨m', rfl, by omega⟩
 · simp only [if_pos (show ((n : Int) - (l.length : Int)) < 0 by omega)]
   exact ⟨-1, Ev.const rfl, .inl (by omega)⟩
theorem laws_szIntSS_ev (l : List (List Int)) (n : Nat) (hn : n ≤ 1048576) (hl : BdSlice 24 (BdSlice 8 (BdInt .i64)) l) : ∃ z, Ev (fun k => laws_szIntSS.f k l n) z ∧ (z < 0 ∨ ∃ m : Nat, z = m ∧ m + l.length + lensII l = n) := by
 have hl' : l.length ≤ 140737488351232 := by have := hl.1; omega
 unfold laws_szIntSS.f
 rw [wrap_in (by omega) (by omega)]
 by_cases h : l.length ≤ n
 · rw [show ((n : Int) - (l.length : Int)) = ((n - l.length : Nat) : Int) by omega]
   simp only [if_neg (show ¬ ((n - l.length : Nat) : Int) < 0 by omega)]
   have key : ∀ i, i ≤ l.length → ∀ m : Nat, m ≤ n → ∃ z, Ev (fun k => laws_szIntSS.l0 k l (m : Int) (i : Int)) z ∧ (z < 0 ∨ ∃ m' : Nat, z = m' ∧ m' + lensII (l.drop i) = m) := by
    refine down_ind ?_ ?_
    · intro m hm
      refine ⟨m, Ev.succ ?_, .inr ⟨m, rfl, by simp [lensII]⟩⟩
      simp only [laws_szIntSS.l0, Int.lt_irrefl, if_false]
      exact Ev.const rfl
    · intro i hi ih m hm
      have hb := (hl.2 l[i] (List.getElem_mem hi)).1
      have hd : lensII (l.drop i) = l[i].length + lensII (l.drop (i + 1)) := by rw [drop_cons l i hi]; rfl
      have he : laws_szIntS.f l[i] m = some (if l[i].length ≤ m then ((m - l[i].length : Nat) : Int) else -1) := laws_szIntS_eq l[i] m (by omega) (by omega)
      by_cases hs : l[i].length ≤ m
      · obtain ⟨z, hz, hz'⟩ := ih (m - l[i].length) (by omega)
        refine ⟨z, Ev.succ ?_, ?_⟩
        · simp only [laws_szIntSS.l0, if_pos (show (i : Int) < (l.length : Int) by omega), if_pos (show (0 : Int) ≤ i by omega), rdII l i hi, he, Option.bind_some, if_pos hs, if_neg (show ¬ ((m - l[i].length : Nat) : Int) < 0 by omega), wrap_succ (show i ≤ 4611686018427387903 by omega)]
          exact hz
        · rcases hz' with h' | ⟨m', rfl, h'⟩
          · exact .inl h'
          · exact .inr ⟨m', rfl, by omega⟩
      · refine ⟨-1, Ev.succ ?_, .inl (by omega)⟩
        simp only [laws_szIntSS.l0, if_pos (show (i : Int) < (l.length : Int) by omega), if_pos (show (0 : Int) ≤ i by omega), rdII l i hi, he, Option.bind_some, if_neg hs]
        exact Ev.const rfl
   obtain ⟨z, hz, hz'⟩ := key 0 (by omega) (n - l.length) (by omega)
   refine ⟨z, hz, ?_⟩
   rcases hz' with h' | ⟨m', rfl, h'⟩
   · exact .inl h'
   · rw [List.drop_zero] at h'
     exact .inr ⟨m', rfl, by omega⟩
 · simp only [if_pos (show ((n : Int) - (l.length : Int)) < 0 by omega)]
   exact ⟨-1, Ev.const rfl, .inl (by omega)⟩
def fits (s : ByteArray) (n : List ByteArray) (r : List LCand) (m : List (List Int)) : Prop := s.size ≤ 1048576 ∧ n.length + sizes n ≤ 1048576 ∧ r.length + lensC r ≤ 1048576 ∧ m.length + lensII m ≤ 1048576
theorem laws_szTableau_ev (s : ByteArray) (n : List ByteArray) (r : List LCand) (m : List (List Int)) (hs : BdStr s) (hn : BdSlice 16 BdStr n) (hr : BdSlice 24 Bd96 r) (hm : BdSlice 24 (BdSlice 8 (BdInt .i64)) m) :
 ∃ z, Ev (fun k => laws_szTableau.f k s n r m 1048576) z ∧ (z < 0 ∨ (∃ q : Nat, z = q ∧ q ≤ 1048576) ∧ fits s n r m) := by
 have hs' : s.size ≤ 140737488351232 := hs
 unfold laws_szTableau.f
 rw [wrap_in (by omega) (by omega)]
 by_cases h1 : s.size ≤ 1048576
 · rw [show ((1048576 : Int) - (s.size : Int)) = ((1048576 - s.size : Nat) : Int) by omega]
   simp only [if_neg (show ¬ ((1048576 - s.size : Nat) : Int) < 0 by omega)]
   have e1 := laws_szStringS_ev n (1048576 - s.size) (by omega) hn
   by_cases h2 : n.length + sizes n ≤ 1048576 - s.size
   · rw [if_pos h2] at e1
     obtain ⟨z2, e2, h3⟩ := laws_szCandidateS_ev r (1048576 - s.size - (n.length + sizes n)) (by omega) hr
     rcases h3 with h3 | ⟨m2, rfl, h3⟩
     · refine ⟨-1, Ev.bind e1 ?_, .inl (by omega)⟩
       simp only [if_neg (show ¬ ((1048576 - s.size - (n.length + sizes n) : Nat) : Int) < 0 by omega)]
       refine Ev.bind e2 ?_
       simp only [if_pos h3]
       exact Ev.const rfl
     · obtain ⟨z4, e4, h5⟩ := laws_szIntSS_ev m m2 (by omega) hm
       rcases h5 with h5 | ⟨m4, rfl, h5⟩
       · refine ⟨-1, Ev.bind e1 ?_, .inl (by omega)⟩
         simp only [if_neg (show ¬ ((1048576 - s.size - (n.length + sizes n) : Nat) : Int) < 0 by omega)]
         refine Ev.bind e2 ?_
         simp only [if_neg (show ¬ (m2 : Int) < 0 by omega)]
         refine Ev.bind e4 ?_
         simp only [if_pos h5]
         exact Ev.const rfl
       · refine ⟨m4, Ev.bind e1 ?_, .inr ⟨⟨m4, rfl, by omega⟩, by omega, by omega, by omega, by omega⟩⟩
         simp only [if_neg (show ¬ ((1048576 - s.size - (n.length + sizes n) : Nat) : Int) < 0 by omega)]
         refine Ev.bind e2 ?_
         simp only [if_neg (show ¬ (m2 : Int) < 0 by omega)]
         refine Ev.bind e4 ?_
         simp only [if_neg (show ¬ (m4 : Int) < 0 by omega)]
         exact Ev.const rfl
   · rw [if_neg h2] at e1
     refine ⟨-1, Ev.bind e1 ?_, .inl (by omega)⟩
     simp only [show (-1 : Int) < 0 by decide, if_true]
     exact Ev.const rfl
 · simp only [if_pos (show ((1048576 : Int) - (s.size : Int)) < 0 by omega)]
   exact ⟨-1, Ev.const rfl, .inl (by omega)⟩

theorem laws_toCandidateS_ev (l : List LCand) (hl : l.length + lensC l ≤ 1048576) : Ev (fun k => laws_toCandidateS.f k l) (l.map toC) := by
 unfold laws_toCandidateS.f
 simp only [if_pos (show (0 : Int) ≤ (l.length : Int) by omega), Int.toNat_natCast, if_pos (show l.length ≤ 11728124029610 by omega)]
 have key : ∀ i, i ≤ l.length → Ev (fun k => laws_toCandidateS.l0 k l ((l.take i).map toC ++ List.replicate (l.length - i) z60) (i : Int)) (l.map toC) := by
  refine down_ind ?_ ?_
  · refine Ev.succ ?_
    simp only [laws_toCandidateS.l0, Int.lt_irrefl, if_false]
    exact Ev.const (by simp)
  · intro i hi ih
    have := lensC_get l i hi
    refine Ev.succ ?_
    have hlen : ((l.take i).map toC ++ List.replicate (l.length - i) z60).length = l.length := by simp; omega
    simp only [laws_toCandidateS.l0, hlen, if_pos (show (i : Int) < (l.length : Int) by omega), if_pos (show (0 : Int) ≤ i by omega), rdLC l i hi]
    refine Ev.bind (laws_toCandidate_ev l[i].f0 (by omega)) ?_
    simp only [Int.toNat_natCast, show (⟨l[i].f0.map toK⟩ : ICand) = toC l[i] from rfl, set_fill2 l toC _ i hi, wrap_succ (show i ≤ 4611686018427387903 by omega)]
    exact ih
 have := key 0 (by omega)
 simpa using this
theorem laws_toIntSS_ev (l : List (List Int)) (hl : l.length + lensII l ≤ 1048576) : Ev (fun k => laws_toIntSS.f k l) l := by
 unfold laws_toIntSS.f
 simp only [if_pos (show (0 : Int) ≤ (l.length : Int) by omega), Int.toNat_natCast, if_pos (show l.length ≤ 11728124029610 by omega)]
 have key : ∀ i, i ≤ l.length → Ev (fun k => laws_toIntSS.l0 k l (l.take i ++ List.replicate (l.length - i) []) (i : Int)) l := by
  refine down_ind ?_ ?_
  · refine Ev.succ ?_
    simp only [laws_toIntSS.l0, Int.lt_irrefl, if_false]
    exact Ev.const (by simp)
  · intro i hi ih
    have := lensII_get l i hi
    refine Ev.succ ?_
    have hlen : (l.take i ++ List.replicate (l.length - i) ([] : List Int)).length = l.length := by simp; omega
    simp only [laws_toIntSS.l0, hlen, if_pos (show (i : Int) < (l.length : Int) by omega), if_pos (show (0 : Int) ≤ i by omega), rdII l i hi]
    refine Ev.bind (laws_toIntS_ev l[i] (by omega)) ?_
    simp only [Int.toNat_natCast, set_fill l _ i hi, wrap_succ (show i ≤ 4611686018427387903 by omega)]
    exact ih
 have := key 0 (by omega)
 simpa using this
theorem laws_toTableau_ev (s : ByteArray) (n : List ByteArray) (r : List LCand) (m : List (List Int)) (h : fits s n r m) : Ev (fun k => laws_toTableau.f k s n r m) (s, n, r.map toC, m) := by
 unfold laws_toTableau.f
 exact Ev.bind (laws_toStringS_ev n (by have := h.2.1; omega)) (Ev.bind (laws_toCandidateS_ev r h.2.2.1) (Ev.bind (laws_toIntSS_ev m h.2.2.2) (Ev.const rfl)))

theorem laws_eqStringS_ev (a : List ByteArray) (hl : a.length ≤ 1048576) : Ev (fun k => laws_eqStringS.f k a a) true := by
 unfold laws_eqStringS.f
 simp only [if_true]
 have key : ∀ i, i ≤ a.length → Ev (fun k => laws_eqStringS.l0 k a a (i : Int)) true := by
  refine down_ind ?_ ?_
  · refine Ev.succ ?_
    simp only [laws_eqStringS.l0, Int.lt_irrefl, if_false]
    exact Ev.const rfl
  · intro i hi ih
    refine Ev.succ ?_
    simp only [laws_eqStringS.l0, if_pos (show (i : Int) < (a.length : Int) by omega), if_pos (show (0 : Int) ≤ i by omega), if_true, wrap_succ (show i ≤ 4611686018427387903 by omega)]
    exact ih
 exact key 0 (by omega)

theorem laws_eqCandidate_ev (a : List ILink) (hl : a.length ≤ 1048576) : Ev (fun k => laws_eqCandidate.f k a a) true := by
 unfold laws_eqCandidate.f
 refine Ev.bind ?_ (Ev.const (if_pos rfl))
 unfold laws_eqLinkS.f
 simp only [if_true]
 have key : ∀ i, i ≤ a.length → Ev (fun k => laws_eqLinkS.l0 k a a (i : Int)) true := by
  refine down_ind ?_ ?_
  · refine Ev.succ ?_
    simp only [laws_eqLinkS.l0, Int.lt_irrefl, if_false]
    exact Ev.const rfl
  · intro i hi ih
    refine Ev.succ ?_
    simp only [laws_eqLinkS.l0, laws_eqLink.f, Option.bind_some, if_pos (show (i : Int) < (a.length : Int) by omega), if_pos (show (0 : Int) ≤ i by omega), if_true, wrap_succ (show i ≤ 4611686018427387903 by omega)]
    exact ih
 exact key 0 (by omega)

theorem laws_eqIntS_ev (a b : List Int) (hl : a.length ≤ 1048576) : Ev (fun k => laws_eqIntS.f k a b) (decide (a = b)) := by
 unfold laws_eqIntS.f
 by_cases hab : a.length = b.length
 · simp only [if_pos (show (a.length : Int) = (b.length : Int) by omega)]
   have key : ∀ i, i ≤ a.length → Ev (fun k => laws_eqIntS.l0 k a b (i : Int)) (decide (a.drop i = b.drop i)) := by
    refine down_ind ?_ ?_
    · refine Ev.succ ?_
      simp only [laws_eqIntS.l0, Int.lt_irrefl, if_false]
      refine Ev.const ?_
      rw [List.drop_of_length_le (Nat.le_refl _), List.drop_of_length_le (by omega)]
      rfl
    · intro i hi ih
      have hb : i < b.length := by omega
      refine Ev.succ ?_
      simp only [laws_eqIntS.l0, if_pos (show (i : Int) < (a.length : Int) by omega), if_pos (show (0 : Int) ≤ i by omega), if_pos (show (i : Int) < (b.length : Int) by omega), rd_nat a i hi, rd_nat b i hb, wrap_succ (show i ≤ 4611686018427387903 by omega)]
      rw [drop_cons a i hi, drop_cons b i hb]
      by_cases he : a[i] = b[i]
      · simp only [if_pos he]
        exact Ev.cast ih (by simp only [List.cons.injEq, he, true_and])
      · simp only [if_neg he]
        exact Ev.const (by simp only [List.cons.injEq, he, false_and, decide_false])
   exact key 0 (by omega)
 · simp only [if_neg (show ¬ (a.length : Int) = (b.length : Int) by omega)]
   exact Ev.const (by
    have : a ≠ b := fun h => hab (by rw [h])
    simp [this])

theorem laws_eqCandidateS_ev (a : List ICand) (hl : a.length ≤ 1048576) (hr : ∀ x ∈ a, x.f0.length ≤ 1048576) : Ev (fun k => laws_eqCandidateS.f k a a) true := by
 unfold laws_eqCandidateS.f
 simp only [if_true]
 have key : ∀ i, i ≤ a.length → Ev (fun k => laws_eqCandidateS.l0 k a a (i : Int)) true := by
  refine down_ind ?_ ?_
  · refine Ev.succ ?_
    simp only [laws_eqCandidateS.l0, Int.lt_irrefl, if_false]
    exact Ev.const rfl
  · intro i hi ih
    refine Ev.succ ?_
    simp only [laws_eqCandidateS.l0, if_pos (show (i : Int) < (a.length : Int) by omega), if_pos (show (0 : Int) ≤ i by omega), rdIC a i hi]
    refine Ev.bind (laws_eqCandidate_ev _ (hr _ (List.getElem_mem hi))) ?_
    simp only [if_true, wrap_succ (show i ≤ 4611686018427387903 by omega)]
    exact ih
 exact key 0 (by omega)
theorem laws_eqIntSS_ev (a : List (List Int)) (hl : a.length + lensII a ≤ 1048576) : Ev (fun k => laws_eqIntSS.f k a a) true := by
 unfold laws_eqIntSS.f
 simp only [if_true]
 have key : ∀ i, i ≤ a.length → Ev (fun k => laws_eqIntSS.l0 k a a (i : Int)) true := by
  refine down_ind ?_ ?_
  · refine Ev.succ ?_
    simp only [laws_eqIntSS.l0, Int.lt_irrefl, if_false]
    exact Ev.const rfl
  · intro i hi ih
    have := lensII_get a i hi
    refine Ev.succ ?_
    simp only [laws_eqIntSS.l0, if_pos (show (i : Int) < (a.length : Int) by omega), if_pos (show (0 : Int) ≤ i by omega), rdII a i hi]
    refine Ev.bind (laws_eqIntS_ev _ _ (by omega)) ?_
    simp only [decide_true, if_true, wrap_succ (show i ≤ 4611686018427387903 by omega)]
    exact ih
 exact key 0 (by omega)
theorem laws_eqTableau_ev (s : ByteArray) (n : List ByteArray) (r : List LCand) (m : List (List Int)) (h : fits s n r m) (hr : okR (r.map toC)) : Ev (fun k => laws_eqTableau.f k s n (r.map toC) m s n (r.map toC) m) true := by
 unfold laws_eqTableau.f
 simp only [if_true]
 refine Ev.bind (laws_eqStringS_ev n (by have := h.2.1; omega)) ?_
 simp only [if_true]
 refine Ev.bind (laws_eqCandidateS_ev (r.map toC) (by rw [List.length_map]; have := h.2.2.1; omega) (fun x hx => (hr x hx).2)) ?_
 simp only [if_true]
 refine Ev.bind (laws_eqIntSS_ev m h.2.2.2) ?_
 simp only [if_true]
 exact Ev.const rfl

theorem size_append (a b : ByteArray) : (a ++ b).size = a.size + b.size := by
 rw [← B_length, ← B_length, ← B_length, B_append, List.length_append]
theorem laws_markText_some (m : Int) (h0 : 0 ≤ m) (h1 : m ≤ 4398046511104) : ∃ s, Ev (fun k => laws_markText.f k m) s := by
 unfold laws_markText.f
 by_cases hm : m ≤ 0
 · simp only [if_pos hm]
   exact ⟨_, Ev.const rfl⟩
 · simp only [if_neg hm]
   obtain ⟨n, rfl⟩ := Int.eq_ofNat_of_zero_le h0
   have key : ∀ (n : Nat) (x : ByteArray), x.size + n ≤ 8796093022208 → ∃ s, Ev (fun k => laws_markText.l0 k (n : Int) x) s := by
    intro n
    induction n using Nat.strongRecOn with
    | _ n ih =>
     intro x hx
     by_cases hn : n = 0
     · subst hn
       refine ⟨(⟨#[109]⟩ : ByteArray) ++ x, Ev.succ ?_⟩
       simp only [laws_markText.l0, if_neg (show ¬ ((0 : Nat) : Int) > 0 by omega), if_pos (show 1 + x.size ≤ 9223372036854775807 by omega)]
       exact Ev.const rfl
     · have hs : ∀ d : Int, (strOfNums [d]).size = 1 := fun d => rfl
       obtain ⟨s, hs'⟩ := ih (n / 10) (by omega) (strOfNums [wrap64 (48 + Int.tmod (n : Int) 10) % 256] ++ x) (by rw [size_append, hs]; omega)
       refine ⟨s, Ev.succ ?_⟩
       have hd : wrap64 (Int.tdiv (n : Int) 10) = ((n / 10 : Nat) : Int) := by
        rw [show Int.tdiv (n : Int) 10 = ((n / 10 : Nat) : Int) from by rw [Int.tdiv_eq_ediv_of_nonneg (by omega)]; omega]
        exact wrap_nat (by omega)
       simp only [laws_markText.l0, if_pos (show (n : Int) > 0 by omega), Option.bind_some, hs, if_pos (show 1 + x.size ≤ 9223372036854775807 by omega), hd]
       exact hs'
   exact key n _ (by show 0 + n ≤ _; omega)
noncomputable def mtx (m : Int) : ByteArray := Classical.epsilon fun s => Ev (fun k => laws_markText.f k m) s
theorem laws_markText_ev (m : Int) (h0 : 0 ≤ m) (h1 : m ≤ 4398046511104) : Ev (fun k => laws_markText.f k m) (mtx m) := Classical.epsilon_spec (laws_markText_some m h0 h1)

theorem laws_markStringS_ev (l : List ByteArray) (m : Int) (hl : l.length ≤ 2097152) (h0 : 0 ≤ m) (h1 : m ≤ 1099511627776) : Ev (fun k => laws_markStringS.f k l m) (m + l.length, (idxs m l.length).map mtx) := by
 unfold laws_markStringS.f
 have key : ∀ i, i ≤ l.length → Ev (fun k => laws_markStringS.l0 k ((idxs m i).map mtx ++ l.drop i) (m + (i : Int)) (i : Int)) (m + l.length, (idxs m l.length).map mtx) := by
  refine down_ind ?_ ?_
  · refine Ev.succ ?_
    have hlen : ((idxs m l.length).map mtx ++ l.drop l.length).length = l.length := by simp [idxs_length]
    simp only [laws_markStringS.l0, hlen, Int.lt_irrefl, if_false]
    exact Ev.const (by simp)
  · intro i hi ih
    refine Ev.succ ?_
    have hlen : ((idxs m i).map mtx ++ l.drop i).length = l.length := by rw [List.length_append, List.length_map, idxs_length, List.length_drop]; omega
    have hset : ((idxs m i).map mtx ++ l.drop i).set i (mtx (m + i)) = (idxs m (i + 1)).map mtx ++ l.drop (i + 1) := by
     rw [List.set_append, List.length_map, idxs_length, if_neg (by omega), Nat.sub_self, drop_cons l i hi, List.set_cons_zero, idxs_snoc, List.map_append, List.append_assoc]
     rfl
    simp only [laws_markStringS.l0, hlen, if_pos (show (i : Int) < (l.length : Int) by omega)]
    refine Ev.bind (laws_markText_ev (m + i) (by omega) (by omega)) ?_
    simp only [if_pos (show (0 : Int) ≤ i by omega), Int.toNat_natCast, hset, wrap_succ (show i ≤ 4611686018427387903 by omega), wrap_in (show -4611686018427387904 ≤ m + (i : Int) + 1 by omega) (show m + (i : Int) + 1 ≤ 4611686018427387904 by omega)]
    exact (show m + ((i + 1 : Nat) : Int) = m + (i : Int) + 1 by omega) ▸ ih
 have := key 0 (by omega)
 simpa [idxs] using this

theorem get_mid {α : Type} (pre : List α) (x : α) (rest : List α) (z : α) : (pre ++ x :: rest).getD pre.length z = x := by simp
theorem set_mid {α : Type} (pre : List α) (x y : α) (rest : List α) : (pre ++ x :: rest).set pre.length y = (pre ++ [y]) ++ rest := by simp
def totN : List Nat → Nat
 | [] => 0
 | n :: l => n + totN l

def mlk (m : Nat) : Nat → List ILink
 | 0 => []
 | n + 1 => (⟨(m : Int) % 256, ((m + 1 : Nat) : Int) % 256⟩ : ILink) :: mlk (m + 2) n
theorem laws_markLinkS_ev (l : List ILink) (m : Nat) (hl : l.length ≤ 2097152) (h1 : m ≤ 1099511627776) : Ev (fun k => laws_markLinkS.f k l (m : Int)) (((m + 2 * l.length : Nat) : Int), mlk m l.length) := by
 unfold laws_markLinkS.f
 have key : ∀ (rest pre : List ILink) (m : Nat), pre.length + rest.length ≤ 2097152 → m + 2 * rest.length ≤ 2199023255552 → Ev (fun k => laws_markLinkS.l0 k (pre ++ rest) (m : Int) (pre.length : Int)) (((m + 2 * rest.length : Nat) : Int), pre ++ mlk m rest.length) := by
  intro rest
  induction rest with
  | nil =>
   intro pre m _ _
   refine Ev.succ ?_
   simp only [laws_markLinkS.l0, List.append_nil, Int.lt_irrefl, if_false]
   exact Ev.const (by simp [mlk])
  | cons x rest ih =>
   intro pre m h1 h2
   simp only [List.length_cons] at h1 h2
   refine Ev.succ ?_
   have e2 : rd_T109 ((pre ++ [(⟨(m : Int) % 256, x.f1⟩ : ILink)]) ++ rest) (pre.length : Int) = ⟨(m : Int) % 256, x.f1⟩ := by
    unfold rd_T109
    simp
   have e1 : rd_T109 (pre ++ x :: rest) (pre.length : Int) = x := by
    unfold rd_T109
    simp
   simp only [laws_markLinkS.l0, List.length_append, List.length_cons, if_pos (show (pre.length : Int) < ((pre.length + (rest.length + 1) : Nat) : Int) by omega), if_pos (show (0 : Int) ≤ pre.length by omega), Int.toNat_natCast, e1, set_mid, Option.bind_some, e2, wrap_succ (show m ≤ 4611686018427387903 by omega), wrap_succ (show m + 1 ≤ 4611686018427387903 by omega), wrap_succ (show pre.length ≤ 4611686018427387903 by omega)]
   rw [show ((pre ++ [(⟨(m : Int) % 256, x.f1⟩ : ILink)]) ++ rest).set pre.length ⟨(m : Int) % 256, ((m + 1 : Nat) : Int) % 256⟩ = (pre ++ [(⟨(m : Int) % 256, ((m + 1 : Nat) : Int) % 256⟩ : ILink)]) ++ rest by simp]
   have := ih (pre ++ [(⟨(m : Int) % 256, ((m + 1 : Nat) : Int) % 256⟩ : ILink)]) (m + 1 + 1) (by simp; omega) (by omega)
   rw [List.length_append, List.length_singleton] at this
   refine Ev.cast this ?_
   simp only [mlk, List.append_assoc, List.singleton_append, Prod.mk.injEq, and_true]
   omega
 have := key l [] m (by simpa using hl) (by omega)
 simpa using this

abbrev GC := S60

def mcrow (m : Nat) : List Nat → List GC
 | [] => []
 | n :: l => (⟨mlk m n⟩ : GC) :: mcrow (m + 2 * n) l
theorem laws_markCandidateS_ev (l : List GC) (m : Nat) (hl : l.length + 2 * totN (l.map fun x => (x.f0).length) ≤ 2097152) (h1 : m ≤ 8388608) : Ev (fun k => laws_markCandidateS.f k l (m : Int)) (((m + 2 * totN (l.map fun x => (x.f0).length) : Nat) : Int), mcrow m (l.map fun x => (x.f0).length)) := by
 unfold laws_markCandidateS.f
 have key : ∀ (rest pre : List GC) (m : Nat), pre.length + rest.length + 2 * totN (rest.map fun x => (x.f0).length) ≤ 2097152 → m + 2 * totN (rest.map fun x => (x.f0).length) ≤ 16777216 → Ev (fun k => laws_markCandidateS.l0 k (pre ++ rest) (m : Int) (pre.length : Int)) (((m + 2 * totN (rest.map fun x => (x.f0).length) : Nat) : Int), pre ++ mcrow m (rest.map fun x => (x.f0).length)) := by
  intro rest
  induction rest with
  | nil =>
   intro pre m _ _
   refine Ev.succ ?_
   simp only [laws_markCandidateS.l0, List.append_nil, Int.lt_irrefl, if_false]
   exact Ev.const (by simp [mcrow, totN])
  | cons x rest ih =>
   intro pre m h1 h2
   simp only [List.length_cons, List.map_cons, totN] at h1 h2
   refine Ev.succ ?_
   simp only [laws_markCandidateS.l0, List.length_append, List.length_cons, if_pos (show (pre.length : Int) < ((pre.length + (rest.length + 1) : Nat) : Int) by omega), if_pos (show (0 : Int) ≤ pre.length by omega), Int.toNat_natCast, get_mid]
   refine Ev.bind (laws_markLinkS_ev _ m (by omega) (by omega)) ?_
   simp only [set_mid, wrap_succ (show pre.length ≤ 4611686018427387903 by omega)]
   have := ih (pre ++ [(⟨mlk m x.f0.length⟩ : GC)]) (m + 2 * (x.f0).length) (by simp; omega) (by omega)
   rw [List.length_append, List.length_singleton] at this
   refine Ev.cast this ?_
   simp only [mcrow, totN, List.map_cons, List.append_assoc, List.singleton_append, Prod.mk.injEq, and_true]
   omega
 have := key l [] m (by simpa using hl) (by omega)
 simpa using this

theorem laws_markIntS_ev (l : List Int) (m : Int) (hl : l.length ≤ 2097152) (h0 : 0 ≤ m) (h1 : m ≤ 1099511627776) : Ev (fun k => laws_markIntS.f k l m) (m + l.length, idxs m l.length) := by
 unfold laws_markIntS.f
 have key : ∀ i, i ≤ l.length → Ev (fun k => laws_markIntS.l0 k (idxs m i ++ l.drop i) (m + (i : Int)) (i : Int)) (m + l.length, idxs m l.length) := by
  refine down_ind ?_ ?_
  · refine Ev.succ ?_
    have hlen : (idxs m l.length ++ l.drop l.length).length = l.length := by simp [idxs_length]
    simp only [laws_markIntS.l0, hlen, Int.lt_irrefl, if_false]
    exact Ev.const (by simp)
  · intro i hi ih
    refine Ev.succ ?_
    have hlen : (idxs m i ++ l.drop i).length = l.length := by rw [List.length_append, idxs_length, List.length_drop]; omega
    have hset : (idxs m i ++ l.drop i).set i (m + i) = idxs m (i + 1) ++ l.drop (i + 1) := by
     rw [List.set_append, idxs_length, if_neg (by omega), Nat.sub_self, drop_cons l i hi, List.set_cons_zero, idxs_snoc, List.append_assoc]
     rfl
    simp only [laws_markIntS.l0, hlen, if_pos (show (i : Int) < (l.length : Int) by omega), if_pos (show (0 : Int) ≤ i by omega), Int.toNat_natCast, hset, wrap_succ (show i ≤ 4611686018427387903 by omega), wrap_in (show -4611686018427387904 ≤ m + (i : Int) + 1 by omega) (show m + (i : Int) + 1 ≤ 4611686018427387904 by omega)]
    exact (show m + ((i + 1 : Nat) : Int) = m + (i : Int) + 1 by omega) ▸ ih
 have := key 0 (by omega)
 simpa [idxs] using this

theorem laws_heldIntS_ev (n : Nat) (m : Int) (hl : n ≤ 2097152) (h0 : 0 ≤ m) (h1 : m ≤ 1099511627776) : Ev (fun k => laws_heldIntS.f k (idxs m n) m) (m + n) := by
 unfold laws_heldIntS.f
 have key : ∀ i, i ≤ n → Ev (fun k => laws_heldIntS.l0 k (idxs m n) (m + (i : Int)) (i : Int)) (m + n) := by
  refine down_ind ?_ ?_
  · refine Ev.succ ?_
    simp only [laws_heldIntS.l0, idxs_length, Int.lt_irrefl, if_false]
    exact Ev.const rfl
  · intro i hi ih
    refine Ev.succ ?_
    have hi' : i < (idxs m n).length := by rw [idxs_length]; exact hi
    simp only [laws_heldIntS.l0, idxs_length, if_pos (show (i : Int) < (n : Int) by omega), if_pos (show (0 : Int) ≤ i by omega), rd_nat _ i hi', idxs_get, if_true, wrap_succ (show i ≤ 4611686018427387903 by omega), wrap_in (show -4611686018427387904 ≤ m + (i : Int) + 1 by omega) (show m + (i : Int) + 1 ≤ 4611686018427387904 by omega)]
    exact (show m + ((i + 1 : Nat) : Int) = m + (i : Int) + 1 by omega) ▸ ih
 have := key 0 (by omega)
 simpa using this

def mirow (m : Nat) : List Nat → List (List Int)
 | [] => []
 | n :: l => (idxs m n : (List Int)) :: mirow (m + 1 * n) l
theorem laws_markIntSS_ev (l : List (List Int)) (m : Nat) (hl : l.length + 1 * totN (l.map fun x => (x).length) ≤ 2097152) (h1 : m ≤ 8388608) : Ev (fun k => laws_markIntSS.f k l (m : Int)) (((m + 1 * totN (l.map fun x => (x).length) : Nat) : Int), mirow m (l.map fun x => (x).length)) := by
 unfold laws_markIntSS.f
 have key : ∀ (rest pre : List (List Int)) (m : Nat), pre.length + rest.length + 1 * totN (rest.map fun x => (x).length) ≤ 2097152 → m + 1 * totN (rest.map fun x => (x).length) ≤ 16777216 → Ev (fun k => laws_markIntSS.l0 k (pre ++ rest) (m : Int) (pre.length : Int)) (((m + 1 * totN (rest.map fun x => (x).length) : Nat) : Int), pre ++ mirow m (rest.map fun x => (x).length)) := by
  intro rest
  induction rest with
  | nil =>
   intro pre m _ _
   refine Ev.succ ?_
   simp only [laws_markIntSS.l0, List.append_nil, Int.lt_irrefl, if_false]
   exact Ev.const (by simp [mirow, totN])
  | cons x rest ih =>
   intro pre m h1 h2
   simp only [List.length_cons, List.map_cons, totN] at h1 h2
   refine Ev.succ ?_
   simp only [laws_markIntSS.l0, List.length_append, List.length_cons, if_pos (show (pre.length : Int) < ((pre.length + (rest.length + 1) : Nat) : Int) by omega), if_pos (show (0 : Int) ≤ pre.length by omega), Int.toNat_natCast, get_mid]
   refine Ev.bind (laws_markIntS_ev _ (m : Int) (by omega) (by omega) (by omega)) ?_
   simp only [set_mid, show (m : Int) + ((x).length : Int) = ((m + 1 * (x).length : Nat) : Int) by omega, wrap_succ (show pre.length ≤ 4611686018427387903 by omega)]
   have := ih (pre ++ [(idxs m x.length : (List Int))]) (m + 1 * (x).length) (by simp; omega) (by omega)
   rw [List.length_append, List.length_singleton] at this
   refine Ev.cast this ?_
   simp only [mirow, totN, List.map_cons, List.append_assoc, List.singleton_append, Prod.mk.injEq, and_true]
   omega
 have := key l [] m (by simpa using hl) (by omega)
 simpa using this

theorem totN_sum (l : List Nat) : totN l = l.sum := by
 induction l with
 | nil => rfl
 | cons a l ih => simp [totN, ih]
theorem laws_markTableau_ev (s : ByteArray) (n : List ByteArray) (r : List GC) (m : List (List Int)) (hn : n.length ≤ 1048576) (hr : r.length + totN (r.map fun x => (x.f0).length) ≤ 1048576) (hm : m.length + totN (m.map fun x => (x).length) ≤ 1048576) :
 ∃ q : Nat, q ≤ 8388608 ∧ Ev (fun k => laws_markTableau.f k s n r m 1) ((q : Int), (idxs 1 n.length).map mtx, mcrow (1 + n.length) (r.map fun x => (x.f0).length), mirow (1 + n.length + 2 * totN (r.map fun x => (x.f0).length)) (m.map fun x => (x).length)) := by
 refine ⟨1 + n.length + 2 * totN (r.map fun x => (x.f0).length) + 1 * totN (m.map fun x => (x).length), by omega, ?_⟩
 unfold laws_markTableau.f
 refine Ev.bind (laws_markStringS_ev n 1 (by omega) (by omega) (by omega)) ?_
 dsimp only
 rw [show (1 : Int) + (n.length : Int) = ((1 + n.length : Nat) : Int) by omega]
 exact Ev.bind (laws_markCandidateS_ev r (1 + n.length) (by omega) (by omega)) (Ev.bind (laws_markIntSS_ev m _ (by omega) (by omega)) (Ev.const rfl))

theorem laws_eqRow_ev (a b : List Int) (hl : a.length ≤ 1048576) : Ev (fun k => laws_eqRow.f k a b) (decide (a = b)) := by
 unfold laws_eqRow.f
 refine Ev.bind (laws_eqIntS_ev a b hl) ?_
 by_cases h : a = b
 · simp [h]; exact Ev.const rfl
 · simp [h]; exact Ev.const rfl

theorem laws_eqRowS_ev (a : List IRow) (hl : a.length + lens a ≤ 1048576) : Ev (fun k => laws_eqRowS.f k a a) true := by
 unfold laws_eqRowS.f
 simp only [if_true]
 have key : ∀ i, i ≤ a.length → Ev (fun k => laws_eqRowS.l0 k a a (i : Int)) true := by
  refine down_ind ?_ ?_
  · refine Ev.succ ?_
    simp only [laws_eqRowS.l0, Int.lt_irrefl, if_false]
    exact Ev.const rfl
  · intro i hi ih
    have := lens_get a i hi
    refine Ev.succ ?_
    simp only [laws_eqRowS.l0, if_pos (show (i : Int) < (a.length : Int) by omega), if_pos (show (0 : Int) ≤ i by omega), rdI a i hi]
    refine Ev.bind (laws_eqRow_ev _ _ (by omega)) ?_
    simp only [decide_true, if_true, wrap_succ (show i ≤ 4611686018427387903 by omega)]
    exact ih
 exact key 0 (by omega)

def mrrow (m : Nat) : List Nat → List IRow
 | [] => []
 | n :: l => (⟨idxs m n⟩ : IRow) :: mrrow (m + 1 * n) l
theorem mrrow_length (m : Nat) (l : List Nat) : (mrrow m l).length = l.length := by
 induction l generalizing m with
 | nil => rfl
 | cons n l ih => simp [mrrow, ih]
theorem laws_markRowS_ev (l : List IRow) (m : Nat) (hl : l.length + 1 * totN (l.map fun x => (x.f0).length) ≤ 2097152) (h1 : m ≤ 8388608) : Ev (fun k => laws_markRowS.f k l (m : Int)) (((m + 1 * totN (l.map fun x => (x.f0).length) : Nat) : Int), mrrow m (l.map fun x => (x.f0).length)) := by
 unfold laws_markRowS.f
 have key : ∀ (rest pre : List IRow) (m : Nat), pre.length + rest.length + 1 * totN (rest.map fun x => (x.f0).length) ≤ 2097152 → m + 1 * totN (rest.map fun x => (x.f0).length) ≤ 16777216 → Ev (fun k => laws_markRowS.l0 k (pre ++ rest) (m : Int) (pre.length : Int)) (((m + 1 * totN (rest.map fun x => (x.f0).length) : Nat) : Int), pre ++ mrrow m (rest.map fun x => (x.f0).length)) := by
  intro rest
  induction rest with
  | nil =>
   intro pre m _ _
   refine Ev.succ ?_
   simp only [laws_markRowS.l0, List.append_nil, Int.lt_irrefl, if_false]
   exact Ev.const (by simp [mrrow, totN])
  | cons x rest ih =>
   intro pre m h1 h2
   simp only [List.length_cons, List.map_cons, totN] at h1 h2
   refine Ev.succ ?_
   simp only [laws_markRowS.l0, List.length_append, List.length_cons, if_pos (show (pre.length : Int) < ((pre.length + (rest.length + 1) : Nat) : Int) by omega), if_pos (show (0 : Int) ≤ pre.length by omega), Int.toNat_natCast, get_mid]
   refine Ev.bind (laws_markIntS_ev _ (m : Int) (by omega) (by omega) (by omega)) ?_
   simp only [set_mid, show (m : Int) + ((x.f0).length : Int) = ((m + 1 * (x.f0).length : Nat) : Int) by omega, wrap_succ (show pre.length ≤ 4611686018427387903 by omega)]
   have := ih (pre ++ [(⟨idxs m x.f0.length⟩ : IRow)]) (m + 1 * (x.f0).length) (by simp; omega) (by omega)
   rw [List.length_append, List.length_singleton] at this
   refine Ev.cast this ?_
   simp only [mrrow, totN, List.map_cons, List.append_assoc, List.singleton_append, Prod.mk.injEq, and_true]
   omega
 have := key l [] m (by simpa using hl) (by omega)
 simpa using this
theorem laws_heldRowS_ev (l : List Nat) (m : Nat) (hl : l.length + 1 * totN l ≤ 2097152) (h1 : m ≤ 8388608) : Ev (fun k => laws_heldRowS.f k (mrrow m l) (m : Int)) ((m + 1 * totN l : Nat) : Int) := by
 unfold laws_heldRowS.f
 have key : ∀ (l : List Nat) (pre : List IRow) (m : Nat), pre.length + l.length + 1 * totN l ≤ 2097152 → m + 1 * totN l ≤ 16777216 → Ev (fun k => laws_heldRowS.l0 k (pre ++ mrrow m l) (m : Int) (pre.length : Int)) ((m + 1 * totN l : Nat) : Int) := by
  intro l
  induction l with
  | nil =>
   intro pre m _ _
   refine Ev.succ ?_
   simp only [laws_heldRowS.l0, mrrow, List.append_nil, Int.lt_irrefl, if_false]
   exact Ev.const (by simp [totN])
  | cons n l ih =>
   intro pre m h1 h2
   simp only [List.length_cons, totN] at h1 h2
   refine Ev.succ ?_
   have e1 : rd_T73 (pre ++ mrrow m (n :: l)) (pre.length : Int) = (⟨idxs m n⟩ : IRow) := by
    unfold rd_T73
    simp [mrrow]
   simp only [laws_heldRowS.l0, List.length_append, mrrow_length, List.length_cons, if_pos (show (pre.length : Int) < ((pre.length + (l.length + 1) : Nat) : Int) by omega), if_pos (show (0 : Int) ≤ pre.length by omega), e1]
   refine Ev.bind (laws_heldIntS_ev n (m : Int) (by omega) (by omega) (by omega)) ?_
   simp only [show (m : Int) + (n : Int) = ((m + 1 * n : Nat) : Int) by omega, if_neg (show ¬ ((m + 1 * n : Nat) : Int) < 0 by omega), if_false, wrap_succ (show pre.length ≤ 4611686018427387903 by omega)]
   have := ih (pre ++ [(⟨idxs m n⟩ : IRow)]) (m + 1 * n) (by simp; omega) (by omega)
   rw [List.length_append, List.length_singleton, List.append_assoc] at this
   refine Ev.cast this ?_
   simp only [totN]
   omega
 have := key l [] m (by simpa using hl) (by omega)
 simpa using this

theorem totN_rows (l : List IRow) : totN (l.map fun x => (x.f0).length) = lens l := by
 induction l with
 | nil => rfl
 | cons r l ih =>
  simp only [List.map_cons, totN, ih]
  rfl
theorem FnExactRowsFor : laws_FnExactRowsFor.Pure := by
 intro s n r m a hs hn hr hm ha
 refine Ev.rounds ?_
 unfold laws_FnExactRowsFor.f
 obtain ⟨z, hz, h⟩ := laws_szTableau_ev s n r m hs hn hr hm
 refine Ev.bind hz ?_
 rcases h with h | ⟨⟨q, rfl, hq⟩, h⟩
 · simp only [if_pos h]
   exact Ev.const rfl
 · have ho := bdR hr (by have := h.2.2.1; omega)
   have hl : (r.map toC).length ≤ 1048576 := by rw [List.length_map]; have := h.2.2.1; omega
   have hn' : n.length ≤ 1048576 := by have := h.2.1; omega
   simp only [if_neg (show ¬ (q : Int) < 0 by omega)]
   have ht := laws_toTableau_ev s n r m h
   have hsp := spec_RowsFor_ev s n (r.map toC) m a h.1 hn' ho hl h.2.2.2
   have him := impl_RowsFor_ev s n (r.map toC) m a h.1 hn' ho hl h.2.2.2
   have hw := rowsF_small s n (r.map toC) m a
   have hL : (rowsF s n (r.map toC) m a).length ≤ 250 := by
    by_cases hT : isTab s n (r.map toC) m = true
    · have := isTab_len hT
      omega
    · unfold rowsF
      rw [if_neg (fun e => hT e.1)]
      exact Nat.zero_le _
   obtain ⟨M, hM, hmt⟩ := laws_markTableau_ev s n (r.map toC) m hn' (by
    have e : totN ((r.map toC).map fun x => (x.f0).length) = lensC r := by
     rw [totN_sum, List.map_map]
     unfold lensC
     congr 1
     apply List.map_congr_left
     intro x _
     simp [toC]
    rw [e, List.length_map]
    exact h.2.2.1) (by
    rw [totN_sum]
    exact h.2.2.2)
   generalize rowsF s n (r.map toC) m a = W at hsp him hw hL
   have hln := lens_small W hw.1
   have hee := laws_eqRowS_ev W (by omega)
   refine Ev.bind ht (Ev.bind hsp (Ev.bind ht (Ev.bind him (Ev.bind hee ?_))))
   simp only [if_true]
   refine Ev.bind ht (Ev.bind (laws_eqTableau_ev s n r m h ho) ?_)
   simp only [if_true]
   refine Ev.bind hmt ?_
   simp only [if_neg (show ¬ (M : Int) < 0 by omega)]
   refine Ev.bind hee ?_
   simp only [if_true]
   have hh := laws_heldRowS_ev (W.map fun x => (x.f0).length) 1 (by rw [totN_rows, List.length_map]; omega) (by omega)
   refine Ev.bind (laws_markRowS_ev W 1 (by rw [totN_rows]; omega) (by omega)) (Ev.bind hh ?_)
   simp only [if_neg (show ¬ ((1 + 1 * totN (W.map fun x => (x.f0).length) : Nat) : Int) < 0 by omega), if_true]
   refine Ev.bind ht (Ev.bind him (Ev.bind hee ?_))
   simp only [if_true]
   refine Ev.bind hh ?_
   simp only [if_neg (show ¬ ((1 + 1 * totN (W.map fun x => (x.f0).length) : Nat) : Int) < 0 by omega), if_true]
   exact Ev.const rfl

end Go.Proofs.YtlmfpkiaikjlbaaGreat.Pure
