/- The pure statement of the law FnExactConstraintNames: for all arguments within bounds its printed function answers true. -/
import Derived.Test.YtdamagcfmhimfaaPFnExactConstraintNamesx
import Derived.Test.YtdamagcfmhimfaaBase
namespace Go.Proofs.Ytdamagcfmhimfaa.Pure
open Go.RowKit Go.Proofs.YtdamagcfmhimfaaB Go.Proofs.Ytdamagcfmhimfaa.PFnExactConstraintNames Go.Proofs.YtdamagcfmhimfaaW.PrintWords Go.Proofs.YtdamagcfmhimfaaW.PrintLast Go.Proofs.YtdamagcfmhimfaaW.PrintMore
set_option linter.unusedVariables false
set_option linter.unusedSimpArgs false

def cnames : List ByteArray := [⟨#[111, 110, 115, 101, 116]⟩, ⟨#[110, 111, 99, 111, 100, 97]⟩, ⟨#[99, 108, 117, 115, 116, 101, 114]⟩, ⟨#[118, 111, 105, 99, 101]⟩, ⟨#[102, 105, 110, 97, 108]⟩, ⟨#[110, 97, 115, 97, 108]⟩, ⟨#[109, 97, 120]⟩, ⟨#[100, 101, 112]⟩, ⟨#[105, 100, 101, 110, 116]⟩, ⟨#[99, 111, 110, 116, 105, 103]⟩]
theorem cnames_len : cnames.length = 10 := rfl
theorem spec_ConstraintNames_eq : spec_ConstraintNames.f = some cnames := rfl
theorem impl_ConstraintNames_eq : impl_ConstraintNames.f = some cnames := rfl

theorem laws_eqStringS_ev (a : List ByteArray) (hl : a.length ≤ 1048576) : Ev (fun k => laws_eqStringS.f k a a) true := by
  unfold laws_eqStringS.f
  simp only [if_true]
  have key : ∀ i, i ≤ a.length → Ev (fun k => laws_eqStringS.l0 k a a (i : Int)) true := by
    refine down_ind ?_ ?_
    · refine Ev.succ ?_
      simp only [laws_eqStringS.l0, Int.lt_irrefl, if_false]
      exact Ev.const rfl
    · intro i hi ih
      refine Ev.succ ?_
      simp only [laws_eqStringS.l0, if_pos (show (i : Int) < (a.length : Int) by omega), if_pos (show (0 : Int) ≤ i by omega), if_true, wrap_succ (show i ≤ 4611686018427387903 by omega)]
      exact ih
  exact key 0 (by omega)

theorem size_append (a b : ByteArray) : (a ++ b).size = a.size + b.size := by
  rw [← B_length, ← B_length, ← B_length, B_append, List.length_append]
theorem laws_markText_some (m : Int) (h0 : 0 ≤ m) (h1 : m ≤ 4398046511104) : ∃ s, Ev (fun k => laws_markText.f k m) s := by
  unfold laws_markText.f
  by_cases hm : m ≤ 0
  · simp only [if_pos hm]
    exact ⟨_, Ev.const rfl⟩
  · simp only [if_neg hm]
    obtain ⟨n, rfl⟩ := Int.eq_ofNat_of_zero_le h0
    have key : ∀ (n : Nat) (x : ByteArray), x.size + n ≤ 8796093022208 → ∃ s, Ev (fun k => laws_markText.l0 k (n : Int) x) s := by
      intro n
      induction n using Nat.strongRecOn with
      | _ n ih =>
        intro x hx
        by_cases hn : n = 0
        · subst hn
          refine ⟨(⟨#[109]⟩ : ByteArray) ++ x, Ev.succ ?_⟩
          simp only [laws_markText.l0, if_neg (show ¬ ((0 : Nat) : Int) > 0 by omega), if_pos (show 1 + x.size ≤ 9223372036854775807 by omega)]
          exact Ev.const rfl
        · have hs : ∀ d : Int, (strOfNums [d]).size = 1 := fun d => rfl
          obtain ⟨s, hs'⟩ := ih (n / 10) (by omega) (strOfNums [wrap64 (48 + Int.tmod (n : Int) 10) % 256] ++ x) (by rw [size_append, hs]; omega)
          refine ⟨s, Ev.succ ?_⟩
          have hd : wrap64 (Int.tdiv (n : Int) 10) = ((n / 10 : Nat) : Int) := by
            rw [show Int.tdiv (n : Int) 10 = ((n / 10 : Nat) : Int) from by rw [Int.tdiv_eq_ediv_of_nonneg (by omega)]; omega]
            exact wrap_nat (by omega)
          simp only [laws_markText.l0, if_pos (show (n : Int) > 0 by omega), Option.bind_some, hs, if_pos (show 1 + x.size ≤ 9223372036854775807 by omega), hd]
          exact hs'
    exact key n _ (by show 0 + n ≤ _; omega)
noncomputable def mtx (m : Int) : ByteArray := Classical.epsilon fun s => Ev (fun k => laws_markText.f k m) s
theorem laws_markText_ev (m : Int) (h0 : 0 ≤ m) (h1 : m ≤ 4398046511104) : Ev (fun k => laws_markText.f k m) (mtx m) := Classical.epsilon_spec (laws_markText_some m h0 h1)

theorem laws_markStringS_ev (l : List ByteArray) (m : Int) (hl : l.length ≤ 2097152) (h0 : 0 ≤ m) (h1 : m ≤ 1099511627776) : Ev (fun k => laws_markStringS.f k l m) (m + l.length, (idxs m l.length).map mtx) := by
  unfold laws_markStringS.f
  have key : ∀ i, i ≤ l.length → Ev (fun k => laws_markStringS.l0 k ((idxs m i).map mtx ++ l.drop i) (m + (i : Int)) (i : Int)) (m + l.length, (idxs m l.length).map mtx) := by
    refine down_ind ?_ ?_
    · refine Ev.succ ?_
      have hlen : ((idxs m l.length).map mtx ++ l.drop l.length).length = l.length := by simp [idxs_length]
      simp only [laws_markStringS.l0, hlen, Int.lt_irrefl, if_false]
      exact Ev.const (by simp)
    · intro i hi ih
      refine Ev.succ ?_
      have hlen : ((idxs m i).map mtx ++ l.drop i).length = l.length := by rw [List.length_append, List.length_map, idxs_length, List.length_drop]; omega
      have hset : ((idxs m i).map mtx ++ l.drop i).set i (mtx (m + i)) = (idxs m (i + 1)).map mtx ++ l.drop (i + 1) := by
        rw [List.set_append, List.length_map, idxs_length, if_neg (by omega), Nat.sub_self, drop_cons l i hi, List.set_cons_zero, idxs_snoc, List.map_append, List.append_assoc]
        rfl
      simp only [laws_markStringS.l0, hlen, if_pos (show (i : Int) < (l.length : Int) by omega)]
      refine Ev.bind (laws_markText_ev (m + i) (by omega) (by omega)) ?_
      simp only [if_pos (show (0 : Int) ≤ i by omega), Int.toNat_natCast, hset, wrap_succ (show i ≤ 4611686018427387903 by omega), wrap_in (show -4611686018427387904 ≤ m + (i : Int) + 1 by omega) (show m + (i : Int) + 1 ≤ 4611686018427387904 by omega)]
      exact (show m + ((i + 1 : Nat) : Int) = m + (i : Int) + 1 by omega) ▸ ih
  have := key 0 (by omega)
  simpa [idxs] using this
theorem laws_heldStringS_ev (n : Nat) (m : Int) (hl : n ≤ 2097152) (h0 : 0 ≤ m) (h1 : m ≤ 1099511627776) : Ev (fun k => laws_heldStringS.f k ((idxs m n).map mtx) m) (m + n) := by
  unfold laws_heldStringS.f
  have key : ∀ i, i ≤ n → Ev (fun k => laws_heldStringS.l0 k ((idxs m n).map mtx) (m + (i : Int)) (i : Int)) (m + n) := by
    refine down_ind ?_ ?_
    · refine Ev.succ ?_
      simp only [laws_heldStringS.l0, List.length_map, idxs_length, Int.lt_irrefl, if_false]
      exact Ev.const rfl
    · intro i hi ih
      refine Ev.succ ?_
      have hi' : i < ((idxs m n).map mtx).length := by rw [List.length_map, idxs_length]; exact hi
      simp only [laws_heldStringS.l0, List.length_map, idxs_length, if_pos (show (i : Int) < (n : Int) by omega), if_pos (show (0 : Int) ≤ i by omega)]
      refine Ev.bind (laws_markText_ev (m + i) (by omega) (by omega)) ?_
      have hg : rdOf ByteArray.empty ((idxs m n).map mtx) (i : Int) = mtx (m + i) := by rw [rdOf_nat _ _ i hi', List.getElem_map, idxs_get]
      simp only [hg, if_true, wrap_succ (show i ≤ 4611686018427387903 by omega), wrap_in (show -4611686018427387904 ≤ m + (i : Int) + 1 by omega) (show m + (i : Int) + 1 ≤ 4611686018427387904 by omega)]
      exact (show m + ((i + 1 : Nat) : Int) = m + (i : Int) + 1 by omega) ▸ ih
  have := key 0 (by omega)
  simpa using this

theorem FnExactConstraintNames : laws_FnExactConstraintNames.Pure := by
  refine Ev.rounds ?_
  unfold laws_FnExactConstraintNames.f
  simp only [spec_ConstraintNames_eq, impl_ConstraintNames_eq, Option.bind_some]
  refine Ev.bind (laws_eqStringS_ev cnames (by decide)) ?_
  simp only [if_true]
  refine Ev.bind (laws_markStringS_ev cnames 1 (by decide) (by omega) (by omega)) (Ev.bind (laws_heldStringS_ev cnames.length 1 (by decide) (by omega) (by omega)) ?_)
  simp only [if_neg (show ¬ (1 + (cnames.length : Int)) < 0 by omega), if_true]
  refine Ev.bind (laws_eqStringS_ev cnames (by decide)) ?_
  simp only [if_true]
  refine Ev.bind (laws_heldStringS_ev cnames.length 1 (by decide) (by omega) (by omega)) ?_
  simp only [if_neg (show ¬ (1 + (cnames.length : Int)) < 0 by omega), if_true]
  exact Ev.const rfl

end Go.Proofs.Ytdamagcfmhimfaa.Pure
