/- The pure statement of the law FnExactIsMarkedness: for all arguments within bounds its printed function answers true. -/
import Derived.Test.YtdamagcfmhimfaaPFnExactIsMarkednessx
import Derived.Test.YtdamagcfmhimfaaBase
namespace Go.Proofs.Ytdamagcfmhimfaa.Pure
open Go.RowKit Go.Proofs.YtdamagcfmhimfaaB Go.Proofs.Ytdamagcfmhimfaa.PFnExactIsMarkedness Go.Proofs.YtdamagcfmhimfaaW.PrintWords Go.Proofs.YtdamagcfmhimfaaW.PrintLast Go.Proofs.YtdamagcfmhimfaaW.PrintMore
set_option linter.unusedVariables false
set_option linter.unusedSimpArgs false

def cnames : List ByteArray := [⟨#[111, 110, 115, 101, 116]⟩, ⟨#[110, 111, 99, 111, 100, 97]⟩, ⟨#[99, 108, 117, 115, 116, 101, 114]⟩, ⟨#[118, 111, 105, 99, 101]⟩, ⟨#[102, 105, 110, 97, 108]⟩, ⟨#[110, 97, 115, 97, 108]⟩, ⟨#[109, 97, 120]⟩, ⟨#[100, 101, 112]⟩, ⟨#[105, 100, 101, 110, 116]⟩, ⟨#[99, 111, 110, 116, 105, 103]⟩]
theorem cnames_len : cnames.length = 10 := rfl
theorem spec_ConstraintNames_eq : spec_ConstraintNames.f = some cnames := rfl
theorem impl_ConstraintNames_eq : impl_ConstraintNames.f = some cnames := rfl

theorem spec_l3Has_ev (l : List ByteArray) (x : ByteArray) (hl : l.length ≤ 1048576) : Ev (fun k => spec_l3Has.f k l x) (decide (x ∈ l)) := by
  unfold spec_l3Has.f
  have key : ∀ i, i ≤ l.length → Ev (fun k => spec_l3Has.l0 k l x (i : Int)) (decide (x ∈ l.drop i)) := by
    refine down_ind ?_ ?_
    · refine Ev.succ ?_
      simp only [spec_l3Has.l0, Int.lt_irrefl, if_false]
      exact Ev.const (by simp)
    · intro i hi ih
      refine Ev.succ ?_
      simp only [spec_l3Has.l0, if_pos (show (i : Int) < (l.length : Int) by omega), if_pos (show (0 : Int) ≤ i by omega), rdOf_nat _ l i hi, toList_inj, wrap_succ (show i ≤ 4611686018427387903 by omega)]
      rw [drop_cons l i hi]
      by_cases he : l[i] = x
      · simp only [if_pos he]
        exact Ev.const (by rw [he]; simp)
      · simp only [if_neg he]
        refine Ev.cast ih ?_
        rw [decide_eq_decide, List.mem_cons]
        constructor
        · exact .inr
        · rintro (h | h)
          · exact absurd h.symm he
          · exact h
  exact key 0 (by omega)

theorem slices_Index_string_ev (l : List ByteArray) (x : ByteArray) (hl : l.length ≤ 1048576) : Ev (fun k => slices_Index_string_string.f k l x) (idxS l x 0) := by
  unfold slices_Index_string_string.f
  have key : ∀ i, i ≤ l.length → Ev (fun k => slices_Index_string_string.l0 k l x (l.length : Int) (i : Int)) (idxS (l.drop i) x i) := by
    refine down_ind ?_ ?_
    · refine Ev.succ ?_
      simp only [slices_Index_string_string.l0, Int.lt_irrefl, if_false]
      exact Ev.const (by rw [List.drop_of_length_le (Nat.le_refl _)]; rfl)
    · intro i hi ih
      refine Ev.succ ?_
      simp only [slices_Index_string_string.l0, if_pos (show (i : Int) < (l.length : Int) by omega), if_pos (show (0 : Int) ≤ i by omega), rdOf_nat _ l i hi, toList_inj, wrap_succ (show i ≤ 4611686018427387903 by omega)]
      rw [drop_cons l i hi]
      by_cases he : x = l[i]
      · simp only [if_pos he]
        exact Ev.const (by simp only [idxS, if_pos he])
      · simp only [if_neg he]
        exact Ev.cast ih (by simp only [idxS, if_neg he]; rfl)
  exact key 0 (by omega)

theorem impl_within_eq (a b c : Int) : impl_within.f a b c = some (decide (b ≤ a ∧ a ≤ c)) := by
  unfold impl_within.f
  split
  · simp [*]
  · simp [*]

theorem spec_IsMarkedness_ev (x : ByteArray) : Ev (fun k => spec_IsMarkedness.f k x) (decide (x ∈ cnames.take 6)) := by
  unfold spec_IsMarkedness.f
  simp only [spec_ConstraintNames_eq, Option.bind_some, cnames_len, if_pos (show (6 : Int) ≤ ((10 : Nat) : Int) by omega)]
  exact Ev.bind (spec_l3Has_ev _ x (by decide)) (Ev.const rfl)
theorem impl_IsMarkedness_ev (x : ByteArray) : Ev (fun k => impl_IsMarkedness.f k x) (decide (x ∈ cnames.take 6)) := by
  unfold impl_IsMarkedness.f
  simp only [impl_ConstraintNames_eq, Option.bind_some, impl_within_eq]
  refine Ev.bind (slices_Index_string_ev _ x (by decide)) (Ev.const ?_)
  congr 1
  rw [decide_eq_decide, ← idxS_take x cnames 6 0 (Int.le_refl _)]
  omega

theorem FnExactIsMarkedness : laws_FnExactIsMarkedness.Pure := by
  intro s hs
  refine Ev.rounds ?_
  unfold laws_FnExactIsMarkedness.f
  by_cases h : (s.size : Int) > 1048576
  · simp only [if_pos h]
    exact Ev.const rfl
  · simp only [if_neg h]
    refine Ev.bind (spec_IsMarkedness_ev s) (Ev.bind (impl_IsMarkedness_ev s) ?_)
    simp only [bne_self_eq_false, Bool.false_eq_true, if_false]
    exact Ev.const rfl

end Go.Proofs.Ytdamagcfmhimfaa.Pure
