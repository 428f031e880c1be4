/- The pure statement of the law FnExactAllRankings: for all arguments within bounds its printed function answers true. -/
import Derived.Test.YtmfhaplhgaehhaaPFnExactAllRankingsx
import Derived.Test.YtmfhaplhgaehhaaBase
namespace Go.Proofs.Ytmfhaplhgaehhaa.Pure
open Go.RowKit Go.Proofs.YtmfhaplhgaehhaaB Go.Proofs.Ytmfhaplhgaehhaa.PFnExactAllRankings Go.Proofs.YtmfhaplhgaehhaaW.PrintWords Go.Proofs.YtmfhaplhgaehhaaW.PrintLast Go.Proofs.YtmfhaplhgaehhaaW.PrintMore
set_option linter.unusedVariables false
set_option linter.unusedSimpArgs false

/-! ### sounds -/
def snd (c : Int) : Bool := decide (c ∈ ([112, 116, 98, 100, 110, 97, 105] : List Int))
def obs (c : Int) : Bool := decide (c ∈ ([112, 116, 98, 100] : List Int))
def feat (c f : Int) : Bool := if f = 0 then decide (c ∈ ([97, 105] : List Int)) else if f = 1 then decide (c ∈ ([98, 100, 110, 97, 105] : List Int)) else if f = 2 then decide (c = 110) else if f = 3 then decide (c ∈ ([112, 98] : List Int)) else if f = 4 then decide (c = 105) else false
/-- a vowel -/
def vow (c : Int) : Bool := decide (c = 97 ∨ c = 105)
/-- the sounds of a form: at most eight -/
def form (l : List Int) : Bool := l.all snd && decide (l.length ≤ 8)
/-- a voiced obstruent -/
def voi (c : Int) : Bool := decide (c = 98 ∨ c = 100)
theorem byte_ind {P : Int → Prop} (h : ∀ n : Fin 256, P (n.val : Int)) (c : Int) (h0 : 0 ≤ c) (h1 : c < 256) : P c := by
  obtain ⟨n, rfl⟩ := Int.eq_ofNat_of_zero_le h0
  exact h ⟨n, by omega⟩

theorem FnExactAllRankings : laws_FnExactAllRankings.Pure := by
  intro a0 _
  by_cases hc : 1 ≤ a0 ∧ a0 ≤ 5
  · have h : a0 = 1 ∨ a0 = 2 ∨ a0 = 3 ∨ a0 = 4 ∨ a0 = 5 := by omega
    rcases h with rfl | rfl | rfl | rfl | rfl
    · exact ⟨20, by decide +kernel⟩
    · exact ⟨60, by decide +kernel⟩
    · exact ⟨150, by decide +kernel⟩
    · exact ⟨500, by decide +kernel⟩
    · exact ⟨2000, by decide +kernel⟩
  · refine ⟨3, ?_⟩
    have hs : spec_AllRankings.f 3 a0 = some [] := by
      unfold spec_AllRankings.f spec_l1In.f
      by_cases h1 : a0 ≥ 1
      · rw [if_pos h1, decide_eq_false (by omega)]
        rfl
      · rw [if_neg h1]
        rfl
    have hi : impl_AllRankings.f a0 = some [] := by
      unfold impl_AllRankings.f
      rw [if_neg hc]
    unfold laws_FnExactAllRankings.f
    simp only [hs, hi, Option.bind_some]
    decide +kernel

end Go.Proofs.Ytmfhaplhgaehhaa.Pure
