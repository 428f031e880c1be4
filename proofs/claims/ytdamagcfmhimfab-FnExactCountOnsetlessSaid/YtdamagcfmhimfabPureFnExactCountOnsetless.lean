/- The pure statement of the law FnExactCountOnsetless: for all arguments within bounds its printed function answers true. -/
import Derived.Test.YtdamagcfmhimfabPFnExactCountOnsetlessx
import Derived.Test.YtdamagcfmhimfabBase
namespace Go.Proofs.Ytdamagcfmhimfab.Pure
open Go.RowKit Go.Proofs.YtdamagcfmhimfabB Go.Proofs.Ytdamagcfmhimfab.PFnExactCountOnsetless Go.Proofs.YtdamagcfmhimfabW.PrintWords Go.Proofs.YtdamagcfmhimfabW.PrintLast Go.Proofs.YtdamagcfmhimfabW.PrintMore
set_option linter.unusedVariables false
set_option linter.unusedSimpArgs false

/-! ### sounds -/
def snd (c : Int) : Bool := decide (c ∈ ([112, 116, 98, 100, 110, 97, 105] : List Int))
def obs (c : Int) : Bool := decide (c ∈ ([112, 116, 98, 100] : List Int))
def feat (c f : Int) : Bool := if f = 0 then decide (c ∈ ([97, 105] : List Int)) else if f = 1 then decide (c ∈ ([98, 100, 110, 97, 105] : List Int)) else if f = 2 then decide (c = 110) else if f = 3 then decide (c ∈ ([112, 98] : List Int)) else if f = 4 then decide (c = 105) else false
/-- a vowel -/
def vow (c : Int) : Bool := decide (c = 97 ∨ c = 105)
/-- the sounds of a form: at most eight -/
def form (l : List Int) : Bool := l.all snd && decide (l.length ≤ 8)
/-- a voiced obstruent -/
def voi (c : Int) : Bool := decide (c = 98 ∨ c = 100)
theorem byte_ind {P : Int → Prop} (h : ∀ n : Fin 256, P (n.val : Int)) (c : Int) (h0 : 0 ≤ c) (h1 : c < 256) : P c := by
  obtain ⟨n, rfl⟩ := Int.eq_ofNat_of_zero_le h0
  exact h ⟨n, by omega⟩

def cns (c : Int) : Bool := snd c && !vow c
def vls (c : Int) : Bool := decide (c = 112 ∨ c = 116)
def pOnsetless (b x h : Int) : Bool := vow x && !cns b
def pCodas (b x h : Int) : Bool := cns x && !vow h
def pClusters (b x h : Int) : Bool := cns b && cns x
def pVoiced (b x h : Int) : Bool := voi x
def pFinalVoiced (b x h : Int) : Bool := voi x && (h == 0)
def pNasalVoiceless (b x h : Int) : Bool := decide (b = 110) && vls x
def cntP (p : Int → Int → Int → Bool) (l : List Int) : Nat := if form l then plc p l 0 else 0

theorem impl_IsSound_eq (c : Int) (h0 : 0 ≤ c) (h1 : c < 256) : impl_IsSound.f c = some (snd c) := byte_ind (P := fun c => impl_IsSound.f c = some (snd c)) (by decide +kernel) c h0 h1
theorem spec_IsSound_ev (c : Int) (h0 : 0 ≤ c) (h1 : c < 256) : Ev (fun k => spec_IsSound.f k c) (snd c) :=
  Ev.at_ (spec_IsSound.mono c) 9 (byte_ind (P := fun c => spec_IsSound.f 9 c = some (snd c)) (by decide +kernel) c h0 h1)

theorem impl_within_eq (a b c : Int) : impl_within.f a b c = some (decide (b ≤ a ∧ a ≤ c)) := by
  unfold impl_within.f
  split
  · simp [*]
  · simp [*]
theorem spec_l2Sounds_ev (s : ByteArray) (hn : s.size ≤ 140737488351232) : Ev (fun k => spec_l2Sounds.f k s) ((B s).all snd && decide (s.size ≤ 20)) := by
  have key : ∀ i, i ≤ s.size → Ev (fun k => spec_l2Sounds.l0 k s (i : Int)) (((B s).drop i).all snd && decide (s.size ≤ 20)) := by
    refine down_ind ?_ ?_
    · refine Ev.succ ?_
      simp only [spec_l2Sounds.l0, Int.lt_irrefl, if_false]
      refine Ev.const ?_
      rw [List.drop_of_length_le (by rw [B_length]; exact Nat.le_refl _)]
      simp
      omega
    · intro i hi ih
      have hB : i < (B s).length := by rw [B_length]; exact hi
      have hr := B_get_range s i hB
      refine Ev.succ ?_
      simp only [spec_l2Sounds.l0, if_pos (show (i : Int) < (s.size : Int) by omega), if_pos (show (0 : Int) ≤ i by omega), bt_nat s i hB]
      refine Ev.bind (spec_IsSound_ev _ hr.1 hr.2) ?_
      rw [drop_cons _ _ hB, List.all_cons]
      cases snd (B s)[i]
      · simp only [Bool.false_eq_true, if_false]
        exact Ev.const rfl
      · simp only [if_true, wrap_succ (show i ≤ 4611686018427387903 by omega), Bool.true_and]
        exact ih
  exact key 0 (by omega)
theorem spec_IsForm_ev (s : ByteArray) (hn : s.size ≤ 140737488351232) : Ev (fun k => spec_IsForm.f k s) (form (B s)) := by
  unfold spec_IsForm.f
  refine Ev.bind (spec_l2Sounds_ev s hn) ?_
  refine Ev.const ?_
  unfold form
  rw [B_length]
  cases (B s).all snd
  · simp
  · by_cases h : s.size ≤ 8
    · have h2 : s.size ≤ 20 := by omega
      simp [h, h2]
      omega
    · by_cases h2 : s.size ≤ 20
      · simp [h, h2]
        omega
      · simp [h, h2]
theorem impl_areSounds_ev (s : ByteArray) (hn : s.size ≤ 140737488351232) : Ev (fun k => impl_areSounds.f k s) ((B s).all snd && decide (1 ≤ s.size ∧ s.size ≤ 20)) := by
  have key : ∀ i, i ≤ s.size → Ev (fun k => impl_areSounds.l0 k s (s.size : Int) (i : Int)) (((B s).drop i).all snd && decide (1 ≤ s.size ∧ s.size ≤ 20)) := by
    refine down_ind ?_ ?_
    · refine Ev.succ ?_
      simp only [impl_areSounds.l0, Int.lt_irrefl, if_false, impl_within_eq, Option.bind_some]
      refine Ev.const ?_
      rw [List.drop_of_length_le (by rw [B_length]; exact Nat.le_refl _)]
      simp only [List.all_nil, Bool.true_and]
      exact congrArg some (decide_eq_decide.2 (by omega))
    · intro i hi ih
      have hB : i < (B s).length := by rw [B_length]; exact hi
      have hr := B_get_range s i hB
      refine Ev.succ ?_
      simp only [impl_areSounds.l0, if_pos (show (i : Int) < (s.size : Int) by omega), if_pos (show (0 : Int) ≤ i by omega), bt_nat s i hB, impl_IsSound_eq _ hr.1 hr.2, Option.bind_some]
      rw [drop_cons _ _ hB, List.all_cons]
      cases snd (B s)[i]
      · simp only [Bool.false_eq_true, if_false]
        exact Ev.const rfl
      · simp only [if_true, wrap_succ (show i ≤ 4611686018427387903 by omega), Bool.true_and]
        exact ih
  exact key 0 (by omega)
theorem impl_IsForm_ev (s : ByteArray) (hn : s.size ≤ 140737488351232) : Ev (fun k => impl_IsForm.f k s) (form (B s)) := by
  unfold impl_IsForm.f
  by_cases h0 : s.toList = []
  · simp only [if_pos h0]
    rw [toList_nil] at h0
    exact Ev.const (by rw [h0]; rfl)
  · simp only [if_neg h0]
    rw [toList_nil] at h0
    have h1 : 1 ≤ s.size := by
      rw [← B_length]
      exact List.length_pos_iff.2 h0
    by_cases h8 : s.size ≤ 8
    · simp only [if_pos (show (s.size : Int) ≤ 8 by omega)]
      refine Ev.bind (impl_areSounds_ev s hn) ?_
      refine Ev.const ?_
      unfold form
      rw [B_length]
      have h2 : s.size ≤ 20 := by omega
      simp [h1, h2, h8]
    · simp only [if_neg (show ¬ (s.size : Int) ≤ 8 by omega)]
      refine Ev.const ?_
      unfold form
      rw [B_length]
      simp [h8]

theorem places_at_CountOnsetless_ev (s : ByteArray) (hn : s.size ≤ 140737488351232) (p : Int → Int → Int → Bool) (hp : ∀ a b c, 0 ≤ a ∧ a < 256 → 0 ≤ b ∧ b < 256 → 0 ≤ c ∧ c < 256 → impl_CountOnsetless_1.f a b c = some (p a b c)) :
    Ev (fun k => impl_places_at_CountOnsetless_1.f k s ()) ((cntP p (B s) : Nat) : Int) := by
  unfold impl_places_at_CountOnsetless_1.f cntP
  have key : ∀ i, i ≤ s.size → ∀ n : Nat, n ≤ i → Ev (fun k => impl_places_at_CountOnsetless_1.l0 k s (n : Int) (s.size : Int) (i : Int)) ((n + (if form (B s) then plc p (B s) i else 0) : Nat) : Int) := by
    refine down_ind ?_ ?_
    · intro n hn'
      refine Ev.succ ?_
      simp only [impl_places_at_CountOnsetless_1.l0, Int.lt_irrefl, if_false]
      exact Ev.const (by rw [plc_end _ _ (by rw [B_length]; exact Nat.le_refl _)]; simp)
    · intro i hi ih n hn'
      have hB : i < (B s).length := by rw [B_length]; exact hi
      have J2 : ∀ b h, (0 ≤ b ∧ b < 256) → (0 ≤ h ∧ h < 256) → b = befA (B s) i → h = behA (B s) i → Ev (fun k => impl_places_at_CountOnsetless_1.j2 k s (n : Int) (i : Int) b h (s.size : Int) (i : Int)) ((n + (if form (B s) then plc p (B s) i else 0) : Nat) : Int) := by
        intro b h hb hh eb eh
        refine Ev.succ ?_
        simp only [impl_places_at_CountOnsetless_1.j2]
        refine Ev.bind (impl_IsForm_ev s hn) ?_
        cases hf : form (B s)
        · simp only [Bool.false_eq_true, if_false, wrap_succ (show i ≤ 4611686018427387903 by omega)]
          refine Ev.cast (ih n (by omega)) ?_
          simp [hf]
        · simp only [if_true, if_pos (show (0 : Int) ≤ i by omega), if_pos (show (i : Int) < (s.size : Int) by omega), bt_nat s i hB, hp b _ h hb (B_get_range s i hB) hh, Option.bind_some, wrap_succ (show i ≤ 4611686018427387903 by omega)]
          rw [plc_step p (B s) i hB, ← eb, ← eh]
          cases p b (B s)[i] h
          · simp only [Bool.false_eq_true, if_false]
            refine Ev.cast (ih n (by omega)) ?_
            simp [hf]
          · simp only [if_true, wrap_succ (show n ≤ 4611686018427387903 by omega)]
            refine Ev.cast (ih (n + 1) (by omega)) ?_
            simp [hf]
            omega
      have J1 : ∀ b, (0 ≤ b ∧ b < 256) → b = befA (B s) i → Ev (fun k => impl_places_at_CountOnsetless_1.j1 k s (n : Int) (i : Int) b 0 (s.size : Int) (i : Int)) ((n + (if form (B s) then plc p (B s) i else 0) : Nat) : Int) := by
        intro b hb eb
        refine Ev.succ ?_
        simp only [impl_places_at_CountOnsetless_1.j1, wrap_succ (show i ≤ 4611686018427387903 by omega)]
        by_cases h1 : i + 1 < s.size
        · have hB1 : i + 1 < (B s).length := by rw [B_length]; exact h1
          simp only [if_pos (show (((i + 1 : Nat)) : Int) < (s.size : Int) by omega), if_pos (show (0 : Int) ≤ ((i + 1 : Nat) : Int) by omega), bt_nat s (i + 1) hB1]
          exact J2 b _ hb (B_get_range s (i + 1) hB1) eb (behA_in _ _ hB1).symm
        · simp only [if_neg (show ¬ (((i + 1 : Nat)) : Int) < (s.size : Int) by omega)]
          exact J2 b 0 hb (by omega) eb (behA_out _ _ (by rw [B_length]; exact h1)).symm
      refine Ev.succ ?_
      simp only [impl_places_at_CountOnsetless_1.l0, if_pos (show (i : Int) < (s.size : Int) by omega)]
      by_cases h0 : i = 0
      · simp only [if_neg (show ¬ (i : Int) > 0 by omega)]
        exact J1 0 (by omega) (by simp [befA, h0])
      · have hBm : i - 1 < (B s).length := by omega
        simp only [if_pos (show (i : Int) > 0 by omega), show wrap64 ((i : Int) - 1) = ((i - 1 : Nat) : Int) by unfold wrap64; omega, if_pos (show (0 : Int) ≤ ((i - 1 : Nat) : Int) by omega), if_pos (show ((i - 1 : Nat) : Int) < (s.size : Int) by omega), bt_nat s (i - 1) hBm]
        exact J1 _ (B_get_range s (i - 1) hBm) (befA_pos _ _ h0 hB).symm
  have := key 0 (by omega) 0 (by omega)
  simpa using this

theorem impl_isVowel_eq (c : Int) (h0 : 0 ≤ c) (h1 : c < 256) : impl_isVowel.f c = some (vow c) := byte_ind (P := fun c => impl_isVowel.f c = some (vow c)) (by decide +kernel) c h0 h1

theorem impl_isConsonant_eq (c : Int) (h0 : 0 ≤ c) (h1 : c < 256) : impl_isConsonant.f c = some (cns c) := byte_ind (P := fun c => impl_isConsonant.f c = some (cns c)) (by decide +kernel) c h0 h1

theorem form_snd {l : List Int} (hf : form l = true) (i : Nat) (h : i < l.length) : snd l[i] = true := List.all_eq_true.1 (Bool.and_eq_true_iff.1 hf).1 _ (List.getElem_mem h)
theorem form_len {l : List Int} (hf : form l = true) : l.length ≤ 8 := of_decide_eq_true (Bool.and_eq_true_iff.1 hf).2
theorem cns_of_snd {c : Int} (h : snd c = true) : cns c = !vow c := by simp [cns, h]
theorem getD_in (l : List Int) (i : Nat) (h : i < l.length) : l.getD i 0 = l[i] := by simp [h]
theorem behA_getD (l : List Int) (i : Nat) : behA l i = l.getD (i + 1) 0 := rfl
theorem befA_getD (l : List Int) (i : Nat) (h : i ≠ 0) : befA l i = l.getD (i - 1) 0 := by simp [befA, h]

theorem spec_CountOnsetless_gen (s : ByteArray) (hn : s.size ≤ 140737488351232) (p : Int → Int → Int → Bool) (st : Nat)
    (step : ∀ i (hi : i < (B s).length) (n : Nat), n ≤ i → st ≤ i → form (B s) = true → ∀ r, Ev (fun k => spec_CountOnsetless.l0 k s ((n + (if p (befA (B s) i) (B s)[i] (behA (B s) i) then 1 else 0) : Nat) : Int) ((i + 1 : Nat) : Int)) r → Ev (fun k => spec_CountOnsetless.j1 k s (n : Int) (i : Int) true) r) :
    ∀ i, i ≤ s.size → st ≤ i → ∀ n : Nat, n ≤ i → Ev (fun k => spec_CountOnsetless.l0 k s (n : Int) (i : Int)) ((n + (if form (B s) then plc p (B s) i else 0) : Nat) : Int) := by
  refine down_ind ?_ ?_
  · intro _ n hn'
    refine Ev.succ ?_
    simp only [spec_CountOnsetless.l0, Int.lt_irrefl, if_false]
    refine Ev.succ ?_
    simp only [spec_CountOnsetless.j1, Bool.false_eq_true, if_false]
    exact Ev.const (by rw [plc_end _ _ (by rw [B_length]; exact Nat.le_refl _)]; simp)
  · intro i hi ih hst n hn'
    have hB : i < (B s).length := by rw [B_length]; exact hi
    refine Ev.succ ?_
    simp only [spec_CountOnsetless.l0, if_pos (show (i : Int) < (s.size : Int) by omega)]
    refine Ev.bind (spec_IsForm_ev s hn) ?_
    cases hf : form (B s)
    · refine Ev.succ ?_
      simp only [spec_CountOnsetless.j1, Bool.false_eq_true, if_false]
      exact Ev.const rfl
    · refine step i hB n hn' hst hf _ ?_
      rw [plc_step p (B s) i hB]
      by_cases hp : p (befA (B s) i) (B s)[i] (behA (B s) i) = true
      · simp only [if_pos hp]
        refine Ev.cast (ih (by omega) (n + 1) (by omega)) ?_
        simp [hf]
        omega
      · simp only [if_neg hp]
        refine Ev.cast (ih (by omega) n (by omega)) ?_
        simp [hf]

theorem spec_HasFeature_eq (c : Int) (h0 : 0 ≤ c) (h1 : c < 256) (f : Int) (hf : f ∈ ([0, 1, 2, 3, 4] : List Int)) : spec_HasFeature.f c f = some (feat c f) := byte_ind (P := fun c => ∀ f ∈ ([0, 1, 2, 3, 4] : List Int), spec_HasFeature.f c f = some (feat c f)) (by decide +kernel) c h0 h1 f hf

theorem spec_IsVowelAt_eq (s : ByteArray) (i : Nat) : spec_IsVowelAt.f s (i : Int) = some (vow ((B s).getD i 0)) := by
  unfold spec_IsVowelAt.f
  rw [if_pos (show (i : Int) ≥ 0 by omega)]
  by_cases h : i < s.size
  · have hB : i < (B s).length := by rw [B_length]; exact h
    rw [if_pos (by omega), if_pos (by omega), bt_nat s i hB, spec_HasFeature_eq _ (B_get_range s i hB).1 (B_get_range s i hB).2 0 (by decide)]
    simp only [Option.bind_some, feat, if_true, List.getD_eq_getElem?_getD, List.getElem?_eq_getElem hB, Option.getD_some, vow]
    simp
  · rw [if_neg (by omega)]
    simp only [List.getD_eq_getElem?_getD, List.getElem?_eq_none (show (B s).length ≤ i by rw [B_length]; omega)]
    rfl

theorem impl_CountOnsetless_ev (s : ByteArray) (hn : s.size ≤ 140737488351232) : Ev (fun k => impl_CountOnsetless.f k s) ((cntP pOnsetless (B s) : Nat) : Int) := by
  unfold impl_CountOnsetless.f
  refine Ev.bind (places_at_CountOnsetless_ev s hn pOnsetless ?_) (Ev.const rfl)
  intro a b c ha hb _
  unfold impl_CountOnsetless_1.f pOnsetless
  rw [impl_isVowel_eq b hb.1 hb.2, impl_isConsonant_eq a ha.1 ha.2]
  cases vow b <;> rfl
theorem spec_CountOnsetless_ev (s : ByteArray) (hn : s.size ≤ 140737488351232) : Ev (fun k => spec_CountOnsetless.f k s) ((cntP pOnsetless (B s) : Nat) : Int) := by
  unfold spec_CountOnsetless.f
  refine Ev.cast (spec_CountOnsetless_gen s hn pOnsetless 0 ?_ 0 (by omega) (by omega) 0 (by omega)) (by simp [cntP])
  intro i hi n hn' _ hf r ih
  have hb := B_length s
  refine Ev.succ ?_
  simp only [spec_CountOnsetless.j1, if_true, spec_IsVowelAt_eq, Option.bind_some, getD_in _ i hi, wrap_succ (show i ≤ 4611686018427387903 by omega), wrap_succ (show n ≤ 4611686018427387903 by omega)]
  unfold pOnsetless at ih
  cases hx : vow (B s)[i]
  · simp only [hx, Bool.false_and, Bool.false_eq_true, if_false, Nat.add_zero] at ih ⊢
    exact ih
  · by_cases h0 : i = 0
    · simp only [if_true, if_pos (show (i : Int) = 0 by omega)]
      simp only [hx, befA, if_pos h0, show cns 0 = false by decide, Bool.not_false, Bool.and_self, if_true] at ih
      exact ih
    · have hm : i - 1 < (B s).length := by omega
      simp only [if_true, if_neg (show ¬ (i : Int) = 0 by omega), show wrap64 ((i : Int) - 1) = ((i - 1 : Nat) : Int) by unfold wrap64; omega, spec_IsVowelAt_eq, Option.bind_some, getD_in _ (i - 1) hm]
      simp only [hx, befA_pos _ i h0 hi, cns_of_snd (form_snd hf (i - 1) hm), Bool.not_not, Bool.true_and] at ih
      cases hy : vow (B s)[i - 1]
      · simp only [hy, Bool.false_eq_true, if_false, Nat.add_zero] at ih ⊢
        exact ih
      · simp only [hy, if_true] at ih ⊢
        exact ih

theorem FnExactCountOnsetless : laws_FnExactCountOnsetless.Pure := by
  intro s hs
  refine Ev.rounds ?_
  unfold laws_FnExactCountOnsetless.f
  by_cases h : (s.size : Int) > 1048576
  · simp only [if_pos h]
    exact Ev.const rfl
  · simp only [if_neg h]
    refine Ev.bind (spec_CountOnsetless_ev s hs) (Ev.bind (impl_CountOnsetless_ev s hs) ?_)
    simp only [if_true]
    exact Ev.const rfl

end Go.Proofs.Ytdamagcfmhimfab.Pure
