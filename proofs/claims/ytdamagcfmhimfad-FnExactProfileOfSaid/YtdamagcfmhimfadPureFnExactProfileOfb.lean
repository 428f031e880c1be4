/- The pure statement of the law FnExactProfileOf: for all arguments within bounds its printed function answers true. -/
import Derived.Test.YtdamagcfmhimfadPFnExactProfileOfx
import Derived.Test.YtdamagcfmhimfadUFnExactProfileOf
import Derived.Test.YtdamagcfmhimfadPureFnExactProfileOfa
namespace Go.Proofs.Ytdamagcfmhimfad.Pure
open Go.RowKit Go.Proofs.YtdamagcfmhimfadB Go.Proofs.Ytdamagcfmhimfad.PFnExactProfileOf Go.Proofs.YtdamagcfmhimfadW.PrintWords Go.Proofs.YtdamagcfmhimfadW.PrintLast Go.Proofs.YtdamagcfmhimfadW.PrintMore
set_option linter.unusedVariables false
set_option linter.unusedSimpArgs false

theorem places_at_CountNasalVoiceless_ev (s : ByteArray) (hn : s.size ≤ 140737488351232) (p : Int → Int → Int → Bool) (hp : ∀ a b c, 0 ≤ a ∧ a < 256 → 0 ≤ b ∧ b < 256 → 0 ≤ c ∧ c < 256 → impl_CountNasalVoiceless_1.f a b c = some (p a b c)) :
    Ev (fun k => impl_places_at_CountNasalVoiceless_1.f k s ()) ((cntP p (B s) : Nat) : Int) := by
  unfold impl_places_at_CountNasalVoiceless_1.f cntP
  have key : ∀ i, i ≤ s.size → ∀ n : Nat, n ≤ i → Ev (fun k => impl_places_at_CountNasalVoiceless_1.l0 k s (n : Int) (s.size : Int) (i : Int)) ((n + (if form (B s) then plc p (B s) i else 0) : Nat) : Int) := by
    refine down_ind ?_ ?_
    · intro n hn'
      refine Ev.succ ?_
      simp only [impl_places_at_CountNasalVoiceless_1.l0, Int.lt_irrefl, if_false]
      exact Ev.const (by rw [plc_end _ _ (by rw [B_length]; exact Nat.le_refl _)]; simp)
    · intro i hi ih n hn'
      have hB : i < (B s).length := by rw [B_length]; exact hi
      have J2 : ∀ b h, (0 ≤ b ∧ b < 256) → (0 ≤ h ∧ h < 256) → b = befA (B s) i → h = behA (B s) i → Ev (fun k => impl_places_at_CountNasalVoiceless_1.j2 k s (n : Int) (i : Int) b h (s.size : Int) (i : Int)) ((n + (if form (B s) then plc p (B s) i else 0) : Nat) : Int) := by
        intro b h hb hh eb eh
        refine Ev.succ ?_
        simp only [impl_places_at_CountNasalVoiceless_1.j2]
        refine Ev.bind (impl_IsForm_ev s hn) ?_
        cases hf : form (B s)
        · simp only [Bool.false_eq_true, if_false, wrap_succ (show i ≤ 4611686018427387903 by omega)]
          refine Ev.cast (ih n (by omega)) ?_
          simp [hf]
        · simp only [if_true, if_pos (show (0 : Int) ≤ i by omega), if_pos (show (i : Int) < (s.size : Int) by omega), bt_nat s i hB, hp b _ h hb (B_get_range s i hB) hh, Option.bind_some, wrap_succ (show i ≤ 4611686018427387903 by omega)]
          rw [plc_step p (B s) i hB, ← eb, ← eh]
          cases p b (B s)[i] h
          · simp only [Bool.false_eq_true, if_false]
            refine Ev.cast (ih n (by omega)) ?_
            simp [hf]
          · simp only [if_true, wrap_succ (show n ≤ 4611686018427387903 by omega)]
            refine Ev.cast (ih (n + 1) (by omega)) ?_
            simp [hf]
            omega
      have J1 : ∀ b, (0 ≤ b ∧ b < 256) → b = befA (B s) i → Ev (fun k => impl_places_at_CountNasalVoiceless_1.j1 k s (n : Int) (i : Int) b 0 (s.size : Int) (i : Int)) ((n + (if form (B s) then plc p (B s) i else 0) : Nat) : Int) := by
        intro b hb eb
        refine Ev.succ ?_
        simp only [impl_places_at_CountNasalVoiceless_1.j1, wrap_succ (show i ≤ 4611686018427387903 by omega)]
        by_cases h1 : i + 1 < s.size
        · have hB1 : i + 1 < (B s).length := by rw [B_length]; exact h1
          simp only [if_pos (show (((i + 1 : Nat)) : Int) < (s.size : Int) by omega), if_pos (show (0 : Int) ≤ ((i + 1 : Nat) : Int) by omega), bt_nat s (i + 1) hB1]
          exact J2 b _ hb (B_get_range s (i + 1) hB1) eb (behA_in _ _ hB1).symm
        · simp only [if_neg (show ¬ (((i + 1 : Nat)) : Int) < (s.size : Int) by omega)]
          exact J2 b 0 hb (by omega) eb (behA_out _ _ (by rw [B_length]; exact h1)).symm
      refine Ev.succ ?_
      simp only [impl_places_at_CountNasalVoiceless_1.l0, if_pos (show (i : Int) < (s.size : Int) by omega)]
      by_cases h0 : i = 0
      · simp only [if_neg (show ¬ (i : Int) > 0 by omega)]
        exact J1 0 (by omega) (by simp [befA, h0])
      · have hBm : i - 1 < (B s).length := by omega
        simp only [if_pos (show (i : Int) > 0 by omega), show wrap64 ((i : Int) - 1) = ((i - 1 : Nat) : Int) by unfold wrap64; omega, if_pos (show (0 : Int) ≤ ((i - 1 : Nat) : Int) by omega), if_pos (show ((i - 1 : Nat) : Int) < (s.size : Int) by omega), bt_nat s (i - 1) hBm]
        exact J1 _ (B_get_range s (i - 1) hBm) (befA_pos _ _ h0 hB).symm
  have := key 0 (by omega) 0 (by omega)
  simpa using this

theorem impl_HasFeature_eq (c : Int) (h0 : 0 ≤ c) (h1 : c < 256) (f : Int) (hf : f ∈ ([0, 1, 2, 3, 4] : List Int)) : impl_HasFeature.f c f = some (feat c f) := byte_ind (P := fun c => ∀ f ∈ ([0, 1, 2, 3, 4] : List Int), impl_HasFeature.f c f = some (feat c f)) (by decide +kernel) c h0 h1 f hf

theorem impl_isVoiceless_eq (c : Int) (h0 : 0 ≤ c) (h1 : c < 256) : impl_isVoiceless.f c = some (vls c) := byte_ind (P := fun c => impl_isVoiceless.f c = some (vls c)) (by decide +kernel) c h0 h1

theorem spec_CountNasalVoiceless_gen (s : ByteArray) (hn : s.size ≤ 140737488351232) (p : Int → Int → Int → Bool) (st : Nat)
    (step : ∀ i (hi : i < (B s).length) (n : Nat), n ≤ i → st ≤ i → form (B s) = true → ∀ r, Ev (fun k => spec_CountNasalVoiceless.l0 k s ((n + (if p (befA (B s) i) (B s)[i] (behA (B s) i) then 1 else 0) : Nat) : Int) ((i + 1 : Nat) : Int)) r → Ev (fun k => spec_CountNasalVoiceless.j1 k s (n : Int) (i : Int) true) r) :
    ∀ i, i ≤ s.size → st ≤ i → ∀ n : Nat, n ≤ i → Ev (fun k => spec_CountNasalVoiceless.l0 k s (n : Int) (i : Int)) ((n + (if form (B s) then plc p (B s) i else 0) : Nat) : Int) := by
  refine down_ind ?_ ?_
  · intro _ n hn'
    refine Ev.succ ?_
    simp only [spec_CountNasalVoiceless.l0, Int.lt_irrefl, if_false]
    refine Ev.succ ?_
    simp only [spec_CountNasalVoiceless.j1, Bool.false_eq_true, if_false]
    exact Ev.const (by rw [plc_end _ _ (by rw [B_length]; exact Nat.le_refl _)]; simp)
  · intro i hi ih hst n hn'
    have hB : i < (B s).length := by rw [B_length]; exact hi
    refine Ev.succ ?_
    simp only [spec_CountNasalVoiceless.l0, if_pos (show (i : Int) < (s.size : Int) by omega)]
    refine Ev.bind (spec_IsForm_ev s hn) ?_
    cases hf : form (B s)
    · refine Ev.succ ?_
      simp only [spec_CountNasalVoiceless.j1, Bool.false_eq_true, if_false]
      exact Ev.const rfl
    · refine step i hB n hn' hst hf _ ?_
      rw [plc_step p (B s) i hB]
      by_cases hp : p (befA (B s) i) (B s)[i] (behA (B s) i) = true
      · simp only [if_pos hp]
        refine Ev.cast (ih (by omega) (n + 1) (by omega)) ?_
        simp [hf]
        omega
      · simp only [if_neg hp]
        refine Ev.cast (ih (by omega) n (by omega)) ?_
        simp [hf]

theorem impl_IsObstruent_eq (c : Int) (h0 : 0 ≤ c) (h1 : c < 256) : impl_IsObstruent.f c = some (obs c) := byte_ind (P := fun c => impl_IsObstruent.f c = some (obs c)) (by decide +kernel) c h0 h1
theorem spec_IsObstruent_eq (c : Int) (h0 : 0 ≤ c) (h1 : c < 256) : spec_IsObstruent.f c = some (obs c) := byte_ind (P := fun c => spec_IsObstruent.f c = some (obs c)) (by decide +kernel) c h0 h1

theorem impl_CountNasalVoiceless_ev (s : ByteArray) (hn : s.size ≤ 140737488351232) : Ev (fun k => impl_CountNasalVoiceless.f k s) ((cntP pNasalVoiceless (B s) : Nat) : Int) := by
  unfold impl_CountNasalVoiceless.f
  refine Ev.bind (places_at_CountNasalVoiceless_ev s hn pNasalVoiceless ?_) (Ev.const rfl)
  intro a b c ha hb _
  unfold impl_CountNasalVoiceless_1.f pNasalVoiceless
  rw [impl_HasFeature_eq a ha.1 ha.2 2 (by decide), impl_isVoiceless_eq b hb.1 hb.2]
  simp only [feat, Option.bind_some, show ¬ ((2 : Int) = 0) by decide, show ¬ ((2 : Int) = 1) by decide, if_false, if_true]
  by_cases h : a = 110 <;> simp [h]
theorem vls_eq (c : Int) : vls c = (obs c && !feat c 1) := by
  simp only [vls, obs, feat, if_true, show ¬ ((1 : Int) = 0) by decide, if_false]
  by_cases h1 : c = 112
  · subst h1; decide
  · by_cases h2 : c = 116
    · subst h2; decide
    · by_cases h3 : c = 98
      · subst h3; decide
      · by_cases h4 : c = 100
        · subst h4; decide
        · simp [h1, h2, h3, h4]
theorem spec_CountNasalVoiceless_ev (s : ByteArray) (hn : s.size ≤ 140737488351232) : Ev (fun k => spec_CountNasalVoiceless.f k s) ((cntP pNasalVoiceless (B s) : Nat) : Int) := by
  unfold spec_CountNasalVoiceless.f
  have h0 : ∀ x y, pNasalVoiceless 0 x y = false := fun x y => by simp [pNasalVoiceless]
  by_cases hs : s.size = 0
  · refine Ev.succ ?_
    simp only [spec_CountNasalVoiceless.l0, hs, if_neg (show ¬ (1 : Int) < ((0 : Nat) : Int) by omega)]
    refine Ev.succ ?_
    simp only [spec_CountNasalVoiceless.j1, Bool.false_eq_true, if_false]
    exact Ev.const (by simp [cntP, plc_end pNasalVoiceless (B s) (i := 0) (by rw [B_length]; omega)])
  refine Ev.cast (spec_CountNasalVoiceless_gen s hn pNasalVoiceless 1 ?_ 1 (by omega) (by omega) 0 (by omega)) (by simp [cntP, plc_from1 _ _ h0])
  intro i hi n hn' h1 hf r ih
  have hb := B_length s
  have hm : i - 1 < (B s).length := by omega
  have hr := B_get_range s i hi
  have hr' := B_get_range s (i - 1) hm
  refine Ev.succ ?_
  simp only [spec_CountNasalVoiceless.j1, if_true, show wrap64 ((i : Int) - 1) = ((i - 1 : Nat) : Int) by unfold wrap64; omega, if_pos (show (0 : Int) ≤ ((i - 1 : Nat) : Int) by omega), if_pos (show ((i - 1 : Nat) : Int) < (s.size : Int) by omega), bt_nat s (i - 1) hm, spec_HasFeature_eq _ hr'.1 hr'.2 2 (by decide), if_pos (show (0 : Int) ≤ i by omega), if_pos (show (i : Int) < (s.size : Int) by omega), bt_nat s i hi, spec_IsObstruent_eq _ hr.1 hr.2, spec_HasFeature_eq _ hr.1 hr.2 1 (by decide), Option.bind_some, wrap_succ (show i ≤ 4611686018427387903 by omega), wrap_succ (show n ≤ 4611686018427387903 by omega)]
  unfold pNasalVoiceless at ih
  simp only [befA_pos _ i (by omega) hi, vls_eq] at ih
  have hfe : feat (B s)[i - 1] 2 = decide ((B s)[i - 1] = 110) := rfl
  simp only [hfe]
  cases hx : decide ((B s)[i - 1] = 110)
  · simp only [hx, Bool.false_and, Bool.false_eq_true, if_false, Nat.add_zero] at ih ⊢
    exact ih
  · simp only [hx, Bool.true_and, if_true] at ih ⊢
    cases hy : obs (B s)[i]
    · simp only [hy, Bool.false_and, Bool.false_eq_true, if_false, Nat.add_zero] at ih ⊢
      exact ih
    · simp only [hy, Bool.true_and, if_true] at ih ⊢
      cases hz : feat (B s)[i] 1
      · simp only [hz, Bool.not_false, Bool.false_eq_true, if_true, if_false] at ih ⊢
        exact ih
      · simp only [hz, Bool.not_true, Bool.false_eq_true, if_false, if_true, Nat.add_zero] at ih ⊢
        exact ih

def cntK (p : Int → Int → Bool) (l : List ILink) : Nat := if cand l then l.countP (fun x => p x.f0 x.f1) else 0
def kDel (a b : Int) : Bool := decide (b = 0)
def kIns (a b : Int) : Bool := decide (a = 0)
def kVoi (a b : Int) : Bool := !decide (a = 0) && (!decide (b = 0) && !decide (a = b))

theorem links_at_CountDeleted_ev (l : List ILink) (hl : l.length ≤ 1048576) (hb : ∀ x ∈ l, okB x) (p : Int → Int → Bool) (hp : ∀ a b, impl_CountDeleted_1.f a b = some (p a b)) :
    Ev (fun k => impl_links_at_CountDeleted_1.f k l ()) ((cntK p l : Nat) : Int) := by
  unfold impl_links_at_CountDeleted_1.f cntK
  have key : ∀ i, i ≤ l.length → ∀ n : Nat, n ≤ i → Ev (fun k => impl_links_at_CountDeleted_1.l0 k (n : Int) l (l.length : Int) (i : Int) l) ((n + (if cand l then (l.drop i).countP (fun x => p x.f0 x.f1) else 0) : Nat) : Int) := by
    refine down_ind ?_ ?_
    · intro n _
      refine Ev.succ ?_
      simp only [impl_links_at_CountDeleted_1.l0, Int.lt_irrefl, if_false]
      exact Ev.const (by simp)
    · intro i hi ih n hn
      refine Ev.succ ?_
      simp only [impl_links_at_CountDeleted_1.l0, if_pos (show (i : Int) < (l.length : Int) by omega), if_pos (show (0 : Int) ≤ i by omega), rdK l i hi, wrap_succ (show i ≤ 4611686018427387903 by omega), wrap_succ (show n ≤ 4611686018427387903 by omega), hp, Option.bind_some]
      refine Ev.bind (impl_IsCandidate_ev l hl hb) ?_
      rw [drop_cons l i hi, List.countP_cons]
      cases hc : cand l
      · simp only [Bool.false_eq_true, if_false]
        refine Ev.cast (ih n (by omega)) ?_
        simp [hc]
      · simp only [if_true]
        cases p l[i].f0 l[i].f1
        · simp only [Bool.false_eq_true, if_false]
          refine Ev.cast (ih n (by omega)) ?_
          simp [hc]
        · simp only [if_true]
          refine Ev.cast (ih (n + 1) (by omega)) ?_
          simp [hc]
          omega
  refine Ev.cast (key 0 (by omega) 0 (by omega)) ?_
  simp

theorem spec_CountDeleted_gen (l : List ILink) (hl : l.length ≤ 1048576) (hb : ∀ x ∈ l, okB x) (p : Int → Int → Bool)
    (step : ∀ i (hi : i < l.length) (n : Nat), n ≤ i → ∀ r, Ev (fun k => spec_CountDeleted.l0 k ((n + (if p l[i].f0 l[i].f1 then 1 else 0) : Nat) : Int) ((i + 1 : Nat) : Int) l) r → Ev (fun k => spec_CountDeleted.j1 k (n : Int) (i : Int) true l) r) :
    Ev (fun k => spec_CountDeleted.f k l) ((cntK p l : Nat) : Int) := by
  unfold spec_CountDeleted.f cntK
  have key : ∀ i, i ≤ l.length → ∀ n : Nat, n ≤ i → Ev (fun k => spec_CountDeleted.l0 k (n : Int) (i : Int) l) ((n + (if cand l then (l.drop i).countP (fun x => p x.f0 x.f1) else 0) : Nat) : Int) := by
    refine down_ind ?_ ?_
    · intro n _
      refine Ev.succ ?_
      simp only [spec_CountDeleted.l0, Int.lt_irrefl, if_false]
      refine Ev.succ ?_
      simp only [spec_CountDeleted.j1, Bool.false_eq_true, if_false]
      exact Ev.const (by simp)
    · intro i hi ih n hn
      refine Ev.succ ?_
      simp only [spec_CountDeleted.l0, if_pos (show (i : Int) < (l.length : Int) by omega)]
      refine Ev.bind (spec_IsCandidate_ev l hl hb) ?_
      cases hc : cand l
      · refine Ev.succ ?_
        simp only [spec_CountDeleted.j1, Bool.false_eq_true, if_false]
        exact Ev.const (by simp)
      · refine step i hi n hn _ ?_
        rw [drop_cons l i hi, List.countP_cons]
        refine Ev.cast (ih (n + (if p l[i].f0 l[i].f1 then 1 else 0)) (by split <;> omega)) ?_
        simp only [hc, if_true]
        omega
  refine Ev.cast (key 0 (by omega) 0 (by omega)) ?_
  simp

theorem impl_CountDeleted_ev (l : List ILink) (hl : l.length ≤ 1048576) (hb : ∀ x ∈ l, okB x) : Ev (fun k => impl_CountDeleted.f k l) ((cntK kDel l : Nat) : Int) := by
  unfold impl_CountDeleted.f
  exact Ev.bind (links_at_CountDeleted_ev l hl hb kDel (fun a b => by unfold impl_CountDeleted_1.f kDel; rfl)) (Ev.const rfl)
theorem spec_CountDeleted_ev (l : List ILink) (hl : l.length ≤ 1048576) (hb : ∀ x ∈ l, okB x) : Ev (fun k => spec_CountDeleted.f k l) ((cntK kDel l : Nat) : Int) := by
  refine spec_CountDeleted_gen l hl hb kDel ?_
  intro i hi n hn r ih
  refine Ev.succ ?_
  simp only [spec_CountDeleted.j1, if_true, if_pos (show (0 : Int) ≤ i by omega), if_pos (show (i : Int) < (l.length : Int) by omega), rdK l i hi, wrap_succ (show i ≤ 4611686018427387903 by omega), wrap_succ (show n ≤ 4611686018427387903 by omega)]
  unfold kDel at ih
  by_cases h : l[i].f1 = 0
  · simpa [h] using ih
  · simpa [h] using ih

theorem links_at_CountInserted_ev (l : List ILink) (hl : l.length ≤ 1048576) (hb : ∀ x ∈ l, okB x) (p : Int → Int → Bool) (hp : ∀ a b, impl_CountInserted_1.f a b = some (p a b)) :
    Ev (fun k => impl_links_at_CountInserted_1.f k l ()) ((cntK p l : Nat) : Int) := by
  unfold impl_links_at_CountInserted_1.f cntK
  have key : ∀ i, i ≤ l.length → ∀ n : Nat, n ≤ i → Ev (fun k => impl_links_at_CountInserted_1.l0 k (n : Int) l (l.length : Int) (i : Int) l) ((n + (if cand l then (l.drop i).countP (fun x => p x.f0 x.f1) else 0) : Nat) : Int) := by
    refine down_ind ?_ ?_
    · intro n _
      refine Ev.succ ?_
      simp only [impl_links_at_CountInserted_1.l0, Int.lt_irrefl, if_false]
      exact Ev.const (by simp)
    · intro i hi ih n hn
      refine Ev.succ ?_
      simp only [impl_links_at_CountInserted_1.l0, if_pos (show (i : Int) < (l.length : Int) by omega), if_pos (show (0 : Int) ≤ i by omega), rdK l i hi, wrap_succ (show i ≤ 4611686018427387903 by omega), wrap_succ (show n ≤ 4611686018427387903 by omega), hp, Option.bind_some]
      refine Ev.bind (impl_IsCandidate_ev l hl hb) ?_
      rw [drop_cons l i hi, List.countP_cons]
      cases hc : cand l
      · simp only [Bool.false_eq_true, if_false]
        refine Ev.cast (ih n (by omega)) ?_
        simp [hc]
      · simp only [if_true]
        cases p l[i].f0 l[i].f1
        · simp only [Bool.false_eq_true, if_false]
          refine Ev.cast (ih n (by omega)) ?_
          simp [hc]
        · simp only [if_true]
          refine Ev.cast (ih (n + 1) (by omega)) ?_
          simp [hc]
          omega
  refine Ev.cast (key 0 (by omega) 0 (by omega)) ?_
  simp

theorem spec_CountInserted_gen (l : List ILink) (hl : l.length ≤ 1048576) (hb : ∀ x ∈ l, okB x) (p : Int → Int → Bool)
    (step : ∀ i (hi : i < l.length) (n : Nat), n ≤ i → ∀ r, Ev (fun k => spec_CountInserted.l0 k ((n + (if p l[i].f0 l[i].f1 then 1 else 0) : Nat) : Int) ((i + 1 : Nat) : Int) l) r → Ev (fun k => spec_CountInserted.j1 k (n : Int) (i : Int) true l) r) :
    Ev (fun k => spec_CountInserted.f k l) ((cntK p l : Nat) : Int) := by
  unfold spec_CountInserted.f cntK
  have key : ∀ i, i ≤ l.length → ∀ n : Nat, n ≤ i → Ev (fun k => spec_CountInserted.l0 k (n : Int) (i : Int) l) ((n + (if cand l then (l.drop i).countP (fun x => p x.f0 x.f1) else 0) : Nat) : Int) := by
    refine down_ind ?_ ?_
    · intro n _
      refine Ev.succ ?_
      simp only [spec_CountInserted.l0, Int.lt_irrefl, if_false]
      refine Ev.succ ?_
      simp only [spec_CountInserted.j1, Bool.false_eq_true, if_false]
      exact Ev.const (by simp)
    · intro i hi ih n hn
      refine Ev.succ ?_
      simp only [spec_CountInserted.l0, if_pos (show (i : Int) < (l.length : Int) by omega)]
      refine Ev.bind (spec_IsCandidate_ev l hl hb) ?_
      cases hc : cand l
      · refine Ev.succ ?_
        simp only [spec_CountInserted.j1, Bool.false_eq_true, if_false]
        exact Ev.const (by simp)
      · refine step i hi n hn _ ?_
        rw [drop_cons l i hi, List.countP_cons]
        refine Ev.cast (ih (n + (if p l[i].f0 l[i].f1 then 1 else 0)) (by split <;> omega)) ?_
        simp only [hc, if_true]
        omega
  refine Ev.cast (key 0 (by omega) 0 (by omega)) ?_
  simp

theorem impl_CountInserted_ev (l : List ILink) (hl : l.length ≤ 1048576) (hb : ∀ x ∈ l, okB x) : Ev (fun k => impl_CountInserted.f k l) ((cntK kIns l : Nat) : Int) := by
  unfold impl_CountInserted.f
  exact Ev.bind (links_at_CountInserted_ev l hl hb kIns (fun a b => by unfold impl_CountInserted_1.f kIns; rfl)) (Ev.const rfl)
theorem spec_CountInserted_ev (l : List ILink) (hl : l.length ≤ 1048576) (hb : ∀ x ∈ l, okB x) : Ev (fun k => spec_CountInserted.f k l) ((cntK kIns l : Nat) : Int) := by
  refine spec_CountInserted_gen l hl hb kIns ?_
  intro i hi n hn r ih
  refine Ev.succ ?_
  simp only [spec_CountInserted.j1, if_true, if_pos (show (0 : Int) ≤ i by omega), if_pos (show (i : Int) < (l.length : Int) by omega), rdK l i hi, wrap_succ (show i ≤ 4611686018427387903 by omega), wrap_succ (show n ≤ 4611686018427387903 by omega)]
  unfold kIns at ih
  by_cases h : l[i].f0 = 0
  · simpa [h] using ih
  · simpa [h] using ih

theorem links_at_CountVoiceChanged_ev (l : List ILink) (hl : l.length ≤ 1048576) (hb : ∀ x ∈ l, okB x) (p : Int → Int → Bool) (hp : ∀ a b, impl_CountVoiceChanged_1.f a b = some (p a b)) :
    Ev (fun k => impl_links_at_CountVoiceChanged_1.f k l ()) ((cntK p l : Nat) : Int) := by
  unfold impl_links_at_CountVoiceChanged_1.f cntK
  have key : ∀ i, i ≤ l.length → ∀ n : Nat, n ≤ i → Ev (fun k => impl_links_at_CountVoiceChanged_1.l0 k (n : Int) l (l.length : Int) (i : Int) l) ((n + (if cand l then (l.drop i).countP (fun x => p x.f0 x.f1) else 0) : Nat) : Int) := by
    refine down_ind ?_ ?_
    · intro n _
      refine Ev.succ ?_
      simp only [impl_links_at_CountVoiceChanged_1.l0, Int.lt_irrefl, if_false]
      exact Ev.const (by simp)
    · intro i hi ih n hn
      refine Ev.succ ?_
      simp only [impl_links_at_CountVoiceChanged_1.l0, if_pos (show (i : Int) < (l.length : Int) by omega), if_pos (show (0 : Int) ≤ i by omega), rdK l i hi, wrap_succ (show i ≤ 4611686018427387903 by omega), wrap_succ (show n ≤ 4611686018427387903 by omega), hp, Option.bind_some]
      refine Ev.bind (impl_IsCandidate_ev l hl hb) ?_
      rw [drop_cons l i hi, List.countP_cons]
      cases hc : cand l
      · simp only [Bool.false_eq_true, if_false]
        refine Ev.cast (ih n (by omega)) ?_
        simp [hc]
      · simp only [if_true]
        cases p l[i].f0 l[i].f1
        · simp only [Bool.false_eq_true, if_false]
          refine Ev.cast (ih n (by omega)) ?_
          simp [hc]
        · simp only [if_true]
          refine Ev.cast (ih (n + 1) (by omega)) ?_
          simp [hc]
          omega
  refine Ev.cast (key 0 (by omega) 0 (by omega)) ?_
  simp

theorem spec_CountVoiceChanged_gen (l : List ILink) (hl : l.length ≤ 1048576) (hb : ∀ x ∈ l, okB x) (p : Int → Int → Bool)
    (step : ∀ i (hi : i < l.length) (n : Nat), n ≤ i → ∀ r, Ev (fun k => spec_CountVoiceChanged.l0 k ((n + (if p l[i].f0 l[i].f1 then 1 else 0) : Nat) : Int) ((i + 1 : Nat) : Int) l) r → Ev (fun k => spec_CountVoiceChanged.j1 k (n : Int) (i : Int) true l) r) :
    Ev (fun k => spec_CountVoiceChanged.f k l) ((cntK p l : Nat) : Int) := by
  unfold spec_CountVoiceChanged.f cntK
  have key : ∀ i, i ≤ l.length → ∀ n : Nat, n ≤ i → Ev (fun k => spec_CountVoiceChanged.l0 k (n : Int) (i : Int) l) ((n + (if cand l then (l.drop i).countP (fun x => p x.f0 x.f1) else 0) : Nat) : Int) := by
    refine down_ind ?_ ?_
    · intro n _
      refine Ev.succ ?_
      simp only [spec_CountVoiceChanged.l0, Int.lt_irrefl, if_false]
      refine Ev.succ ?_
      simp only [spec_CountVoiceChanged.j1, Bool.false_eq_true, if_false]
      exact Ev.const (by simp)
    · intro i hi ih n hn
      refine Ev.succ ?_
      simp only [spec_CountVoiceChanged.l0, if_pos (show (i : Int) < (l.length : Int) by omega)]
      refine Ev.bind (spec_IsCandidate_ev l hl hb) ?_
      cases hc : cand l
      · refine Ev.succ ?_
        simp only [spec_CountVoiceChanged.j1, Bool.false_eq_true, if_false]
        exact Ev.const (by simp)
      · refine step i hi n hn _ ?_
        rw [drop_cons l i hi, List.countP_cons]
        refine Ev.cast (ih (n + (if p l[i].f0 l[i].f1 then 1 else 0)) (by split <;> omega)) ?_
        simp only [hc, if_true]
        omega
  refine Ev.cast (key 0 (by omega) 0 (by omega)) ?_
  simp

theorem impl_CountVoiceChanged_ev (l : List ILink) (hl : l.length ≤ 1048576) (hb : ∀ x ∈ l, okB x) : Ev (fun k => impl_CountVoiceChanged.f k l) ((cntK kVoi l : Nat) : Int) := by
  unfold impl_CountVoiceChanged.f
  refine Ev.bind (links_at_CountVoiceChanged_ev l hl hb kVoi (fun a b => ?_)) (Ev.const rfl)
  unfold impl_CountVoiceChanged_1.f kVoi
  by_cases h : a = 0
  · simp [h]
  · by_cases h2 : b = 0
    · simp [h, h2]
    · simp only [if_neg h, if_neg h2, h, h2, decide_false, Bool.not_false, Bool.true_and]
      by_cases h3 : a = b
      · simp [h3]
      · simp [h3]
theorem spec_CountVoiceChanged_ev (l : List ILink) (hl : l.length ≤ 1048576) (hb : ∀ x ∈ l, okB x) : Ev (fun k => spec_CountVoiceChanged.f k l) ((cntK kVoi l : Nat) : Int) := by
  refine spec_CountVoiceChanged_gen l hl hb kVoi ?_
  intro i hi n hn r ih
  refine Ev.succ ?_
  simp only [spec_CountVoiceChanged.j1, if_true, if_pos (show (0 : Int) ≤ i by omega), if_pos (show (i : Int) < (l.length : Int) by omega), rdK l i hi, wrap_succ (show i ≤ 4611686018427387903 by omega), wrap_succ (show n ≤ 4611686018427387903 by omega)]
  unfold kVoi at ih
  by_cases h : l[i].f0 = 0
  · simpa [h] using ih
  · by_cases h2 : l[i].f1 = 0
    · simpa [h, h2] using ih
    · by_cases h3 : l[i].f0 = l[i].f1
      · simp only [if_neg h, if_neg h2, if_pos h3]
        simpa [h3] using ih
      · simp only [if_neg h, if_neg h2, if_neg h3]
        simpa [h, h2, h3] using ih

def kept (a b : Int) : Bool := !decide (a = 0) && !decide (b = 0)
def brk : List ILink → Bool → Nat → Nat
  | [], _, _ => 0
  | x :: l, s, p => if kept x.f0 x.f1 then p + brk l true 0 else if s then brk l s (p + 1) else brk l s p
def brks (l : List ILink) : Nat := if cand l then brk l false 0 else 0
/-- how many of the first j links are not kept -/
def nks (l : List ILink) (j : Nat) : Nat := (l.take j).countP fun x => !kept x.f0 x.f1
theorem nks_succ (l : List ILink) (j : Nat) (h : j < l.length) : nks l (j + 1) = nks l j + (if kept l[j].f0 l[j].f1 then 0 else 1) := by
  unfold nks
  rw [take_snoc l j h, List.countP_append]
  cases hk : kept l[j].f0 l[j].f1 <;> simp [hk]
theorem nks_le (l : List ILink) (j : Nat) : nks l j ≤ j := Nat.le_trans List.countP_le_length (by rw [List.length_take]; omega)

theorem impl_CountBreaks_ev (l : List ILink) (hl : l.length ≤ 1048576) (hb : ∀ x ∈ l, okB x) : Ev (fun k => impl_CountBreaks.f k l) ((brks l : Nat) : Int) := by
  unfold impl_CountBreaks.f brks
  have key : ∀ i, i ≤ l.length → ∀ (n p : Nat) (s : Bool), n + p ≤ i → Ev (fun k => impl_CountBreaks.l0 k (n : Int) (p : Int) s l (l.length : Int) (i : Int) l) ((n + (if cand l then brk (l.drop i) s p else 0) : Nat) : Int) := by
    refine down_ind ?_ ?_
    · intro n p s _
      refine Ev.succ ?_
      simp only [impl_CountBreaks.l0, Int.lt_irrefl, if_false]
      exact Ev.const (by simp [brk])
    · intro i hi ih n p s hn
      refine Ev.succ ?_
      simp only [impl_CountBreaks.l0, if_pos (show (i : Int) < (l.length : Int) by omega), if_pos (show (0 : Int) ≤ i by omega), rdK l i hi, wrap_succ (show i ≤ 4611686018427387903 by omega)]
      refine Ev.bind (impl_IsCandidate_ev l hl hb) ?_
      rw [drop_cons l i hi]
      cases hc : cand l
      · simp only [Bool.false_eq_true, if_false]
        refine Ev.cast (ih n p s (by omega)) ?_
        simp [hc]
      · have J : ∀ b, b = kept l[i].f0 l[i].f1 → Ev (fun k => impl_CountBreaks.j1 k (n : Int) (p : Int) s l (l.length : Int) (i : Int) b l) ((n + brk (l[i] :: l.drop (i + 1)) s p : Nat) : Int) := by
          intro b e
          refine Ev.succ ?_
          simp only [impl_CountBreaks.j1, brk, ← e, wrap_succ (show i ≤ 4611686018427387903 by omega), wrap_succ (show p ≤ 4611686018427387903 by omega)]
          cases b
          · simp only [Bool.false_eq_true, if_false]
            cases s
            · simp only [Bool.false_eq_true, if_false]
              refine Ev.cast (ih n p false (by omega)) ?_
              simp [hc]
            · simp only [if_true]
              refine Ev.cast (ih n (p + 1) true (by omega)) ?_
              simp [hc]
          · simp only [if_true]
            rw [show wrap64 ((n : Int) + (p : Int)) = ((n + p : Nat) : Int) by unfold wrap64; omega]
            refine Ev.cast (ih (n + p) 0 true (by omega)) ?_
            simp [hc]
            omega
        simp only [if_true]
        by_cases h0 : l[i].f0 = 0
        · simp only [if_pos h0]
          exact J false (by simp [kept, h0])
        · simp only [if_neg h0]
          exact J _ (by simp only [kept, h0, decide_false, Bool.not_false, Bool.true_and]; rw [bne_iff_decide])
  refine Ev.cast (key 0 (by omega) 0 0 false (by omega)) ?_
  simp
theorem spec_l9Kept_eq (a b : Int) : spec_l9Kept.f a b = some (kept a b) := by
  unfold spec_l9Kept.f kept
  by_cases h : a = 0
  · simp [h]
  · rw [if_neg h, bne_iff_decide]
    simp [h]
theorem spec_CountBreaks_ev (l : List ILink) (hl : l.length ≤ 1048576) (hb : ∀ x ∈ l, okB x) : Ev (fun k => spec_CountBreaks.f k l) ((brks l : Nat) : Int) := by
  unfold spec_CountBreaks.f brks
  have L1 : ∀ e : Nat, e ≤ l.length → ∀ j, j ≤ e → ∀ n : Nat, n ≤ j → Ev (fun k => spec_CountBreaks.l1 k (e : Int) (n : Int) (j : Int) l) ((n + (nks l e - nks l j) : Nat) : Int) := by
    intro e he
    have mono : ∀ j, j ≤ e → nks l j ≤ nks l e := by
      refine down_ind (Nat.le_refl _) ?_
      intro j hj ih
      rw [nks_succ l j (by omega)] at ih
      omega
    refine down_ind ?_ ?_
    · intro n _
      refine Ev.succ ?_
      simp only [spec_CountBreaks.l1, Int.lt_irrefl, if_false]
      exact Ev.const (by simp)
    · intro j hj ih n hn
      have hjl : j < l.length := by omega
      have hs := nks_succ l j hjl
      have hm := mono (j + 1) hj
      refine Ev.succ ?_
      simp only [spec_CountBreaks.l1, if_pos (show (j : Int) < (e : Int) by omega), if_pos (show (0 : Int) ≤ j by omega), if_pos (show (j : Int) < (l.length : Int) by omega), rdK l j hjl, spec_l9Kept_eq, Option.bind_some, wrap_succ (show j ≤ 4611686018427387903 by omega), wrap_succ (show n ≤ 4611686018427387903 by omega)]
      cases hk : kept l[j].f0 l[j].f1
      · rw [hk] at hs
        simp only [Bool.false_eq_true, if_false] at hs ⊢
        refine Ev.cast (ih (n + 1) (by omega)) ?_
        congr 1
        omega
      · rw [hk] at hs
        simp only [if_true] at hs ⊢
        refine Ev.cast (ih n (by omega)) ?_
        congr 1
        omega
  have none_ : Ev (fun k => spec_CountBreaks.l1 k (-1) 0 (mx 0 (-1)) l) 0 := by
    refine Ev.succ ?_
    simp only [spec_CountBreaks.l1, show ¬ (mx 0 (-1) < (-1 : Int)) by decide, if_false]
    exact Ev.const rfl
  have seen : ∀ i, i ≤ l.length → cand l = true → ∀ F e : Nat, F ≤ e → e < i → nks l F ≤ nks l e → nks l i + e + 1 = nks l e + i → Ev (fun k => spec_CountBreaks.l0 k (F : Int) (e : Int) (i : Int) l) (((nks l e - nks l F) + brk (l.drop i) true (i - 1 - e) : Nat) : Int) := by
    refine down_ind ?_ ?_
    · intro hc F e hF he hm hi
      refine Ev.succ ?_
      simp only [spec_CountBreaks.l0, Int.lt_irrefl, if_false]
      refine Ev.succ ?_
      simp only [spec_CountBreaks.j1, Bool.false_eq_true, if_false, show mx 0 (F : Int) = (F : Int) by unfold mx; split <;> omega]
      refine Ev.cast (L1 e (by omega) F hF 0 (by omega)) ?_
      simp [brk]
    · intro i hi ih hc F e hF he hm hinv
      have hs := nks_succ l i hi
      refine Ev.succ ?_
      simp only [spec_CountBreaks.l0, if_pos (show (i : Int) < (l.length : Int) by omega)]
      refine Ev.bind (spec_IsCandidate_ev l hl hb) ?_
      rw [hc]
      refine Ev.succ ?_
      simp only [spec_CountBreaks.j1, if_true, if_pos (show (0 : Int) ≤ i by omega), if_pos (show (i : Int) < (l.length : Int) by omega), rdK l i hi, spec_l9Kept_eq, Option.bind_some, wrap_succ (show i ≤ 4611686018427387903 by omega), if_neg (show ¬ (F : Int) < 0 by omega)]
      rw [drop_cons l i hi]
      simp only [brk]
      cases hk : kept l[i].f0 l[i].f1
      · rw [hk] at hs
        simp only [Bool.false_eq_true, if_false, if_true] at hs ⊢
        refine Ev.cast (ih hc F e hF (by omega) hm (by omega)) ?_
        rw [show i + 1 - 1 - e = i - 1 - e + 1 by omega]
      · rw [hk] at hs
        simp only [if_true] at hs ⊢
        refine Ev.cast (ih hc F i (by omega) (by omega) (by omega) (by omega)) ?_
        rw [show i + 1 - 1 - i = 0 by omega]
        congr 1
        omega
  have key : ∀ i, i ≤ l.length → Ev (fun k => spec_CountBreaks.l0 k (-1) (-1) (i : Int) l) ((if cand l then brk (l.drop i) false 0 else 0 : Nat) : Int) := by
    refine down_ind ?_ ?_
    · refine Ev.succ ?_
      simp only [spec_CountBreaks.l0, Int.lt_irrefl, if_false]
      refine Ev.succ ?_
      simp only [spec_CountBreaks.j1, Bool.false_eq_true, if_false]
      refine Ev.cast none_ ?_
      simp [brk]
    · intro i hi ih
      have hs := nks_succ l i hi
      refine Ev.succ ?_
      simp only [spec_CountBreaks.l0, if_pos (show (i : Int) < (l.length : Int) by omega)]
      refine Ev.bind (spec_IsCandidate_ev l hl hb) ?_
      cases hc : cand l
      · refine Ev.succ ?_
        simp only [spec_CountBreaks.j1, Bool.false_eq_true, if_false]
        exact none_
      · rw [hc] at ih
        refine Ev.succ ?_
        simp only [spec_CountBreaks.j1, if_true, if_pos (show (0 : Int) ≤ i by omega), if_pos (show (i : Int) < (l.length : Int) by omega), rdK l i hi, spec_l9Kept_eq, Option.bind_some, wrap_succ (show i ≤ 4611686018427387903 by omega), if_pos (show (-1 : Int) < 0 by omega)]
        rw [drop_cons l i hi]
        simp only [brk]
        cases hk : kept l[i].f0 l[i].f1
        · simp only [Bool.false_eq_true, if_false]
          exact ih
        · rw [hk] at hs
          simp only [if_true] at hs ⊢
          refine Ev.cast (seen (i + 1) (by omega) hc i i (Nat.le_refl _) (by omega) (Nat.le_refl _) (by omega)) ?_
          simp
  exact key 0 (by omega)

def viol (s : ByteArray) (l : List ILink) : Int := if cand l = true then
    (if s.toList = ([111, 110, 115, 101, 116] : List UInt8) then ((cntP pOnsetless (B (outS l)) : Nat) : Int) else
    if s.toList = ([110, 111, 99, 111, 100, 97] : List UInt8) then ((cntP pCodas (B (outS l)) : Nat) : Int) else
    if s.toList = ([99, 108, 117, 115, 116, 101, 114] : List UInt8) then ((cntP pClusters (B (outS l)) : Nat) : Int) else
    if s.toList = ([118, 111, 105, 99, 101] : List UInt8) then ((cntP pVoiced (B (outS l)) : Nat) : Int) else
    if s.toList = ([102, 105, 110, 97, 108] : List UInt8) then ((cntP pFinalVoiced (B (outS l)) : Nat) : Int) else
    if s.toList = ([110, 97, 115, 97, 108] : List UInt8) then ((cntP pNasalVoiceless (B (outS l)) : Nat) : Int) else
    if s.toList = ([109, 97, 120] : List UInt8) then ((cntK kDel l : Nat) : Int) else
    if s.toList = ([100, 101, 112] : List UInt8) then ((cntK kIns l : Nat) : Int) else
    if s.toList = ([105, 100, 101, 110, 116] : List UInt8) then ((cntK kVoi l : Nat) : Int) else
    if s.toList = ([99, 111, 110, 116, 105, 103] : List UInt8) then ((brks l : Nat) : Int) else -1) else -1
theorem Ev.ite {α : Type} {c : Prop} [Decidable c] {g h : Nat → Option α} {x y : α} (h1 : c → Ev g x) (h2 : ¬ c → Ev h y) : Ev (fun k => if c then g k else h k) (if c then x else y) := by
  by_cases hc : c
  · simp only [if_pos hc]
    exact h1 hc
  · simp only [if_neg hc]
    exact h2 hc
theorem spec_ViolationsOf_ev (s : ByteArray) (l : List ILink) (hl : l.length ≤ 1048576) (hb : ∀ x ∈ l, okB x) : Ev (fun k => spec_ViolationsOf.f k s l) (viol s l) := by
  unfold spec_ViolationsOf.f viol
  have ho : (outS l).size ≤ 140737488351232 := by have := outS_size l hl; omega
  refine Ev.bind (spec_IsCandidate_ev l hl hb) ?_
  cases cand l
  · simp only [Bool.false_eq_true, if_false]
    exact Ev.const rfl
  · simp only [if_true]
    refine Ev.bind (spec_OutputOf_ev l hl hb) ?_
    refine Ev.ite (fun _ => Ev.bind (spec_CountOnsetless_ev _ ho) (Ev.const rfl)) (fun _ => ?_)
    refine Ev.ite (fun _ => Ev.bind (spec_CountCodas_ev _ ho) (Ev.const rfl)) (fun _ => ?_)
    refine Ev.ite (fun _ => Ev.bind (spec_CountClusters_ev _ ho) (Ev.const rfl)) (fun _ => ?_)
    refine Ev.ite (fun _ => Ev.bind (spec_CountVoiced_ev _ ho) (Ev.const rfl)) (fun _ => ?_)
    refine Ev.ite (fun _ => Ev.bind (spec_CountFinalVoiced_ev _ ho) (Ev.const rfl)) (fun _ => ?_)
    refine Ev.ite (fun _ => Ev.bind (spec_CountNasalVoiceless_ev _ ho) (Ev.const rfl)) (fun _ => ?_)
    refine Ev.ite (fun _ => Ev.bind (spec_CountDeleted_ev l hl hb) (Ev.const rfl)) (fun _ => ?_)
    refine Ev.ite (fun _ => Ev.bind (spec_CountInserted_ev l hl hb) (Ev.const rfl)) (fun _ => ?_)
    refine Ev.ite (fun _ => Ev.bind (spec_CountVoiceChanged_ev l hl hb) (Ev.const rfl)) (fun _ => ?_)
    refine Ev.ite (fun _ => Ev.bind (spec_CountBreaks_ev l hl hb) (Ev.const rfl)) (fun _ => ?_)
    exact Ev.const rfl
theorem impl_ViolationsOf_ev (s : ByteArray) (l : List ILink) (hl : l.length ≤ 1048576) (hb : ∀ x ∈ l, okB x) : Ev (fun k => impl_ViolationsOf.f k s l) (viol s l) := by
  unfold impl_ViolationsOf.f viol
  have ho : (outS l).size ≤ 140737488351232 := by have := outS_size l hl; omega
  refine Ev.bind (impl_IsCandidate_ev l hl hb) ?_
  cases cand l
  · simp only [Bool.false_eq_true, if_false]
    exact Ev.const rfl
  · simp only [if_true]
    refine Ev.bind (impl_OutputOf_ev l hl hb) ?_
    refine Ev.ite (fun _ => Ev.bind (impl_CountOnsetless_ev _ ho) (Ev.const rfl)) (fun _ => ?_)
    refine Ev.ite (fun _ => Ev.bind (impl_CountCodas_ev _ ho) (Ev.const rfl)) (fun _ => ?_)
    refine Ev.ite (fun _ => Ev.bind (impl_CountClusters_ev _ ho) (Ev.const rfl)) (fun _ => ?_)
    refine Ev.ite (fun _ => Ev.bind (impl_CountVoiced_ev _ ho) (Ev.const rfl)) (fun _ => ?_)
    refine Ev.ite (fun _ => Ev.bind (impl_CountFinalVoiced_ev _ ho) (Ev.const rfl)) (fun _ => ?_)
    refine Ev.ite (fun _ => Ev.bind (impl_CountNasalVoiceless_ev _ ho) (Ev.const rfl)) (fun _ => ?_)
    refine Ev.ite (fun _ => Ev.bind (impl_CountDeleted_ev l hl hb) (Ev.const rfl)) (fun _ => ?_)
    refine Ev.ite (fun _ => Ev.bind (impl_CountInserted_ev l hl hb) (Ev.const rfl)) (fun _ => ?_)
    refine Ev.ite (fun _ => Ev.bind (impl_CountVoiceChanged_ev l hl hb) (Ev.const rfl)) (fun _ => ?_)
    refine Ev.ite (fun _ => Ev.bind (impl_CountBreaks_ev l hl hb) (Ev.const rfl)) (fun _ => ?_)
    exact Ev.const rfl

def cnames : List ByteArray := [⟨#[111, 110, 115, 101, 116]⟩, ⟨#[110, 111, 99, 111, 100, 97]⟩, ⟨#[99, 108, 117, 115, 116, 101, 114]⟩, ⟨#[118, 111, 105, 99, 101]⟩, ⟨#[102, 105, 110, 97, 108]⟩, ⟨#[110, 97, 115, 97, 108]⟩, ⟨#[109, 97, 120]⟩, ⟨#[100, 101, 112]⟩, ⟨#[105, 100, 101, 110, 116]⟩, ⟨#[99, 111, 110, 116, 105, 103]⟩]
theorem cnames_len : cnames.length = 10 := rfl
theorem spec_ConstraintNames_eq : spec_ConstraintNames.f = some cnames := rfl
theorem impl_ConstraintNames_eq : impl_ConstraintNames.f = some cnames := rfl

/-- each is a constraint's name and none of those before it; there are 1 to 5 -/
def areC1 (l : List ByteArray) (j : Nat) : Bool := decide (l.getD j ByteArray.empty ∈ cnames) && !decide (l.getD j ByteArray.empty ∈ l.take j)
def areC (l : List ByteArray) : Bool := allFrom (areC1 l) l.length 0 && decide (1 ≤ l.length ∧ l.length ≤ 5)
theorem getS (l : List ByteArray) (j : Nat) (h : j < l.length) : l.getD j ByteArray.empty = l[j] := by simp [h]

theorem spec_l1In_eq (a b c : Int) : spec_l1In.f a b c = some (decide (b ≤ a ∧ a ≤ c)) := by
  unfold spec_l1In.f
  split
  · have : b ≤ a := by omega
    simp [*]
  · have : ¬ b ≤ a := by omega
    simp [*]

theorem spec_l3Has_ev (l : List ByteArray) (x : ByteArray) (hl : l.length ≤ 1048576) : Ev (fun k => spec_l3Has.f k l x) (decide (x ∈ l)) := by
  unfold spec_l3Has.f
  have key : ∀ i, i ≤ l.length → Ev (fun k => spec_l3Has.l0 k l x (i : Int)) (decide (x ∈ l.drop i)) := by
    refine down_ind ?_ ?_
    · refine Ev.succ ?_
      simp only [spec_l3Has.l0, Int.lt_irrefl, if_false]
      exact Ev.const (by simp)
    · intro i hi ih
      refine Ev.succ ?_
      simp only [spec_l3Has.l0, if_pos (show (i : Int) < (l.length : Int) by omega), if_pos (show (0 : Int) ≤ i by omega), rdOf_nat _ l i hi, toList_inj, wrap_succ (show i ≤ 4611686018427387903 by omega)]
      rw [drop_cons l i hi]
      by_cases he : l[i] = x
      · simp only [if_pos he]
        exact Ev.const (by rw [he]; simp)
      · simp only [if_neg he]
        refine Ev.cast ih ?_
        rw [decide_eq_decide, List.mem_cons]
        constructor
        · exact .inr
        · rintro (h | h)
          · exact absurd h.symm he
          · exact h
  exact key 0 (by omega)

theorem spec_AreConstraints_ev (l : List ByteArray) (hl : l.length ≤ 1048576) : Ev (fun k => spec_AreConstraints.f k l) (areC l) := by
  unfold spec_AreConstraints.f areC
  have key : ∀ i, i ≤ l.length → Ev (fun k => spec_AreConstraints.l0 k l (i : Int)) (allFrom (areC1 l) l.length i && decide (1 ≤ l.length ∧ l.length ≤ 5)) := by
    refine down_ind ?_ ?_
    · refine Ev.succ ?_
      simp only [spec_AreConstraints.l0, Int.lt_irrefl, if_false, spec_l1In_eq, Option.bind_some, allFrom_end _ (Nat.le_refl _), Bool.true_and]
      exact Ev.const (congrArg some (decide_eq_decide.2 (by omega)))
    · intro i hi ih
      refine Ev.succ ?_
      rw [allFrom_step _ hi, areC1, getS l i hi]
      simp only [spec_AreConstraints.l0, if_pos (show (i : Int) < (l.length : Int) by omega), if_pos (show (0 : Int) ≤ i by omega), spec_ConstraintNames_eq, Option.bind_some, rdOf_nat _ l i hi]
      refine Ev.bind (spec_l3Has_ev cnames l[i] (by decide)) ?_
      by_cases h1 : l[i] ∈ cnames
      · simp only [h1, decide_true, if_true, if_pos (show (i : Int) ≤ (l.length : Int) by omega), Int.toNat_natCast, Bool.true_and]
        refine Ev.bind (spec_l3Has_ev (l.take i) l[i] (by rw [List.length_take]; omega)) ?_
        by_cases h2 : l[i] ∈ l.take i
        · simp only [h2, decide_true, if_true]
          exact Ev.const rfl
        · simp only [h2, decide_false, Bool.false_eq_true, if_false, wrap_succ (show i ≤ 4611686018427387903 by omega), Bool.not_false, Bool.true_and]
          exact ih
      · simp only [h1, decide_false, Bool.false_eq_true, if_false, Bool.false_and]
        exact Ev.const rfl
  exact key 0 (by omega)

theorem slices_Index_string_ev (l : List ByteArray) (x : ByteArray) (hl : l.length ≤ 1048576) : Ev (fun k => slices_Index_string_string.f k l x) (idxS l x 0) := by
  unfold slices_Index_string_string.f
  have key : ∀ i, i ≤ l.length → Ev (fun k => slices_Index_string_string.l0 k l x (l.length : Int) (i : Int)) (idxS (l.drop i) x i) := by
    refine down_ind ?_ ?_
    · refine Ev.succ ?_
      simp only [slices_Index_string_string.l0, Int.lt_irrefl, if_false]
      exact Ev.const (by rw [List.drop_of_length_le (Nat.le_refl _)]; rfl)
    · intro i hi ih
      refine Ev.succ ?_
      simp only [slices_Index_string_string.l0, if_pos (show (i : Int) < (l.length : Int) by omega), if_pos (show (0 : Int) ≤ i by omega), rdOf_nat _ l i hi, toList_inj, wrap_succ (show i ≤ 4611686018427387903 by omega)]
      rw [drop_cons l i hi]
      by_cases he : x = l[i]
      · simp only [if_pos he]
        exact Ev.const (by simp only [idxS, if_pos he])
      · simp only [if_neg he]
        exact Ev.cast ih (by simp only [idxS, if_neg he]; rfl)
  exact key 0 (by omega)

theorem slices_Contains_string_ev (l : List ByteArray) (x : ByteArray) (hl : l.length ≤ 1048576) : Ev (fun k => slices_Contains_string_string.f k l x) (decide (x ∈ l)) := by
  unfold slices_Contains_string_string.f
  refine Ev.bind (slices_Index_string_ev l x hl) (Ev.const ?_)
  simp only [ge_iff_le, idxS_mem x l 0 (Int.le_refl _)]

theorem impl_AreConstraints_ev (l : List ByteArray) (hl : l.length ≤ 1048576) : Ev (fun k => impl_AreConstraints.f k l) (areC l) := by
  unfold impl_AreConstraints.f areC
  have key : ∀ i, i ≤ l.length → Ev (fun k => impl_AreConstraints.l0 k l l (l.length : Int) (i : Int)) (allFrom (areC1 l) l.length i && decide (1 ≤ l.length ∧ l.length ≤ 5)) := by
    refine down_ind ?_ ?_
    · refine Ev.succ ?_
      simp only [impl_AreConstraints.l0, Int.lt_irrefl, if_false, impl_within_eq, Option.bind_some, allFrom_end _ (Nat.le_refl _), Bool.true_and]
      exact Ev.const (congrArg some (decide_eq_decide.2 (by omega)))
    · intro i hi ih
      refine Ev.succ ?_
      rw [allFrom_step _ hi, areC1, getS l i hi]
      simp only [impl_AreConstraints.l0, if_pos (show (i : Int) < (l.length : Int) by omega), if_pos (show (0 : Int) ≤ i by omega), impl_ConstraintNames_eq, Option.bind_some, rdOf_nat _ l i hi]
      refine Ev.bind (slices_Contains_string_ev cnames l[i] (by decide)) ?_
      by_cases h1 : l[i] ∈ cnames
      · simp only [h1, decide_true, if_true, if_pos (show (i : Int) ≤ (l.length : Int) by omega), Int.toNat_natCast, Bool.true_and]
        refine Ev.bind (slices_Contains_string_ev (l.take i) l[i] (by rw [List.length_take]; omega)) ?_
        by_cases h2 : l[i] ∈ l.take i
        · simp only [h2, decide_true, if_true]
          exact Ev.const rfl
        · simp only [h2, decide_false, Bool.false_eq_true, if_false, wrap_succ (show i ≤ 4611686018427387903 by omega), Bool.not_false, Bool.true_and]
          exact ih
      · simp only [h1, decide_false, Bool.false_eq_true, if_false, Bool.false_and]
        exact Ev.const rfl
  exact key 0 (by omega)

def prof (n : List ByteArray) (l : List ILink) : List Int := if areC n = true ∧ cand l = true then n.map (fun s => viol s l) else []
theorem prof_len (n : List ByteArray) (l : List ILink) : (prof n l).length ≤ n.length := by
  unfold prof
  split <;> simp
theorem spec_ProfileOf_ev (n : List ByteArray) (l : List ILink) (hn : n.length ≤ 1048576) (hl : l.length ≤ 1048576) (hb : ∀ x ∈ l, okB x) : Ev (fun k => spec_ProfileOf.f k n l) (prof n l) := by
  unfold spec_ProfileOf.f prof
  have key : ∀ i, i ≤ n.length → ∀ acc : List Int, acc.length ≤ i → Ev (fun k => spec_ProfileOf.l0 k n acc (i : Int) l) (acc ++ (if areC n = true ∧ cand l = true then (n.drop i).map (fun s => viol s l) else [])) := by
    refine down_ind ?_ ?_
    · intro acc _
      refine Ev.succ ?_
      simp only [spec_ProfileOf.l0, Int.lt_irrefl, if_false]
      exact Ev.const (by simp)
    · intro i hi ih acc hacc
      refine Ev.succ ?_
      simp only [spec_ProfileOf.l0, if_pos (show (i : Int) < (n.length : Int) by omega), if_pos (show (0 : Int) ≤ i by omega), rdOf_nat _ n i hi, if_pos (show acc.length < 17592186044416 by omega), wrap_succ (show i ≤ 4611686018427387903 by omega)]
      refine Ev.bind (spec_AreConstraints_ev n hn) ?_
      cases hc : areC n
      · simp only [Bool.false_eq_true, if_false, false_and]
        exact Ev.const (by simp)
      · simp only [if_true, true_and]
        refine Ev.bind (spec_IsCandidate_ev l hl hb) ?_
        cases hk : cand l
        · simp only [Bool.false_eq_true, if_false]
          exact Ev.const (by simp)
        · simp only [if_true]
          refine Ev.bind (spec_ViolationsOf_ev _ l hl hb) ?_
          refine Ev.cast (ih (acc ++ [viol n[i] l]) (by simp; omega)) ?_
          rw [drop_cons n i hi]
          simp only [hc, hk, and_self, if_true, List.map_cons, List.append_assoc, List.cons_append, List.nil_append]
  refine Ev.cast (key 0 (by omega) [] (by simp)) ?_
  simp
theorem impl_ProfileOf_ev (n : List ByteArray) (l : List ILink) (hn : n.length ≤ 1048576) (hl : l.length ≤ 1048576) (hb : ∀ x ∈ l, okB x) : Ev (fun k => impl_ProfileOf.f k n l) (prof n l) := by
  unfold impl_ProfileOf.f prof
  refine Ev.bind (impl_AreConstraints_ev n hn) ?_
  cases areC n
  · simp only [Bool.false_eq_true, if_false, false_and]
    refine Ev.succ ?_
    simp only [impl_ProfileOf.j0, if_true]
    exact Ev.const rfl
  · simp only [if_true, true_and]
    refine Ev.bind (impl_IsCandidate_ev l hl hb) ?_
    cases cand l
    · refine Ev.succ ?_
      simp only [impl_ProfileOf.j0, Bool.not_false, if_true, Bool.false_eq_true, if_false]
      exact Ev.const rfl
    · refine Ev.succ ?_
      simp only [impl_ProfileOf.j0, Bool.not_true, Bool.false_eq_true, if_false, if_true]
      have key : ∀ i, i ≤ n.length → ∀ acc : List Int, acc.length ≤ i → Ev (fun k => impl_ProfileOf.l0 k acc n (n.length : Int) (i : Int) l) (acc ++ (n.drop i).map (fun s => viol s l)) := by
        refine down_ind ?_ ?_
        · intro acc _
          refine Ev.succ ?_
          simp only [impl_ProfileOf.l0, Int.lt_irrefl, if_false]
          exact Ev.const (by simp)
        · intro i hi ih acc hacc
          refine Ev.succ ?_
          simp only [impl_ProfileOf.l0, if_pos (show (i : Int) < (n.length : Int) by omega), if_pos (show (0 : Int) ≤ i by omega), rdOf_nat _ n i hi, if_pos (show acc.length < 17592186044416 by omega), wrap_succ (show i ≤ 4611686018427387903 by omega)]
          refine Ev.bind (impl_ViolationsOf_ev _ l hl hb) ?_
          refine Ev.cast (ih (acc ++ [viol n[i] l]) (by simp; omega)) ?_
          rw [drop_cons n i hi]
          simp only [List.map_cons, List.append_assoc, List.cons_append, List.nil_append]
      refine Ev.cast (key 0 (by omega) [] (by simp)) ?_
      simp

theorem laws_toCandidate_ev (l : List LLink) (hl : l.length ≤ 1048576) : Ev (fun k => laws_toCandidate.f k l) (l.map toK) := by
  unfold laws_toCandidate.f
  refine Ev.bind ?_ (Ev.const rfl)
  unfold laws_toLinkS.f
  simp only [if_pos (show (0 : Int) ≤ (l.length : Int) by omega), Int.toNat_natCast, if_pos (show l.length ≤ 140737488355328 by omega)]
  have key : ∀ i, i ≤ l.length → Ev (fun k => laws_toLinkS.l0 k l ((l.take i).map toK ++ List.replicate (l.length - i) z83) (i : Int)) (l.map toK) := by
    refine down_ind ?_ ?_
    · refine Ev.succ ?_
      simp only [laws_toLinkS.l0, Int.lt_irrefl, if_false]
      exact Ev.const (by simp)
    · intro i hi ih
      refine Ev.succ ?_
      have hlen : ((l.take i).map toK ++ List.replicate (l.length - i) z83).length = l.length := by simp; omega
      simp only [laws_toLinkS.l0, laws_toLink.f, Option.bind_some, hlen, if_pos (show (i : Int) < (l.length : Int) by omega), if_pos (show (0 : Int) ≤ i by omega), rdLK l i hi, Int.toNat_natCast, show (⟨l[i].f0, l[i].f1⟩ : ILink) = toK l[i] from rfl, set_fill2 l toK _ i hi, wrap_succ (show i ≤ 4611686018427387903 by omega)]
      exact ih
  have := key 0 (by omega)
  simpa using this

theorem laws_eqCandidate_ev (a : List ILink) (hl : a.length ≤ 1048576) : Ev (fun k => laws_eqCandidate.f k a a) true := by
  unfold laws_eqCandidate.f
  refine Ev.bind ?_ (Ev.const (if_pos rfl))
  unfold laws_eqLinkS.f
  simp only [if_true]
  have key : ∀ i, i ≤ a.length → Ev (fun k => laws_eqLinkS.l0 k a a (i : Int)) true := by
    refine down_ind ?_ ?_
    · refine Ev.succ ?_
      simp only [laws_eqLinkS.l0, Int.lt_irrefl, if_false]
      exact Ev.const rfl
    · intro i hi ih
      refine Ev.succ ?_
      simp only [laws_eqLinkS.l0, laws_eqLink.f, Option.bind_some, if_pos (show (i : Int) < (a.length : Int) by omega), if_pos (show (0 : Int) ≤ i by omega), if_true, wrap_succ (show i ≤ 4611686018427387903 by omega)]
      exact ih
  exact key 0 (by omega)

theorem laws_szCandidate_eq (l : List LLink) (n : Nat) (hn : n ≤ 1048576) (hl : l.length ≤ 140737488355328) : laws_szCandidate.f l n = some (if l.length ≤ n then ((n - l.length : Nat) : Int) else -1) := by
  unfold laws_szCandidate.f laws_szLinkS.f
  rw [wrap_in (by omega) (by omega)]
  by_cases h : l.length ≤ n
  · rw [if_neg (show ¬ ((n : Int) - (l.length : Int) < 0) by omega), if_pos h]
    simp only [Option.bind_some]
    rw [if_neg (by omega)]
    congr 1
    omega
  · rw [if_pos (show ((n : Int) - (l.length : Int) < 0) by omega), if_neg h]
    simp only [Option.bind_some]
    rfl

theorem laws_markCandidate_ev (l : List ILink) (m : Nat) (hl : l.length ≤ 2097152) (h1 : m ≤ 1099511627776) : ∃ y, Ev (fun k => laws_markCandidate.f k l (m : Int)) (((m + 2 * l.length : Nat) : Int), y) := by
  have key : ∀ i, i ≤ l.length → ∀ x : List ILink, x.length = l.length → ∃ y, Ev (fun k => laws_markLinkS.l0 k x ((m + 2 * i : Nat) : Int) (i : Int)) (((m + 2 * l.length : Nat) : Int), y) := by
    refine down_ind ?_ ?_
    · intro x hx
      refine ⟨x, Ev.succ ?_⟩
      simp only [laws_markLinkS.l0, hx, Int.lt_irrefl, if_false]
      exact Ev.const rfl
    · intro i hi ih x hx
      obtain ⟨y, hy⟩ := ih (((x.set i ⟨((m + 2 * i : Nat) : Int) % 256, (rd_T83 x i).f1⟩).set i ⟨(rd_T83 (x.set i ⟨((m + 2 * i : Nat) : Int) % 256, (rd_T83 x i).f1⟩) i).f0, ((m + 2 * i + 1 : Nat) : Int) % 256⟩)) (by simp [hx])
      refine ⟨y, Ev.succ ?_⟩
      simp only [laws_markLinkS.l0, hx, if_pos (show (i : Int) < (l.length : Int) by omega), if_pos (show (0 : Int) ≤ i by omega), Int.toNat_natCast, Option.bind_some, wrap_succ (show m + 2 * i ≤ 4611686018427387903 by omega), wrap_succ (show m + 2 * i + 1 ≤ 4611686018427387903 by omega), wrap_succ (show i ≤ 4611686018427387903 by omega)]
      exact hy
  obtain ⟨y, hy⟩ := key 0 (by omega) l rfl
  refine ⟨y, ?_⟩
  unfold laws_markCandidate.f
  exact Ev.bind hy (Ev.const rfl)

theorem laws_toStringS_ev (l : List ByteArray) (hl : l.length ≤ 1048576) : Ev (fun k => laws_toStringS.f k l) l := by
  unfold laws_toStringS.f
  simp only [if_pos (show (0 : Int) ≤ (l.length : Int) by omega), Int.toNat_natCast, if_pos (show l.length ≤ 17592186044416 by omega)]
  have key : ∀ i, i ≤ l.length → Ev (fun k => laws_toStringS.l0 k l (l.take i ++ List.replicate (l.length - i) (⟨#[]⟩ : ByteArray)) (i : Int)) l := by
    refine down_ind ?_ ?_
    · refine Ev.succ ?_
      simp only [laws_toStringS.l0, Int.lt_irrefl, if_false]
      exact Ev.const (by simp)
    · intro i hi ih
      refine Ev.succ ?_
      have hlen : (l.take i ++ List.replicate (l.length - i) (⟨#[]⟩ : ByteArray)).length = l.length := by simp; omega
      simp only [laws_toStringS.l0, hlen, if_pos (show (i : Int) < (l.length : Int) by omega), if_pos (show (0 : Int) ≤ i by omega), rdOf_nat _ l i hi, Int.toNat_natCast, set_fill l _ i hi, wrap_succ (show i ≤ 4611686018427387903 by omega)]
      exact ih
  have := key 0 (by omega)
  simpa using this

theorem laws_eqStringS_ev (a : List ByteArray) (hl : a.length ≤ 1048576) : Ev (fun k => laws_eqStringS.f k a a) true := by
  unfold laws_eqStringS.f
  simp only [if_true]
  have key : ∀ i, i ≤ a.length → Ev (fun k => laws_eqStringS.l0 k a a (i : Int)) true := by
    refine down_ind ?_ ?_
    · refine Ev.succ ?_
      simp only [laws_eqStringS.l0, Int.lt_irrefl, if_false]
      exact Ev.const rfl
    · intro i hi ih
      refine Ev.succ ?_
      simp only [laws_eqStringS.l0, if_pos (show (i : Int) < (a.length : Int) by omega), if_pos (show (0 : Int) ≤ i by omega), if_true, wrap_succ (show i ≤ 4611686018427387903 by omega)]
      exact ih
  exact key 0 (by omega)

def sizes (l : List ByteArray) : Nat := (l.map ByteArray.size).sum
theorem laws_szStringS_ev (l : List ByteArray) (n : Nat) (hn : n ≤ 1048576) (hl : BdSlice 16 BdStr l) : Ev (fun k => laws_szStringS.f k l n) (if l.length + sizes l ≤ n then ((n - (l.length + sizes l) : Nat) : Int) else -1) := by
  have hl' : l.length ≤ 140737488351232 := by have := hl.1; omega
  unfold laws_szStringS.f
  rw [wrap_in (by omega) (by omega)]
  by_cases h : l.length ≤ n
  · rw [show ((n : Int) - (l.length : Int)) = ((n - l.length : Nat) : Int) by omega]
    simp only [if_neg (show ¬ ((n - l.length : Nat) : Int) < 0 by omega)]
    have key : ∀ i, i ≤ l.length → ∀ m : Nat, m ≤ n → Ev (fun k => laws_szStringS.l0 k l (m : Int) (i : Int)) (if sizes (l.drop i) ≤ m then ((m - sizes (l.drop i) : Nat) : Int) else -1) := by
      refine down_ind ?_ ?_
      · intro m hm
        refine Ev.succ ?_
        simp only [laws_szStringS.l0, Int.lt_irrefl, if_false]
        exact Ev.const (by simp [sizes])
      · intro i hi ih m hm
        have hb : l[i].size ≤ 140737488351232 := bd_get hl i hi
        refine Ev.succ ?_
        simp only [laws_szStringS.l0, if_pos (show (i : Int) < (l.length : Int) by omega), if_pos (show (0 : Int) ≤ i by omega), rdOf_nat _ l i hi, wrap_in (show -4611686018427387904 ≤ (m : Int) - (l[i].size : Int) by omega) (show (m : Int) - (l[i].size : Int) ≤ 4611686018427387904 by omega), wrap_succ (show i ≤ 4611686018427387903 by omega)]
        have hd : sizes (l.drop i) = l[i].size + sizes (l.drop (i + 1)) := by rw [drop_cons l i hi]; rfl
        rw [hd]
        by_cases hs : l[i].size ≤ m
        · simp only [if_neg (show ¬ (m : Int) - (l[i].size : Int) < 0 by omega), show (m : Int) - (l[i].size : Int) = ((m - l[i].size : Nat) : Int) by omega]
          refine Ev.cast (ih (m - l[i].size) (by omega)) ?_
          by_cases h2 : sizes (l.drop (i + 1)) ≤ m - l[i].size
          · rw [if_pos h2, if_pos (by omega)]
            congr 1
            omega
          · rw [if_neg h2, if_neg (by omega)]
        · simp only [if_pos (show (m : Int) - (l[i].size : Int) < 0 by omega)]
          exact Ev.const (by rw [if_neg (by omega)])
    refine Ev.cast (key 0 (by omega) (n - l.length) (by omega)) ?_
    simp only [List.drop_zero]
    by_cases h2 : sizes l ≤ n - l.length
    · rw [if_pos h2, if_pos (by omega)]
      congr 1
      omega
    · rw [if_neg h2, if_neg (by omega)]
  · simp only [if_pos (show ((n : Int) - (l.length : Int)) < 0 by omega)]
    exact Ev.const (by rw [if_neg (by omega)])

theorem size_append (a b : ByteArray) : (a ++ b).size = a.size + b.size := by
  rw [← B_length, ← B_length, ← B_length, B_append, List.length_append]
theorem laws_markText_some (m : Int) (h0 : 0 ≤ m) (h1 : m ≤ 4398046511104) : ∃ s, Ev (fun k => laws_markText.f k m) s := by
  unfold laws_markText.f
  by_cases hm : m ≤ 0
  · simp only [if_pos hm]
    exact ⟨_, Ev.const rfl⟩
  · simp only [if_neg hm]
    obtain ⟨n, rfl⟩ := Int.eq_ofNat_of_zero_le h0
    have key : ∀ (n : Nat) (x : ByteArray), x.size + n ≤ 8796093022208 → ∃ s, Ev (fun k => laws_markText.l0 k (n : Int) x) s := by
      intro n
      induction n using Nat.strongRecOn with
      | _ n ih =>
        intro x hx
        by_cases hn : n = 0
        · subst hn
          refine ⟨(⟨#[109]⟩ : ByteArray) ++ x, Ev.succ ?_⟩
          simp only [laws_markText.l0, if_neg (show ¬ ((0 : Nat) : Int) > 0 by omega), if_pos (show 1 + x.size ≤ 9223372036854775807 by omega)]
          exact Ev.const rfl
        · have hs : ∀ d : Int, (strOfNums [d]).size = 1 := fun d => rfl
          obtain ⟨s, hs'⟩ := ih (n / 10) (by omega) (strOfNums [wrap64 (48 + Int.tmod (n : Int) 10) % 256] ++ x) (by rw [size_append, hs]; omega)
          refine ⟨s, Ev.succ ?_⟩
          have hd : wrap64 (Int.tdiv (n : Int) 10) = ((n / 10 : Nat) : Int) := by
            rw [show Int.tdiv (n : Int) 10 = ((n / 10 : Nat) : Int) from by rw [Int.tdiv_eq_ediv_of_nonneg (by omega)]; omega]
            exact wrap_nat (by omega)
          simp only [laws_markText.l0, if_pos (show (n : Int) > 0 by omega), Option.bind_some, hs, if_pos (show 1 + x.size ≤ 9223372036854775807 by omega), hd]
          exact hs'
    exact key n _ (by show 0 + n ≤ _; omega)
noncomputable def mtx (m : Int) : ByteArray := Classical.epsilon fun s => Ev (fun k => laws_markText.f k m) s
theorem laws_markText_ev (m : Int) (h0 : 0 ≤ m) (h1 : m ≤ 4398046511104) : Ev (fun k => laws_markText.f k m) (mtx m) := Classical.epsilon_spec (laws_markText_some m h0 h1)

theorem laws_markStringS_ev (l : List ByteArray) (m : Int) (hl : l.length ≤ 2097152) (h0 : 0 ≤ m) (h1 : m ≤ 1099511627776) : Ev (fun k => laws_markStringS.f k l m) (m + l.length, (idxs m l.length).map mtx) := by
  unfold laws_markStringS.f
  have key : ∀ i, i ≤ l.length → Ev (fun k => laws_markStringS.l0 k ((idxs m i).map mtx ++ l.drop i) (m + (i : Int)) (i : Int)) (m + l.length, (idxs m l.length).map mtx) := by
    refine down_ind ?_ ?_
    · refine Ev.succ ?_
      have hlen : ((idxs m l.length).map mtx ++ l.drop l.length).length = l.length := by simp [idxs_length]
      simp only [laws_markStringS.l0, hlen, Int.lt_irrefl, if_false]
      exact Ev.const (by simp)
    · intro i hi ih
      refine Ev.succ ?_
      have hlen : ((idxs m i).map mtx ++ l.drop i).length = l.length := by rw [List.length_append, List.length_map, idxs_length, List.length_drop]; omega
      have hset : ((idxs m i).map mtx ++ l.drop i).set i (mtx (m + i)) = (idxs m (i + 1)).map mtx ++ l.drop (i + 1) := by
        rw [List.set_append, List.length_map, idxs_length, if_neg (by omega), Nat.sub_self, drop_cons l i hi, List.set_cons_zero, idxs_snoc, List.map_append, List.append_assoc]
        rfl
      simp only [laws_markStringS.l0, hlen, if_pos (show (i : Int) < (l.length : Int) by omega)]
      refine Ev.bind (laws_markText_ev (m + i) (by omega) (by omega)) ?_
      simp only [if_pos (show (0 : Int) ≤ i by omega), Int.toNat_natCast, hset, wrap_succ (show i ≤ 4611686018427387903 by omega), wrap_in (show -4611686018427387904 ≤ m + (i : Int) + 1 by omega) (show m + (i : Int) + 1 ≤ 4611686018427387904 by omega)]
      exact (show m + ((i + 1 : Nat) : Int) = m + (i : Int) + 1 by omega) ▸ ih
  have := key 0 (by omega)
  simpa [idxs] using this

theorem laws_markIntS_ev (l : List Int) (m : Int) (hl : l.length ≤ 2097152) (h0 : 0 ≤ m) (h1 : m ≤ 1099511627776) : Ev (fun k => laws_markIntS.f k l m) (m + l.length, idxs m l.length) := by
  unfold laws_markIntS.f
  have key : ∀ i, i ≤ l.length → Ev (fun k => laws_markIntS.l0 k (idxs m i ++ l.drop i) (m + (i : Int)) (i : Int)) (m + l.length, idxs m l.length) := by
    refine down_ind ?_ ?_
    · refine Ev.succ ?_
      have hlen : (idxs m l.length ++ l.drop l.length).length = l.length := by simp [idxs_length]
      simp only [laws_markIntS.l0, hlen, Int.lt_irrefl, if_false]
      exact Ev.const (by simp)
    · intro i hi ih
      refine Ev.succ ?_
      have hlen : (idxs m i ++ l.drop i).length = l.length := by rw [List.length_append, idxs_length, List.length_drop]; omega
      have hset : (idxs m i ++ l.drop i).set i (m + i) = idxs m (i + 1) ++ l.drop (i + 1) := by
        rw [List.set_append, idxs_length, if_neg (by omega), Nat.sub_self, drop_cons l i hi, List.set_cons_zero, idxs_snoc, List.append_assoc]
        rfl
      simp only [laws_markIntS.l0, hlen, if_pos (show (i : Int) < (l.length : Int) by omega), if_pos (show (0 : Int) ≤ i by omega), Int.toNat_natCast, hset, wrap_succ (show i ≤ 4611686018427387903 by omega), wrap_in (show -4611686018427387904 ≤ m + (i : Int) + 1 by omega) (show m + (i : Int) + 1 ≤ 4611686018427387904 by omega)]
      exact (show m + ((i + 1 : Nat) : Int) = m + (i : Int) + 1 by omega) ▸ ih
  have := key 0 (by omega)
  simpa [idxs] using this

end Go.Proofs.Ytdamagcfmhimfad.Pure
