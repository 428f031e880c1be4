/- The pure statement of the law FnExactTableauOf: for all arguments within bounds its printed function answers true. -/
import Derived.Test.YtlmfpkiaikjlbaaGreatPFnExactTableauOfx
import Derived.Test.YtlmfpkiaikjlbaaGreatUFnExactTableauOf
import Derived.Test.YtlmfpkiaikjlbaaGreatPureFnExactTableauOfa
namespace Go.Proofs.YtlmfpkiaikjlbaaGreat.Pure
open Go.RowKit Go.Proofs.YtlmfpkiaikjlbaaGreatB Go.Proofs.YtlmfpkiaikjlbaaGreat.PFnExactTableauOf Go.Proofs.YtlmfpkiaikjlbaaGreatW.PrintWords Go.Proofs.YtlmfpkiaikjlbaaGreatW.PrintLast Go.Proofs.YtlmfpkiaikjlbaaGreatW.PrintMore
set_option linter.unusedVariables false
set_option linter.unusedSimpArgs false

theorem impl_CountClusters_ev (s : ByteArray) (hn : s.size ≤ 140737488351232) : Ev (fun k => impl_CountClusters.f k s) ((cntP pClusters (B s) : Nat) : Int) := by
 unfold impl_CountClusters.f
 refine Ev.bind (places_at_CountClusters_ev s hn pClusters ?_) (Ev.const rfl)
 intro a b c ha hb _
 unfold impl_CountClusters_1.f pClusters
 rw [impl_isConsonant_eq a ha.1 ha.2, impl_isConsonant_eq b hb.1 hb.2]
 cases cns a <;> rfl
theorem spec_CountClusters_ev (s : ByteArray) (hn : s.size ≤ 140737488351232) : Ev (fun k => spec_CountClusters.f k s) ((cntP pClusters (B s) : Nat) : Int) := by
 unfold spec_CountClusters.f
 have h0 : ∀ x y, pClusters 0 x y = false := fun x y => by simp [pClusters, show cns 0 = false by decide]
 by_cases hs : s.size = 0
 · refine Ev.succ ?_
   simp only [spec_CountClusters.l0, hs, if_neg (show ¬ (1 : Int) < ((0 : Nat) : Int) by omega)]
   refine Ev.succ ?_
   simp only [spec_CountClusters.j1, Bool.false_eq_true, if_false]
   exact Ev.const (by simp [cntP, plc_end pClusters (B s) (i := 0) (by rw [B_length]; omega)])
 refine Ev.cast (spec_CountClusters_gen s hn pClusters 1 ?_ 1 (by omega) (by omega) 0 (by omega)) (by simp [cntP, plc_from1 _ _ h0])
 intro i hi n hn' h1 hf r ih
 have hb := B_length s
 have hm : i - 1 < (B s).length := by omega
 refine Ev.succ ?_
 simp only [spec_CountClusters.j1, if_true, show wrap64 ((i : Int) - 1) = ((i - 1 : Nat) : Int) by unfold wrap64; omega, spec_IsVowelAt_eq, Option.bind_some, getD_in _ i hi, getD_in _ (i - 1) hm, wrap_succ (show i ≤ 4611686018427387903 by omega), wrap_succ (show n ≤ 4611686018427387903 by omega)]
 unfold pClusters at ih
 simp only [befA_pos _ i (by omega) hi, cns_of_snd (form_snd hf i hi), cns_of_snd (form_snd hf (i - 1) hm)] at ih
 cases hx : vow (B s)[i - 1]
 · simp only [hx, Bool.not_false, Bool.true_and, Bool.false_eq_true, if_false] at ih ⊢
   cases hy : vow (B s)[i]
   · simp only [hy, Bool.not_false, if_true, Bool.false_eq_true, if_false] at ih ⊢
     exact ih
   · simp only [hy, Bool.not_true, if_true, Bool.false_eq_true, if_false, Nat.add_zero] at ih ⊢
     exact ih
 · simp only [hx, Bool.not_true, Bool.false_and, Bool.false_eq_true, if_false, Nat.add_zero, if_true] at ih ⊢
   exact ih

theorem places_at_CountVoiced_ev (s : ByteArray) (hn : s.size ≤ 140737488351232) (p : Int → Int → Int → Bool) (hp : ∀ a b c, 0 ≤ a ∧ a < 256 → 0 ≤ b ∧ b < 256 → 0 ≤ c ∧ c < 256 → impl_CountVoiced_1.f a b c = some (p a b c)) :
 Ev (fun k => impl_places_at_CountVoiced_1.f k s ()) ((cntP p (B s) : Nat) : Int) := places_G_ev impl_CountVoiced_1.f s hn p hp

theorem impl_isVoiced_eq (c : Int) (h0 : 0 ≤ c) (h1 : c < 256) : impl_isVoiced.f c = some (voi c) := byte_ind (P := fun c => impl_isVoiced.f c = some (voi c)) (by decide +kernel) c h0 h1

theorem spec_l8Voiced_eq (c : Int) (h0 : 0 ≤ c) (h1 : c < 256) : spec_l8Voiced.f c = some (voi c) := byte_ind (P := fun c => spec_l8Voiced.f c = some (voi c)) (by decide +kernel) c h0 h1

theorem spec_CountVoiced_gen (s : ByteArray) (hn : s.size ≤ 140737488351232) (p : Int → Int → Int → Bool) (st : Nat)
 (step : ∀ i (hi : i < (B s).length) (n : Nat), n ≤ i → st ≤ i → form (B s) = true → ∀ r, Ev (fun k => spec_CountVoiced.l0 k s ((n + (if p (befA (B s) i) (B s)[i] (behA (B s) i) then 1 else 0) : Nat) : Int) ((i + 1 : Nat) : Int)) r → Ev (fun k => spec_CountVoiced.j1 k s (n : Int) (i : Int) true) r) :
 ∀ i, i ≤ s.size → st ≤ i → ∀ n : Nat, n ≤ i → Ev (fun k => spec_CountVoiced.l0 k s (n : Int) (i : Int)) ((n + (if form (B s) then plc p (B s) i else 0) : Nat) : Int) := by
 refine down_ind ?_ ?_
 · intro _ n hn'
   refine Ev.succ ?_
   simp only [spec_CountVoiced.l0, Int.lt_irrefl, if_false]
   refine Ev.succ ?_
   simp only [spec_CountVoiced.j1, Bool.false_eq_true, if_false]
   exact Ev.const (by rw [plc_end _ _ (by rw [B_length]; exact Nat.le_refl _)]; simp)
 · intro i hi ih hst n hn'
   have hB : i < (B s).length := by rw [B_length]; exact hi
   refine Ev.succ ?_
   simp only [spec_CountVoiced.l0, if_pos (show (i : Int) < (s.size : Int) by omega)]
   refine Ev.bind (spec_IsForm_ev s hn) ?_
   cases hf : form (B s)
   · refine Ev.succ ?_
     simp only [spec_CountVoiced.j1, Bool.false_eq_true, if_false]
     exact Ev.const rfl
   · refine step i hB n hn' hst hf _ ?_
     rw [plc_step p (B s) i hB]
     by_cases hp : p (befA (B s) i) (B s)[i] (behA (B s) i) = true
     · simp only [if_pos hp]
       refine Ev.cast (ih (by omega) (n + 1) (by omega)) ?_
       simp [hf]
       omega
     · simp only [if_neg hp]
       refine Ev.cast (ih (by omega) n (by omega)) ?_
       simp [hf]

theorem impl_CountVoiced_ev (s : ByteArray) (hn : s.size ≤ 140737488351232) : Ev (fun k => impl_CountVoiced.f k s) ((cntP pVoiced (B s) : Nat) : Int) := by
 unfold impl_CountVoiced.f
 refine Ev.bind (places_at_CountVoiced_ev s hn pVoiced ?_) (Ev.const rfl)
 intro a b c _ hb _
 unfold impl_CountVoiced_1.f pVoiced
 rw [impl_isVoiced_eq b hb.1 hb.2]
 rfl
theorem spec_CountVoiced_ev (s : ByteArray) (hn : s.size ≤ 140737488351232) : Ev (fun k => spec_CountVoiced.f k s) ((cntP pVoiced (B s) : Nat) : Int) := by
 unfold spec_CountVoiced.f
 refine Ev.cast (spec_CountVoiced_gen s hn pVoiced 0 ?_ 0 (by omega) (by omega) 0 (by omega)) (by simp [cntP])
 intro i hi n hn' _ hf r ih
 have hb := B_length s
 refine Ev.succ ?_
 simp only [spec_CountVoiced.j1, if_true, if_pos (show (0 : Int) ≤ i by omega), if_pos (show (i : Int) < (s.size : Int) by omega), bt_nat s i hi, spec_l8Voiced_eq _ (B_get_range s i hi).1 (B_get_range s i hi).2, Option.bind_some, wrap_succ (show i ≤ 4611686018427387903 by omega), wrap_succ (show n ≤ 4611686018427387903 by omega)]
 unfold pVoiced at ih
 cases hx : voi (B s)[i]
 · simp only [hx, Bool.false_eq_true, if_false, Nat.add_zero] at ih ⊢
   exact ih
 · simp only [hx, if_true] at ih ⊢
   exact ih

theorem places_at_CountFinalVoiced_ev (s : ByteArray) (hn : s.size ≤ 140737488351232) (p : Int → Int → Int → Bool) (hp : ∀ a b c, 0 ≤ a ∧ a < 256 → 0 ≤ b ∧ b < 256 → 0 ≤ c ∧ c < 256 → impl_CountFinalVoiced_1.f a b c = some (p a b c)) :
 Ev (fun k => impl_places_at_CountFinalVoiced_1.f k s ()) ((cntP p (B s) : Nat) : Int) := places_G_ev impl_CountFinalVoiced_1.f s hn p hp

theorem impl_CountFinalVoiced_ev (s : ByteArray) (hn : s.size ≤ 140737488351232) : Ev (fun k => impl_CountFinalVoiced.f k s) ((cntP pFinalVoiced (B s) : Nat) : Int) := by
 unfold impl_CountFinalVoiced.f
 refine Ev.bind (places_at_CountFinalVoiced_ev s hn pFinalVoiced ?_) (Ev.const rfl)
 intro a b c _ hb _
 unfold impl_CountFinalVoiced_1.f pFinalVoiced
 rw [impl_isVoiced_eq b hb.1 hb.2]
 cases voi b <;> rfl
theorem spec_CountFinalVoiced_ev (s : ByteArray) (hn : s.size ≤ 140737488351232) : Ev (fun k => spec_CountFinalVoiced.f k s) ((cntP pFinalVoiced (B s) : Nat) : Int) := by
 unfold spec_CountFinalVoiced.f cntP
 refine Ev.bind (spec_IsForm_ev s hn) ?_
 cases hf : form (B s)
 · simp only [Bool.false_eq_true, if_false]
   exact Ev.const rfl
 · have hall : (B s).all snd = true := (Bool.and_eq_true_iff.1 hf).1
   simp only [if_true]
   by_cases h0 : s.toList = []
   · simp only [if_pos h0]
     rw [toList_nil] at h0
     exact Ev.const (by rw [plc_end _ _ (by simp [h0])]; rfl)
   · simp only [if_neg h0]
     rw [toList_nil] at h0
     have h1 : 1 ≤ s.size := by
      rw [← B_length]
      exact List.length_pos_iff.2 h0
     have hB : s.size - 1 < (B s).length := by rw [B_length]; omega
     simp only [show wrap64 ((s.size : Int) - 1) = ((s.size - 1 : Nat) : Int) by unfold wrap64; omega, if_pos (show (0 : Int) ≤ ((s.size - 1 : Nat) : Int) by omega), if_pos (show ((s.size - 1 : Nat) : Int) < (s.size : Int) by omega), bt_nat s _ hB, spec_l8Voiced_eq _ (B_get_range s _ hB).1 (B_get_range s _ hB).2, Option.bind_some]
     have key : ∀ i, i ≤ s.size - 1 → plc pFinalVoiced (B s) i = if voi ((B s)[s.size - 1]) then 1 else 0 := by
      refine down_ind ?_ ?_
      · rw [plc_step _ _ _ hB, plc_end _ _ (by rw [B_length]; omega), behA_out _ _ (by rw [B_length]; omega)]
        simp [pFinalVoiced]
      · intro i hi ih
        have hB1 : i + 1 < (B s).length := by rw [B_length]; omega
        rw [plc_step _ _ i (by omega), ih, behA_in _ _ hB1]
        have hs : snd (B s)[i + 1] = true := List.all_eq_true.1 hall _ (List.getElem_mem hB1)
        have h0 : ((B s)[i + 1] == 0) = false := by
         rw [beq_eq_false_iff_ne]
         intro e
         rw [e] at hs
         exact absurd hs (by decide)
        simp [pFinalVoiced, h0]
     rw [key 0 (by omega)]
     cases voi ((B s)[s.size - 1])
     · exact Ev.const rfl
     · exact Ev.const rfl

theorem places_at_CountNasalVoiceless_ev (s : ByteArray) (hn : s.size ≤ 140737488351232) (p : Int → Int → Int → Bool) (hp : ∀ a b c, 0 ≤ a ∧ a < 256 → 0 ≤ b ∧ b < 256 → 0 ≤ c ∧ c < 256 → impl_CountNasalVoiceless_1.f a b c = some (p a b c)) :
 Ev (fun k => impl_places_at_CountNasalVoiceless_1.f k s ()) ((cntP p (B s) : Nat) : Int) := places_G_ev impl_CountNasalVoiceless_1.f s hn p hp

theorem impl_HasFeature_eq (c : Int) (h0 : 0 ≤ c) (h1 : c < 256) (f : Int) (hf : f ∈ ([0, 1, 2, 3, 4] : List Int)) : impl_HasFeature.f c f = some (feat c f) := byte_ind (P := fun c => ∀ f ∈ ([0, 1, 2, 3, 4] : List Int), impl_HasFeature.f c f = some (feat c f)) (by decide +kernel) c h0 h1 f hf

theorem impl_isVoiceless_eq (c : Int) (h0 : 0 ≤ c) (h1 : c < 256) : impl_isVoiceless.f c = some (vls c) := byte_ind (P := fun c => impl_isVoiceless.f c = some (vls c)) (by decide +kernel) c h0 h1

theorem spec_CountNasalVoiceless_gen (s : ByteArray) (hn : s.size ≤ 140737488351232) (p : Int → Int → Int → Bool) (st : Nat)
 (step : ∀ i (hi : i < (B s).length) (n : Nat), n ≤ i → st ≤ i → form (B s) = true → ∀ r, Ev (fun k => spec_CountNasalVoiceless.l0 k s ((n + (if p (befA (B s) i) (B s)[i] (behA (B s) i) then 1 else 0) : Nat) : Int) ((i + 1 : Nat) : Int)) r → Ev (fun k => spec_CountNasalVoiceless.j1 k s (n : Int) (i : Int) true) r) :
 ∀ i, i ≤ s.size → st ≤ i → ∀ n : Nat, n ≤ i → Ev (fun k => spec_CountNasalVoiceless.l0 k s (n : Int) (i : Int)) ((n + (if form (B s) then plc p (B s) i else 0) : Nat) : Int) := by
 refine down_ind ?_ ?_
 · intro _ n hn'
   refine Ev.succ ?_
   simp only [spec_CountNasalVoiceless.l0, Int.lt_irrefl, if_false]
   refine Ev.succ ?_
   simp only [spec_CountNasalVoiceless.j1, Bool.false_eq_true, if_false]
   exact Ev.const (by rw [plc_end _ _ (by rw [B_length]; exact Nat.le_refl _)]; simp)
 · intro i hi ih hst n hn'
   have hB : i < (B s).length := by rw [B_length]; exact hi
   refine Ev.succ ?_
   simp only [spec_CountNasalVoiceless.l0, if_pos (show (i : Int) < (s.size : Int) by omega)]
   refine Ev.bind (spec_IsForm_ev s hn) ?_
   cases hf : form (B s)
   · refine Ev.succ ?_
     simp only [spec_CountNasalVoiceless.j1, Bool.false_eq_true, if_false]
     exact Ev.const rfl
   · refine step i hB n hn' hst hf _ ?_
     rw [plc_step p (B s) i hB]
     by_cases hp : p (befA (B s) i) (B s)[i] (behA (B s) i) = true
     · simp only [if_pos hp]
       refine Ev.cast (ih (by omega) (n + 1) (by omega)) ?_
       simp [hf]
       omega
     · simp only [if_neg hp]
       refine Ev.cast (ih (by omega) n (by omega)) ?_
       simp [hf]

theorem spec_IsObstruent_eq (c : Int) (h0 : 0 ≤ c) (h1 : c < 256) : spec_IsObstruent.f c = some (obs c) := byte_ind (P := fun c => spec_IsObstruent.f c = some (obs c)) (by decide +kernel) c h0 h1

theorem impl_CountNasalVoiceless_ev (s : ByteArray) (hn : s.size ≤ 140737488351232) : Ev (fun k => impl_CountNasalVoiceless.f k s) ((cntP pNasalVoiceless (B s) : Nat) : Int) := by
 unfold impl_CountNasalVoiceless.f
 refine Ev.bind (places_at_CountNasalVoiceless_ev s hn pNasalVoiceless ?_) (Ev.const rfl)
 intro a b c ha hb _
 unfold impl_CountNasalVoiceless_1.f pNasalVoiceless
 rw [impl_HasFeature_eq a ha.1 ha.2 2 (by decide), impl_isVoiceless_eq b hb.1 hb.2]
 simp only [feat, Option.bind_some, show ¬ ((2 : Int) = 0) by decide, show ¬ ((2 : Int) = 1) by decide, if_false, if_true]
 by_cases h : a = 110 <;> simp [h]
theorem vls_eq (c : Int) : vls c = (obs c && !feat c 1) := by
 simp only [vls, obs, feat, if_true, show ¬ ((1 : Int) = 0) by decide, if_false]
 by_cases h1 : c = 112
 · subst h1; decide
 · by_cases h2 : c = 116
   · subst h2; decide
   · by_cases h3 : c = 98
     · subst h3; decide
     · by_cases h4 : c = 100
       · subst h4; decide
       · simp [h1, h2, h3, h4]
theorem spec_CountNasalVoiceless_ev (s : ByteArray) (hn : s.size ≤ 140737488351232) : Ev (fun k => spec_CountNasalVoiceless.f k s) ((cntP pNasalVoiceless (B s) : Nat) : Int) := by
 unfold spec_CountNasalVoiceless.f
 have h0 : ∀ x y, pNasalVoiceless 0 x y = false := fun x y => by simp [pNasalVoiceless]
 by_cases hs : s.size = 0
 · refine Ev.succ ?_
   simp only [spec_CountNasalVoiceless.l0, hs, if_neg (show ¬ (1 : Int) < ((0 : Nat) : Int) by omega)]
   refine Ev.succ ?_
   simp only [spec_CountNasalVoiceless.j1, Bool.false_eq_true, if_false]
   exact Ev.const (by simp [cntP, plc_end pNasalVoiceless (B s) (i := 0) (by rw [B_length]; omega)])
 refine Ev.cast (spec_CountNasalVoiceless_gen s hn pNasalVoiceless 1 ?_ 1 (by omega) (by omega) 0 (by omega)) (by simp [cntP, plc_from1 _ _ h0])
 intro i hi n hn' h1 hf r ih
 have hb := B_length s
 have hm : i - 1 < (B s).length := by omega
 have hr := B_get_range s i hi
 have hr' := B_get_range s (i - 1) hm
 refine Ev.succ ?_
 simp only [spec_CountNasalVoiceless.j1, if_true, show wrap64 ((i : Int) - 1) = ((i - 1 : Nat) : Int) by unfold wrap64; omega, if_pos (show (0 : Int) ≤ ((i - 1 : Nat) : Int) by omega), if_pos (show ((i - 1 : Nat) : Int) < (s.size : Int) by omega), bt_nat s (i - 1) hm, spec_HasFeature_eq _ hr'.1 hr'.2 2 (by decide), if_pos (show (0 : Int) ≤ i by omega), if_pos (show (i : Int) < (s.size : Int) by omega), bt_nat s i hi, spec_IsObstruent_eq _ hr.1 hr.2, spec_HasFeature_eq _ hr.1 hr.2 1 (by decide), Option.bind_some, wrap_succ (show i ≤ 4611686018427387903 by omega), wrap_succ (show n ≤ 4611686018427387903 by omega)]
 unfold pNasalVoiceless at ih
 simp only [befA_pos _ i (by omega) hi, vls_eq] at ih
 have hfe : feat (B s)[i - 1] 2 = decide ((B s)[i - 1] = 110) := rfl
 simp only [hfe]
 cases hx : decide ((B s)[i - 1] = 110)
 · simp only [hx, Bool.false_and, Bool.false_eq_true, if_false, Nat.add_zero] at ih ⊢
   exact ih
 · simp only [hx, Bool.true_and, if_true] at ih ⊢
   cases hy : obs (B s)[i]
   · simp only [hy, Bool.false_and, Bool.false_eq_true, if_false, Nat.add_zero] at ih ⊢
     exact ih
   · simp only [hy, Bool.true_and, if_true] at ih ⊢
     cases hz : feat (B s)[i] 1
     · simp only [hz, Bool.not_false, Bool.false_eq_true, if_true, if_false] at ih ⊢
       exact ih
     · simp only [hz, Bool.not_true, Bool.false_eq_true, if_false, if_true, Nat.add_zero] at ih ⊢
       exact ih

def cntK (p : Int → Int → Bool) (l : List ILink) : Nat := if cand l then l.countP (fun x => p x.f0 x.f1) else 0
def kDel (a b : Int) : Bool := decide (b = 0)
def kIns (a b : Int) : Bool := decide (a = 0)
def kVoi (a b : Int) : Bool := !decide (a = 0) && (!decide (b = 0) && !decide (a = b))

theorem links_G_ev (PF : Int → Int → Option Bool) (l : List ILink) (hl : l.length ≤ 1048576) (hb : ∀ x ∈ l, okB x) (p : Int → Int → Bool) (hp : ∀ a b, PF a b = some (p a b)) :
 Ev (fun k => impl_links_G.f PF k l ()) ((cntK p l : Nat) : Int) := by
 unfold impl_links_G.f cntK
 have key : ∀ i, i ≤ l.length → ∀ n : Nat, n ≤ i → Ev (fun k => impl_links_G.l0 PF k (n : Int) l (l.length : Int) (i : Int) l) ((n + (if cand l then (l.drop i).countP (fun x => p x.f0 x.f1) else 0) : Nat) : Int) := by
  refine down_ind ?_ ?_
  · intro n _
    refine Ev.succ ?_
    simp only [impl_links_G.l0, Int.lt_irrefl, if_false]
    exact Ev.const (by simp)
  · intro i hi ih n hn
    refine Ev.succ ?_
    simp only [impl_links_G.l0, if_pos (show (i : Int) < (l.length : Int) by omega), if_pos (show (0 : Int) ≤ i by omega), rdK l i hi, wrap_succ (show i ≤ 4611686018427387903 by omega), wrap_succ (show n ≤ 4611686018427387903 by omega), hp, Option.bind_some]
    refine Ev.bind (impl_IsCandidate_ev l hl hb) ?_
    rw [drop_cons l i hi, List.countP_cons]
    cases hc : cand l
    · simp only [Bool.false_eq_true, if_false]
      refine Ev.cast (ih n (by omega)) ?_
      simp [hc]
    · simp only [if_true]
      cases p l[i].f0 l[i].f1
      · simp only [Bool.false_eq_true, if_false]
        refine Ev.cast (ih n (by omega)) ?_
        simp [hc]
      · simp only [if_true]
        refine Ev.cast (ih (n + 1) (by omega)) ?_
        simp [hc]
        omega
 refine Ev.cast (key 0 (by omega) 0 (by omega)) ?_
 simp

theorem links_at_CountDeleted_ev (l : List ILink) (hl : l.length ≤ 1048576) (hb : ∀ x ∈ l, okB x) (p : Int → Int → Bool) (hp : ∀ a b, impl_CountDeleted_1.f a b = some (p a b)) :
 Ev (fun k => impl_links_at_CountDeleted_1.f k l ()) ((cntK p l : Nat) : Int) := links_G_ev impl_CountDeleted_1.f l hl hb p hp

theorem spec_CountDeleted_gen (l : List ILink) (hl : l.length ≤ 1048576) (hb : ∀ x ∈ l, okB x) (p : Int → Int → Bool)
 (step : ∀ i (hi : i < l.length) (n : Nat), n ≤ i → ∀ r, Ev (fun k => spec_CountDeleted.l0 k ((n + (if p l[i].f0 l[i].f1 then 1 else 0) : Nat) : Int) ((i + 1 : Nat) : Int) l) r → Ev (fun k => spec_CountDeleted.j1 k (n : Int) (i : Int) true l) r) :
 Ev (fun k => spec_CountDeleted.f k l) ((cntK p l : Nat) : Int) := by
 unfold spec_CountDeleted.f cntK
 have key : ∀ i, i ≤ l.length → ∀ n : Nat, n ≤ i → Ev (fun k => spec_CountDeleted.l0 k (n : Int) (i : Int) l) ((n + (if cand l then (l.drop i).countP (fun x => p x.f0 x.f1) else 0) : Nat) : Int) := by
  refine down_ind ?_ ?_
  · intro n _
    refine Ev.succ ?_
    simp only [spec_CountDeleted.l0, Int.lt_irrefl, if_false]
    refine Ev.succ ?_
    simp only [spec_CountDeleted.j1, Bool.false_eq_true, if_false]
    exact Ev.const (by simp)
  · intro i hi ih n hn
    refine Ev.succ ?_
    simp only [spec_CountDeleted.l0, if_pos (show (i : Int) < (l.length : Int) by omega)]
    refine Ev.bind (spec_IsCandidate_ev l hl hb) ?_
    cases hc : cand l
    · refine Ev.succ ?_
      simp only [spec_CountDeleted.j1, Bool.false_eq_true, if_false]
      exact Ev.const (by simp)
    · refine step i hi n hn _ ?_
      rw [drop_cons l i hi, List.countP_cons]
      refine Ev.cast (ih (n + (if p l[i].f0 l[i].f1 then 1 else 0)) (by split <;> omega)) ?_
      simp only [hc, if_true]
      omega
 refine Ev.cast (key 0 (by omega) 0 (by omega)) ?_
 simp

theorem impl_CountDeleted_ev (l : List ILink) (hl : l.length ≤ 1048576) (hb : ∀ x ∈ l, okB x) : Ev (fun k => impl_CountDeleted.f k l) ((cntK kDel l : Nat) : Int) := by
 unfold impl_CountDeleted.f
 exact Ev.bind (links_at_CountDeleted_ev l hl hb kDel (fun a b => by unfold impl_CountDeleted_1.f kDel; rfl)) (Ev.const rfl)
theorem spec_CountDeleted_ev (l : List ILink) (hl : l.length ≤ 1048576) (hb : ∀ x ∈ l, okB x) : Ev (fun k => spec_CountDeleted.f k l) ((cntK kDel l : Nat) : Int) := by
 refine spec_CountDeleted_gen l hl hb kDel ?_
 intro i hi n hn r ih
 refine Ev.succ ?_
 simp only [spec_CountDeleted.j1, if_true, if_pos (show (0 : Int) ≤ i by omega), if_pos (show (i : Int) < (l.length : Int) by omega), rdK l i hi, wrap_succ (show i ≤ 4611686018427387903 by omega), wrap_succ (show n ≤ 4611686018427387903 by omega)]
 unfold kDel at ih
 by_cases h : l[i].f1 = 0
 · simpa [h] using ih
 · simpa [h] using ih

theorem links_at_CountInserted_ev (l : List ILink) (hl : l.length ≤ 1048576) (hb : ∀ x ∈ l, okB x) (p : Int → Int → Bool) (hp : ∀ a b, impl_CountInserted_1.f a b = some (p a b)) :
 Ev (fun k => impl_links_at_CountInserted_1.f k l ()) ((cntK p l : Nat) : Int) := links_G_ev impl_CountInserted_1.f l hl hb p hp

theorem spec_CountInserted_gen (l : List ILink) (hl : l.length ≤ 1048576) (hb : ∀ x ∈ l, okB x) (p : Int → Int → Bool)
 (step : ∀ i (hi : i < l.length) (n : Nat), n ≤ i → ∀ r, Ev (fun k => spec_CountInserted.l0 k ((n + (if p l[i].f0 l[i].f1 then 1 else 0) : Nat) : Int) ((i + 1 : Nat) : Int) l) r → Ev (fun k => spec_CountInserted.j1 k (n : Int) (i : Int) true l) r) :
 Ev (fun k => spec_CountInserted.f k l) ((cntK p l : Nat) : Int) := by
 unfold spec_CountInserted.f cntK
 have key : ∀ i, i ≤ l.length → ∀ n : Nat, n ≤ i → Ev (fun k => spec_CountInserted.l0 k (n : Int) (i : Int) l) ((n + (if cand l then (l.drop i).countP (fun x => p x.f0 x.f1) else 0) : Nat) : Int) := by
  refine down_ind ?_ ?_
  · intro n _
    refine Ev.succ ?_
    simp only [spec_CountInserted.l0, Int.lt_irrefl, if_false]
    refine Ev.succ ?_
    simp only [spec_CountInserted.j1, Bool.false_eq_true, if_false]
    exact Ev.const (by simp)
  · intro i hi ih n hn
    refine Ev.succ ?_
    simp only [spec_CountInserted.l0, if_pos (show (i : Int) < (l.length : Int) by omega)]
    refine Ev.bind (spec_IsCandidate_ev l hl hb) ?_
    cases hc : cand l
    · refine Ev.succ ?_
      simp only [spec_CountInserted.j1, Bool.false_eq_true, if_false]
      exact Ev.const (by simp)
    · refine step i hi n hn _ ?_
      rw [drop_cons l i hi, List.countP_cons]
      refine Ev.cast (ih (n + (if p l[i].f0 l[i].f1 then 1 else 0)) (by split <;> omega)) ?_
      simp only [hc, if_true]
      omega
 refine Ev.cast (key 0 (by omega) 0 (by omega)) ?_
 simp

theorem impl_CountInserted_ev (l : List ILink) (hl : l.length ≤ 1048576) (hb : ∀ x ∈ l, okB x) : Ev (fun k => impl_CountInserted.f k l) ((cntK kIns l : Nat) : Int) := by
 unfold impl_CountInserted.f
 exact Ev.bind (links_at_CountInserted_ev l hl hb kIns (fun a b => by unfold impl_CountInserted_1.f kIns; rfl)) (Ev.const rfl)
theorem spec_CountInserted_ev (l : List ILink) (hl : l.length ≤ 1048576) (hb : ∀ x ∈ l, okB x) : Ev (fun k => spec_CountInserted.f k l) ((cntK kIns l : Nat) : Int) := by
 refine spec_CountInserted_gen l hl hb kIns ?_
 intro i hi n hn r ih
 refine Ev.succ ?_
 simp only [spec_CountInserted.j1, if_true, if_pos (show (0 : Int) ≤ i by omega), if_pos (show (i : Int) < (l.length : Int) by omega), rdK l i hi, wrap_succ (show i ≤ 4611686018427387903 by omega), wrap_succ (show n ≤ 4611686018427387903 by omega)]
 unfold kIns at ih
 by_cases h : l[i].f0 = 0
 · simpa [h] using ih
 · simpa [h] using ih

theorem links_at_CountVoiceChanged_ev (l : List ILink) (hl : l.length ≤ 1048576) (hb : ∀ x ∈ l, okB x) (p : Int → Int → Bool) (hp : ∀ a b, impl_CountVoiceChanged_1.f a b = some (p a b)) :
 Ev (fun k => impl_links_at_CountVoiceChanged_1.f k l ()) ((cntK p l : Nat) : Int) := links_G_ev impl_CountVoiceChanged_1.f l hl hb p hp

theorem spec_CountVoiceChanged_gen (l : List ILink) (hl : l.length ≤ 1048576) (hb : ∀ x ∈ l, okB x) (p : Int → Int → Bool)
 (step : ∀ i (hi : i < l.length) (n : Nat), n ≤ i → ∀ r, Ev (fun k => spec_CountVoiceChanged.l0 k ((n + (if p l[i].f0 l[i].f1 then 1 else 0) : Nat) : Int) ((i + 1 : Nat) : Int) l) r → Ev (fun k => spec_CountVoiceChanged.j1 k (n : Int) (i : Int) true l) r) :
 Ev (fun k => spec_CountVoiceChanged.f k l) ((cntK p l : Nat) : Int) := by
 unfold spec_CountVoiceChanged.f cntK
 have key : ∀ i, i ≤ l.length → ∀ n : Nat, n ≤ i → Ev (fun k => spec_CountVoiceChanged.l0 k (n : Int) (i : Int) l) ((n + (if cand l then (l.drop i).countP (fun x => p x.f0 x.f1) else 0) : Nat) : Int) := by
  refine down_ind ?_ ?_
  · intro n _
    refine Ev.succ ?_
    simp only [spec_CountVoiceChanged.l0, Int.lt_irrefl, if_false]
    refine Ev.succ ?_
    simp only [spec_CountVoiceChanged.j1, Bool.false_eq_true, if_false]
    exact Ev.const (by simp)
  · intro i hi ih n hn
    refine Ev.succ ?_
    simp only [spec_CountVoiceChanged.l0, if_pos (show (i : Int) < (l.length : Int) by omega)]
    refine Ev.bind (spec_IsCandidate_ev l hl hb) ?_
    cases hc : cand l
    · refine Ev.succ ?_
      simp only [spec_CountVoiceChanged.j1, Bool.false_eq_true, if_false]
      exact Ev.const (by simp)
    · refine step i hi n hn _ ?_
      rw [drop_cons l i hi, List.countP_cons]
      refine Ev.cast (ih (n + (if p l[i].f0 l[i].f1 then 1 else 0)) (by split <;> omega)) ?_
      simp only [hc, if_true]
      omega
 refine Ev.cast (key 0 (by omega) 0 (by omega)) ?_
 simp

theorem impl_CountVoiceChanged_ev (l : List ILink) (hl : l.length ≤ 1048576) (hb : ∀ x ∈ l, okB x) : Ev (fun k => impl_CountVoiceChanged.f k l) ((cntK kVoi l : Nat) : Int) := by
 unfold impl_CountVoiceChanged.f
 refine Ev.bind (links_at_CountVoiceChanged_ev l hl hb kVoi (fun a b => ?_)) (Ev.const rfl)
 unfold impl_CountVoiceChanged_1.f kVoi
 by_cases h : a = 0
 · simp [h]
 · by_cases h2 : b = 0
   · simp [h, h2]
   · simp only [if_neg h, if_neg h2, h, h2, decide_false, Bool.not_false, Bool.true_and]
     by_cases h3 : a = b
     · simp [h3]
     · simp [h3]
theorem spec_CountVoiceChanged_ev (l : List ILink) (hl : l.length ≤ 1048576) (hb : ∀ x ∈ l, okB x) : Ev (fun k => spec_CountVoiceChanged.f k l) ((cntK kVoi l : Nat) : Int) := by
 refine spec_CountVoiceChanged_gen l hl hb kVoi ?_
 intro i hi n hn r ih
 refine Ev.succ ?_
 simp only [spec_CountVoiceChanged.j1, if_true, if_pos (show (0 : Int) ≤ i by omega), if_pos (show (i : Int) < (l.length : Int) by omega), rdK l i hi, wrap_succ (show i ≤ 4611686018427387903 by omega), wrap_succ (show n ≤ 4611686018427387903 by omega)]
 unfold kVoi at ih
 by_cases h : l[i].f0 = 0
 · simpa [h] using ih
 · by_cases h2 : l[i].f1 = 0
   · simpa [h, h2] using ih
   · by_cases h3 : l[i].f0 = l[i].f1
     · simp only [if_neg h, if_neg h2, if_pos h3]
       simpa [h3] using ih
     · simp only [if_neg h, if_neg h2, if_neg h3]
       simpa [h, h2, h3] using ih

def kept (a b : Int) : Bool := !decide (a = 0) && !decide (b = 0)
def brk : List ILink → Bool → Nat → Nat
 | [], _, _ => 0
 | x :: l, s, p => if kept x.f0 x.f1 then p + brk l true 0 else if s then brk l s (p + 1) else brk l s p
def brks (l : List ILink) : Nat := if cand l then brk l false 0 else 0
def nks (l : List ILink) (j : Nat) : Nat := (l.take j).countP fun x => !kept x.f0 x.f1
theorem nks_succ (l : List ILink) (j : Nat) (h : j < l.length) : nks l (j + 1) = nks l j + (if kept l[j].f0 l[j].f1 then 0 else 1) := by
 unfold nks
 rw [take_snoc l j h, List.countP_append]
 cases hk : kept l[j].f0 l[j].f1 <;> simp [hk]
theorem impl_CountBreaks_ev (l : List ILink) (hl : l.length ≤ 1048576) (hb : ∀ x ∈ l, okB x) : Ev (fun k => impl_CountBreaks.f k l) ((brks l : Nat) : Int) := by
 unfold impl_CountBreaks.f brks
 have key : ∀ i, i ≤ l.length → ∀ (n p : Nat) (s : Bool), n + p ≤ i → Ev (fun k => impl_CountBreaks.l0 k (n : Int) (p : Int) s l (l.length : Int) (i : Int) l) ((n + (if cand l then brk (l.drop i) s p else 0) : Nat) : Int) := by
  refine down_ind ?_ ?_
  · intro n p s _
    refine Ev.succ ?_
    simp only [impl_CountBreaks.l0, Int.lt_irrefl, if_false]
    exact Ev.const (by simp [brk])
  · intro i hi ih n p s hn
    refine Ev.succ ?_
    simp only [impl_CountBreaks.l0, if_pos (show (i : Int) < (l.length : Int) by omega), if_pos (show (0 : Int) ≤ i by omega), rdK l i hi, wrap_succ (show i ≤ 4611686018427387903 by omega)]
    refine Ev.bind (impl_IsCandidate_ev l hl hb) ?_
    rw [drop_cons l i hi]
    cases hc : cand l
    · simp only [Bool.false_eq_true, if_false]
      refine Ev.cast (ih n p s (by omega)) ?_
      simp [hc]
    · have J : ∀ b, b = kept l[i].f0 l[i].f1 → Ev (fun k => impl_CountBreaks.j1 k (n : Int) (p : Int) s l (l.length : Int) (i : Int) b l) ((n + brk (l[i] :: l.drop (i + 1)) s p : Nat) : Int) := by
       intro b e
       refine Ev.succ ?_
       simp only [impl_CountBreaks.j1, brk, ← e, wrap_succ (show i ≤ 4611686018427387903 by omega), wrap_succ (show p ≤ 4611686018427387903 by omega)]
       cases b
       · simp only [Bool.false_eq_true, if_false]
         cases s
         · simp only [Bool.false_eq_true, if_false]
           refine Ev.cast (ih n p false (by omega)) ?_
           simp [hc]
         · simp only [if_true]
           refine Ev.cast (ih n (p + 1) true (by omega)) ?_
           simp [hc]
       · simp only [if_true]
         rw [show wrap64 ((n : Int) + (p : Int)) = ((n + p : Nat) : Int) by unfold wrap64; omega]
         refine Ev.cast (ih (n + p) 0 true (by omega)) ?_
         simp [hc]
         omega
      simp only [if_true]
      by_cases h0 : l[i].f0 = 0
      · simp only [if_pos h0]
        exact J false (by simp [kept, h0])
      · simp only [if_neg h0]
        exact J _ (by simp only [kept, h0, decide_false, Bool.not_false, Bool.true_and]; rw [bne_iff_decide])
 refine Ev.cast (key 0 (by omega) 0 0 false (by omega)) ?_
 simp
theorem spec_l9Kept_eq (a b : Int) : spec_l9Kept.f a b = some (kept a b) := by
 unfold spec_l9Kept.f kept
 by_cases h : a = 0
 · simp [h]
 · rw [if_neg h, bne_iff_decide]
   simp [h]
theorem spec_CountBreaks_ev (l : List ILink) (hl : l.length ≤ 1048576) (hb : ∀ x ∈ l, okB x) : Ev (fun k => spec_CountBreaks.f k l) ((brks l : Nat) : Int) := by
 unfold spec_CountBreaks.f brks
 have L1 : ∀ e : Nat, e ≤ l.length → ∀ j, j ≤ e → ∀ n : Nat, n ≤ j → Ev (fun k => spec_CountBreaks.l1 k (e : Int) (n : Int) (j : Int) l) ((n + (nks l e - nks l j) : Nat) : Int) := by
  intro e he
  have mono : ∀ j, j ≤ e → nks l j ≤ nks l e := by
   refine down_ind (Nat.le_refl _) ?_
   intro j hj ih
   rw [nks_succ l j (by omega)] at ih
   omega
  refine down_ind ?_ ?_
  · intro n _
    refine Ev.succ ?_
    simp only [spec_CountBreaks.l1, Int.lt_irrefl, if_false]
    exact Ev.const (by simp)
  · intro j hj ih n hn
    have hjl : j < l.length := by omega
    have hs := nks_succ l j hjl
    have hm := mono (j + 1) hj
    refine Ev.succ ?_
    simp only [spec_CountBreaks.l1, if_pos (show (j : Int) < (e : Int) by omega), if_pos (show (0 : Int) ≤ j by omega), if_pos (show (j : Int) < (l.length : Int) by omega), rdK l j hjl, spec_l9Kept_eq, Option.bind_some, wrap_succ (show j ≤ 4611686018427387903 by omega), wrap_succ (show n ≤ 4611686018427387903 by omega)]
    cases hk : kept l[j].f0 l[j].f1
    · rw [hk] at hs
      simp only [Bool.false_eq_true, if_false] at hs ⊢
      refine Ev.cast (ih (n + 1) (by omega)) ?_
      congr 1
      omega
    · rw [hk] at hs
      simp only [if_true] at hs ⊢
      refine Ev.cast (ih n (by omega)) ?_
      congr 1
      omega
 have none_ : Ev (fun k => spec_CountBreaks.l1 k (-1) 0 (mx 0 (-1)) l) 0 := by
  refine Ev.succ ?_
  simp only [spec_CountBreaks.l1, show ¬ (mx 0 (-1) < (-1 : Int)) by decide, if_false]
  exact Ev.const rfl
 have seen : ∀ i, i ≤ l.length → cand l = true → ∀ F e : Nat, F ≤ e → e < i → nks l F ≤ nks l e → nks l i + e + 1 = nks l e + i → Ev (fun k => spec_CountBreaks.l0 k (F : Int) (e : Int) (i : Int) l) (((nks l e - nks l F) + brk (l.drop i) true (i - 1 - e) : Nat) : Int) := by
  refine down_ind ?_ ?_
  · intro hc F e hF he hm hi
    refine Ev.succ ?_
    simp only [spec_CountBreaks.l0, Int.lt_irrefl, if_false]
    refine Ev.succ ?_
    simp only [spec_CountBreaks.j1, Bool.false_eq_true, if_false, show mx 0 (F : Int) = (F : Int) by unfold mx; split <;> omega]
    refine Ev.cast (L1 e (by omega) F hF 0 (by omega)) ?_
    simp [brk]
  · intro i hi ih hc F e hF he hm hinv
    have hs := nks_succ l i hi
    refine Ev.succ ?_
    simp only [spec_CountBreaks.l0, if_pos (show (i : Int) < (l.length : Int) by omega)]
    refine Ev.bind (spec_IsCandidate_ev l hl hb) ?_
    rw [hc]
    refine Ev.succ ?_
    simp only [spec_CountBreaks.j1, if_true, if_pos (show (0 : Int) ≤ i by omega), if_pos (show (i : Int) < (l.length : Int) by omega), rdK l i hi, spec_l9Kept_eq, Option.bind_some, wrap_succ (show i ≤ 4611686018427387903 by omega), if_neg (show ¬ (F : Int) < 0 by omega)]
    rw [drop_cons l i hi]
    simp only [brk]
    cases hk : kept l[i].f0 l[i].f1
    · rw [hk] at hs
      simp only [Bool.false_eq_true, if_false, if_true] at hs ⊢
      refine Ev.cast (ih hc F e hF (by omega) hm (by omega)) ?_
      rw [show i + 1 - 1 - e = i - 1 - e + 1 by omega]
    · rw [hk] at hs
      simp only [if_true] at hs ⊢
      refine Ev.cast (ih hc F i (by omega) (by omega) (by omega) (by omega)) ?_
      rw [show i + 1 - 1 - i = 0 by omega]
      congr 1
      omega
 have key : ∀ i, i ≤ l.length → Ev (fun k => spec_CountBreaks.l0 k (-1) (-1) (i : Int) l) ((if cand l then brk (l.drop i) false 0 else 0 : Nat) : Int) := by
  refine down_ind ?_ ?_
  · refine Ev.succ ?_
    simp only [spec_CountBreaks.l0, Int.lt_irrefl, if_false]
    refine Ev.succ ?_
    simp only [spec_CountBreaks.j1, Bool.false_eq_true, if_false]
    refine Ev.cast none_ ?_
    simp [brk]
  · intro i hi ih
    have hs := nks_succ l i hi
    refine Ev.succ ?_
    simp only [spec_CountBreaks.l0, if_pos (show (i : Int) < (l.length : Int) by omega)]
    refine Ev.bind (spec_IsCandidate_ev l hl hb) ?_
    cases hc : cand l
    · refine Ev.succ ?_
      simp only [spec_CountBreaks.j1, Bool.false_eq_true, if_false]
      exact none_
    · rw [hc] at ih
      refine Ev.succ ?_
      simp only [spec_CountBreaks.j1, if_true, if_pos (show (0 : Int) ≤ i by omega), if_pos (show (i : Int) < (l.length : Int) by omega), rdK l i hi, spec_l9Kept_eq, Option.bind_some, wrap_succ (show i ≤ 4611686018427387903 by omega), if_pos (show (-1 : Int) < 0 by omega)]
      rw [drop_cons l i hi]
      simp only [brk]
      cases hk : kept l[i].f0 l[i].f1
      · simp only [Bool.false_eq_true, if_false]
        exact ih
      · rw [hk] at hs
        simp only [if_true] at hs ⊢
        refine Ev.cast (seen (i + 1) (by omega) hc i i (Nat.le_refl _) (by omega) (Nat.le_refl _) (by omega)) ?_
        simp
 exact key 0 (by omega)

def viol (s : ByteArray) (l : List ILink) : Int := if cand l = true then
 (if s.toList = ([111, 110, 115, 101, 116] : List UInt8) then ((cntP pOnsetless (B (outS l)) : Nat) : Int) else
 if s.toList = ([110, 111, 99, 111, 100, 97] : List UInt8) then ((cntP pCodas (B (outS l)) : Nat) : Int) else
 if s.toList = ([99, 108, 117, 115, 116, 101, 114] : List UInt8) then ((cntP pClusters (B (outS l)) : Nat) : Int) else
 if s.toList = ([118, 111, 105, 99, 101] : List UInt8) then ((cntP pVoiced (B (outS l)) : Nat) : Int) else
 if s.toList = ([102, 105, 110, 97, 108] : List UInt8) then ((cntP pFinalVoiced (B (outS l)) : Nat) : Int) else
 if s.toList = ([110, 97, 115, 97, 108] : List UInt8) then ((cntP pNasalVoiceless (B (outS l)) : Nat) : Int) else
 if s.toList = ([109, 97, 120] : List UInt8) then ((cntK kDel l : Nat) : Int) else
 if s.toList = ([100, 101, 112] : List UInt8) then ((cntK kIns l : Nat) : Int) else
 if s.toList = ([105, 100, 101, 110, 116] : List UInt8) then ((cntK kVoi l : Nat) : Int) else
 if s.toList = ([99, 111, 110, 116, 105, 103] : List UInt8) then ((brks l : Nat) : Int) else -1) else -1
theorem Ev.ite {α : Type} {c : Prop} [Decidable c] {g h : Nat → Option α} {x y : α} (h1 : c → Ev g x) (h2 : ¬ c → Ev h y) : Ev (fun k => if c then g k else h k) (if c then x else y) := by
 by_cases hc : c
 · simp only [if_pos hc]
   exact h1 hc
 · simp only [if_neg hc]
   exact h2 hc
theorem spec_ViolationsOf_ev (s : ByteArray) (l : List ILink) (hl : l.length ≤ 1048576) (hb : ∀ x ∈ l, okB x) : Ev (fun k => spec_ViolationsOf.f k s l) (viol s l) := by
 unfold spec_ViolationsOf.f viol
 have ho : (outS l).size ≤ 140737488351232 := by have := outS_size l hl; omega
 refine Ev.bind (spec_IsCandidate_ev l hl hb) ?_
 cases cand l
 · simp only [Bool.false_eq_true, if_false]
   exact Ev.const rfl
 · simp only [if_true]
   refine Ev.bind (spec_OutputOf_ev l hl hb) ?_
   refine Ev.ite (fun _ => Ev.bind (spec_CountOnsetless_ev _ ho) (Ev.const rfl)) (fun _ => ?_)
   refine Ev.ite (fun _ => Ev.bind (spec_CountCodas_ev _ ho) (Ev.const rfl)) (fun _ => ?_)
   refine Ev.ite (fun _ => Ev.bind (spec_CountClusters_ev _ ho) (Ev.const rfl)) (fun _ => ?_)
   refine Ev.ite (fun _ => Ev.bind (spec_CountVoiced_ev _ ho) (Ev.const rfl)) (fun _ => ?_)
   refine Ev.ite (fun _ => Ev.bind (spec_CountFinalVoiced_ev _ ho) (Ev.const rfl)) (fun _ => ?_)
   refine Ev.ite (fun _ => Ev.bind (spec_CountNasalVoiceless_ev _ ho) (Ev.const rfl)) (fun _ => ?_)
   refine Ev.ite (fun _ => Ev.bind (spec_CountDeleted_ev l hl hb) (Ev.const rfl)) (fun _ => ?_)
   refine Ev.ite (fun _ => Ev.bind (spec_CountInserted_ev l hl hb) (Ev.const rfl)) (fun _ => ?_)
   refine Ev.ite (fun _ => Ev.bind (spec_CountVoiceChanged_ev l hl hb) (Ev.const rfl)) (fun _ => ?_)
   refine Ev.ite (fun _ => Ev.bind (spec_CountBreaks_ev l hl hb) (Ev.const rfl)) (fun _ => ?_)
   exact Ev.const rfl
theorem impl_ViolationsOf_ev (s : ByteArray) (l : List ILink) (hl : l.length ≤ 1048576) (hb : ∀ x ∈ l, okB x) : Ev (fun k => impl_ViolationsOf.f k s l) (viol s l) := by
 unfold impl_ViolationsOf.f viol
 have ho : (outS l).size ≤ 140737488351232 := by have := outS_size l hl; omega
 refine Ev.bind (impl_IsCandidate_ev l hl hb) ?_
 cases cand l
 · simp only [Bool.false_eq_true, if_false]
   exact Ev.const rfl
 · simp only [if_true]
   refine Ev.bind (impl_OutputOf_ev l hl hb) ?_
   refine Ev.ite (fun _ => Ev.bind (impl_CountOnsetless_ev _ ho) (Ev.const rfl)) (fun _ => ?_)
   refine Ev.ite (fun _ => Ev.bind (impl_CountCodas_ev _ ho) (Ev.const rfl)) (fun _ => ?_)
   refine Ev.ite (fun _ => Ev.bind (impl_CountClusters_ev _ ho) (Ev.const rfl)) (fun _ => ?_)
   refine Ev.ite (fun _ => Ev.bind (impl_CountVoiced_ev _ ho) (Ev.const rfl)) (fun _ => ?_)
   refine Ev.ite (fun _ => Ev.bind (impl_CountFinalVoiced_ev _ ho) (Ev.const rfl)) (fun _ => ?_)
   refine Ev.ite (fun _ => Ev.bind (impl_CountNasalVoiceless_ev _ ho) (Ev.const rfl)) (fun _ => ?_)
   refine Ev.ite (fun _ => Ev.bind (impl_CountDeleted_ev l hl hb) (Ev.const rfl)) (fun _ => ?_)
   refine Ev.ite (fun _ => Ev.bind (impl_CountInserted_ev l hl hb) (Ev.const rfl)) (fun _ => ?_)
   refine Ev.ite (fun _ => Ev.bind (impl_CountVoiceChanged_ev l hl hb) (Ev.const rfl)) (fun _ => ?_)
   refine Ev.ite (fun _ => Ev.bind (impl_CountBreaks_ev l hl hb) (Ev.const rfl)) (fun _ => ?_)
   exact Ev.const rfl

def cnames : List ByteArray := [⟨#[111, 110, 115, 101, 116]⟩, ⟨#[110, 111, 99, 111, 100, 97]⟩, ⟨#[99, 108, 117, 115, 116, 101, 114]⟩, ⟨#[118, 111, 105, 99, 101]⟩, ⟨#[102, 105, 110, 97, 108]⟩, ⟨#[110, 97, 115, 97, 108]⟩, ⟨#[109, 97, 120]⟩, ⟨#[100, 101, 112]⟩, ⟨#[105, 100, 101, 110, 116]⟩, ⟨#[99, 111, 110, 116, 105, 103]⟩]
theorem spec_ConstraintNames_eq : spec_ConstraintNames.f = some cnames := rfl
theorem impl_ConstraintNames_eq : impl_ConstraintNames.f = some cnames := rfl

def areC1 (l : List ByteArray) (j : Nat) : Bool := decide (l.getD j ByteArray.empty ∈ cnames) && !decide (l.getD j ByteArray.empty ∈ l.take j)
def areC (l : List ByteArray) : Bool := allFrom (areC1 l) l.length 0 && decide (1 ≤ l.length ∧ l.length ≤ 5)
theorem getS (l : List ByteArray) (j : Nat) (h : j < l.length) : l.getD j ByteArray.empty = l[j] := by simp [h]

theorem spec_l1In_eq (a b c : Int) : spec_l1In.f a b c = some (decide (b ≤ a ∧ a ≤ c)) := by
 unfold spec_l1In.f
 split
 · have : b ≤ a := by omega
   simp [*]
 · have : ¬ b ≤ a := by omega
   simp [*]

theorem spec_l3Has_ev (l : List ByteArray) (x : ByteArray) (hl : l.length ≤ 1048576) : Ev (fun k => spec_l3Has.f k l x) (decide (x ∈ l)) := by
 unfold spec_l3Has.f
 have key : ∀ i, i ≤ l.length → Ev (fun k => spec_l3Has.l0 k l x (i : Int)) (decide (x ∈ l.drop i)) := by
  refine down_ind ?_ ?_
  · refine Ev.succ ?_
    simp only [spec_l3Has.l0, Int.lt_irrefl, if_false]
    exact Ev.const (by simp)
  · intro i hi ih
    refine Ev.succ ?_
    simp only [spec_l3Has.l0, if_pos (show (i : Int) < (l.length : Int) by omega), if_pos (show (0 : Int) ≤ i by omega), rdOf_nat _ l i hi, toList_inj, wrap_succ (show i ≤ 4611686018427387903 by omega)]
    rw [drop_cons l i hi]
    by_cases he : l[i] = x
    · simp only [if_pos he]
      exact Ev.const (by rw [he]; simp)
    · simp only [if_neg he]
      refine Ev.cast ih ?_
      rw [decide_eq_decide, List.mem_cons]
      constructor
      · exact .inr
      · rintro (h | h)
        · exact absurd h.symm he
        · exact h
 exact key 0 (by omega)

theorem spec_AreConstraints_ev (l : List ByteArray) (hl : l.length ≤ 1048576) : Ev (fun k => spec_AreConstraints.f k l) (areC l) := by
 unfold spec_AreConstraints.f areC
 have key : ∀ i, i ≤ l.length → Ev (fun k => spec_AreConstraints.l0 k l (i : Int)) (allFrom (areC1 l) l.length i && decide (1 ≤ l.length ∧ l.length ≤ 5)) := by
  refine down_ind ?_ ?_
  · refine Ev.succ ?_
    simp only [spec_AreConstraints.l0, Int.lt_irrefl, if_false, spec_l1In_eq, Option.bind_some, allFrom_end _ (Nat.le_refl _), Bool.true_and]
    exact Ev.const (congrArg some (decide_eq_decide.2 (by omega)))
  · intro i hi ih
    refine Ev.succ ?_
    rw [allFrom_step _ hi, areC1, getS l i hi]
    simp only [spec_AreConstraints.l0, if_pos (show (i : Int) < (l.length : Int) by omega), if_pos (show (0 : Int) ≤ i by omega), spec_ConstraintNames_eq, Option.bind_some, rdOf_nat _ l i hi]
    refine Ev.bind (spec_l3Has_ev cnames l[i] (by decide)) ?_
    by_cases h1 : l[i] ∈ cnames
    · simp only [h1, decide_true, if_true, if_pos (show (i : Int) ≤ (l.length : Int) by omega), Int.toNat_natCast, Bool.true_and]
      refine Ev.bind (spec_l3Has_ev (l.take i) l[i] (by rw [List.length_take]; omega)) ?_
      by_cases h2 : l[i] ∈ l.take i
      · simp only [h2, decide_true, if_true]
        exact Ev.const rfl
      · simp only [h2, decide_false, Bool.false_eq_true, if_false, wrap_succ (show i ≤ 4611686018427387903 by omega), Bool.not_false, Bool.true_and]
        exact ih
    · simp only [h1, decide_false, Bool.false_eq_true, if_false, Bool.false_and]
      exact Ev.const rfl
 exact key 0 (by omega)

theorem slices_Index_string_ev2 (l : List ByteArray) (x : ByteArray) (hl : l.length ≤ 2097152) : Ev (fun k => slices_Index_string_string.f k l x) (idxS l x 0) := by
 unfold slices_Index_string_string.f
 have key : ∀ i, i ≤ l.length → Ev (fun k => slices_Index_string_string.l0 k l x (l.length : Int) (i : Int)) (idxS (l.drop i) x i) := by
  refine down_ind ?_ ?_
  · refine Ev.succ ?_
    simp only [slices_Index_string_string.l0, Int.lt_irrefl, if_false]
    exact Ev.const (by rw [List.drop_of_length_le (Nat.le_refl _)]; rfl)
  · intro i hi ih
    refine Ev.succ ?_
    simp only [slices_Index_string_string.l0, if_pos (show (i : Int) < (l.length : Int) by omega), if_pos (show (0 : Int) ≤ i by omega), rdOf_nat _ l i hi, toList_inj, wrap_succ (show i ≤ 4611686018427387903 by omega)]
    rw [drop_cons l i hi]
    by_cases he : x = l[i]
    · simp only [if_pos he]
      exact Ev.const (by simp only [idxS, if_pos he])
    · simp only [if_neg he]
      exact Ev.cast ih (by simp only [idxS, if_neg he]; rfl)
 exact key 0 (by omega)
theorem slices_Contains_string_ev2 (l : List ByteArray) (x : ByteArray) (hl : l.length ≤ 2097152) : Ev (fun k => slices_Contains_string_string.f k l x) (decide (x ∈ l)) := by
 unfold slices_Contains_string_string.f
 refine Ev.bind (slices_Index_string_ev2 l x hl) (Ev.const ?_)
 simp only [ge_iff_le, idxS_mem x l 0 (Int.le_refl _)]
theorem slices_Contains_string_ev (l : List ByteArray) (x : ByteArray) (hl : l.length ≤ 1048576) : Ev (fun k => slices_Contains_string_string.f k l x) (decide (x ∈ l)) := slices_Contains_string_ev2 l x (by omega)

theorem impl_AreConstraints_ev2 (l : List ByteArray) (hl : l.length ≤ 2097152) : Ev (fun k => impl_AreConstraints.f k l) (areC l) := by
 unfold impl_AreConstraints.f areC
 have key : ∀ i, i ≤ l.length → Ev (fun k => impl_AreConstraints.l0 k l l (l.length : Int) (i : Int)) (allFrom (areC1 l) l.length i && decide (1 ≤ l.length ∧ l.length ≤ 5)) := by
  refine down_ind ?_ ?_
  · refine Ev.succ ?_
    simp only [impl_AreConstraints.l0, Int.lt_irrefl, if_false, impl_within_eq, Option.bind_some, allFrom_end _ (Nat.le_refl _), Bool.true_and]
    exact Ev.const (congrArg some (decide_eq_decide.2 (by omega)))
  · intro i hi ih
    refine Ev.succ ?_
    rw [allFrom_step _ hi, areC1, getS l i hi]
    simp only [impl_AreConstraints.l0, if_pos (show (i : Int) < (l.length : Int) by omega), if_pos (show (0 : Int) ≤ i by omega), impl_ConstraintNames_eq, Option.bind_some, rdOf_nat _ l i hi]
    refine Ev.bind (slices_Contains_string_ev cnames l[i] (by decide)) ?_
    by_cases h1 : l[i] ∈ cnames
    · simp only [h1, decide_true, if_true, if_pos (show (i : Int) ≤ (l.length : Int) by omega), Int.toNat_natCast, Bool.true_and]
      refine Ev.bind (slices_Contains_string_ev2 (l.take i) l[i] (by rw [List.length_take]; omega)) ?_
      by_cases h2 : l[i] ∈ l.take i
      · simp only [h2, decide_true, if_true]
        exact Ev.const rfl
      · simp only [h2, decide_false, Bool.false_eq_true, if_false, wrap_succ (show i ≤ 4611686018427387903 by omega), Bool.not_false, Bool.true_and]
        exact ih
    · simp only [h1, decide_false, Bool.false_eq_true, if_false, Bool.false_and]
      exact Ev.const rfl
 exact key 0 (by omega)
theorem impl_AreConstraints_ev (l : List ByteArray) (hl : l.length ≤ 1048576) : Ev (fun k => impl_AreConstraints.f k l) (areC l) := impl_AreConstraints_ev2 l (by omega)

def prof (n : List ByteArray) (l : List ILink) : List Int := if areC n = true ∧ cand l = true then n.map (fun s => viol s l) else []
theorem prof_len (n : List ByteArray) (l : List ILink) : (prof n l).length ≤ n.length := by
 unfold prof
 split <;> simp
theorem spec_ProfileOf_ev (n : List ByteArray) (l : List ILink) (hn : n.length ≤ 1048576) (hl : l.length ≤ 1048576) (hb : ∀ x ∈ l, okB x) : Ev (fun k => spec_ProfileOf.f k n l) (prof n l) := by
 unfold spec_ProfileOf.f prof
 have key : ∀ i, i ≤ n.length → ∀ acc : List Int, acc.length ≤ i → Ev (fun k => spec_ProfileOf.l0 k n acc (i : Int) l) (acc ++ (if areC n = true ∧ cand l = true then (n.drop i).map (fun s => viol s l) else [])) := by
  refine down_ind ?_ ?_
  · intro acc _
    refine Ev.succ ?_
    simp only [spec_ProfileOf.l0, Int.lt_irrefl, if_false]
    exact Ev.const (by simp)
  · intro i hi ih acc hacc
    refine Ev.succ ?_
    simp only [spec_ProfileOf.l0, if_pos (show (i : Int) < (n.length : Int) by omega), if_pos (show (0 : Int) ≤ i by omega), rdOf_nat _ n i hi, if_pos (show acc.length < 17592186044416 by omega), wrap_succ (show i ≤ 4611686018427387903 by omega)]
    refine Ev.bind (spec_AreConstraints_ev n hn) ?_
    cases hc : areC n
    · simp only [Bool.false_eq_true, if_false, false_and]
      exact Ev.const (by simp)
    · simp only [if_true, true_and]
      refine Ev.bind (spec_IsCandidate_ev l hl hb) ?_
      cases hk : cand l
      · simp only [Bool.false_eq_true, if_false]
        exact Ev.const (by simp)
      · simp only [if_true]
        refine Ev.bind (spec_ViolationsOf_ev _ l hl hb) ?_
        refine Ev.cast (ih (acc ++ [viol n[i] l]) (by simp; omega)) ?_
        rw [drop_cons n i hi]
        simp only [hc, hk, and_self, if_true, List.map_cons, List.append_assoc, List.cons_append, List.nil_append]
 refine Ev.cast (key 0 (by omega) [] (by simp)) ?_
 simp
theorem impl_ProfileOf_ev (n : List ByteArray) (l : List ILink) (hn : n.length ≤ 1048576) (hl : l.length ≤ 1048576) (hb : ∀ x ∈ l, okB x) : Ev (fun k => impl_ProfileOf.f k n l) (prof n l) := by
 unfold impl_ProfileOf.f prof
 refine Ev.bind (impl_AreConstraints_ev n hn) ?_
 cases areC n
 · simp only [Bool.false_eq_true, if_false, false_and]
   refine Ev.succ ?_
   simp only [impl_ProfileOf.j0, if_true]
   exact Ev.const rfl
 · simp only [if_true, true_and]
   refine Ev.bind (impl_IsCandidate_ev l hl hb) ?_
   cases cand l
   · refine Ev.succ ?_
     simp only [impl_ProfileOf.j0, Bool.not_false, if_true, Bool.false_eq_true, if_false]
     exact Ev.const rfl
   · refine Ev.succ ?_
     simp only [impl_ProfileOf.j0, Bool.not_true, Bool.false_eq_true, if_false, if_true]
     have key : ∀ i, i ≤ n.length → ∀ acc : List Int, acc.length ≤ i → Ev (fun k => impl_ProfileOf.l0 k acc n (n.length : Int) (i : Int) l) (acc ++ (n.drop i).map (fun s => viol s l)) := by
      refine down_ind ?_ ?_
      · intro acc _
        refine Ev.succ ?_
        simp only [impl_ProfileOf.l0, Int.lt_irrefl, if_false]
        exact Ev.const (by simp)
      · intro i hi ih acc hacc
        refine Ev.succ ?_
        simp only [impl_ProfileOf.l0, if_pos (show (i : Int) < (n.length : Int) by omega), if_pos (show (0 : Int) ≤ i by omega), rdOf_nat _ n i hi, if_pos (show acc.length < 17592186044416 by omega), wrap_succ (show i ≤ 4611686018427387903 by omega)]
        refine Ev.bind (impl_ViolationsOf_ev _ l hl hb) ?_
        refine Ev.cast (ih (acc ++ [viol n[i] l]) (by simp; omega)) ?_
        rw [drop_cons n i hi]
        simp only [List.map_cons, List.append_assoc, List.cons_append, List.nil_append]
     refine Ev.cast (key 0 (by omega) [] (by simp)) ?_
     simp

abbrev TabT := ByteArray × List ByteArray × List GC × List (List Int) × Bool
def tabOf (s : ByteArray) (N : List ByteArray) : TabT := if areC N = true ∧ form (B s) = true ∧ s.size ≤ 4 then (s, N, genR s, (genR s).map (fun c => prof N c.f0), true) else (⟨#[]⟩, [], [], [], false)
theorem spec_TableauOf_ev (s : ByteArray) (N : List ByteArray) (hs : s.size ≤ 1048576) (hN : N.length ≤ 1048576) : Ev (fun k => spec_TableauOf.f k s N) (tabOf s N) := by
 unfold spec_TableauOf.f tabOf
 have bad : ∀ x : TabT, x = (⟨#[]⟩, [], [], [], false) → Ev (fun k => spec_TableauOf.j0 k s N true) x := by
  rintro x rfl
  refine Ev.succ ?_
  simp only [spec_TableauOf.j0, if_true]
  exact Ev.const rfl
 refine Ev.bind (spec_AreConstraints_ev N hN) ?_
 by_cases ha : areC N = true
 · simp only [ha, if_true, true_and]
   refine Ev.bind (spec_IsForm_ev s (by omega)) ?_
   by_cases hf : form (B s) = true
   · simp only [hf, if_true, true_and]
     by_cases h4 : (s.size : Int) > 4
     · simp only [decide_eq_true h4]
       exact bad _ (if_neg (by omega))
     · simp only [decide_eq_false h4]
       rw [if_pos (by omega)]
       refine Ev.succ ?_
       simp only [spec_TableauOf.j0, Bool.false_eq_true, if_false, Option.bind_some, List.length_nil, Nat.zero_add, List.nil_append, if_pos (show N.length < 8796093022208 by omega)]
       refine Ev.bind (spec_Generate_ev s (by omega)) ?_
       have hg := genR_good s
       show Ev (fun k => spec_TableauOf.l0 k N 0 s N (genR s) []) _
       generalize genR s = R at hg
       have key : ∀ i, i ≤ R.length → ∀ acc : List (List Int), acc.length ≤ i → Ev (fun k => spec_TableauOf.l0 k N (i : Int) s N R acc) (s, N, R, acc ++ (R.drop i).map (fun c => prof N c.f0), true) := by
        refine down_ind ?_ ?_
        · intro acc _
          refine Ev.succ ?_
          simp only [spec_TableauOf.l0, Int.lt_irrefl, if_false]
          exact Ev.const (by simp)
        · intro i hi ih acc hacc
          have h1 := hg.1 R[i] (List.getElem_mem hi)
          refine Ev.succ ?_
          simp only [spec_TableauOf.l0, if_pos (show (i : Int) < (R.length : Int) by omega), if_pos (show (0 : Int) ≤ i by omega), rdGC R i hi, wrap_succ (show i ≤ 4611686018427387903 by omega), if_pos (show acc.length < 5864062014805 by omega)]
          refine Ev.bind (spec_ProfileOf_ev N _ hN (by omega) h1.2.1) ?_
          rw [drop_cons R i hi, List.map_cons]
          refine Ev.cast (ih (acc ++ [prof N R[i].f0]) (by simp; omega)) ?_
          simp
       exact Ev.cast (key 0 (Nat.zero_le _) [] (Nat.zero_le _)) (by simp)
   · simp only [hf, Bool.false_eq_true, if_false, false_and]
     exact bad _ rfl
 · simp only [ha, Bool.false_eq_true, if_false, false_and]
   exact bad _ rfl
theorem impl_TableauOf_ev (s : ByteArray) (N : List ByteArray) (hs : s.size ≤ 1048576) (hN : N.length ≤ 1048576) : Ev (fun k => impl_TableauOf.f k s N) (tabOf s N) := by
 unfold impl_TableauOf.f tabOf
 have bad : ∀ x : TabT, x = (⟨#[]⟩, [], [], [], false) → Ev (fun k => impl_TableauOf.j0 k s N true) x := by
  rintro x rfl
  refine Ev.succ ?_
  simp only [impl_TableauOf.j0, if_true]
  exact Ev.const rfl
 refine Ev.bind (impl_AreConstraints_ev N hN) ?_
 by_cases ha : areC N = true
 · simp only [ha, if_true, true_and]
   refine Ev.bind (impl_IsForm_ev s (by omega)) ?_
   by_cases hf : form (B s) = true
   · simp only [hf, if_true, true_and]
     by_cases h4 : (s.size : Int) > 4
     · simp only [decide_eq_true h4]
       exact bad _ (if_neg (by omega))
     · simp only [decide_eq_false h4]
       rw [if_pos (by omega)]
       refine Ev.succ ?_
       simp only [impl_TableauOf.j0, Bool.false_eq_true, if_false, slices_Clone_string_string.f, if_pos (show N.length < 8796093022208 by omega), Option.bind_some]
       refine Ev.bind (impl_Generate_ev s (by omega)) ?_
       have hg := genR_good s
       show Ev (fun k => impl_TableauOf.l0 k N (genR s) ((genR s).length : Int) 0 s N (genR s) []) _
       generalize genR s = R at hg
       have key : ∀ i, i ≤ R.length → ∀ acc : List (List Int), acc.length ≤ i → Ev (fun k => impl_TableauOf.l0 k N R (R.length : Int) (i : Int) s N R acc) (s, N, R, acc ++ (R.drop i).map (fun c => prof N c.f0), true) := by
        refine down_ind ?_ ?_
        · intro acc _
          refine Ev.succ ?_
          simp only [impl_TableauOf.l0, Int.lt_irrefl, if_false]
          exact Ev.const (by simp)
        · intro i hi ih acc hacc
          have h1 := hg.1 R[i] (List.getElem_mem hi)
          refine Ev.succ ?_
          simp only [impl_TableauOf.l0, if_pos (show (i : Int) < (R.length : Int) by omega), if_pos (show (0 : Int) ≤ i by omega), rdGC R i hi, wrap_succ (show i ≤ 4611686018427387903 by omega), if_pos (show acc.length < 5864062014805 by omega)]
          refine Ev.bind (impl_ProfileOf_ev N _ hN (by omega) h1.2.1) ?_
          rw [drop_cons R i hi, List.map_cons]
          refine Ev.cast (ih (acc ++ [prof N R[i].f0]) (by simp; omega)) ?_
          simp
       exact Ev.cast (key 0 (Nat.zero_le _) [] (Nat.zero_le _)) (by simp)
   · simp only [hf, Bool.false_eq_true, if_false, false_and]
     exact bad _ rfl
 · simp only [ha, Bool.false_eq_true, if_false, false_and]
   exact bad _ rfl
theorem sum_le (l : List Nat) (b : Nat) (h : ∀ x ∈ l, x ≤ b) : l.sum ≤ l.length * b := by
 induction l with
 | nil => exact Nat.zero_le _
 | cons a t ih =>
  have h1 := h a List.mem_cons_self
  have h2 := ih (fun x hx => h x (List.mem_cons_of_mem _ hx))
  rw [List.sum_cons, List.length_cons, Nat.succ_mul]
  omega
theorem areC_five (l : List ByteArray) (h : areC l = true) : l.length ≤ 5 := by
 unfold areC at h
 rw [Bool.and_eq_true, decide_eq_true_eq] at h
 exact h.2.2
theorem tabOf_facts (s : ByteArray) (N : List ByteArray) : (tabOf s N).2.1.length ≤ 5 ∧ (tabOf s N).2.2.1.length ≤ 7225 ∧ (∀ x ∈ (tabOf s N).2.2.1, x.f0.length ≤ 8) ∧ (tabOf s N).2.2.2.1.length ≤ 7225 ∧ (∀ x ∈ (tabOf s N).2.2.2.1, x.length ≤ 5) := by
 unfold tabOf
 split
 · rename_i h
   have h5 := areC_five N h.1
   have hg := genR_good s
   refine ⟨h5, hg.2, fun x hx => (hg.1 x hx).2.2, ?_, ?_⟩
   · show ((genR s).map _).length ≤ 7225
     rw [List.length_map]
     exact hg.2
   · intro x hx
     obtain ⟨c, _, rfl⟩ := List.mem_map.1 hx
     exact Nat.le_trans (prof_len N c.f0) h5
 · exact ⟨Nat.zero_le _, Nat.zero_le _, (fun x hx => by cases hx), Nat.zero_le _, (fun x hx => by cases hx)⟩

theorem laws_toStringS_ev (l : List ByteArray) (hl : l.length ≤ 1048576) : Ev (fun k => laws_toStringS.f k l) l := by
 unfold laws_toStringS.f
 simp only [if_pos (show (0 : Int) ≤ (l.length : Int) by omega), Int.toNat_natCast, if_pos (show l.length ≤ 17592186044416 by omega)]
 have key : ∀ i, i ≤ l.length → Ev (fun k => laws_toStringS.l0 k l (l.take i ++ List.replicate (l.length - i) (⟨#[]⟩ : ByteArray)) (i : Int)) l := by
  refine down_ind ?_ ?_
  · refine Ev.succ ?_
    simp only [laws_toStringS.l0, Int.lt_irrefl, if_false]
    exact Ev.const (by simp)
  · intro i hi ih
    refine Ev.succ ?_
    have hlen : (l.take i ++ List.replicate (l.length - i) (⟨#[]⟩ : ByteArray)).length = l.length := by simp; omega
    simp only [laws_toStringS.l0, hlen, if_pos (show (i : Int) < (l.length : Int) by omega), if_pos (show (0 : Int) ≤ i by omega), rdOf_nat _ l i hi, Int.toNat_natCast, set_fill l _ i hi, wrap_succ (show i ≤ 4611686018427387903 by omega)]
    exact ih
 have := key 0 (by omega)
 simpa using this

theorem laws_eqStringS_ev (a : List ByteArray) (hl : a.length ≤ 1048576) : Ev (fun k => laws_eqStringS.f k a a) true := by
 unfold laws_eqStringS.f
 simp only [if_true]
 have key : ∀ i, i ≤ a.length → Ev (fun k => laws_eqStringS.l0 k a a (i : Int)) true := by
  refine down_ind ?_ ?_
  · refine Ev.succ ?_
    simp only [laws_eqStringS.l0, Int.lt_irrefl, if_false]
    exact Ev.const rfl
  · intro i hi ih
    refine Ev.succ ?_
    simp only [laws_eqStringS.l0, if_pos (show (i : Int) < (a.length : Int) by omega), if_pos (show (0 : Int) ≤ i by omega), if_true, wrap_succ (show i ≤ 4611686018427387903 by omega)]
    exact ih
 exact key 0 (by omega)

end Go.Proofs.YtlmfpkiaikjlbaaGreat.Pure
