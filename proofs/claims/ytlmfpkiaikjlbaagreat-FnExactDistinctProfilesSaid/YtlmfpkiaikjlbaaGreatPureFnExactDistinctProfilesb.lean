/- The pure statement of the law FnExactDistinctProfiles: for all arguments within bounds its printed function answers true. -/
import Derived.Test.YtlmfpkiaikjlbaaGreatPFnExactDistinctProfilesx
import Derived.Test.YtlmfpkiaikjlbaaGreatUFnExactDistinctProfiles
import Derived.Test.YtlmfpkiaikjlbaaGreatPureFnExactDistinctProfilesa
namespace Go.Proofs.YtlmfpkiaikjlbaaGreat.Pure
open Go.RowKit Go.Proofs.YtlmfpkiaikjlbaaGreatB Go.Proofs.YtlmfpkiaikjlbaaGreat.PFnExactDistinctProfiles Go.Proofs.YtlmfpkiaikjlbaaGreatW.PrintWords Go.Proofs.YtlmfpkiaikjlbaaGreatW.PrintLast Go.Proofs.YtlmfpkiaikjlbaaGreatW.PrintMore
set_option linter.unusedVariables false
set_option linter.unusedSimpArgs false

theorem links_at_CountInserted_ev (l : List ILink) (hl : l.length ≤ 1048576) (hb : ∀ x ∈ l, okB x) (p : Int → Int → Bool) (hp : ∀ a b, impl_CountInserted_1.f a b = some (p a b)) :
 Ev (fun k => impl_links_at_CountInserted_1.f k l ()) ((cntK p l : Nat) : Int) := links_G_ev impl_CountInserted_1.f l hl hb p hp

theorem spec_CountInserted_gen (l : List ILink) (hl : l.length ≤ 1048576) (hb : ∀ x ∈ l, okB x) (p : Int → Int → Bool)
 (step : ∀ i (hi : i < l.length) (n : Nat), n ≤ i → ∀ r, Ev (fun k => spec_CountInserted.l0 k ((n + (if p l[i].f0 l[i].f1 then 1 else 0) : Nat) : Int) ((i + 1 : Nat) : Int) l) r → Ev (fun k => spec_CountInserted.j1 k (n : Int) (i : Int) true l) r) :
 Ev (fun k => spec_CountInserted.f k l) ((cntK p l : Nat) : Int) := by
 unfold spec_CountInserted.f cntK
 have key : ∀ i, i ≤ l.length → ∀ n : Nat, n ≤ i → Ev (fun k => spec_CountInserted.l0 k (n : Int) (i : Int) l) ((n + (if cand l then (l.drop i).countP (fun x => p x.f0 x.f1) else 0) : Nat) : Int) := by
  refine down_ind ?_ ?_
  · intro n _
    refine Ev.succ ?_
    simp only [spec_CountInserted.l0, Int.lt_irrefl, if_false]
    refine Ev.succ ?_
    simp only [spec_CountInserted.j1, Bool.false_eq_true, if_false]
    exact Ev.const (by simp)
  · intro i hi ih n hn
    refine Ev.succ ?_
    simp only [spec_CountInserted.l0, if_pos (show (i : Int) < (l.length : Int) by omega)]
    refine Ev.bind (spec_IsCandidate_ev l hl hb) ?_
    cases hc : cand l
    · refine Ev.succ ?_
      simp only [spec_CountInserted.j1, Bool.false_eq_true, if_false]
      exact Ev.const (by simp)
    · refine step i hi n hn _ ?_
      rw [drop_cons l i hi, List.countP_cons]
      refine Ev.cast (ih (n + (if p l[i].f0 l[i].f1 then 1 else 0)) (by split <;> omega)) ?_
      simp only [hc, if_true]
      omega
 refine Ev.cast (key 0 (by omega) 0 (by omega)) ?_
 simp

theorem impl_CountInserted_ev (l : List ILink) (hl : l.length ≤ 1048576) (hb : ∀ x ∈ l, okB x) : Ev (fun k => impl_CountInserted.f k l) ((cntK kIns l : Nat) : Int) := by
 unfold impl_CountInserted.f
 exact Ev.bind (links_at_CountInserted_ev l hl hb kIns (fun a b => by unfold impl_CountInserted_1.f kIns; rfl)) (Ev.const rfl)
theorem spec_CountInserted_ev (l : List ILink) (hl : l.length ≤ 1048576) (hb : ∀ x ∈ l, okB x) : Ev (fun k => spec_CountInserted.f k l) ((cntK kIns l : Nat) : Int) := by
 refine spec_CountInserted_gen l hl hb kIns ?_
 intro i hi n hn r ih
 refine Ev.succ ?_
 simp only [spec_CountInserted.j1, if_true, if_pos (show (0 : Int) ≤ i by omega), if_pos (show (i : Int) < (l.length : Int) by omega), rdK l i hi, wrap_succ (show i ≤ 4611686018427387903 by omega), wrap_succ (show n ≤ 4611686018427387903 by omega)]
 unfold kIns at ih
 by_cases h : l[i].f0 = 0
 · simpa [h] using ih
 · simpa [h] using ih

theorem links_at_CountVoiceChanged_ev (l : List ILink) (hl : l.length ≤ 1048576) (hb : ∀ x ∈ l, okB x) (p : Int → Int → Bool) (hp : ∀ a b, impl_CountVoiceChanged_1.f a b = some (p a b)) :
 Ev (fun k => impl_links_at_CountVoiceChanged_1.f k l ()) ((cntK p l : Nat) : Int) := links_G_ev impl_CountVoiceChanged_1.f l hl hb p hp

theorem spec_CountVoiceChanged_gen (l : List ILink) (hl : l.length ≤ 1048576) (hb : ∀ x ∈ l, okB x) (p : Int → Int → Bool)
 (step : ∀ i (hi : i < l.length) (n : Nat), n ≤ i → ∀ r, Ev (fun k => spec_CountVoiceChanged.l0 k ((n + (if p l[i].f0 l[i].f1 then 1 else 0) : Nat) : Int) ((i + 1 : Nat) : Int) l) r → Ev (fun k => spec_CountVoiceChanged.j1 k (n : Int) (i : Int) true l) r) :
 Ev (fun k => spec_CountVoiceChanged.f k l) ((cntK p l : Nat) : Int) := by
 unfold spec_CountVoiceChanged.f cntK
 have key : ∀ i, i ≤ l.length → ∀ n : Nat, n ≤ i → Ev (fun k => spec_CountVoiceChanged.l0 k (n : Int) (i : Int) l) ((n + (if cand l then (l.drop i).countP (fun x => p x.f0 x.f1) else 0) : Nat) : Int) := by
  refine down_ind ?_ ?_
  · intro n _
    refine Ev.succ ?_
    simp only [spec_CountVoiceChanged.l0, Int.lt_irrefl, if_false]
    refine Ev.succ ?_
    simp only [spec_CountVoiceChanged.j1, Bool.false_eq_true, if_false]
    exact Ev.const (by simp)
  · intro i hi ih n hn
    refine Ev.succ ?_
    simp only [spec_CountVoiceChanged.l0, if_pos (show (i : Int) < (l.length : Int) by omega)]
    refine Ev.bind (spec_IsCandidate_ev l hl hb) ?_
    cases hc : cand l
    · refine Ev.succ ?_
      simp only [spec_CountVoiceChanged.j1, Bool.false_eq_true, if_false]
      exact Ev.const (by simp)
    · refine step i hi n hn _ ?_
      rw [drop_cons l i hi, List.countP_cons]
      refine Ev.cast (ih (n + (if p l[i].f0 l[i].f1 then 1 else 0)) (by split <;> omega)) ?_
      simp only [hc, if_true]
      omega
 refine Ev.cast (key 0 (by omega) 0 (by omega)) ?_
 simp

theorem impl_CountVoiceChanged_ev (l : List ILink) (hl : l.length ≤ 1048576) (hb : ∀ x ∈ l, okB x) : Ev (fun k => impl_CountVoiceChanged.f k l) ((cntK kVoi l : Nat) : Int) := by
 unfold impl_CountVoiceChanged.f
 refine Ev.bind (links_at_CountVoiceChanged_ev l hl hb kVoi (fun a b => ?_)) (Ev.const rfl)
 unfold impl_CountVoiceChanged_1.f kVoi
 by_cases h : a = 0
 · simp [h]
 · by_cases h2 : b = 0
   · simp [h, h2]
   · simp only [if_neg h, if_neg h2, h, h2, decide_false, Bool.not_false, Bool.true_and]
     by_cases h3 : a = b
     · simp [h3]
     · simp [h3]
theorem spec_CountVoiceChanged_ev (l : List ILink) (hl : l.length ≤ 1048576) (hb : ∀ x ∈ l, okB x) : Ev (fun k => spec_CountVoiceChanged.f k l) ((cntK kVoi l : Nat) : Int) := by
 refine spec_CountVoiceChanged_gen l hl hb kVoi ?_
 intro i hi n hn r ih
 refine Ev.succ ?_
 simp only [spec_CountVoiceChanged.j1, if_true, if_pos (show (0 : Int) ≤ i by omega), if_pos (show (i : Int) < (l.length : Int) by omega), rdK l i hi, wrap_succ (show i ≤ 4611686018427387903 by omega), wrap_succ (show n ≤ 4611686018427387903 by omega)]
 unfold kVoi at ih
 by_cases h : l[i].f0 = 0
 · simpa [h] using ih
 · by_cases h2 : l[i].f1 = 0
   · simpa [h, h2] using ih
   · by_cases h3 : l[i].f0 = l[i].f1
     · simp only [if_neg h, if_neg h2, if_pos h3]
       simpa [h3] using ih
     · simp only [if_neg h, if_neg h2, if_neg h3]
       simpa [h, h2, h3] using ih

def kept (a b : Int) : Bool := !decide (a = 0) && !decide (b = 0)
def brk : List ILink → Bool → Nat → Nat
 | [], _, _ => 0
 | x :: l, s, p => if kept x.f0 x.f1 then p + brk l true 0 else if s then brk l s (p + 1) else brk l s p
def brks (l : List ILink) : Nat := if cand l then brk l false 0 else 0
def nks (l : List ILink) (j : Nat) : Nat := (l.take j).countP fun x => !kept x.f0 x.f1
theorem nks_succ (l : List ILink) (j : Nat) (h : j < l.length) : nks l (j + 1) = nks l j + (if kept l[j].f0 l[j].f1 then 0 else 1) := by
 unfold nks
 rw [take_snoc l j h, List.countP_append]
 cases hk : kept l[j].f0 l[j].f1 <;> simp [hk]
theorem impl_CountBreaks_ev (l : List ILink) (hl : l.length ≤ 1048576) (hb : ∀ x ∈ l, okB x) : Ev (fun k => impl_CountBreaks.f k l) ((brks l : Nat) : Int) := by
 unfold impl_CountBreaks.f brks
 have key : ∀ i, i ≤ l.length → ∀ (n p : Nat) (s : Bool), n + p ≤ i → Ev (fun k => impl_CountBreaks.l0 k (n : Int) (p : Int) s l (l.length : Int) (i : Int) l) ((n + (if cand l then brk (l.drop i) s p else 0) : Nat) : Int) := by
  refine down_ind ?_ ?_
  · intro n p s _
    refine Ev.succ ?_
    simp only [impl_CountBreaks.l0, Int.lt_irrefl, if_false]
    exact Ev.const (by simp [brk])
  · intro i hi ih n p s hn
    refine Ev.succ ?_
    simp only [impl_CountBreaks.l0, if_pos (show (i : Int) < (l.length : Int) by omega), if_pos (show (0 : Int) ≤ i by omega), rdK l i hi, wrap_succ (show i ≤ 4611686018427387903 by omega)]
    refine Ev.bind (impl_IsCandidate_ev l hl hb) ?_
    rw [drop_cons l i hi]
    cases hc : cand l
    · simp only [Bool.false_eq_true, if_false]
      refine Ev.cast (ih n p s (by omega)) ?_
      simp [hc]
    · have J : ∀ b, b = kept l[i].f0 l[i].f1 → Ev (fun k => impl_CountBreaks.j1 k (n : Int) (p : Int) s l (l.length : Int) (i : Int) b l) ((n + brk (l[i] :: l.drop (i + 1)) s p : Nat) : Int) := by
       intro b e
       refine Ev.succ ?_
       simp only [impl_CountBreaks.j1, brk, ← e, wrap_succ (show i ≤ 4611686018427387903 by omega), wrap_succ (show p ≤ 4611686018427387903 by omega)]
       cases b
       · simp only [Bool.false_eq_true, if_false]
         cases s
         · simp only [Bool.false_eq_true, if_false]
           refine Ev.cast (ih n p false (by omega)) ?_
           simp [hc]
         · simp only [if_true]
           refine Ev.cast (ih n (p + 1) true (by omega)) ?_
           simp [hc]
       · simp only [if_true]
         rw [show wrap64 ((n : Int) + (p : Int)) = ((n + p : Nat) : Int) by unfold wrap64; omega]
         refine Ev.cast (ih (n + p) 0 true (by omega)) ?_
         simp [hc]
         omega
      simp only [if_true]
      by_cases h0 : l[i].f0 = 0
      · simp only [if_pos h0]
        exact J false (by simp [kept, h0])
      · simp only [if_neg h0]
        exact J _ (by simp only [kept, h0, decide_false, Bool.not_false, Bool.true_and]; rw [bne_iff_decide])
 refine Ev.cast (key 0 (by omega) 0 0 false (by omega)) ?_
 simp
theorem spec_l9Kept_eq (a b : Int) : spec_l9Kept.f a b = some (kept a b) := by
 unfold spec_l9Kept.f kept
 by_cases h : a = 0
 · simp [h]
 · rw [if_neg h, bne_iff_decide]
   simp [h]
theorem spec_CountBreaks_ev (l : List ILink) (hl : l.length ≤ 1048576) (hb : ∀ x ∈ l, okB x) : Ev (fun k => spec_CountBreaks.f k l) ((brks l : Nat) : Int) := by
 unfold spec_CountBreaks.f brks
 have L1 : ∀ e : Nat, e ≤ l.length → ∀ j, j ≤ e → ∀ n : Nat, n ≤ j → Ev (fun k => spec_CountBreaks.l1 k (e : Int) (n : Int) (j : Int) l) ((n + (nks l e - nks l j) : Nat) : Int) := by
  intro e he
  have mono : ∀ j, j ≤ e → nks l j ≤ nks l e := by
   refine down_ind (Nat.le_refl _) ?_
   intro j hj ih
   rw [nks_succ l j (by omega)] at ih
   omega
  refine down_ind ?_ ?_
  · intro n _
    refine Ev.succ ?_
    simp only [spec_CountBreaks.l1, Int.lt_irrefl, if_false]
    exact Ev.const (by simp)
  · intro j hj ih n hn
    have hjl : j < l.length := by omega
    have hs := nks_succ l j hjl
    have hm := mono (j + 1) hj
    refine Ev.succ ?_
    simp only [spec_CountBreaks.l1, if_pos (show (j : Int) < (e : Int) by omega), if_pos (show (0 : Int) ≤ j by omega), if_pos (show (j : Int) < (l.length : Int) by omega), rdK l j hjl, spec_l9Kept_eq, Option.bind_some, wrap_succ (show j ≤ 4611686018427387903 by omega), wrap_succ (show n ≤ 4611686018427387903 by omega)]
    cases hk : kept l[j].f0 l[j].f1
    · rw [hk] at hs
      simp only [Bool.false_eq_true, if_false] at hs ⊢
      refine Ev.cast (ih (n + 1) (by omega)) ?_
      congr 1
      omega
    · rw [hk] at hs
      simp only [if_true] at hs ⊢
      refine Ev.cast (ih n (by omega)) ?_
      congr 1
      omega
 have none_ : Ev (fun k => spec_CountBreaks.l1 k (-1) 0 (mx 0 (-1)) l) 0 := by
  refine Ev.succ ?_
  simp only [spec_CountBreaks.l1, show ¬ (mx 0 (-1) < (-1 : Int)) by decide, if_false]
  exact Ev.const rfl
 have seen : ∀ i, i ≤ l.length → cand l = true → ∀ F e : Nat, F ≤ e → e < i → nks l F ≤ nks l e → nks l i + e + 1 = nks l e + i → Ev (fun k => spec_CountBreaks.l0 k (F : Int) (e : Int) (i : Int) l) (((nks l e - nks l F) + brk (l.drop i) true (i - 1 - e) : Nat) : Int) := by
  refine down_ind ?_ ?_
  · intro hc F e hF he hm hi
    refine Ev.succ ?_
    simp only [spec_CountBreaks.l0, Int.lt_irrefl, if_false]
    refine Ev.succ ?_
    simp only [spec_CountBreaks.j1, Bool.false_eq_true, if_false, show mx 0 (F : Int) = (F : Int) by unfold mx; split <;> omega]
    refine Ev.cast (L1 e (by omega) F hF 0 (by omega)) ?_
    simp [brk]
  · intro i hi ih hc F e hF he hm hinv
    have hs := nks_succ l i hi
    refine Ev.succ ?_
    simp only [spec_CountBreaks.l0, if_pos (show (i : Int) < (l.length : Int) by omega)]
    refine Ev.bind (spec_IsCandidate_ev l hl hb) ?_
    rw [hc]
    refine Ev.succ ?_
    simp only [spec_CountBreaks.j1, if_true, if_pos (show (0 : Int) ≤ i by omega), if_pos (show (i : Int) < (l.length : Int) by omega), rdK l i hi, spec_l9Kept_eq, Option.bind_some, wrap_succ (show i ≤ 4611686018427387903 by omega), if_neg (show ¬ (F : Int) < 0 by omega)]
    rw [drop_cons l i hi]
    simp only [brk]
    cases hk : kept l[i].f0 l[i].f1
    · rw [hk] at hs
      simp only [Bool.false_eq_true, if_false, if_true] at hs ⊢
      refine Ev.cast (ih hc F e hF (by omega) hm (by omega)) ?_
      rw [show i + 1 - 1 - e = i - 1 - e + 1 by omega]
    · rw [hk] at hs
      simp only [if_true] at hs ⊢
      refine Ev.cast (ih hc F i (by omega) (by omega) (by omega) (by omega)) ?_
      rw [show i + 1 - 1 - i = 0 by omega]
      congr 1
      omega
 have key : ∀ i, i ≤ l.length → Ev (fun k => spec_CountBreaks.l0 k (-1) (-1) (i : Int) l) ((if cand l then brk (l.drop i) false 0 else 0 : Nat) : Int) := by
  refine down_ind ?_ ?_
  · refine Ev.succ ?_
    simp only [spec_CountBreaks.l0, Int.lt_irrefl, if_false]
    refine Ev.succ ?_
    simp only [spec_CountBreaks.j1, Bool.false_eq_true, if_false]
    refine Ev.cast none_ ?_
    simp [brk]
  · intro i hi ih
    have hs := nks_succ l i hi
    refine Ev.succ ?_
    simp only [spec_CountBreaks.l0, if_pos (show (i : Int) < (l.length : Int) by omega)]
    refine Ev.bind (spec_IsCandidate_ev l hl hb) ?_
    cases hc : cand l
    · refine Ev.succ ?_
      simp only [spec_CountBreaks.j1, Bool.false_eq_true, if_false]
      exact none_
    · rw [hc] at ih
      refine Ev.succ ?_
      simp only [spec_CountBreaks.j1, if_true, if_pos (show (0 : Int) ≤ i by omega), if_pos (show (i : Int) < (l.length : Int) by omega), rdK l i hi, spec_l9Kept_eq, Option.bind_some, wrap_succ (show i ≤ 4611686018427387903 by omega), if_pos (show (-1 : Int) < 0 by omega)]
      rw [drop_cons l i hi]
      simp only [brk]
      cases hk : kept l[i].f0 l[i].f1
      · simp only [Bool.false_eq_true, if_false]
        exact ih
      · rw [hk] at hs
        simp only [if_true] at hs ⊢
        refine Ev.cast (seen (i + 1) (by omega) hc i i (Nat.le_refl _) (by omega) (Nat.le_refl _) (by omega)) ?_
        simp
 exact key 0 (by omega)

def viol (s : ByteArray) (l : List ILink) : Int := if cand l = true then
 (if s.toList = ([111, 110, 115, 101, 116] : List UInt8) then ((cntP pOnsetless (B (outS l)) : Nat) : Int) else
 if s.toList = ([110, 111, 99, 111, 100, 97] : List UInt8) then ((cntP pCodas (B (outS l)) : Nat) : Int) else
 if s.toList = ([99, 108, 117, 115, 116, 101, 114] : List UInt8) then ((cntP pClusters (B (outS l)) : Nat) : Int) else
 if s.toList = ([118, 111, 105, 99, 101] : List UInt8) then ((cntP pVoiced (B (outS l)) : Nat) : Int) else
 if s.toList = ([102, 105, 110, 97, 108] : List UInt8) then ((cntP pFinalVoiced (B (outS l)) : Nat) : Int) else
 if s.toList = ([110, 97, 115, 97, 108] : List UInt8) then ((cntP pNasalVoiceless (B (outS l)) : Nat) : Int) else
 if s.toList = ([109, 97, 120] : List UInt8) then ((cntK kDel l : Nat) : Int) else
 if s.toList = ([100, 101, 112] : List UInt8) then ((cntK kIns l : Nat) : Int) else
 if s.toList = ([105, 100, 101, 110, 116] : List UInt8) then ((cntK kVoi l : Nat) : Int) else
 if s.toList = ([99, 111, 110, 116, 105, 103] : List UInt8) then ((brks l : Nat) : Int) else -1) else -1
theorem Ev.ite {α : Type} {c : Prop} [Decidable c] {g h : Nat → Option α} {x y : α} (h1 : c → Ev g x) (h2 : ¬ c → Ev h y) : Ev (fun k => if c then g k else h k) (if c then x else y) := by
 by_cases hc : c
 · simp only [if_pos hc]
   exact h1 hc
 · simp only [if_neg hc]
   exact h2 hc
theorem spec_ViolationsOf_ev (s : ByteArray) (l : List ILink) (hl : l.length ≤ 1048576) (hb : ∀ x ∈ l, okB x) : Ev (fun k => spec_ViolationsOf.f k s l) (viol s l) := by
 unfold spec_ViolationsOf.f viol
 have ho : (outS l).size ≤ 140737488351232 := by have := outS_size l hl; omega
 refine Ev.bind (spec_IsCandidate_ev l hl hb) ?_
 cases cand l
 · simp only [Bool.false_eq_true, if_false]
   exact Ev.const rfl
 · simp only [if_true]
   refine Ev.bind (spec_OutputOf_ev l hl hb) ?_
   refine Ev.ite (fun _ => Ev.bind (spec_CountOnsetless_ev _ ho) (Ev.const rfl)) (fun _ => ?_)
   refine Ev.ite (fun _ => Ev.bind (spec_CountCodas_ev _ ho) (Ev.const rfl)) (fun _ => ?_)
   refine Ev.ite (fun _ => Ev.bind (spec_CountClusters_ev _ ho) (Ev.const rfl)) (fun _ => ?_)
   refine Ev.ite (fun _ => Ev.bind (spec_CountVoiced_ev _ ho) (Ev.const rfl)) (fun _ => ?_)
   refine Ev.ite (fun _ => Ev.bind (spec_CountFinalVoiced_ev _ ho) (Ev.const rfl)) (fun _ => ?_)
   refine Ev.ite (fun _ => Ev.bind (spec_CountNasalVoiceless_ev _ ho) (Ev.const rfl)) (fun _ => ?_)
   refine Ev.ite (fun _ => Ev.bind (spec_CountDeleted_ev l hl hb) (Ev.const rfl)) (fun _ => ?_)
   refine Ev.ite (fun _ => Ev.bind (spec_CountInserted_ev l hl hb) (Ev.const rfl)) (fun _ => ?_)
   refine Ev.ite (fun _ => Ev.bind (spec_CountVoiceChanged_ev l hl hb) (Ev.const rfl)) (fun _ => ?_)
   refine Ev.ite (fun _ => Ev.bind (spec_CountBreaks_ev l hl hb) (Ev.const rfl)) (fun _ => ?_)
   exact Ev.const rfl
theorem impl_ViolationsOf_ev (s : ByteArray) (l : List ILink) (hl : l.length ≤ 1048576) (hb : ∀ x ∈ l, okB x) : Ev (fun k => impl_ViolationsOf.f k s l) (viol s l) := by
 unfold impl_ViolationsOf.f viol
 have ho : (outS l).size ≤ 140737488351232 := by have := outS_size l hl; omega
 refine Ev.bind (impl_IsCandidate_ev l hl hb) ?_
 cases cand l
 · simp only [Bool.false_eq_true, if_false]
   exact Ev.const rfl
 · simp only [if_true]
   refine Ev.bind (impl_OutputOf_ev l hl hb) ?_
   refine Ev.ite (fun _ => Ev.bind (impl_CountOnsetless_ev _ ho) (Ev.const rfl)) (fun _ => ?_)
   refine Ev.ite (fun _ => Ev.bind (impl_CountCodas_ev _ ho) (Ev.const rfl)) (fun _ => ?_)
   refine Ev.ite (fun _ => Ev.bind (impl_CountClusters_ev _ ho) (Ev.const rfl)) (fun _ => ?_)
   refine Ev.ite (fun _ => Ev.bind (impl_CountVoiced_ev _ ho) (Ev.const rfl)) (fun _ => ?_)
   refine Ev.ite (fun _ => Ev.bind (impl_CountFinalVoiced_ev _ ho) (Ev.const rfl)) (fun _ => ?_)
   refine Ev.ite (fun _ => Ev.bind (impl_CountNasalVoiceless_ev _ ho) (Ev.const rfl)) (fun _ => ?_)
   refine Ev.ite (fun _ => Ev.bind (impl_CountDeleted_ev l hl hb) (Ev.const rfl)) (fun _ => ?_)
   refine Ev.ite (fun _ => Ev.bind (impl_CountInserted_ev l hl hb) (Ev.const rfl)) (fun _ => ?_)
   refine Ev.ite (fun _ => Ev.bind (impl_CountVoiceChanged_ev l hl hb) (Ev.const rfl)) (fun _ => ?_)
   refine Ev.ite (fun _ => Ev.bind (impl_CountBreaks_ev l hl hb) (Ev.const rfl)) (fun _ => ?_)
   exact Ev.const rfl

def cnames : List ByteArray := [⟨#[111, 110, 115, 101, 116]⟩, ⟨#[110, 111, 99, 111, 100, 97]⟩, ⟨#[99, 108, 117, 115, 116, 101, 114]⟩, ⟨#[118, 111, 105, 99, 101]⟩, ⟨#[102, 105, 110, 97, 108]⟩, ⟨#[110, 97, 115, 97, 108]⟩, ⟨#[109, 97, 120]⟩, ⟨#[100, 101, 112]⟩, ⟨#[105, 100, 101, 110, 116]⟩, ⟨#[99, 111, 110, 116, 105, 103]⟩]
theorem spec_ConstraintNames_eq : spec_ConstraintNames.f = some cnames := rfl
theorem impl_ConstraintNames_eq : impl_ConstraintNames.f = some cnames := rfl

def areC1 (l : List ByteArray) (j : Nat) : Bool := decide (l.getD j ByteArray.empty ∈ cnames) && !decide (l.getD j ByteArray.empty ∈ l.take j)
def areC (l : List ByteArray) : Bool := allFrom (areC1 l) l.length 0 && decide (1 ≤ l.length ∧ l.length ≤ 5)
theorem getS (l : List ByteArray) (j : Nat) (h : j < l.length) : l.getD j ByteArray.empty = l[j] := by simp [h]

theorem spec_l1In_eq (a b c : Int) : spec_l1In.f a b c = some (decide (b ≤ a ∧ a ≤ c)) := by
 unfold spec_l1In.f
 split
 · have : b ≤ a := by omega
   simp [*]
 · have : ¬ b ≤ a := by omega
   simp [*]

theorem spec_l3Has_ev (l : List ByteArray) (x : ByteArray) (hl : l.length ≤ 1048576) : Ev (fun k => spec_l3Has.f k l x) (decide (x ∈ l)) := by
 unfold spec_l3Has.f
 have key : ∀ i, i ≤ l.length → Ev (fun k => spec_l3Has.l0 k l x (i : Int)) (decide (x ∈ l.drop i)) := by
  refine down_ind ?_ ?_
  · refine Ev.succ ?_
    simp only [spec_l3Has.l0, Int.lt_irrefl, if_false]
    exact Ev.const (by simp)
  · intro i hi ih
    refine Ev.succ ?_
    simp only [spec_l3Has.l0, if_pos (show (i : Int) < (l.length : Int) by omega), if_pos (show (0 : Int) ≤ i by omega), rdOf_nat _ l i hi, toList_inj, wrap_succ (show i ≤ 4611686018427387903 by omega)]
    rw [drop_cons l i hi]
    by_cases he : l[i] = x
    · simp only [if_pos he]
      exact Ev.const (by rw [he]; simp)
    · simp only [if_neg he]
      refine Ev.cast ih ?_
      rw [decide_eq_decide, List.mem_cons]
      constructor
      · exact .inr
      · rintro (h | h)
        · exact absurd h.symm he
        · exact h
 exact key 0 (by omega)

theorem spec_AreConstraints_ev (l : List ByteArray) (hl : l.length ≤ 1048576) : Ev (fun k => spec_AreConstraints.f k l) (areC l) := by
 unfold spec_AreConstraints.f areC
 have key : ∀ i, i ≤ l.length → Ev (fun k => spec_AreConstraints.l0 k l (i : Int)) (allFrom (areC1 l) l.length i && decide (1 ≤ l.length ∧ l.length ≤ 5)) := by
  refine down_ind ?_ ?_
  · refine Ev.succ ?_
    simp only [spec_AreConstraints.l0, Int.lt_irrefl, if_false, spec_l1In_eq, Option.bind_some, allFrom_end _ (Nat.le_refl _), Bool.true_and]
    exact Ev.const (congrArg some (decide_eq_decide.2 (by omega)))
  · intro i hi ih
    refine Ev.succ ?_
    rw [allFrom_step _ hi, areC1, getS l i hi]
    simp only [spec_AreConstraints.l0, if_pos (show (i : Int) < (l.length : Int) by omega), if_pos (show (0 : Int) ≤ i by omega), spec_ConstraintNames_eq, Option.bind_some, rdOf_nat _ l i hi]
    refine Ev.bind (spec_l3Has_ev cnames l[i] (by decide)) ?_
    by_cases h1 : l[i] ∈ cnames
    · simp only [h1, decide_true, if_true, if_pos (show (i : Int) ≤ (l.length : Int) by omega), Int.toNat_natCast, Bool.true_and]
      refine Ev.bind (spec_l3Has_ev (l.take i) l[i] (by rw [List.length_take]; omega)) ?_
      by_cases h2 : l[i] ∈ l.take i
      · simp only [h2, decide_true, if_true]
        exact Ev.const rfl
      · simp only [h2, decide_false, Bool.false_eq_true, if_false, wrap_succ (show i ≤ 4611686018427387903 by omega), Bool.not_false, Bool.true_and]
        exact ih
    · simp only [h1, decide_false, Bool.false_eq_true, if_false, Bool.false_and]
      exact Ev.const rfl
 exact key 0 (by omega)

theorem slices_Index_string_ev2 (l : List ByteArray) (x : ByteArray) (hl : l.length ≤ 2097152) : Ev (fun k => slices_Index_string_string.f k l x) (idxS l x 0) := by
 unfold slices_Index_string_string.f
 have key : ∀ i, i ≤ l.length → Ev (fun k => slices_Index_string_string.l0 k l x (l.length : Int) (i : Int)) (idxS (l.drop i) x i) := by
  refine down_ind ?_ ?_
  · refine Ev.succ ?_
    simp only [slices_Index_string_string.l0, Int.lt_irrefl, if_false]
    exact Ev.const (by rw [List.drop_of_length_le (Nat.le_refl _)]; rfl)
  · intro i hi ih
    refine Ev.succ ?_
    simp only [slices_Index_string_string.l0, if_pos (show (i : Int) < (l.length : Int) by omega), if_pos (show (0 : Int) ≤ i by omega), rdOf_nat _ l i hi, toList_inj, wrap_succ (show i ≤ 4611686018427387903 by omega)]
    rw [drop_cons l i hi]
    by_cases he : x = l[i]
    · simp only [if_pos he]
      exact Ev.const (by simp only [idxS, if_pos he])
    · simp only [if_neg he]
      exact Ev.cast ih (by simp only [idxS, if_neg he]; rfl)
 exact key 0 (by omega)
theorem slices_Contains_string_ev2 (l : List ByteArray) (x : ByteArray) (hl : l.length ≤ 2097152) : Ev (fun k => slices_Contains_string_string.f k l x) (decide (x ∈ l)) := by
 unfold slices_Contains_string_string.f
 refine Ev.bind (slices_Index_string_ev2 l x hl) (Ev.const ?_)
 simp only [ge_iff_le, idxS_mem x l 0 (Int.le_refl _)]
theorem slices_Contains_string_ev (l : List ByteArray) (x : ByteArray) (hl : l.length ≤ 1048576) : Ev (fun k => slices_Contains_string_string.f k l x) (decide (x ∈ l)) := slices_Contains_string_ev2 l x (by omega)

theorem impl_AreConstraints_ev2 (l : List ByteArray) (hl : l.length ≤ 2097152) : Ev (fun k => impl_AreConstraints.f k l) (areC l) := by
 unfold impl_AreConstraints.f areC
 have key : ∀ i, i ≤ l.length → Ev (fun k => impl_AreConstraints.l0 k l l (l.length : Int) (i : Int)) (allFrom (areC1 l) l.length i && decide (1 ≤ l.length ∧ l.length ≤ 5)) := by
  refine down_ind ?_ ?_
  · refine Ev.succ ?_
    simp only [impl_AreConstraints.l0, Int.lt_irrefl, if_false, impl_within_eq, Option.bind_some, allFrom_end _ (Nat.le_refl _), Bool.true_and]
    exact Ev.const (congrArg some (decide_eq_decide.2 (by omega)))
  · intro i hi ih
    refine Ev.succ ?_
    rw [allFrom_step _ hi, areC1, getS l i hi]
    simp only [impl_AreConstraints.l0, if_pos (show (i : Int) < (l.length : Int) by omega), if_pos (show (0 : Int) ≤ i by omega), impl_ConstraintNames_eq, Option.bind_some, rdOf_nat _ l i hi]
    refine Ev.bind (slices_Contains_string_ev cnames l[i] (by decide)) ?_
    by_cases h1 : l[i] ∈ cnames
    · simp only [h1, decide_true, if_true, if_pos (show (i : Int) ≤ (l.length : Int) by omega), Int.toNat_natCast, Bool.true_and]
      refine Ev.bind (slices_Contains_string_ev2 (l.take i) l[i] (by rw [List.length_take]; omega)) ?_
      by_cases h2 : l[i] ∈ l.take i
      · simp only [h2, decide_true, if_true]
        exact Ev.const rfl
      · simp only [h2, decide_false, Bool.false_eq_true, if_false, wrap_succ (show i ≤ 4611686018427387903 by omega), Bool.not_false, Bool.true_and]
        exact ih
    · simp only [h1, decide_false, Bool.false_eq_true, if_false, Bool.false_and]
      exact Ev.const rfl
 exact key 0 (by omega)
theorem impl_AreConstraints_ev (l : List ByteArray) (hl : l.length ≤ 1048576) : Ev (fun k => impl_AreConstraints.f k l) (areC l) := impl_AreConstraints_ev2 l (by omega)

def prof (n : List ByteArray) (l : List ILink) : List Int := if areC n = true ∧ cand l = true then n.map (fun s => viol s l) else []
theorem spec_ProfileOf_ev (n : List ByteArray) (l : List ILink) (hn : n.length ≤ 1048576) (hl : l.length ≤ 1048576) (hb : ∀ x ∈ l, okB x) : Ev (fun k => spec_ProfileOf.f k n l) (prof n l) := by
 unfold spec_ProfileOf.f prof
 have key : ∀ i, i ≤ n.length → ∀ acc : List Int, acc.length ≤ i → Ev (fun k => spec_ProfileOf.l0 k n acc (i : Int) l) (acc ++ (if areC n = true ∧ cand l = true then (n.drop i).map (fun s => viol s l) else [])) := by
  refine down_ind ?_ ?_
  · intro acc _
    refine Ev.succ ?_
    simp only [spec_ProfileOf.l0, Int.lt_irrefl, if_false]
    exact Ev.const (by simp)
  · intro i hi ih acc hacc
    refine Ev.succ ?_
    simp only [spec_ProfileOf.l0, if_pos (show (i : Int) < (n.length : Int) by omega), if_pos (show (0 : Int) ≤ i by omega), rdOf_nat _ n i hi, if_pos (show acc.length < 17592186044416 by omega), wrap_succ (show i ≤ 4611686018427387903 by omega)]
    refine Ev.bind (spec_AreConstraints_ev n hn) ?_
    cases hc : areC n
    · simp only [Bool.false_eq_true, if_false, false_and]
      exact Ev.const (by simp)
    · simp only [if_true, true_and]
      refine Ev.bind (spec_IsCandidate_ev l hl hb) ?_
      cases hk : cand l
      · simp only [Bool.false_eq_true, if_false]
        exact Ev.const (by simp)
      · simp only [if_true]
        refine Ev.bind (spec_ViolationsOf_ev _ l hl hb) ?_
        refine Ev.cast (ih (acc ++ [viol n[i] l]) (by simp; omega)) ?_
        rw [drop_cons n i hi]
        simp only [hc, hk, and_self, if_true, List.map_cons, List.append_assoc, List.cons_append, List.nil_append]
 refine Ev.cast (key 0 (by omega) [] (by simp)) ?_
 simp
theorem impl_ProfileOf_ev (n : List ByteArray) (l : List ILink) (hn : n.length ≤ 1048576) (hl : l.length ≤ 1048576) (hb : ∀ x ∈ l, okB x) : Ev (fun k => impl_ProfileOf.f k n l) (prof n l) := by
 unfold impl_ProfileOf.f prof
 refine Ev.bind (impl_AreConstraints_ev n hn) ?_
 cases areC n
 · simp only [Bool.false_eq_true, if_false, false_and]
   refine Ev.succ ?_
   simp only [impl_ProfileOf.j0, if_true]
   exact Ev.const rfl
 · simp only [if_true, true_and]
   refine Ev.bind (impl_IsCandidate_ev l hl hb) ?_
   cases cand l
   · refine Ev.succ ?_
     simp only [impl_ProfileOf.j0, Bool.not_false, if_true, Bool.false_eq_true, if_false]
     exact Ev.const rfl
   · refine Ev.succ ?_
     simp only [impl_ProfileOf.j0, Bool.not_true, Bool.false_eq_true, if_false, if_true]
     have key : ∀ i, i ≤ n.length → ∀ acc : List Int, acc.length ≤ i → Ev (fun k => impl_ProfileOf.l0 k acc n (n.length : Int) (i : Int) l) (acc ++ (n.drop i).map (fun s => viol s l)) := by
      refine down_ind ?_ ?_
      · intro acc _
        refine Ev.succ ?_
        simp only [impl_ProfileOf.l0, Int.lt_irrefl, if_false]
        exact Ev.const (by simp)
      · intro i hi ih acc hacc
        refine Ev.succ ?_
        simp only [impl_ProfileOf.l0, if_pos (show (i : Int) < (n.length : Int) by omega), if_pos (show (0 : Int) ≤ i by omega), rdOf_nat _ n i hi, if_pos (show acc.length < 17592186044416 by omega), wrap_succ (show i ≤ 4611686018427387903 by omega)]
        refine Ev.bind (impl_ViolationsOf_ev _ l hl hb) ?_
        refine Ev.cast (ih (acc ++ [viol n[i] l]) (by simp; omega)) ?_
        rw [drop_cons n i hi]
        simp only [List.map_cons, List.append_assoc, List.cons_append, List.nil_append]
     refine Ev.cast (key 0 (by omega) [] (by simp)) ?_
     simp

theorem spec_l5Same_ev (a b : List Int) (hl : a.length ≤ 1048576) : Ev (fun k => spec_l5Same.f k a b) (decide (a = b)) := by
 unfold spec_l5Same.f
 by_cases hab : a.length = b.length
 · simp only [if_pos (show (a.length : Int) = (b.length : Int) by omega)]
   have key : ∀ i, i ≤ a.length → Ev (fun k => spec_l5Same.l0 k a b (i : Int)) (decide (a.drop i = b.drop i)) := by
    refine down_ind ?_ ?_
    · refine Ev.succ ?_
      simp only [spec_l5Same.l0, Int.lt_irrefl, if_false]
      refine Ev.const ?_
      rw [List.drop_of_length_le (Nat.le_refl _), List.drop_of_length_le (by omega)]
      rfl
    · intro i hi ih
      have hb : i < b.length := by omega
      refine Ev.succ ?_
      simp only [spec_l5Same.l0, if_pos (show (i : Int) < (a.length : Int) by omega), if_pos (show (0 : Int) ≤ i by omega), if_pos (show (i : Int) < (b.length : Int) by omega), rd_nat a i hi, rd_nat b i hb, wrap_succ (show i ≤ 4611686018427387903 by omega)]
      rw [drop_cons a i hi, drop_cons b i hb]
      by_cases he : a[i] = b[i]
      · simp only [if_pos he]
        exact Ev.cast ih (by simp only [List.cons.injEq, he, true_and])
      · simp only [if_neg he]
        exact Ev.const (by simp only [List.cons.injEq, he, false_and, decide_false])
   exact key 0 (by omega)
 · simp only [if_neg (show ¬ (a.length : Int) = (b.length : Int) by omega)]
   exact Ev.const (by
    have : a ≠ b := fun h => hab (by rw [h])
    simp [this])

theorem slices_Equal_int_ev (a b : List Int) (hl : a.length ≤ 1048576) : Ev (fun k => slices_Equal_int_int.f k a b) (decide (a = b)) := by
 unfold slices_Equal_int_int.f
 by_cases hab : a.length = b.length
 · simp only [if_pos (show (a.length : Int) = (b.length : Int) by omega)]
   have key : ∀ i, i ≤ a.length → Ev (fun k => slices_Equal_int_int.l0 k a b (a.length : Int) (i : Int)) (decide (a.drop i = b.drop i)) := by
    refine down_ind ?_ ?_
    · refine Ev.succ ?_
      simp only [slices_Equal_int_int.l0, Int.lt_irrefl, if_false]
      refine Ev.const ?_
      rw [List.drop_of_length_le (Nat.le_refl _), List.drop_of_length_le (by omega)]
      rfl
    · intro i hi ih
      have hb : i < b.length := by omega
      refine Ev.succ ?_
      simp only [slices_Equal_int_int.l0, if_pos (show (i : Int) < (a.length : Int) by omega), if_pos (show (0 : Int) ≤ i by omega), if_pos (show (i : Int) < (b.length : Int) by omega), rd_nat a i hi, rd_nat b i hb, wrap_succ (show i ≤ 4611686018427387903 by omega)]
      rw [drop_cons a i hi, drop_cons b i hb]
      by_cases he : a[i] = b[i]
      · simp only [if_pos he]
        exact Ev.cast ih (by simp only [List.cons.injEq, he, true_and])
      · simp only [if_neg he]
        exact Ev.const (by simp only [List.cons.injEq, he, false_and, decide_false])
   exact key 0 (by omega)
 · simp only [if_neg (show ¬ (a.length : Int) = (b.length : Int) by omega)]
   exact Ev.const (by
    have : a ≠ b := fun h => hab (by rw [h])
    simp [this])

def rowAt (s : ByteArray) (n : List ByteArray) (p : ICand × List Int) : Bool := decide (inS p.1.f0 = s) && (cand p.1.f0 && decide (p.2 = prof n p.1.f0))
def isTab (s : ByteArray) (n : List ByteArray) (r : List ICand) (m : List (List Int)) : Bool := areC n && (form (B s) && (decide (1 ≤ (r.length : Int) ∧ (r.length : Int) ≤ 250) && (decide (m.length = r.length) && (r.zip m).all (rowAt s n))))
theorem spec_l11Same_ev (a b : List Int) (hl : a.length ≤ 1048576) : Ev (fun k => spec_l11Same.f k a b) (decide (a = b)) := by
 unfold spec_l11Same.f
 exact Ev.bind (spec_l5Same_ev a b hl) (Ev.const rfl)
theorem spec_IsTableau_ev (s : ByteArray) (n : List ByteArray) (r : List ICand) (m : List (List Int)) (hs : s.size ≤ 1048576) (hn : n.length ≤ 1048576) (hr : okR r) (hrl : r.length ≤ 1048576) (hm : m.length + lensII m ≤ 1048576) : Ev (fun k => spec_IsTableau.f k s n r m) (isTab s n r m) := by
 unfold spec_IsTableau.f isTab
 have bad : ∀ x, x = false → Ev (fun k => spec_IsTableau.j0 k true s n r m) x := by
  rintro x rfl
  refine Ev.succ ?_
  simp only [spec_IsTableau.j0, if_true]
  exact Ev.const rfl
 refine Ev.bind (spec_AreConstraints_ev n hn) ?_
 cases areC n
 · simp only [Bool.false_eq_true, if_false]
   exact bad _ (by simp)
 · simp only [if_true, Bool.true_and]
   refine Ev.bind (spec_IsForm_ev s (by omega)) ?_
   cases form (B s)
   · simp only [Bool.false_eq_true, if_false]
     exact bad _ (by simp)
   · simp only [if_true, Bool.true_and, spec_l1In_eq, Option.bind_some]
     by_cases h1 : 1 ≤ (r.length : Int) ∧ (r.length : Int) ≤ 250
     · simp only [h1, and_self, decide_true, if_true, Bool.true_and]
       by_cases h2 : m.length = r.length
       · simp only [h2, bne_self_eq_false, decide_true, Bool.true_and]
         refine Ev.succ ?_
         simp only [spec_IsTableau.j0, Bool.false_eq_true, if_false]
         have key : ∀ i, i ≤ r.length → Ev (fun k => spec_IsTableau.l0 k (i : Int) s n r m) (((r.drop i).zip (m.drop i)).all (rowAt s n)) := by
          refine down_ind ?_ ?_
          · refine Ev.succ ?_
            simp only [spec_IsTableau.l0, Int.lt_irrefl, if_false]
            exact Ev.const (by simp)
          · intro i hi ih
            have hi' : i < m.length := by omega
            have ho := hr r[i] (List.getElem_mem hi)
            have hmi := lensII_get m i hi'
            refine Ev.succ ?_
            simp only [spec_IsTableau.l0, if_pos (show (i : Int) < (r.length : Int) by omega), if_pos (show (i : Int) < (m.length : Int) by omega), if_pos (show (0 : Int) ≤ i by omega), rdIC r i hi, rdII m i hi', toList_inj, wrap_succ (show i ≤ 4611686018427387903 by omega)]
            rw [drop_cons r i hi, drop_cons m i hi', List.zip_cons_cons, List.all_cons]
            refine Ev.bind (spec_InputOf_ev _ ho.2 ho.1) ?_
            by_cases h3 : inS r[i].f0 = s
            · simp only [if_pos h3, rowAt, h3, decide_true, Bool.true_and]
              refine Ev.bind (spec_IsCandidate_ev _ ho.2 ho.1) ?_
              cases cand r[i].f0
              · simp only [Bool.false_eq_true, if_false, Bool.false_and]
                exact Ev.const rfl
              · simp only [if_true, Bool.true_and]
                refine Ev.bind (spec_ProfileOf_ev n _ hn ho.2 ho.1) (Ev.bind (spec_l11Same_ev _ _ (by omega)) ?_)
                by_cases h4 : m[i] = prof n r[i].f0
                · simp only [h4, decide_true, if_true, Bool.true_and]
                  exact ih
                · simp only [h4, decide_false, Bool.false_eq_true, if_false, Bool.false_and]
                  exact Ev.const rfl
            · simp only [if_neg h3, rowAt, h3, decide_false, Bool.false_and]
              exact Ev.const rfl
         exact key 0 (by omega)
       · simp only [show ((m.length : Int) != (r.length : Int)) = true by rw [bne_iff_ne]; omega, h2, decide_false, Bool.false_and]
         exact bad _ rfl
     · simp only [h1, decide_false, Bool.false_eq_true, if_false, Bool.false_and]
       exact bad _ rfl
theorem impl_IsTableau_ev (s : ByteArray) (n : List ByteArray) (r : List ICand) (m : List (List Int)) (hs : s.size ≤ 1048576) (hn : n.length ≤ 1048576) (hr : okR r) (hrl : r.length ≤ 1048576) (hm : m.length + lensII m ≤ 1048576) : Ev (fun k => impl_IsTableau.f k s n r m) (isTab s n r m) := by
 unfold impl_IsTableau.f isTab
 have bad : ∀ x, x = false → Ev (fun k => impl_IsTableau.j0 k true s n r m) x := by
  rintro x rfl
  refine Ev.succ ?_
  simp only [impl_IsTableau.j0, if_true]
  exact Ev.const rfl
 refine Ev.bind (impl_AreConstraints_ev n hn) ?_
 cases areC n
 · simp only [Bool.false_eq_true, if_false]
   exact bad _ (by simp)
 · simp only [if_true, Bool.true_and]
   refine Ev.bind (impl_IsForm_ev s (by omega)) ?_
   cases form (B s)
   · simp only [Bool.false_eq_true, if_false]
     exact bad _ (by simp)
   · simp only [if_true, Bool.true_and, impl_within_eq, Option.bind_some]
     by_cases h1 : 1 ≤ (r.length : Int) ∧ (r.length : Int) ≤ 250
     · simp only [h1, and_self, decide_true, if_true, Bool.true_and]
       by_cases h2 : m.length = r.length
       · simp only [h2, bne_self_eq_false, decide_true, Bool.true_and]
         refine Ev.succ ?_
         simp only [impl_IsTableau.j0, Bool.false_eq_true, if_false]
         have key : ∀ i, i ≤ r.length → Ev (fun k => impl_IsTableau.l0 k r (r.length : Int) (i : Int) s n r m) (((r.drop i).zip (m.drop i)).all (rowAt s n)) := by
          refine down_ind ?_ ?_
          · refine Ev.succ ?_
            simp only [impl_IsTableau.l0, Int.lt_irrefl, if_false]
            exact Ev.const (by simp)
          · intro i hi ih
            have hi' : i < m.length := by omega
            have ho := hr r[i] (List.getElem_mem hi)
            have hmi := lensII_get m i hi'
            refine Ev.succ ?_
            simp only [impl_IsTableau.l0, if_pos (show (i : Int) < (r.length : Int) by omega), if_pos (show (i : Int) < (m.length : Int) by omega), if_pos (show (0 : Int) ≤ i by omega), rdIC r i hi, rdII m i hi', toList_inj, wrap_succ (show i ≤ 4611686018427387903 by omega)]
            rw [drop_cons r i hi, drop_cons m i hi', List.zip_cons_cons, List.all_cons]
            refine Ev.bind (impl_IsCandidate_ev _ ho.2 ho.1) ?_
            cases hc : cand r[i].f0
            · simp only [Bool.false_eq_true, if_false, rowAt, hc, Bool.false_and, Bool.and_false]
              exact Ev.const rfl
            · simp only [if_true]
              refine Ev.bind (impl_InputOf_ev _ ho.2 ho.1) ?_
              by_cases h3 : inS r[i].f0 = s
              · simp only [if_pos h3, rowAt, h3, decide_true, Bool.true_and, hc]
                refine Ev.bind (impl_ProfileOf_ev n _ hn ho.2 ho.1) (Ev.bind (slices_Equal_int_ev _ _ (by omega)) ?_)
                by_cases h4 : m[i] = prof n r[i].f0
                · simp only [h4, decide_true, if_true, Bool.true_and]
                  exact ih
                · simp only [h4, decide_false, Bool.false_eq_true, if_false, Bool.false_and]
                  exact Ev.const rfl
              · simp only [if_neg h3, rowAt, h3, decide_false, Bool.false_and]
                exact Ev.const rfl
         exact key 0 (by omega)
       · simp only [show ((m.length : Int) != (r.length : Int)) = true by rw [bne_iff_ne]; omega, h2, decide_false, Bool.false_and]
         exact bad _ rfl
     · simp only [h1, decide_false, Bool.false_eq_true, if_false, Bool.false_and]
       exact bad _ rfl

theorem isTab_len {s : ByteArray} {n : List ByteArray} {r : List ICand} {m : List (List Int)} (h : isTab s n r m = true) : m.length = r.length ∧ 1 ≤ r.length ∧ r.length ≤ 250 ∧ ∀ i (hi : i < m.length), m[i].length = n.length := by
 unfold isTab at h
 simp only [Bool.and_eq_true, decide_eq_true_eq] at h
 obtain ⟨ha, _, h1, h2, h3⟩ := h
 refine ⟨h2, by omega, by omega, fun i hi => ?_⟩
 have hz : i < (r.zip m).length := by rw [List.length_zip]; omega
 have hq := List.all_eq_true.1 h3 _ (List.getElem_mem hz)
 rw [List.getElem_zip] at hq
 unfold rowAt at hq
 simp only [Bool.and_eq_true, decide_eq_true_eq] at hq
 obtain ⟨_, hc, he⟩ := hq
 rw [he]
 unfold prof
 rw [if_pos ⟨ha, hc⟩, List.length_map]

theorem rdD (m : List (List Int)) (i : Nat) (h : i < m.length) : dist_rd m (i : Int) = m[i] := by simp [dist_rd, h]
def firstI (m : List (List Int)) (i : Nat) : Bool := !decide (m.getD i [] ∈ m.take i)
def outI (m : List (List Int)) (i : Nat) : List Int := ((List.range i).filter (firstI m)).map fun j : Nat => (j : Int)
theorem outI_succ (m : List (List Int)) (i : Nat) : outI m (i + 1) = outI m i ++ (if firstI m i = true then [(i : Int)] else []) := by
 unfold outI
 rw [List.range_succ, List.filter_append, List.map_append]
 congr 1
 by_cases h : firstI m i = true <;> simp [h]
theorem outI_length (m : List (List Int)) (i : Nat) : (outI m i).length ≤ i := by
 unfold outI
 rw [List.length_map]
 exact Nat.le_trans (List.length_filter_le _ _) (by simp)
theorem outI_mem {m : List (List Int)} {i : Nat} {x : Int} (h : x ∈ outI m i) : ∃ j : Nat, x = (j : Int) ∧ j < i := by
 unfold outI at h
 obtain ⟨j, hj, rfl⟩ := List.mem_map.1 h
 exact ⟨j, rfl, List.mem_range.1 (List.mem_filter.1 hj).1⟩
theorem firstI_iff (m : List (List Int)) (i : Nat) (h : i < m.length) : firstI m i = true ↔ m[i] ∉ m.take i := by
 unfold firstI
 rw [show m.getD i [] = m[i] by simp [h]]
 simp
theorem mem_take (m : List (List Int)) (i : Nat) (c : List Int) (h : i ≤ m.length) : c ∈ m.take i ↔ ∃ j, ∃ hj : j < m.length, j < i ∧ m[j] = c := by
 constructor
 · intro hc
   obtain ⟨j, hj, e⟩ := List.getElem_of_mem hc
   rw [List.length_take] at hj
   exact ⟨j, by omega, by omega, by rw [← e]; simp⟩
 · rintro ⟨j, hj, hlt, rfl⟩
   have hm : j < (m.take i).length := by rw [List.length_take]; omega
   have : (m.take i)[j] = m[j] := by simp
   rw [← this]
   exact List.getElem_mem hm
theorem first_of (m : List (List Int)) (c : List Int) : ∀ j, ∀ hj : j < m.length, m[j] = c → ∃ q, ∃ hq : q < m.length, q ≤ j ∧ m[q] = c ∧ firstI m q = true := by
 intro j
 induction j using Nat.strongRecOn with
 | _ j ih =>
  intro hj e
  by_cases hf : firstI m j = true
  · exact ⟨j, hj, Nat.le_refl _, e, hf⟩
  · rw [firstI_iff m j hj, Decidable.not_not, mem_take m j _ (by omega)] at hf
    obtain ⟨p, hp, hlt, e2⟩ := hf
    obtain ⟨q, hq, hle, e3, hfq⟩ := ih p hlt hp (e2.trans e)
    exact ⟨q, hq, by omega, e3, hfq⟩
theorem found_iff (m : List (List Int)) (i : Nat) (h : i < m.length) : (∃ x ∈ outI m i, m.getD x.toNat [] = m[i]) ↔ m[i] ∈ m.take i := by
 rw [mem_take m i _ (by omega)]
 constructor
 · rintro ⟨x, hx, e⟩
   obtain ⟨j, rfl, hj⟩ := outI_mem hx
   have hjm : j < m.length := by omega
   exact ⟨j, hjm, hj, by simpa [hjm] using e⟩
 · rintro ⟨j, hj, hlt, e⟩
   obtain ⟨q, hq, hle, e2, hf⟩ := first_of m _ j hj e
   refine ⟨(q : Int), ?_, by simpa [hq] using e2⟩
   unfold outI
   exact List.mem_map.2 ⟨q, List.mem_filter.2 ⟨List.mem_range.2 (by omega), hf⟩, rfl⟩
def idxL : List (List Int) → List Int → Int → Int
 | [], _, _ => -1
 | a :: l, c, i => if a = c then i else idxL l c (i + 1)
theorem idxL_first : ∀ (l : List (List Int)) (n : Nat) (h : n < l.length) (s : Int), idxL l l[n] s = s + n ↔ l[n] ∉ l.take n
 | [], n, h, _ => by simp at h
 | a :: t, 0, h, s => by simp [idxL]
 | a :: t, n + 1, h, s => by
  have hn : n < t.length := by simpa using h
  have ih := idxL_first t n hn (s + 1)
  simp only [List.getElem_cons_succ, List.take_succ_cons, List.mem_cons, not_or]
  unfold idxL
  by_cases e : a = t[n]
  · rw [if_pos e]
    constructor
    · intro e2
      omega
    · rintro ⟨h1, _⟩
      exact absurd e.symm h1
  · rw [if_neg e]
    rw [show s + ((n + 1 : Nat) : Int) = s + 1 + (n : Int) by omega, ih]
    exact ⟨fun h => ⟨fun e2 => e e2.symm, h⟩, fun h => h.2⟩
theorem dist_idx_ev (m : List (List Int)) (c : List Int) (hm : m.length + lensII m ≤ 1048576) : Ev (fun k => dist_idx k m c 0) (idxL m c 0) := by
 have key : ∀ i, i ≤ m.length → Ev (fun k => dist_idx k m c (i : Int)) (idxL (m.drop i) c (i : Int)) := by
  refine down_ind ?_ ?_
  · refine Ev.succ ?_
    simp only [dist_idx, Int.lt_irrefl, if_false]
    exact Ev.const (by rw [List.drop_of_length_le (Nat.le_refl _)]; rfl)
  · intro i hi ih
    have hmi := lensII_get m i hi
    refine Ev.succ ?_
    simp only [dist_idx, if_pos (show (i : Int) < (m.length : Int) by omega), if_pos (show (0 : Int) ≤ i by omega), rdD m i hi, wrap_succ (show i ≤ 4611686018427387903 by omega)]
    refine Ev.bind (slices_Equal_int_ev _ _ (by omega)) ?_
    rw [drop_cons m i hi, idxL]
    by_cases e : m[i] = c
    · simp only [e, decide_true, if_true]
      exact Ev.const rfl
    · simp only [e, decide_false, Bool.false_eq_true, if_false]
      exact Ev.cast ih (by rw [show ((i + 1 : Nat) : Int) = (i : Int) + 1 by omega])
 exact key 0 (by omega)
def distF (s : ByteArray) (n : List ByteArray) (r : List ICand) (m : List (List Int)) : List Int := if isTab s n r m = true then outI m m.length else []
theorem impl_DistinctProfiles_ev (s : ByteArray) (n : List ByteArray) (r : List ICand) (m : List (List Int)) (hs : s.size ≤ 1048576) (hn : n.length ≤ 1048576) (hr : okR r) (hrl : r.length ≤ 1048576) (hm : m.length + lensII m ≤ 1048576) : Ev (fun k => impl_DistinctProfiles.f k s n r m) (distF s n r m) := by
 unfold impl_DistinctProfiles.f distF
 refine Ev.bind (impl_IsTableau_ev s n r m hs hn hr hrl hm) ?_
 by_cases hT : isTab s n r m = true
 · simp only [hT, if_true]
   have key : ∀ i, i ≤ m.length → Ev (fun k => impl_DistinctProfiles.l0 k m (outI m i) (i : Int)) (outI m m.length) := by
    refine down_ind ?_ ?_
    · refine Ev.succ ?_
      simp only [impl_DistinctProfiles.l0, Int.lt_irrefl, if_false]
      exact Ev.const rfl
    · intro i hi ih
      have hol := outI_length m i
      refine Ev.succ ?_
      simp only [impl_DistinctProfiles.l0, if_pos (show (i : Int) < (m.length : Int) by omega), if_pos (show (0 : Int) ≤ i by omega), rdD m i hi, wrap_succ (show i ≤ 4611686018427387903 by omega), if_pos (show (outI m i).length < 17592186044416 by omega)]
      refine Ev.bind (dist_idx_ev m _ hm) ?_
      have hf := idxL_first m i hi 0
      rw [Int.zero_add, ← firstI_iff m i hi] at hf
      rw [outI_succ] at ih
      by_cases h : firstI m i = true
      · simp only [if_pos (hf.2 h)]
        rw [if_pos h] at ih
        exact ih
      · simp only [if_neg (fun e => h (hf.1 e))]
        rw [if_neg h, List.append_nil] at ih
        exact ih
   exact key 0 (by omega)
 · simp only [hT, Bool.false_eq_true, if_false]
   exact Ev.const rfl
theorem spec_DistinctProfiles_ev (s : ByteArray) (n : List ByteArray) (r : List ICand) (m : List (List Int)) (hs : s.size ≤ 1048576) (hn : n.length ≤ 1048576) (hr : okR r) (hrl : r.length ≤ 1048576) (hm : m.length + lensII m ≤ 1048576) : Ev (fun k => spec_DistinctProfiles.f k s n r m) (distF s n r m) := by
 unfold spec_DistinctProfiles.f distF
 by_cases hT : isTab s n r m = true
 · rw [if_pos hT]
   have hL := isTab_len hT
   have key : ∀ i, i ≤ r.length → Ev (fun k => spec_DistinctProfiles.l0 k (outI m i) (i : Int) s n r m) (outI m m.length) := by
    refine down_ind ?_ ?_
    · refine Ev.succ ?_
      simp only [spec_DistinctProfiles.l0, Int.lt_irrefl, if_false]
      refine Ev.succ ?_
      simp only [spec_DistinctProfiles.j1, Bool.false_eq_true, if_false]
      exact Ev.const (by rw [hL.1])
    · intro i hi ih
      have him : i < m.length := by omega
      have hol := outI_length m i
      refine Ev.succ ?_
      simp only [spec_DistinctProfiles.l0, if_pos (show (i : Int) < (r.length : Int) by omega)]
      refine Ev.bind (spec_IsTableau_ev s n r m hs hn hr hrl hm) ?_
      refine Ev.succ ?_
      simp only [hT, spec_DistinctProfiles.j1, if_true]
      have hfm := firstI_iff m i him
      have inner : ∀ q, q ≤ (outI m i).length → ∀ b : Bool, ((b = true ∨ ∃ x ∈ (outI m i).drop q, m.getD x.toNat [] = m[i]) ↔ m[i] ∈ m.take i) → Ev (fun k => spec_DistinctProfiles.l1 k (outI m i) (i : Int) b (q : Int) s n r m) (outI m m.length) := by
       refine down_ind ?_ ?_
       · intro b hb
         rw [List.drop_of_length_le (Nat.le_refl _)] at hb
         refine Ev.succ ?_
         simp only [spec_DistinctProfiles.l1, Int.lt_irrefl, if_false, wrap_succ (show i ≤ 4611686018427387903 by omega), if_pos (show (outI m i).length < 17592186044416 by omega)]
         rw [outI_succ] at ih
         cases b with
         | true =>
          have hmem := hb.1 (.inl rfl)
          rw [if_neg (fun e => hfm.1 e hmem), List.append_nil] at ih
          simp only [if_true]
          exact ih
         | false =>
          have hno : m[i] ∉ m.take i := fun hmem => by
           rcases hb.2 hmem with h | ⟨x, hx, _⟩
           · cases h
           · cases hx
          rw [if_pos (hfm.2 hno)] at ih
          simp only [Bool.false_eq_true, if_false]
          exact ih
       · intro q hq ihq b hb
         refine Ev.succ ?_
         cases b with
         | true =>
          simp only [spec_DistinctProfiles.l1, if_pos (show (q : Int) < ((outI m i).length : Int) by omega), if_true, wrap_succ (show q ≤ 4611686018427387903 by omega)]
          exact ihq true ⟨fun _ => hb.1 (.inl rfl), fun _ => .inl rfl⟩
         | false =>
          obtain ⟨j, hj, hji⟩ := outI_mem (List.getElem_mem hq)
          have hjm : j < m.length := by omega
          have hmj := lensII_get m j hjm
          simp only [spec_DistinctProfiles.l1, if_pos (show (q : Int) < ((outI m i).length : Int) by omega), Bool.false_eq_true, if_false, if_pos (show (0 : Int) ≤ q by omega), rd_nat (outI m i) q hq, hj, if_pos (show (0 : Int) ≤ (j : Int) by omega), if_pos (show (j : Int) < (m.length : Int) by omega), if_pos (show (0 : Int) ≤ i by omega), if_pos (show (i : Int) < (m.length : Int) by omega), rdII m j hjm, rdII m i him, wrap_succ (show q ≤ 4611686018427387903 by omega)]
          refine Ev.bind (spec_l11Same_ev _ _ (by omega)) ?_
          refine ihq _ ?_
          rw [← hb, drop_cons (outI m i) q hq]
          rw [decide_eq_true_eq]
          have eg : m.getD (outI m i)[q].toNat [] = m[j] := by rw [hj]; simp [hjm]
          constructor
          · rintro (h | ⟨x, hx, e⟩)
            · exact .inr ⟨_, List.mem_cons_self, by rw [eg]; exact h⟩
            · exact .inr ⟨x, List.mem_cons_of_mem _ hx, e⟩
          · rintro (h | ⟨x, hx, e⟩)
            · cases h
            · rcases List.mem_cons.1 hx with rfl | hx
              · rw [eg] at e
                exact .inl e
              · exact .inr ⟨x, hx, e⟩
      refine inner 0 (Nat.zero_le _) false ?_
      rw [List.drop_zero, ← found_iff m i him]
      simp
   exact key 0 (by omega)
 · rw [if_neg hT]
   refine Ev.succ ?_
   simp only [spec_DistinctProfiles.l0]
   by_cases h0 : (0 : Int) < (r.length : Int)
   · simp only [if_pos h0]
     refine Ev.bind (spec_IsTableau_ev s n r m hs hn hr hrl hm) ?_
     refine Ev.succ ?_
     simp only [hT, spec_DistinctProfiles.j1, Bool.false_eq_true, if_false]
     exact Ev.const rfl
   · simp only [if_neg h0]
     refine Ev.succ ?_
     simp only [spec_DistinctProfiles.j1, Bool.false_eq_true, if_false]
     exact Ev.const rfl
theorem distF_length (s : ByteArray) (n : List ByteArray) (r : List ICand) (m : List (List Int)) : (distF s n r m).length ≤ m.length := by
 unfold distF
 split
 · exact outI_length m _
 · exact Nat.zero_le _

theorem laws_toStringS_ev (l : List ByteArray) (hl : l.length ≤ 1048576) : Ev (fun k => laws_toStringS.f k l) l := by
 unfold laws_toStringS.f
 simp only [if_pos (show (0 : Int) ≤ (l.length : Int) by omega), Int.toNat_natCast, if_pos (show l.length ≤ 17592186044416 by omega)]
 have key : ∀ i, i ≤ l.length → Ev (fun k => laws_toStringS.l0 k l (l.take i ++ List.replicate (l.length - i) (⟨#[]⟩ : ByteArray)) (i : Int)) l := by
  refine down_ind ?_ ?_
  · refine Ev.succ ?_
    simp only [laws_toStringS.l0, Int.lt_irrefl, if_false]
    exact Ev.const (by simp)
  · intro i hi ih
    refine Ev.succ ?_
    have hlen : (l.take i ++ List.replicate (l.length - i) (⟨#[]⟩ : ByteArray)).length = l.length := by simp; omega
    simp only [laws_toStringS.l0, hlen, if_pos (show (i : Int) < (l.length : Int) by omega), if_pos (show (0 : Int) ≤ i by omega), rdOf_nat _ l i hi, Int.toNat_natCast, set_fill l _ i hi, wrap_succ (show i ≤ 4611686018427387903 by omega)]
    exact ih
 have := key 0 (by omega)
 simpa using this

theorem laws_toCandidate_ev (l : List LLink) (hl : l.length ≤ 1048576) : Ev (fun k => laws_toCandidate.f k l) (l.map toK) := by
 unfold laws_toCandidate.f
 refine Ev.bind ?_ (Ev.const rfl)
 unfold laws_toLinkS.f
 simp only [if_pos (show (0 : Int) ≤ (l.length : Int) by omega), Int.toNat_natCast, if_pos (show l.length ≤ 140737488355328 by omega)]
 have key : ∀ i, i ≤ l.length → Ev (fun k => laws_toLinkS.l0 k l ((l.take i).map toK ++ List.replicate (l.length - i) z109) (i : Int)) (l.map toK) := by
  refine down_ind ?_ ?_
  · refine Ev.succ ?_
    simp only [laws_toLinkS.l0, Int.lt_irrefl, if_false]
    exact Ev.const (by simp)
  · intro i hi ih
    refine Ev.succ ?_
    have hlen : ((l.take i).map toK ++ List.replicate (l.length - i) z109).length = l.length := by simp; omega
    simp only [laws_toLinkS.l0, laws_toLink.f, Option.bind_some, hlen, if_pos (show (i : Int) < (l.length : Int) by omega), if_pos (show (0 : Int) ≤ i by omega), rdLK l i hi, Int.toNat_natCast, show (⟨l[i].f0, l[i].f1⟩ : ILink) = toK l[i] from rfl, set_fill2 l toK _ i hi, wrap_succ (show i ≤ 4611686018427387903 by omega)]
    exact ih
 have := key 0 (by omega)
 simpa using this

theorem laws_toIntS_ev (l : List Int) (hl : l.length ≤ 1048576) : Ev (fun k => laws_toIntS.f k l) l := by
 unfold laws_toIntS.f
 simp only [if_pos (show (0 : Int) ≤ (l.length : Int) by omega), Int.toNat_natCast, if_pos (show l.length ≤ 35184372088832 by omega)]
 have key : ∀ i, i ≤ l.length → Ev (fun k => laws_toIntS.l0 k l (l.take i ++ List.replicate (l.length - i) 0) (i : Int)) l := by
  refine down_ind ?_ ?_
  · refine Ev.succ ?_
    simp only [laws_toIntS.l0, Int.lt_irrefl, if_false]
    exact Ev.const (by simp)
  · intro i hi ih
    refine Ev.succ ?_
    have hlen : (l.take i ++ List.replicate (l.length - i) 0).length = l.length := by simp; omega
    simp only [laws_toIntS.l0, hlen, if_pos (show (i : Int) < (l.length : Int) by omega), if_pos (show (0 : Int) ≤ i by omega), rd_nat l i hi, Int.toNat_natCast, set_fill l 0 i hi, wrap_succ (show i ≤ 4611686018427387903 by omega)]
    exact ih
 have := key 0 (by omega)
 simpa using this

def sizes (l : List ByteArray) : Nat := (l.map ByteArray.size).sum
theorem laws_szStringS_ev (l : List ByteArray) (n : Nat) (hn : n ≤ 1048576) (hl : BdSlice 16 BdStr l) : Ev (fun k => laws_szStringS.f k l n) (if l.length + sizes l ≤ n then ((n - (l.length + sizes l) : Nat) : Int) else -1) := by
 have hl' : l.length ≤ 140737488351232 := by have := hl.1; omega
 unfold laws_szStringS.f
 rw [wrap_in (by omega) (by omega)]
 by_cases h : l.length ≤ n
 · rw [show ((n : Int) - (l.length : Int)) = ((n - l.length : Nat) : Int) by omega]
   simp only [if_neg (show ¬ ((n - l.length : Nat) : Int) < 0 by omega)]
   have key : ∀ i, i ≤ l.length → ∀ m : Nat, m ≤ n → Ev (fun k => laws_szStringS.l0 k l (m : Int) (i : Int)) (if sizes (l.drop i) ≤ m then ((m - sizes (l.drop i) : Nat) : Int) else -1) := by
    refine down_ind ?_ ?_
    · intro m hm
      refine Ev.succ ?_
      simp only [laws_szStringS.l0, Int.lt_irrefl, if_false]
      exact Ev.const (by simp [sizes])
    · intro i hi ih m hm
      have hb : l[i].size ≤ 140737488351232 := bd_get hl i hi
      refine Ev.succ ?_
      simp only [laws_szStringS.l0, if_pos (show (i : Int) < (l.length : Int) by omega), if_pos (show (0 : Int) ≤ i by omega), rdOf_nat _ l i hi, wrap_in (show -4611686018427387904 ≤ (m : Int) - (l[i].size : Int) by omega) (show (m : Int) - (l[i].size : Int) ≤ 4611686018427387904 by omega), wrap_succ (show i ≤ 4611686018427387903 by omega)]
      have hd : sizes (l.drop i) = l[i].size + sizes (l.drop (i + 1)) := by rw [drop_cons l i hi]; rfl
      rw [hd]
      by_cases hs : l[i].size ≤ m
      · simp only [if_neg (show ¬ (m : Int) - (l[i].size : Int) < 0 by omega), show (m : Int) - (l[i].size : Int) = ((m - l[i].size : Nat) : Int) by omega]
        refine Ev.cast (ih (m - l[i].size) (by omega)) ?_
        by_cases h2 : sizes (l.drop (i + 1)) ≤ m - l[i].size
        · rw [if_pos h2, if_pos (by omega)]
          congr 1
          omega
        · rw [if_neg h2, if_neg (by omega)]
      · simp only [if_pos (show (m : Int) - (l[i].size : Int) < 0 by omega)]
        exact Ev.const (by rw [if_neg (by omega)])
   refine Ev.cast (key 0 (by omega) (n - l.length) (by omega)) ?_
   simp only [List.drop_zero]
   by_cases h2 : sizes l ≤ n - l.length
   · rw [if_pos h2, if_pos (by omega)]
     congr 1
     omega
   · rw [if_neg h2, if_neg (by omega)]
 · simp only [if_pos (show ((n : Int) - (l.length : Int)) < 0 by omega)]
   exact Ev.const (by rw [if_neg (by omega)])

theorem laws_szCandidate_eq (l : List LLink) (n : Nat) (hn : n ≤ 1048576) (hl : l.length ≤ 140737488355328) : laws_szCandidate.f l n = some (if l.length ≤ n then ((n - l.length : Nat) : Int) else -1) := by
 unfold laws_szCandidate.f laws_szLinkS.f
 rw [wrap_in (by omega) (by omega)]
 by_cases h : l.length ≤ n
 · rw [if_neg (show ¬ ((n : Int) - (l.length : Int) < 0) by omega), if_pos h]
   simp only [Option.bind_some]
   rw [if_neg (by omega)]
   congr 1
   omega
 · rw [if_pos (show ((n : Int) - (l.length : Int) < 0) by omega), if_neg h]
   simp only [Option.bind_some]
   rfl

theorem laws_szIntS_eq (l : List Int) (n : Nat) (hn : n ≤ 1048576) (hl : l.length ≤ 140737488351232) : laws_szIntS.f l n = some (if l.length ≤ n then ((n - l.length : Nat) : Int) else -1) := by
 unfold laws_szIntS.f
 rw [wrap_in (by omega) (by omega)]
 by_cases h : l.length ≤ n
 · rw [if_neg (by omega), if_pos h]
   congr 1
   omega
 · rw [if_pos (by omega), if_neg h]

end Go.Proofs.YtlmfpkiaikjlbaaGreat.Pure
