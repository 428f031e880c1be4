/- The pure statement of the law FnExactOptimalOutputs: for all arguments within bounds its printed function answers true. -/
import Derived.Test.YtlmfpkiaikjlbaaGreatPFnExactOptimalOutputsx
import Derived.Test.YtlmfpkiaikjlbaaGreatUFnExactOptimalOutputs
import Derived.Test.YtlmfpkiaikjlbaaGreatPureFnExactOptimalOutputsa
namespace Go.Proofs.YtlmfpkiaikjlbaaGreat.Pure
open Go.RowKit Go.Proofs.YtlmfpkiaikjlbaaGreatB Go.Proofs.YtlmfpkiaikjlbaaGreat.PFnExactOptimalOutputs Go.Proofs.YtlmfpkiaikjlbaaGreatW.PrintWords Go.Proofs.YtlmfpkiaikjlbaaGreatW.PrintLast Go.Proofs.YtlmfpkiaikjlbaaGreatW.PrintMore
set_option linter.unusedVariables false
set_option linter.unusedSimpArgs false

theorem links_at_CountInserted_ev (l : List ILink) (hl : l.length ≤ 1048576) (hb : ∀ x ∈ l, okB x) (p : Int → Int → Bool) (hp : ∀ a b, impl_CountInserted_1.f a b = some (p a b)) :
 Ev (fun k => impl_links_at_CountInserted_1.f k l ()) ((cntK p l : Nat) : Int) := links_G_ev impl_CountInserted_1.f l hl hb p hp

theorem spec_CountInserted_gen (l : List ILink) (hl : l.length ≤ 1048576) (hb : ∀ x ∈ l, okB x) (p : Int → Int → Bool)
 (step : ∀ i (hi : i < l.length) (n : Nat), n ≤ i → ∀ r, Ev (fun k => spec_CountInserted.l0 k ((n + (if p l[i].f0 l[i].f1 then 1 else 0) : Nat) : Int) ((i + 1 : Nat) : Int) l) r → Ev (fun k => spec_CountInserted.j1 k (n : Int) (i : Int) true l) r) :
 Ev (fun k => spec_CountInserted.f k l) ((cntK p l : Nat) : Int) := by
 unfold spec_CountInserted.f cntK
 have key : ∀ i, i ≤ l.length → ∀ n : Nat, n ≤ i → Ev (fun k => spec_CountInserted.l0 k (n : Int) (i : Int) l) ((n + (if cand l then (l.drop i).countP (fun x => p x.f0 x.f1) else 0) : Nat) : Int) := by
  refine down_ind ?_ ?_
  · intro n _
    refine Ev.succ ?_
    simp only [spec_CountInserted.l0, Int.lt_irrefl, if_false]
    refine Ev.succ ?_
    simp only [spec_CountInserted.j1, Bool.false_eq_true, if_false]
    exact Ev.const (by simp)
  · intro i hi ih n hn
    refine Ev.succ ?_
    simp only [spec_CountInserted.l0, if_pos (show (i : Int) < (l.length : Int) by omega)]
    refine Ev.bind (spec_IsCandidate_ev l hl hb) ?_
    cases hc : cand l
    · refine Ev.succ ?_
      simp only [spec_CountInserted.j1, Bool.false_eq_true, if_false]
      exact Ev.const (by simp)
    · refine step i hi n hn _ ?_
      rw [drop_cons l i hi, List.countP_cons]
      refine Ev.cast (ih (n + (if p l[i].f0 l[i].f1 then 1 else 0)) (by split <;> omega)) ?_
      simp only [hc, if_true]
      omega
 refine Ev.cast (key 0 (by omega) 0 (by omega)) ?_
 simp

theorem impl_CountInserted_ev (l : List ILink) (hl : l.length ≤ 1048576) (hb : ∀ x ∈ l, okB x) : Ev (fun k => impl_CountInserted.f k l) ((cntK kIns l : Nat) : Int) := by
 unfold impl_CountInserted.f
 exact Ev.bind (links_at_CountInserted_ev l hl hb kIns (fun a b => by unfold impl_CountInserted_1.f kIns; rfl)) (Ev.const rfl)
theorem spec_CountInserted_ev (l : List ILink) (hl : l.length ≤ 1048576) (hb : ∀ x ∈ l, okB x) : Ev (fun k => spec_CountInserted.f k l) ((cntK kIns l : Nat) : Int) := by
 refine spec_CountInserted_gen l hl hb kIns ?_
 intro i hi n hn r ih
 refine Ev.succ ?_
 simp only [spec_CountInserted.j1, if_true, if_pos (show (0 : Int) ≤ i by omega), if_pos (show (i : Int) < (l.length : Int) by omega), rdK l i hi, wrap_succ (show i ≤ 4611686018427387903 by omega), wrap_succ (show n ≤ 4611686018427387903 by omega)]
 unfold kIns at ih
 by_cases h : l[i].f0 = 0
 · simpa [h] using ih
 · simpa [h] using ih

theorem links_at_CountVoiceChanged_ev (l : List ILink) (hl : l.length ≤ 1048576) (hb : ∀ x ∈ l, okB x) (p : Int → Int → Bool) (hp : ∀ a b, impl_CountVoiceChanged_1.f a b = some (p a b)) :
 Ev (fun k => impl_links_at_CountVoiceChanged_1.f k l ()) ((cntK p l : Nat) : Int) := links_G_ev impl_CountVoiceChanged_1.f l hl hb p hp

theorem spec_CountVoiceChanged_gen (l : List ILink) (hl : l.length ≤ 1048576) (hb : ∀ x ∈ l, okB x) (p : Int → Int → Bool)
 (step : ∀ i (hi : i < l.length) (n : Nat), n ≤ i → ∀ r, Ev (fun k => spec_CountVoiceChanged.l0 k ((n + (if p l[i].f0 l[i].f1 then 1 else 0) : Nat) : Int) ((i + 1 : Nat) : Int) l) r → Ev (fun k => spec_CountVoiceChanged.j1 k (n : Int) (i : Int) true l) r) :
 Ev (fun k => spec_CountVoiceChanged.f k l) ((cntK p l : Nat) : Int) := by
 unfold spec_CountVoiceChanged.f cntK
 have key : ∀ i, i ≤ l.length → ∀ n : Nat, n ≤ i → Ev (fun k => spec_CountVoiceChanged.l0 k (n : Int) (i : Int) l) ((n + (if cand l then (l.drop i).countP (fun x => p x.f0 x.f1) else 0) : Nat) : Int) := by
  refine down_ind ?_ ?_
  · intro n _
    refine Ev.succ ?_
    simp only [spec_CountVoiceChanged.l0, Int.lt_irrefl, if_false]
    refine Ev.succ ?_
    simp only [spec_CountVoiceChanged.j1, Bool.false_eq_true, if_false]
    exact Ev.const (by simp)
  · intro i hi ih n hn
    refine Ev.succ ?_
    simp only [spec_CountVoiceChanged.l0, if_pos (show (i : Int) < (l.length : Int) by omega)]
    refine Ev.bind (spec_IsCandidate_ev l hl hb) ?_
    cases hc : cand l
    · refine Ev.succ ?_
      simp only [spec_CountVoiceChanged.j1, Bool.false_eq_true, if_false]
      exact Ev.const (by simp)
    · refine step i hi n hn _ ?_
      rw [drop_cons l i hi, List.countP_cons]
      refine Ev.cast (ih (n + (if p l[i].f0 l[i].f1 then 1 else 0)) (by split <;> omega)) ?_
      simp only [hc, if_true]
      omega
 refine Ev.cast (key 0 (by omega) 0 (by omega)) ?_
 simp

theorem impl_CountVoiceChanged_ev (l : List ILink) (hl : l.length ≤ 1048576) (hb : ∀ x ∈ l, okB x) : Ev (fun k => impl_CountVoiceChanged.f k l) ((cntK kVoi l : Nat) : Int) := by
 unfold impl_CountVoiceChanged.f
 refine Ev.bind (links_at_CountVoiceChanged_ev l hl hb kVoi (fun a b => ?_)) (Ev.const rfl)
 unfold impl_CountVoiceChanged_1.f kVoi
 by_cases h : a = 0
 · simp [h]
 · by_cases h2 : b = 0
   · simp [h, h2]
   · simp only [if_neg h, if_neg h2, h, h2, decide_false, Bool.not_false, Bool.true_and]
     by_cases h3 : a = b
     · simp [h3]
     · simp [h3]
theorem spec_CountVoiceChanged_ev (l : List ILink) (hl : l.length ≤ 1048576) (hb : ∀ x ∈ l, okB x) : Ev (fun k => spec_CountVoiceChanged.f k l) ((cntK kVoi l : Nat) : Int) := by
 refine spec_CountVoiceChanged_gen l hl hb kVoi ?_
 intro i hi n hn r ih
 refine Ev.succ ?_
 simp only [spec_CountVoiceChanged.j1, if_true, if_pos (show (0 : Int) ≤ i by omega), if_pos (show (i : Int) < (l.length : Int) by omega), rdK l i hi, wrap_succ (show i ≤ 4611686018427387903 by omega), wrap_succ (show n ≤ 4611686018427387903 by omega)]
 unfold kVoi at ih
 by_cases h : l[i].f0 = 0
 · simpa [h] using ih
 · by_cases h2 : l[i].f1 = 0
   · simpa [h, h2] using ih
   · by_cases h3 : l[i].f0 = l[i].f1
     · simp only [if_neg h, if_neg h2, if_pos h3]
       simpa [h3] using ih
     · simp only [if_neg h, if_neg h2, if_neg h3]
       simpa [h, h2, h3] using ih

def kept (a b : Int) : Bool := !decide (a = 0) && !decide (b = 0)
def brk : List ILink → Bool → Nat → Nat
 | [], _, _ => 0
 | x :: l, s, p => if kept x.f0 x.f1 then p + brk l true 0 else if s then brk l s (p + 1) else brk l s p
def brks (l : List ILink) : Nat := if cand l then brk l false 0 else 0
def nks (l : List ILink) (j : Nat) : Nat := (l.take j).countP fun x => !kept x.f0 x.f1
theorem nks_succ (l : List ILink) (j : Nat) (h : j < l.length) : nks l (j + 1) = nks l j + (if kept l[j].f0 l[j].f1 then 0 else 1) := by
 unfold nks
 rw [take_snoc l j h, List.countP_append]
 cases hk : kept l[j].f0 l[j].f1 <;> simp [hk]
theorem impl_CountBreaks_ev (l : List ILink) (hl : l.length ≤ 1048576) (hb : ∀ x ∈ l, okB x) : Ev (fun k => impl_CountBreaks.f k l) ((brks l : Nat) : Int) := by
 unfold impl_CountBreaks.f brks
 have key : ∀ i, i ≤ l.length → ∀ (n p : Nat) (s : Bool), n + p ≤ i → Ev (fun k => impl_CountBreaks.l0 k (n : Int) (p : Int) s l (l.length : Int) (i : Int) l) ((n + (if cand l then brk (l.drop i) s p else 0) : Nat) : Int) := by
  refine down_ind ?_ ?_
  · intro n p s _
    refine Ev.succ ?_
    simp only [impl_CountBreaks.l0, Int.lt_irrefl, if_false]
    exact Ev.const (by simp [brk])
  · intro i hi ih n p s hn
    refine Ev.succ ?_
    simp only [impl_CountBreaks.l0, if_pos (show (i : Int) < (l.length : Int) by omega), if_pos (show (0 : Int) ≤ i by omega), rdK l i hi, wrap_succ (show i ≤ 4611686018427387903 by omega)]
    refine Ev.bind (impl_IsCandidate_ev l hl hb) ?_
    rw [drop_cons l i hi]
    cases hc : cand l
    · simp only [Bool.false_eq_true, if_false]
      refine Ev.cast (ih n p s (by omega)) ?_
      simp [hc]
    · have J : ∀ b, b = kept l[i].f0 l[i].f1 → Ev (fun k => impl_CountBreaks.j1 k (n : Int) (p : Int) s l (l.length : Int) (i : Int) b l) ((n + brk (l[i] :: l.drop (i + 1)) s p : Nat) : Int) := by
       intro b e
       refine Ev.succ ?_
       simp only [impl_CountBreaks.j1, brk, ← e, wrap_succ (show i ≤ 4611686018427387903 by omega), wrap_succ (show p ≤ 4611686018427387903 by omega)]
       cases b
       · simp only [Bool.false_eq_true, if_false]
         cases s
         · simp only [Bool.false_eq_true, if_false]
           refine Ev.cast (ih n p false (by omega)) ?_
           simp [hc]
         · simp only [if_true]
           refine Ev.cast (ih n (p + 1) true (by omega)) ?_
           simp [hc]
       · simp only [if_true]
         rw [show wrap64 ((n : Int) + (p : Int)) = ((n + p : Nat) : Int) by unfold wrap64; omega]
         refine Ev.cast (ih (n + p) 0 true (by omega)) ?_
         simp [hc]
         omega
      simp only [if_true]
      by_cases h0 : l[i].f0 = 0
      · simp only [if_pos h0]
        exact J false (by simp [kept, h0])
      · simp only [if_neg h0]
        exact J _ (by simp only [kept, h0, decide_false, Bool.not_false, Bool.true_and]; rw [bne_iff_decide])
 refine Ev.cast (key 0 (by omega) 0 0 false (by omega)) ?_
 simp
theorem spec_l9Kept_eq (a b : Int) : spec_l9Kept.f a b = some (kept a b) := by
 unfold spec_l9Kept.f kept
 by_cases h : a = 0
 · simp [h]
 · rw [if_neg h, bne_iff_decide]
   simp [h]
theorem spec_CountBreaks_ev (l : List ILink) (hl : l.length ≤ 1048576) (hb : ∀ x ∈ l, okB x) : Ev (fun k => spec_CountBreaks.f k l) ((brks l : Nat) : Int) := by
 unfold spec_CountBreaks.f brks
 have L1 : ∀ e : Nat, e ≤ l.length → ∀ j, j ≤ e → ∀ n : Nat, n ≤ j → Ev (fun k => spec_CountBreaks.l1 k (e : Int) (n : Int) (j : Int) l) ((n + (nks l e - nks l j) : Nat) : Int) := by
  intro e he
  have mono : ∀ j, j ≤ e → nks l j ≤ nks l e := by
   refine down_ind (Nat.le_refl _) ?_
   intro j hj ih
   rw [nks_succ l j (by omega)] at ih
   omega
  refine down_ind ?_ ?_
  · intro n _
    refine Ev.succ ?_
    simp only [spec_CountBreaks.l1, Int.lt_irrefl, if_false]
    exact Ev.const (by simp)
  · intro j hj ih n hn
    have hjl : j < l.length := by omega
    have hs := nks_succ l j hjl
    have hm := mono (j + 1) hj
    refine Ev.succ ?_
    simp only [spec_CountBreaks.l1, if_pos (show (j : Int) < (e : Int) by omega), if_pos (show (0 : Int) ≤ j by omega), if_pos (show (j : Int) < (l.length : Int) by omega), rdK l j hjl, spec_l9Kept_eq, Option.bind_some, wrap_succ (show j ≤ 4611686018427387903 by omega), wrap_succ (show n ≤ 4611686018427387903 by omega)]
    cases hk : kept l[j].f0 l[j].f1
    · rw [hk] at hs
      simp only [Bool.false_eq_true, if_false] at hs ⊢
      refine Ev.cast (ih (n + 1) (by omega)) ?_
      congr 1
      omega
    · rw [hk] at hs
      simp only [if_true] at hs ⊢
      refine Ev.cast (ih n (by omega)) ?_
      congr 1
      omega
 have none_ : Ev (fun k => spec_CountBreaks.l1 k (-1) 0 (mx 0 (-1)) l) 0 := by
  refine Ev.succ ?_
  simp only [spec_CountBreaks.l1, show ¬ (mx 0 (-1) < (-1 : Int)) by decide, if_false]
  exact Ev.const rfl
 have seen : ∀ i, i ≤ l.length → cand l = true → ∀ F e : Nat, F ≤ e → e < i → nks l F ≤ nks l e → nks l i + e + 1 = nks l e + i → Ev (fun k => spec_CountBreaks.l0 k (F : Int) (e : Int) (i : Int) l) (((nks l e - nks l F) + brk (l.drop i) true (i - 1 - e) : Nat) : Int) := by
  refine down_ind ?_ ?_
  · intro hc F e hF he hm hi
    refine Ev.succ ?_
    simp only [spec_CountBreaks.l0, Int.lt_irrefl, if_false]
    refine Ev.succ ?_
    simp only [spec_CountBreaks.j1, Bool.false_eq_true, if_false, show mx 0 (F : Int) = (F : Int) by unfold mx; split <;> omega]
    refine Ev.cast (L1 e (by omega) F hF 0 (by omega)) ?_
    simp [brk]
  · intro i hi ih hc F e hF he hm hinv
    have hs := nks_succ l i hi
    refine Ev.succ ?_
    simp only [spec_CountBreaks.l0, if_pos (show (i : Int) < (l.length : Int) by omega)]
    refine Ev.bind (spec_IsCandidate_ev l hl hb) ?_
    rw [hc]
    refine Ev.succ ?_
    simp only [spec_CountBreaks.j1, if_true, if_pos (show (0 : Int) ≤ i by omega), if_pos (show (i : Int) < (l.length : Int) by omega), rdK l i hi, spec_l9Kept_eq, Option.bind_some, wrap_succ (show i ≤ 4611686018427387903 by omega), if_neg (show ¬ (F : Int) < 0 by omega)]
    rw [drop_cons l i hi]
    simp only [brk]
    cases hk : kept l[i].f0 l[i].f1
    · rw [hk] at hs
      simp only [Bool.false_eq_true, if_false, if_true] at hs ⊢
      refine Ev.cast (ih hc F e hF (by omega) hm (by omega)) ?_
      rw [show i + 1 - 1 - e = i - 1 - e + 1 by omega]
    · rw [hk] at hs
      simp only [if_true] at hs ⊢
      refine Ev.cast (ih hc F i (by omega) (by omega) (by omega) (by omega)) ?_
      rw [show i + 1 - 1 - i = 0 by omega]
      congr 1
      omega
 have key : ∀ i, i ≤ l.length → Ev (fun k => spec_CountBreaks.l0 k (-1) (-1) (i : Int) l) ((if cand l then brk (l.drop i) false 0 else 0 : Nat) : Int) := by
  refine down_ind ?_ ?_
  · refine Ev.succ ?_
    simp only [spec_CountBreaks.l0, Int.lt_irrefl, if_false]
    refine Ev.succ ?_
    simp only [spec_CountBreaks.j1, Bool.false_eq_true, if_false]
    refine Ev.cast none_ ?_
    simp [brk]
  · intro i hi ih
    have hs := nks_succ l i hi
    refine Ev.succ ?_
    simp only [spec_CountBreaks.l0, if_pos (show (i : Int) < (l.length : Int) by omega)]
    refine Ev.bind (spec_IsCandidate_ev l hl hb) ?_
    cases hc : cand l
    · refine Ev.succ ?_
      simp only [spec_CountBreaks.j1, Bool.false_eq_true, if_false]
      exact none_
    · rw [hc] at ih
      refine Ev.succ ?_
      simp only [spec_CountBreaks.j1, if_true, if_pos (show (0 : Int) ≤ i by omega), if_pos (show (i : Int) < (l.length : Int) by omega), rdK l i hi, spec_l9Kept_eq, Option.bind_some, wrap_succ (show i ≤ 4611686018427387903 by omega), if_pos (show (-1 : Int) < 0 by omega)]
      rw [drop_cons l i hi]
      simp only [brk]
      cases hk : kept l[i].f0 l[i].f1
      · simp only [Bool.false_eq_true, if_false]
        exact ih
      · rw [hk] at hs
        simp only [if_true] at hs ⊢
        refine Ev.cast (seen (i + 1) (by omega) hc i i (Nat.le_refl _) (by omega) (Nat.le_refl _) (by omega)) ?_
        simp
 exact key 0 (by omega)

def viol (s : ByteArray) (l : List ILink) : Int := if cand l = true then
 (if s.toList = ([111, 110, 115, 101, 116] : List UInt8) then ((cntP pOnsetless (B (outS l)) : Nat) : Int) else
 if s.toList = ([110, 111, 99, 111, 100, 97] : List UInt8) then ((cntP pCodas (B (outS l)) : Nat) : Int) else
 if s.toList = ([99, 108, 117, 115, 116, 101, 114] : List UInt8) then ((cntP pClusters (B (outS l)) : Nat) : Int) else
 if s.toList = ([118, 111, 105, 99, 101] : List UInt8) then ((cntP pVoiced (B (outS l)) : Nat) : Int) else
 if s.toList = ([102, 105, 110, 97, 108] : List UInt8) then ((cntP pFinalVoiced (B (outS l)) : Nat) : Int) else
 if s.toList = ([110, 97, 115, 97, 108] : List UInt8) then ((cntP pNasalVoiceless (B (outS l)) : Nat) : Int) else
 if s.toList = ([109, 97, 120] : List UInt8) then ((cntK kDel l : Nat) : Int) else
 if s.toList = ([100, 101, 112] : List UInt8) then ((cntK kIns l : Nat) : Int) else
 if s.toList = ([105, 100, 101, 110, 116] : List UInt8) then ((cntK kVoi l : Nat) : Int) else
 if s.toList = ([99, 111, 110, 116, 105, 103] : List UInt8) then ((brks l : Nat) : Int) else -1) else -1
theorem Ev.ite {α : Type} {c : Prop} [Decidable c] {g h : Nat → Option α} {x y : α} (h1 : c → Ev g x) (h2 : ¬ c → Ev h y) : Ev (fun k => if c then g k else h k) (if c then x else y) := by
 by_cases hc : c
 · simp only [if_pos hc]
   exact h1 hc
 · simp only [if_neg hc]
   exact h2 hc
theorem spec_ViolationsOf_ev (s : ByteArray) (l : List ILink) (hl : l.length ≤ 1048576) (hb : ∀ x ∈ l, okB x) : Ev (fun k => spec_ViolationsOf.f k s l) (viol s l) := by
 unfold spec_ViolationsOf.f viol
 have ho : (outS l).size ≤ 140737488351232 := by have := outS_size l hl; omega
 refine Ev.bind (spec_IsCandidate_ev l hl hb) ?_
 cases cand l
 · simp only [Bool.false_eq_true, if_false]
   exact Ev.const rfl
 · simp only [if_true]
   refine Ev.bind (spec_OutputOf_ev l hl hb) ?_
   refine Ev.ite (fun _ => Ev.bind (spec_CountOnsetless_ev _ ho) (Ev.const rfl)) (fun _ => ?_)
   refine Ev.ite (fun _ => Ev.bind (spec_CountCodas_ev _ ho) (Ev.const rfl)) (fun _ => ?_)
   refine Ev.ite (fun _ => Ev.bind (spec_CountClusters_ev _ ho) (Ev.const rfl)) (fun _ => ?_)
   refine Ev.ite (fun _ => Ev.bind (spec_CountVoiced_ev _ ho) (Ev.const rfl)) (fun _ => ?_)
   refine Ev.ite (fun _ => Ev.bind (spec_CountFinalVoiced_ev _ ho) (Ev.const rfl)) (fun _ => ?_)
   refine Ev.ite (fun _ => Ev.bind (spec_CountNasalVoiceless_ev _ ho) (Ev.const rfl)) (fun _ => ?_)
   refine Ev.ite (fun _ => Ev.bind (spec_CountDeleted_ev l hl hb) (Ev.const rfl)) (fun _ => ?_)
   refine Ev.ite (fun _ => Ev.bind (spec_CountInserted_ev l hl hb) (Ev.const rfl)) (fun _ => ?_)
   refine Ev.ite (fun _ => Ev.bind (spec_CountVoiceChanged_ev l hl hb) (Ev.const rfl)) (fun _ => ?_)
   refine Ev.ite (fun _ => Ev.bind (spec_CountBreaks_ev l hl hb) (Ev.const rfl)) (fun _ => ?_)
   exact Ev.const rfl
theorem impl_ViolationsOf_ev (s : ByteArray) (l : List ILink) (hl : l.length ≤ 1048576) (hb : ∀ x ∈ l, okB x) : Ev (fun k => impl_ViolationsOf.f k s l) (viol s l) := by
 unfold impl_ViolationsOf.f viol
 have ho : (outS l).size ≤ 140737488351232 := by have := outS_size l hl; omega
 refine Ev.bind (impl_IsCandidate_ev l hl hb) ?_
 cases cand l
 · simp only [Bool.false_eq_true, if_false]
   exact Ev.const rfl
 · simp only [if_true]
   refine Ev.bind (impl_OutputOf_ev l hl hb) ?_
   refine Ev.ite (fun _ => Ev.bind (impl_CountOnsetless_ev _ ho) (Ev.const rfl)) (fun _ => ?_)
   refine Ev.ite (fun _ => Ev.bind (impl_CountCodas_ev _ ho) (Ev.const rfl)) (fun _ => ?_)
   refine Ev.ite (fun _ => Ev.bind (impl_CountClusters_ev _ ho) (Ev.const rfl)) (fun _ => ?_)
   refine Ev.ite (fun _ => Ev.bind (impl_CountVoiced_ev _ ho) (Ev.const rfl)) (fun _ => ?_)
   refine Ev.ite (fun _ => Ev.bind (impl_CountFinalVoiced_ev _ ho) (Ev.const rfl)) (fun _ => ?_)
   refine Ev.ite (fun _ => Ev.bind (impl_CountNasalVoiceless_ev _ ho) (Ev.const rfl)) (fun _ => ?_)
   refine Ev.ite (fun _ => Ev.bind (impl_CountDeleted_ev l hl hb) (Ev.const rfl)) (fun _ => ?_)
   refine Ev.ite (fun _ => Ev.bind (impl_CountInserted_ev l hl hb) (Ev.const rfl)) (fun _ => ?_)
   refine Ev.ite (fun _ => Ev.bind (impl_CountVoiceChanged_ev l hl hb) (Ev.const rfl)) (fun _ => ?_)
   refine Ev.ite (fun _ => Ev.bind (impl_CountBreaks_ev l hl hb) (Ev.const rfl)) (fun _ => ?_)
   exact Ev.const rfl

def cnames : List ByteArray := [⟨#[111, 110, 115, 101, 116]⟩, ⟨#[110, 111, 99, 111, 100, 97]⟩, ⟨#[99, 108, 117, 115, 116, 101, 114]⟩, ⟨#[118, 111, 105, 99, 101]⟩, ⟨#[102, 105, 110, 97, 108]⟩, ⟨#[110, 97, 115, 97, 108]⟩, ⟨#[109, 97, 120]⟩, ⟨#[100, 101, 112]⟩, ⟨#[105, 100, 101, 110, 116]⟩, ⟨#[99, 111, 110, 116, 105, 103]⟩]
theorem spec_ConstraintNames_eq : spec_ConstraintNames.f = some cnames := rfl
theorem impl_ConstraintNames_eq : impl_ConstraintNames.f = some cnames := rfl

def areC1 (l : List ByteArray) (j : Nat) : Bool := decide (l.getD j ByteArray.empty ∈ cnames) && !decide (l.getD j ByteArray.empty ∈ l.take j)
def areC (l : List ByteArray) : Bool := allFrom (areC1 l) l.length 0 && decide (1 ≤ l.length ∧ l.length ≤ 5)
theorem getS (l : List ByteArray) (j : Nat) (h : j < l.length) : l.getD j ByteArray.empty = l[j] := by simp [h]

theorem spec_l1In_eq (a b c : Int) : spec_l1In.f a b c = some (decide (b ≤ a ∧ a ≤ c)) := by
 unfold spec_l1In.f
 split
 · have : b ≤ a := by omega
   simp [*]
 · have : ¬ b ≤ a := by omega
   simp [*]

theorem spec_l3Has_ev (l : List ByteArray) (x : ByteArray) (hl : l.length ≤ 1048576) : Ev (fun k => spec_l3Has.f k l x) (decide (x ∈ l)) := by
 unfold spec_l3Has.f
 have key : ∀ i, i ≤ l.length → Ev (fun k => spec_l3Has.l0 k l x (i : Int)) (decide (x ∈ l.drop i)) := by
  refine down_ind ?_ ?_
  · refine Ev.succ ?_
    simp only [spec_l3Has.l0, Int.lt_irrefl, if_false]
    exact Ev.const (by simp)
  · intro i hi ih
    refine Ev.succ ?_
    simp only [spec_l3Has.l0, if_pos (show (i : Int) < (l.length : Int) by omega), if_pos (show (0 : Int) ≤ i by omega), rdOf_nat _ l i hi, toList_inj, wrap_succ (show i ≤ 4611686018427387903 by omega)]
    rw [drop_cons l i hi]
    by_cases he : l[i] = x
    · simp only [if_pos he]
      exact Ev.const (by rw [he]; simp)
    · simp only [if_neg he]
      refine Ev.cast ih ?_
      rw [decide_eq_decide, List.mem_cons]
      constructor
      · exact .inr
      · rintro (h | h)
        · exact absurd h.symm he
        · exact h
 exact key 0 (by omega)

theorem spec_AreConstraints_ev (l : List ByteArray) (hl : l.length ≤ 1048576) : Ev (fun k => spec_AreConstraints.f k l) (areC l) := by
 unfold spec_AreConstraints.f areC
 have key : ∀ i, i ≤ l.length → Ev (fun k => spec_AreConstraints.l0 k l (i : Int)) (allFrom (areC1 l) l.length i && decide (1 ≤ l.length ∧ l.length ≤ 5)) := by
  refine down_ind ?_ ?_
  · refine Ev.succ ?_
    simp only [spec_AreConstraints.l0, Int.lt_irrefl, if_false, spec_l1In_eq, Option.bind_some, allFrom_end _ (Nat.le_refl _), Bool.true_and]
    exact Ev.const (congrArg some (decide_eq_decide.2 (by omega)))
  · intro i hi ih
    refine Ev.succ ?_
    rw [allFrom_step _ hi, areC1, getS l i hi]
    simp only [spec_AreConstraints.l0, if_pos (show (i : Int) < (l.length : Int) by omega), if_pos (show (0 : Int) ≤ i by omega), spec_ConstraintNames_eq, Option.bind_some, rdOf_nat _ l i hi]
    refine Ev.bind (spec_l3Has_ev cnames l[i] (by decide)) ?_
    by_cases h1 : l[i] ∈ cnames
    · simp only [h1, decide_true, if_true, if_pos (show (i : Int) ≤ (l.length : Int) by omega), Int.toNat_natCast, Bool.true_and]
      refine Ev.bind (spec_l3Has_ev (l.take i) l[i] (by rw [List.length_take]; omega)) ?_
      by_cases h2 : l[i] ∈ l.take i
      · simp only [h2, decide_true, if_true]
        exact Ev.const rfl
      · simp only [h2, decide_false, Bool.false_eq_true, if_false, wrap_succ (show i ≤ 4611686018427387903 by omega), Bool.not_false, Bool.true_and]
        exact ih
    · simp only [h1, decide_false, Bool.false_eq_true, if_false, Bool.false_and]
      exact Ev.const rfl
 exact key 0 (by omega)

theorem slices_Index_string_ev (l : List ByteArray) (x : ByteArray) (hl : l.length ≤ 1048576) : Ev (fun k => slices_Index_string_string.f k l x) (idxS l x 0) := by
 unfold slices_Index_string_string.f
 have key : ∀ i, i ≤ l.length → Ev (fun k => slices_Index_string_string.l0 k l x (l.length : Int) (i : Int)) (idxS (l.drop i) x i) := by
  refine down_ind ?_ ?_
  · refine Ev.succ ?_
    simp only [slices_Index_string_string.l0, Int.lt_irrefl, if_false]
    exact Ev.const (by rw [List.drop_of_length_le (Nat.le_refl _)]; rfl)
  · intro i hi ih
    refine Ev.succ ?_
    simp only [slices_Index_string_string.l0, if_pos (show (i : Int) < (l.length : Int) by omega), if_pos (show (0 : Int) ≤ i by omega), rdOf_nat _ l i hi, toList_inj, wrap_succ (show i ≤ 4611686018427387903 by omega)]
    rw [drop_cons l i hi]
    by_cases he : x = l[i]
    · simp only [if_pos he]
      exact Ev.const (by simp only [idxS, if_pos he])
    · simp only [if_neg he]
      exact Ev.cast ih (by simp only [idxS, if_neg he]; rfl)
 exact key 0 (by omega)

theorem slices_Contains_string_ev (l : List ByteArray) (x : ByteArray) (hl : l.length ≤ 1048576) : Ev (fun k => slices_Contains_string_string.f k l x) (decide (x ∈ l)) := by
 unfold slices_Contains_string_string.f
 refine Ev.bind (slices_Index_string_ev l x hl) (Ev.const ?_)
 simp only [ge_iff_le, idxS_mem x l 0 (Int.le_refl _)]

theorem impl_AreConstraints_ev (l : List ByteArray) (hl : l.length ≤ 1048576) : Ev (fun k => impl_AreConstraints.f k l) (areC l) := by
 unfold impl_AreConstraints.f areC
 have key : ∀ i, i ≤ l.length → Ev (fun k => impl_AreConstraints.l0 k l l (l.length : Int) (i : Int)) (allFrom (areC1 l) l.length i && decide (1 ≤ l.length ∧ l.length ≤ 5)) := by
  refine down_ind ?_ ?_
  · refine Ev.succ ?_
    simp only [impl_AreConstraints.l0, Int.lt_irrefl, if_false, impl_within_eq, Option.bind_some, allFrom_end _ (Nat.le_refl _), Bool.true_and]
    exact Ev.const (congrArg some (decide_eq_decide.2 (by omega)))
  · intro i hi ih
    refine Ev.succ ?_
    rw [allFrom_step _ hi, areC1, getS l i hi]
    simp only [impl_AreConstraints.l0, if_pos (show (i : Int) < (l.length : Int) by omega), if_pos (show (0 : Int) ≤ i by omega), impl_ConstraintNames_eq, Option.bind_some, rdOf_nat _ l i hi]
    refine Ev.bind (slices_Contains_string_ev cnames l[i] (by decide)) ?_
    by_cases h1 : l[i] ∈ cnames
    · simp only [h1, decide_true, if_true, if_pos (show (i : Int) ≤ (l.length : Int) by omega), Int.toNat_natCast, Bool.true_and]
      refine Ev.bind (slices_Contains_string_ev (l.take i) l[i] (by rw [List.length_take]; omega)) ?_
      by_cases h2 : l[i] ∈ l.take i
      · simp only [h2, decide_true, if_true]
        exact Ev.const rfl
      · simp only [h2, decide_false, Bool.false_eq_true, if_false, wrap_succ (show i ≤ 4611686018427387903 by omega), Bool.not_false, Bool.true_and]
        exact ih
    · simp only [h1, decide_false, Bool.false_eq_true, if_false, Bool.false_and]
      exact Ev.const rfl
 exact key 0 (by omega)

def prof (n : List ByteArray) (l : List ILink) : List Int := if areC n = true ∧ cand l = true then n.map (fun s => viol s l) else []
theorem spec_ProfileOf_ev (n : List ByteArray) (l : List ILink) (hn : n.length ≤ 1048576) (hl : l.length ≤ 1048576) (hb : ∀ x ∈ l, okB x) : Ev (fun k => spec_ProfileOf.f k n l) (prof n l) := by
 unfold spec_ProfileOf.f prof
 have key : ∀ i, i ≤ n.length → ∀ acc : List Int, acc.length ≤ i → Ev (fun k => spec_ProfileOf.l0 k n acc (i : Int) l) (acc ++ (if areC n = true ∧ cand l = true then (n.drop i).map (fun s => viol s l) else [])) := by
  refine down_ind ?_ ?_
  · intro acc _
    refine Ev.succ ?_
    simp only [spec_ProfileOf.l0, Int.lt_irrefl, if_false]
    exact Ev.const (by simp)
  · intro i hi ih acc hacc
    refine Ev.succ ?_
    simp only [spec_ProfileOf.l0, if_pos (show (i : Int) < (n.length : Int) by omega), if_pos (show (0 : Int) ≤ i by omega), rdOf_nat _ n i hi, if_pos (show acc.length < 17592186044416 by omega), wrap_succ (show i ≤ 4611686018427387903 by omega)]
    refine Ev.bind (spec_AreConstraints_ev n hn) ?_
    cases hc : areC n
    · simp only [Bool.false_eq_true, if_false, false_and]
      exact Ev.const (by simp)
    · simp only [if_true, true_and]
      refine Ev.bind (spec_IsCandidate_ev l hl hb) ?_
      cases hk : cand l
      · simp only [Bool.false_eq_true, if_false]
        exact Ev.const (by simp)
      · simp only [if_true]
        refine Ev.bind (spec_ViolationsOf_ev _ l hl hb) ?_
        refine Ev.cast (ih (acc ++ [viol n[i] l]) (by simp; omega)) ?_
        rw [drop_cons n i hi]
        simp only [hc, hk, and_self, if_true, List.map_cons, List.append_assoc, List.cons_append, List.nil_append]
 refine Ev.cast (key 0 (by omega) [] (by simp)) ?_
 simp
theorem impl_ProfileOf_ev (n : List ByteArray) (l : List ILink) (hn : n.length ≤ 1048576) (hl : l.length ≤ 1048576) (hb : ∀ x ∈ l, okB x) : Ev (fun k => impl_ProfileOf.f k n l) (prof n l) := by
 unfold impl_ProfileOf.f prof
 refine Ev.bind (impl_AreConstraints_ev n hn) ?_
 cases areC n
 · simp only [Bool.false_eq_true, if_false, false_and]
   refine Ev.succ ?_
   simp only [impl_ProfileOf.j0, if_true]
   exact Ev.const rfl
 · simp only [if_true, true_and]
   refine Ev.bind (impl_IsCandidate_ev l hl hb) ?_
   cases cand l
   · refine Ev.succ ?_
     simp only [impl_ProfileOf.j0, Bool.not_false, if_true, Bool.false_eq_true, if_false]
     exact Ev.const rfl
   · refine Ev.succ ?_
     simp only [impl_ProfileOf.j0, Bool.not_true, Bool.false_eq_true, if_false, if_true]
     have key : ∀ i, i ≤ n.length → ∀ acc : List Int, acc.length ≤ i → Ev (fun k => impl_ProfileOf.l0 k acc n (n.length : Int) (i : Int) l) (acc ++ (n.drop i).map (fun s => viol s l)) := by
      refine down_ind ?_ ?_
      · intro acc _
        refine Ev.succ ?_
        simp only [impl_ProfileOf.l0, Int.lt_irrefl, if_false]
        exact Ev.const (by simp)
      · intro i hi ih acc hacc
        refine Ev.succ ?_
        simp only [impl_ProfileOf.l0, if_pos (show (i : Int) < (n.length : Int) by omega), if_pos (show (0 : Int) ≤ i by omega), rdOf_nat _ n i hi, if_pos (show acc.length < 17592186044416 by omega), wrap_succ (show i ≤ 4611686018427387903 by omega)]
        refine Ev.bind (impl_ViolationsOf_ev _ l hl hb) ?_
        refine Ev.cast (ih (acc ++ [viol n[i] l]) (by simp; omega)) ?_
        rw [drop_cons n i hi]
        simp only [List.map_cons, List.append_assoc, List.cons_append, List.nil_append]
     refine Ev.cast (key 0 (by omega) [] (by simp)) ?_
     simp

theorem spec_l5Same_ev (a b : List Int) (hl : a.length ≤ 1048576) : Ev (fun k => spec_l5Same.f k a b) (decide (a = b)) := by
 unfold spec_l5Same.f
 by_cases hab : a.length = b.length
 · simp only [if_pos (show (a.length : Int) = (b.length : Int) by omega)]
   have key : ∀ i, i ≤ a.length → Ev (fun k => spec_l5Same.l0 k a b (i : Int)) (decide (a.drop i = b.drop i)) := by
    refine down_ind ?_ ?_
    · refine Ev.succ ?_
      simp only [spec_l5Same.l0, Int.lt_irrefl, if_false]
      refine Ev.const ?_
      rw [List.drop_of_length_le (Nat.le_refl _), List.drop_of_length_le (by omega)]
      rfl
    · intro i hi ih
      have hb : i < b.length := by omega
      refine Ev.succ ?_
      simp only [spec_l5Same.l0, if_pos (show (i : Int) < (a.length : Int) by omega), if_pos (show (0 : Int) ≤ i by omega), if_pos (show (i : Int) < (b.length : Int) by omega), rd_nat a i hi, rd_nat b i hb, wrap_succ (show i ≤ 4611686018427387903 by omega)]
      rw [drop_cons a i hi, drop_cons b i hb]
      by_cases he : a[i] = b[i]
      · simp only [if_pos he]
        exact Ev.cast ih (by simp only [List.cons.injEq, he, true_and])
      · simp only [if_neg he]
        exact Ev.const (by simp only [List.cons.injEq, he, false_and, decide_false])
   exact key 0 (by omega)
 · simp only [if_neg (show ¬ (a.length : Int) = (b.length : Int) by omega)]
   exact Ev.const (by
    have : a ≠ b := fun h => hab (by rw [h])
    simp [this])

theorem slices_Equal_int_ev (a b : List Int) (hl : a.length ≤ 1048576) : Ev (fun k => slices_Equal_int_int.f k a b) (decide (a = b)) := by
 unfold slices_Equal_int_int.f
 by_cases hab : a.length = b.length
 · simp only [if_pos (show (a.length : Int) = (b.length : Int) by omega)]
   have key : ∀ i, i ≤ a.length → Ev (fun k => slices_Equal_int_int.l0 k a b (a.length : Int) (i : Int)) (decide (a.drop i = b.drop i)) := by
    refine down_ind ?_ ?_
    · refine Ev.succ ?_
      simp only [slices_Equal_int_int.l0, Int.lt_irrefl, if_false]
      refine Ev.const ?_
      rw [List.drop_of_length_le (Nat.le_refl _), List.drop_of_length_le (by omega)]
      rfl
    · intro i hi ih
      have hb : i < b.length := by omega
      refine Ev.succ ?_
      simp only [slices_Equal_int_int.l0, if_pos (show (i : Int) < (a.length : Int) by omega), if_pos (show (0 : Int) ≤ i by omega), if_pos (show (i : Int) < (b.length : Int) by omega), rd_nat a i hi, rd_nat b i hb, wrap_succ (show i ≤ 4611686018427387903 by omega)]
      rw [drop_cons a i hi, drop_cons b i hb]
      by_cases he : a[i] = b[i]
      · simp only [if_pos he]
        exact Ev.cast ih (by simp only [List.cons.injEq, he, true_and])
      · simp only [if_neg he]
        exact Ev.const (by simp only [List.cons.injEq, he, false_and, decide_false])
   exact key 0 (by omega)
 · simp only [if_neg (show ¬ (a.length : Int) = (b.length : Int) by omega)]
   exact Ev.const (by
    have : a ≠ b := fun h => hab (by rw [h])
    simp [this])

def rowAt (s : ByteArray) (n : List ByteArray) (p : ICand × List Int) : Bool := decide (inS p.1.f0 = s) && (cand p.1.f0 && decide (p.2 = prof n p.1.f0))
def isTab (s : ByteArray) (n : List ByteArray) (r : List ICand) (m : List (List Int)) : Bool := areC n && (form (B s) && (decide (1 ≤ (r.length : Int) ∧ (r.length : Int) ≤ 250) && (decide (m.length = r.length) && (r.zip m).all (rowAt s n))))
theorem spec_l11Same_ev (a b : List Int) (hl : a.length ≤ 1048576) : Ev (fun k => spec_l11Same.f k a b) (decide (a = b)) := by
 unfold spec_l11Same.f
 exact Ev.bind (spec_l5Same_ev a b hl) (Ev.const rfl)
theorem spec_IsTableau_ev (s : ByteArray) (n : List ByteArray) (r : List ICand) (m : List (List Int)) (hs : s.size ≤ 1048576) (hn : n.length ≤ 1048576) (hr : okR r) (hrl : r.length ≤ 1048576) (hm : m.length + lensII m ≤ 1048576) : Ev (fun k => spec_IsTableau.f k s n r m) (isTab s n r m) := by
 unfold spec_IsTableau.f isTab
 have bad : ∀ x, x = false → Ev (fun k => spec_IsTableau.j0 k true s n r m) x := by
  rintro x rfl
  refine Ev.succ ?_
  simp only [spec_IsTableau.j0, if_true]
  exact Ev.const rfl
 refine Ev.bind (spec_AreConstraints_ev n hn) ?_
 cases areC n
 · simp only [Bool.false_eq_true, if_false]
   exact bad _ (by simp)
 · simp only [if_true, Bool.true_and]
   refine Ev.bind (spec_IsForm_ev s (by omega)) ?_
   cases form (B s)
   · simp only [Bool.false_eq_true, if_false]
     exact bad _ (by simp)
   · simp only [if_true, Bool.true_and, spec_l1In_eq, Option.bind_some]
     by_cases h1 : 1 ≤ (r.length : Int) ∧ (r.length : Int) ≤ 250
     · simp only [h1, and_self, decide_true, if_true, Bool.true_and]
       by_cases h2 : m.length = r.length
       · simp only [h2, bne_self_eq_false, decide_true, Bool.true_and]
         refine Ev.succ ?_
         simp only [spec_IsTableau.j0, Bool.false_eq_true, if_false]
         have key : ∀ i, i ≤ r.length → Ev (fun k => spec_IsTableau.l0 k (i : Int) s n r m) (((r.drop i).zip (m.drop i)).all (rowAt s n)) := by
          refine down_ind ?_ ?_
          · refine Ev.succ ?_
            simp only [spec_IsTableau.l0, Int.lt_irrefl, if_false]
            exact Ev.const (by simp)
          · intro i hi ih
            have hi' : i < m.length := by omega
            have ho := hr r[i] (List.getElem_mem hi)
            have hmi := lensII_get m i hi'
            refine Ev.succ ?_
            simp only [spec_IsTableau.l0, if_pos (show (i : Int) < (r.length : Int) by omega), if_pos (show (i : Int) < (m.length : Int) by omega), if_pos (show (0 : Int) ≤ i by omega), rdIC r i hi, rdII m i hi', toList_inj, wrap_succ (show i ≤ 4611686018427387903 by omega)]
            rw [drop_cons r i hi, drop_cons m i hi', List.zip_cons_cons, List.all_cons]
            refine Ev.bind (spec_InputOf_ev _ ho.2 ho.1) ?_
            by_cases h3 : inS r[i].f0 = s
            · simp only [if_pos h3, rowAt, h3, decide_true, Bool.true_and]
              refine Ev.bind (spec_IsCandidate_ev _ ho.2 ho.1) ?_
              cases cand r[i].f0
              · simp only [Bool.false_eq_true, if_false, Bool.false_and]
                exact Ev.const rfl
              · simp only [if_true, Bool.true_and]
                refine Ev.bind (spec_ProfileOf_ev n _ hn ho.2 ho.1) (Ev.bind (spec_l11Same_ev _ _ (by omega)) ?_)
                by_cases h4 : m[i] = prof n r[i].f0
                · simp only [h4, decide_true, if_true, Bool.true_and]
                  exact ih
                · simp only [h4, decide_false, Bool.false_eq_true, if_false, Bool.false_and]
                  exact Ev.const rfl
            · simp only [if_neg h3, rowAt, h3, decide_false, Bool.false_and]
              exact Ev.const rfl
         exact key 0 (by omega)
       · simp only [show ((m.length : Int) != (r.length : Int)) = true by rw [bne_iff_ne]; omega, h2, decide_false, Bool.false_and]
         exact bad _ rfl
     · simp only [h1, decide_false, Bool.false_eq_true, if_false, Bool.false_and]
       exact bad _ rfl
theorem impl_IsTableau_ev (s : ByteArray) (n : List ByteArray) (r : List ICand) (m : List (List Int)) (hs : s.size ≤ 1048576) (hn : n.length ≤ 1048576) (hr : okR r) (hrl : r.length ≤ 1048576) (hm : m.length + lensII m ≤ 1048576) : Ev (fun k => impl_IsTableau.f k s n r m) (isTab s n r m) := by
 unfold impl_IsTableau.f isTab
 have bad : ∀ x, x = false → Ev (fun k => impl_IsTableau.j0 k true s n r m) x := by
  rintro x rfl
  refine Ev.succ ?_
  simp only [impl_IsTableau.j0, if_true]
  exact Ev.const rfl
 refine Ev.bind (impl_AreConstraints_ev n hn) ?_
 cases areC n
 · simp only [Bool.false_eq_true, if_false]
   exact bad _ (by simp)
 · simp only [if_true, Bool.true_and]
   refine Ev.bind (impl_IsForm_ev s (by omega)) ?_
   cases form (B s)
   · simp only [Bool.false_eq_true, if_false]
     exact bad _ (by simp)
   · simp only [if_true, Bool.true_and, impl_within_eq, Option.bind_some]
     by_cases h1 : 1 ≤ (r.length : Int) ∧ (r.length : Int) ≤ 250
     · simp only [h1, and_self, decide_true, if_true, Bool.true_and]
       by_cases h2 : m.length = r.length
       · simp only [h2, bne_self_eq_false, decide_true, Bool.true_and]
         refine Ev.succ ?_
         simp only [impl_IsTableau.j0, Bool.false_eq_true, if_false]
         have key : ∀ i, i ≤ r.length → Ev (fun k => impl_IsTableau.l0 k r (r.length : Int) (i : Int) s n r m) (((r.drop i).zip (m.drop i)).all (rowAt s n)) := by
          refine down_ind ?_ ?_
          · refine Ev.succ ?_
            simp only [impl_IsTableau.l0, Int.lt_irrefl, if_false]
            exact Ev.const (by simp)
          · intro i hi ih
            have hi' : i < m.length := by omega
            have ho := hr r[i] (List.getElem_mem hi)
            have hmi := lensII_get m i hi'
            refine Ev.succ ?_
            simp only [impl_IsTableau.l0, if_pos (show (i : Int) < (r.length : Int) by omega), if_pos (show (i : Int) < (m.length : Int) by omega), if_pos (show (0 : Int) ≤ i by omega), rdIC r i hi, rdII m i hi', toList_inj, wrap_succ (show i ≤ 4611686018427387903 by omega)]
            rw [drop_cons r i hi, drop_cons m i hi', List.zip_cons_cons, List.all_cons]
            refine Ev.bind (impl_IsCandidate_ev _ ho.2 ho.1) ?_
            cases hc : cand r[i].f0
            · simp only [Bool.false_eq_true, if_false, rowAt, hc, Bool.false_and, Bool.and_false]
              exact Ev.const rfl
            · simp only [if_true]
              refine Ev.bind (impl_InputOf_ev _ ho.2 ho.1) ?_
              by_cases h3 : inS r[i].f0 = s
              · simp only [if_pos h3, rowAt, h3, decide_true, Bool.true_and, hc]
                refine Ev.bind (impl_ProfileOf_ev n _ hn ho.2 ho.1) (Ev.bind (slices_Equal_int_ev _ _ (by omega)) ?_)
                by_cases h4 : m[i] = prof n r[i].f0
                · simp only [h4, decide_true, if_true, Bool.true_and]
                  exact ih
                · simp only [h4, decide_false, Bool.false_eq_true, if_false, Bool.false_and]
                  exact Ev.const rfl
              · simp only [if_neg h3, rowAt, h3, decide_false, Bool.false_and]
                exact Ev.const rfl
         exact key 0 (by omega)
       · simp only [show ((m.length : Int) != (r.length : Int)) = true by rw [bne_iff_ne]; omega, h2, decide_false, Bool.false_and]
         exact bad _ rfl
     · simp only [h1, decide_false, Bool.false_eq_true, if_false, Bool.false_and]
       exact bad _ rfl

theorem isTab_len {s : ByteArray} {n : List ByteArray} {r : List ICand} {m : List (List Int)} (h : isTab s n r m = true) : m.length = r.length ∧ 1 ≤ r.length ∧ r.length ≤ 250 ∧ ∀ i (hi : i < m.length), m[i].length = n.length := by
 unfold isTab at h
 simp only [Bool.and_eq_true, decide_eq_true_eq] at h
 obtain ⟨ha, _, h1, h2, h3⟩ := h
 refine ⟨h2, by omega, by omega, fun i hi => ?_⟩
 have hz : i < (r.zip m).length := by rw [List.length_zip]; omega
 have hq := List.all_eq_true.1 h3 _ (List.getElem_mem hz)
 rw [List.getElem_zip] at hq
 unfold rowAt at hq
 simp only [Bool.and_eq_true, decide_eq_true_eq] at hq
 obtain ⟨_, hc, he⟩ := hq
 rw [he]
 unfold prof
 rw [if_pos ⟨ha, hc⟩, List.length_map]

def win (f : Nat → Nat → Int) (i : Nat) : List Nat := (List.range i).filter fun j => (List.range i).all fun k => decide (f j k ≤ 0)
structure Pre (f : Nat → Nat → Int) : Prop where
 refl : ∀ j, f j j = 0
 anti : ∀ j k, f j k = - f k j
 trans : ∀ i j k, f i j ≤ 0 → f j k ≤ 0 → f i k ≤ 0
def winNext (f : Nat → Nat → Int) (w : List Nat) (i : Nat) : List Nat :=
 let w' := if w ≠ [] ∧ f i (w.headD 0) < 0 then [] else w
 if w' = [] ∨ f i (w'.headD 0) = 0 then w' ++ [i] else w'
theorem win_mem {f : Nat → Nat → Int} {i j : Nat} : j ∈ win f i ↔ j < i ∧ ∀ k, k < i → f j k ≤ 0 := by simp [win]
theorem win_succ (f : Nat → Nat → Int) (i : Nat) : win f (i + 1) = (win f i).filter (fun j => decide (f j i ≤ 0)) ++ (if (∀ k, k < i → f i k ≤ 0) ∧ f i i ≤ 0 then [i] else []) := by
 unfold win
 rw [List.range_succ, List.filter_append, List.filter_filter]
 congr 1
 · apply List.filter_congr
   intro j hj
   simp [Bool.and_comm]
 · by_cases h : (∀ k, k < i → f i k ≤ 0) ∧ f i i ≤ 0
   · rw [if_pos h]
     simp [h.2]
     exact h.1
   · rw [if_neg h]
     simp only [List.filter_cons, List.filter_nil]
     rw [if_neg]
     simp
     intro h1
     exact Int.not_le.1 fun h2 => h ⟨h1, h2⟩
theorem win_next {f : Nat → Nat → Int} (hp : Pre f) (i : Nat) : win f (i + 1) = winNext f (win f i) i ∧ win f (i + 1) ≠ [] := by
 induction i with
 | zero =>
  rw [win_succ]
  simp [win, winNext, hp.refl]
 | succ n ih =>
  have hne := ih.2
  obtain ⟨w0, ws, hw⟩ : ∃ w0 ws, win f (n + 1) = w0 :: ws := by
   cases h : win f (n + 1) with
   | nil => exact absurd h hne
   | cons a b => exact ⟨a, b, rfl⟩
  have hm0 : w0 ∈ win f (n + 1) := by rw [hw]; exact List.mem_cons_self
  have h0 := win_mem.1 hm0
  have hall : ∀ j ∈ win f (n + 1), f j w0 ≤ 0 ∧ f w0 j ≤ 0 := fun j hj => ⟨(win_mem.1 hj).2 w0 h0.1, h0.2 j (win_mem.1 hj).1⟩
  have ha := hp.anti (n + 1) w0
  have key : win f (n + 1 + 1) = winNext f (win f (n + 1)) (n + 1) := by
   rw [win_succ]
   unfold winNext
   rcases Int.lt_trichotomy (f (n + 1) w0) 0 with h | h | h
   · rw [if_pos ⟨fun k hk => hp.trans _ _ _ (by omega) (h0.2 k hk), by rw [hp.refl]; omega⟩]
     have e : (win f (n + 1)).filter (fun j => decide (f j (n + 1) ≤ 0)) = [] := by
      rw [List.filter_eq_nil_iff]
      intro j hj hc
      have := hp.trans w0 j (n + 1) (hall j hj).2 (by simpa using hc)
      omega
     rw [e]
     simp [hw, h]
   · rw [if_pos ⟨fun k hk => hp.trans _ _ _ (by omega) (h0.2 k hk), by rw [hp.refl]; omega⟩]
     have e : (win f (n + 1)).filter (fun j => decide (f j (n + 1) ≤ 0)) = win f (n + 1) := by
      rw [List.filter_eq_self]
      intro j hj
      have := hp.trans j w0 (n + 1) (hall j hj).1 (by omega)
      simpa using this
     rw [e]
     simp [hw, h]
   · rw [if_neg (by rintro ⟨h1, _⟩; have := h1 w0 h0.1; omega)]
     have e : (win f (n + 1)).filter (fun j => decide (f j (n + 1) ≤ 0)) = win f (n + 1) := by
      rw [List.filter_eq_self]
      intro j hj
      have := hp.trans j w0 (n + 1) (hall j hj).1 (by omega)
      simpa using this
     rw [e]
     have h1 : ¬ f (n + 1) w0 < 0 := by omega
     have h2 : ¬ f (n + 1) w0 = 0 := by omega
     simp [hw, h1, h2]
  have some : ∀ (w' : List Nat) (p : Prop) [Decidable p], (if w' = [] ∨ p then w' ++ [n + 1] else w') ≠ [] := by
   intro w' p _ h
   by_cases h3 : w' = [] ∨ p
   · rw [if_pos h3] at h
     simp at h
   · rw [if_neg h3] at h
     exact h3 (.inl h)
  refine ⟨key, ?_⟩
  rw [key]
  exact some _ _

def rankAt (l : List Int) (n : Int) (j : Nat) : Bool := decide (0 ≤ l.getD j 0) && (decide (l.getD j 0 < n) && !((l.take j).contains (l.getD j 0)))
def rank (l : List Int) (n : Int) : Bool := allFrom (rankAt l n) l.length 0 && (decide (1 ≤ n ∧ n ≤ 5) && decide ((l.length : Int) = n))
theorem rank_get {l : List Int} {n : Int} (h : rank l n = true) (j : Nat) (hj : j < l.length) : 0 ≤ l[j] ∧ l[j] < n := by
 have := (allFrom_iff _ _ _).1 (Bool.and_eq_true_iff.1 h).1 j (by omega) hj
 simp [rankAt, hj] at this
 omega

theorem spec_l12Has_ev (l : List Int) (x : Int) (hl : l.length ≤ 140737488351232) : Ev (fun k => spec_l12Has.f k l x) (l.contains x) := by
 unfold spec_l12Has.f
 have key : ∀ i, i ≤ l.length → Ev (fun k => spec_l12Has.l0 k l x (i : Int)) ((l.drop i).contains x) := by
  refine down_ind ?_ ?_
  · refine Ev.succ ?_
    simp only [spec_l12Has.l0, Int.lt_irrefl, if_false]
    exact Ev.const (by simp)
  · intro i hi ih
    refine Ev.succ ?_
    simp only [spec_l12Has.l0, if_pos (show (i : Int) < (l.length : Int) by omega), if_pos (show (0 : Int) ≤ i by omega), rd_nat l i hi, wrap_succ (show i ≤ 4611686018427387903 by omega)]
    rw [drop_cons l i hi, List.contains_cons]
    by_cases h : l[i] = x
    · simp only [if_pos h]
      exact Ev.const (by simp [h])
    · simp only [if_neg h]
      rw [show (x == l[i]) = false from beq_eq_false_iff_ne.2 (fun e => h e.symm), Bool.false_or]
      exact ih
 exact key 0 (by omega)
theorem spec_IsRanking_ev (l : List Int) (n : Int) (hl : l.length ≤ 140737488351232) : Ev (fun k => spec_IsRanking.f k l n) (rank l n) := by
 unfold spec_IsRanking.f rank
 have key : ∀ i, i ≤ l.length → Ev (fun k => spec_IsRanking.l0 k l n (i : Int)) (allFrom (rankAt l n) l.length i && (decide (1 ≤ n ∧ n ≤ 5) && decide ((l.length : Int) = n))) := by
  refine down_ind ?_ ?_
  · refine Ev.succ ?_
    simp only [spec_IsRanking.l0, Int.lt_irrefl, if_false, spec_l1In_eq, Option.bind_some]
    rw [allFrom_end _ (Nat.le_refl _), Bool.true_and]
    by_cases h : 1 ≤ n ∧ n ≤ 5
    · simp only [h, decide_true, if_true, Bool.true_and]
      exact Ev.const (congrArg some (by by_cases e : (l.length : Int) = n <;> simp [e]))
    · simp only [h, decide_false, Bool.false_eq_true, if_false, Bool.false_and]
      exact Ev.const rfl
  · intro i hi ih
    refine Ev.succ ?_
    simp only [spec_IsRanking.l0, if_pos (show (i : Int) < (l.length : Int) by omega), if_pos (show (0 : Int) ≤ i by omega), if_pos (show (i : Int) ≤ (l.length : Int) by omega), rd_nat l i hi, Int.toNat_natCast, wrap_succ (show i ≤ 4611686018427387903 by omega)]
    rw [allFrom_step _ hi, rankAt, getD_in l i hi]
    by_cases h0 : l[i] < 0
    · simp only [if_pos h0, show ¬ 0 ≤ l[i] by omega, decide_false, Bool.false_and]
      exact Ev.const rfl
    · by_cases h1 : l[i] ≥ n
      · simp only [if_neg h0, if_pos h1, show ¬ l[i] < n by omega, decide_false, Bool.false_and, Bool.and_false]
        exact Ev.const rfl
      · simp only [if_neg h0, if_neg h1]
        refine Ev.bind (spec_l12Has_ev (l.take i) l[i] (by rw [List.length_take]; omega)) ?_
        simp only [show 0 ≤ l[i] by omega, show l[i] < n by omega, decide_true, Bool.true_and]
        cases (l.take i).contains l[i]
        · simp only [Bool.false_eq_true, if_false, Bool.not_false, Bool.true_and]
          exact ih
        · simp only [if_true, Bool.not_true, Bool.false_and]
          exact Ev.const rfl
 exact key 0 (by omega)

theorem less_eq (a b : Int) : cmp_Less_int.f a b = some (decide (a < b)) := by
 unfold cmp_Less_int.f cmp_isNaN_int.f
 simp
theorem rd_mid (A : List Int) (v : Int) (T : List Int) : rd (A ++ v :: T) (A.length : Int) = v := by simp [rd]
theorem swap_mid (A : List Int) (a v : Int) (T : List Int) : ((A ++ a :: v :: T).set (A.length + 1) a).set A.length v = A ++ v :: a :: T := by
 rw [List.set_append_right _ _ (by omega), show A.length + 1 - A.length = 1 by omega, List.set_cons_succ, List.set_cons_zero, List.set_append_right _ _ (Nat.le_refl _), Nat.sub_self, List.set_cons_zero]
abbrev asc (l : List Int) : Prop := l.Pairwise (· ≤ ·)
theorem insertion_ev (n : Nat) (hn : n ≤ 1000) : ∀ i, i ≤ n → 1 ≤ i → ∀ x : List Int, x.length = n → asc (x.take i) → ∃ s, Ev (fun k => slices_insertionSortOrdered_int.l0 k x 0 (n : Int) (i : Int)) s ∧ s.Perm x ∧ asc s := by
 refine down_ind ?_ ?_
 · intro _ x hx hs
   refine ⟨x, Ev.succ ?_, List.Perm.refl _, ?_⟩
   · simp only [slices_insertionSortOrdered_int.l0, Int.lt_irrefl, if_false]
     exact Ev.const rfl
   · rwa [List.take_of_length_le (by omega)] at hs
 · intro i hi ih hi1 x hx hs
   have inner : ∀ m : Nat, ∀ (A : List Int) (v : Int) (C D : List Int), A.length = m → A.length + C.length = i → (A ++ v :: (C ++ D)).length = n → asc (A ++ C) → (∀ c ∈ C, v < c) →
    ∃ s, Ev (fun k => slices_insertionSortOrdered_int.l1 k (A ++ v :: (C ++ D)) 0 (n : Int) (i : Int) (A.length : Int)) s ∧ s.Perm (A ++ v :: (C ++ D)) ∧ asc s := by
    intro m
    induction m with
    | zero =>
     intro A v C D hm hAC hlen hasc hv
     obtain rfl : A = [] := List.eq_nil_of_length_eq_zero hm
     obtain ⟨s, he, hp, hss⟩ := ih (by omega) (v :: (C ++ D)) (by simpa using hlen) (by
      rw [List.take_succ_cons, List.take_append_of_le_length (by simp at hAC; omega), List.take_of_length_le (by simp at hAC; omega)]
      exact List.pairwise_cons.2 ⟨fun c hc => Int.le_of_lt (hv c hc), by simpa using hasc⟩)
     refine ⟨s, Ev.succ ?_, hp, hss⟩
     simp only [slices_insertionSortOrdered_int.l1, List.nil_append, List.length_nil, Int.natCast_zero, gt_iff_lt, Int.lt_irrefl, if_false, wrap_succ (show i ≤ 4611686018427387903 by omega)]
     exact he
    | succ m ihm =>
     intro A v C D hm hAC hlen hasc hv
     obtain ⟨A', a, rfl⟩ : ∃ A' a, A = A' ++ [a] := ⟨A.dropLast, A.getLast (by intro e; simp [e] at hm), (List.dropLast_concat_getLast _).symm⟩
     have hA' : A'.length = m := by simpa using hm
     have e0 : A' ++ [a] ++ v :: (C ++ D) = A' ++ a :: v :: (C ++ D) := by simp
     have r1 : rd (A' ++ [a] ++ v :: (C ++ D)) ((m + 1 : Nat) : Int) = v := by
      rw [show ((m + 1 : Nat) : Int) = ((A' ++ [a]).length : Int) by simp [hA'], rd_mid]
     have r0 : rd (A' ++ [a] ++ v :: (C ++ D)) ((m : Nat) : Int) = a := by
      rw [e0, ← hA', rd_mid]
     have hm1 : m + 1 < n := by simp at hlen hAC; omega
     have hwr : wrap64 (((m + 1 : Nat) : Int) - 1) = ((m : Nat) : Int) := by unfold wrap64; omega
     by_cases hlt : v < a
     · obtain ⟨s, he, hp, hss⟩ := ihm A' v (a :: C) D hA' (by simp at hAC ⊢; omega) (by simp at hlen ⊢; omega) (by simpa using hasc) (by
        intro c hc
        rcases List.mem_cons.1 hc with rfl | hc
        · exact hlt
        · exact hv c hc)
       refine ⟨s, Ev.succ ?_, hp.trans ?_, hss⟩
       · simp only [slices_insertionSortOrdered_int.l1, hm, hwr, r1, r0, less_eq, Option.bind_some, hlt, decide_true, if_true, Int.toNat_natCast]
         simp only [if_pos (show ((m + 1 : Nat) : Int) > 0 by omega), if_pos (show (0 : Int) ≤ ((m + 1 : Nat) : Int) by omega), if_pos (show (0 : Int) ≤ (m : Int) by omega), if_pos (show ((m + 1 : Nat) : Int) < ((A' ++ [a] ++ v :: (C ++ D)).length : Int) by rw [hlen]; omega), if_pos (show (m : Int) < ((A' ++ [a] ++ v :: (C ++ D)).length : Int) by rw [hlen]; omega)]
         rw [e0, ← hA', swap_mid]
         exact he
       · rw [e0]
         exact (List.Perm.swap a v (C ++ D)).append_left A' |>.trans (List.Perm.refl _)
     · obtain ⟨s, he, hp, hss⟩ := ih (by omega) (A' ++ [a] ++ v :: (C ++ D)) hlen (by
        rw [show A' ++ [a] ++ v :: (C ++ D) = (A' ++ [a] ++ v :: C) ++ D by simp, List.take_append_of_le_length (by simp at hAC ⊢; omega), List.take_of_length_le (by simp at hAC ⊢; omega)]
        refine List.pairwise_append.2 ⟨(List.pairwise_append.1 hasc).1, List.pairwise_cons.2 ⟨fun c hc => Int.le_of_lt (hv c hc), (List.pairwise_append.1 hasc).2.1⟩, ?_⟩
        intro b hb c hc
        have hba : b ≤ v := by
         have h1 := (List.pairwise_append.1 (List.pairwise_append.1 hasc).1).2.2
         rcases List.mem_append.1 hb with hb | hb
         · have := h1 b hb a (by simp)
           omega
         · obtain rfl : b = a := by simpa using hb
           omega
        rcases List.mem_cons.1 hc with rfl | hc
        · exact hba
        · have := hv c hc
          omega)
       refine ⟨s, Ev.succ ?_, hp, hss⟩
       simp only [slices_insertionSortOrdered_int.l1, hm, hwr, r1, r0, less_eq, Option.bind_some, hlt, decide_false, Bool.false_eq_true, if_false]
       simp only [if_pos (show ((m + 1 : Nat) : Int) > 0 by omega), if_pos (show (0 : Int) ≤ ((m + 1 : Nat) : Int) by omega), if_pos (show (0 : Int) ≤ (m : Int) by omega), if_pos (show ((m + 1 : Nat) : Int) < ((A' ++ [a] ++ v :: (C ++ D)).length : Int) by rw [hlen]; omega), if_pos (show (m : Int) < ((A' ++ [a] ++ v :: (C ++ D)).length : Int) by rw [hlen]; omega), wrap_succ (show i ≤ 4611686018427387903 by omega)]
       exact he
   have hlt : i < x.length := by omega
   have hx' : x = x.take i ++ x[i] :: ([] ++ x.drop (i + 1)) := by
    rw [List.nil_append, ← drop_cons x i hlt, List.take_append_drop]
   have hti : (x.take i).length = i := by rw [List.length_take]; omega
   obtain ⟨s, he, hp, hss⟩ := inner i (x.take i) x[i] [] (x.drop (i + 1)) hti (by simp [hti]) (by rw [← hx']; exact hx) (by simpa using hs) (by simp)
   rw [← hx'] at he hp
   rw [hti] at he
   refine ⟨s, Ev.succ ?_, hp, hss⟩
   simp only [slices_insertionSortOrdered_int.l0, if_pos (show (i : Int) < (n : Int) by omega)]
   exact he
theorem insertionSort_ev (l : List Int) (h1 : 1 ≤ l.length) (hl : l.length ≤ 1000) : ∃ s, Ev (fun k => slices_insertionSortOrdered_int.f k l 0 l.length) s ∧ s.Perm l ∧ asc s := by
 obtain ⟨s, he, hp, hs⟩ := insertion_ev l.length hl 1 h1 (Nat.le_refl _) l rfl (by
  cases l with
  | nil => simp at h1
  | cons a l => simp)
 refine ⟨s, ?_, hp, hs⟩
 unfold slices_insertionSortOrdered_int.f
 rw [show wrap64 (0 + 1) = ((1 : Nat) : Int) by unfold wrap64; omega]
 exact he

def strictAt (s : List Int) (n : Int) (j : Nat) : Bool := decide (0 ≤ s.getD j 0 ∧ s.getD j 0 ≤ n - 1) && (decide (j = 0) || decide (s.getD (j - 1) 0 < s.getD j 0))
theorem impl_isStrict_ev (s : List Int) (n : Int) (hl : s.length ≤ 140737488351232) (hn : 1 ≤ n ∧ n ≤ 1048576) : Ev (fun k => impl_isStrict.f k s n) (allFrom (strictAt s n) s.length 0) := by
 unfold impl_isStrict.f
 have key : ∀ i, i ≤ s.length → Ev (fun k => impl_isStrict.l0 k s n s (s.length : Int) (i : Int)) (allFrom (strictAt s n) s.length i) := by
  refine down_ind ?_ ?_
  · refine Ev.succ ?_
    simp only [impl_isStrict.l0, Int.lt_irrefl, if_false]
    rw [allFrom_end _ (Nat.le_refl _)]
    exact Ev.const rfl
  · intro i hi ih
    refine Ev.succ ?_
    simp only [impl_isStrict.l0, if_pos (show (i : Int) < (s.length : Int) by omega), if_pos (show (0 : Int) ≤ i by omega), rd_nat s i hi, wrap_succ (show i ≤ 4611686018427387903 by omega), impl_within_eq, Option.bind_some, show wrap64 (n - 1) = n - 1 from wrap_in (by omega) (by omega)]
    rw [allFrom_step _ hi, strictAt, getD_in s i hi]
    by_cases h : 0 ≤ s[i] ∧ s[i] ≤ n - 1
    · simp only [h, decide_true, if_true, Bool.true_and]
      by_cases h0 : i = 0
      · subst h0
        simp only [gt_iff_lt, Int.natCast_zero, Int.lt_irrefl, if_false, decide_true, Bool.true_or, Bool.true_and]
        exact ih
      · have hi' : i - 1 < s.length := by omega
        simp only [if_pos (show (i : Int) > 0 by omega), show wrap64 ((i : Int) - 1) = ((i - 1 : Nat) : Int) by unfold wrap64; omega, if_pos (show (0 : Int) ≤ ((i - 1 : Nat) : Int) by omega), if_pos (show ((i - 1 : Nat) : Int) < (s.length : Int) by omega), rd_nat s (i - 1) hi', h0, decide_false, Bool.false_or]
        rw [getD_in s (i - 1) hi']
        by_cases h2 : s[i] ≤ s[i - 1]
        · simp only [if_pos h2, show ¬ s[i - 1] < s[i] by omega, decide_false, Bool.false_and]
          exact Ev.const rfl
        · simp only [if_neg h2, show s[i - 1] < s[i] by omega, decide_true, Bool.true_and]
          exact ih
    · simp only [h, decide_false, Bool.false_eq_true, if_false, Bool.false_and]
      exact Ev.const rfl
 exact key 0 (by omega)

end Go.Proofs.YtlmfpkiaikjlbaaGreat.Pure
