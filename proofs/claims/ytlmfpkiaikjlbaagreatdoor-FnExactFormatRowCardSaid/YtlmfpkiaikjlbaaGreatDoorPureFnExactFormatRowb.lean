/- The pure statement of the law FnExactFormatRow: for all arguments within bounds its printed function answers true. -/
import Derived.Test.YtlmfpkiaikjlbaaGreatDoorPFnExactFormatRowx
import Derived.Test.YtlmfpkiaikjlbaaGreatDoorUFnExactFormatRow
import Derived.Test.YtlmfpkiaikjlbaaGreatDoorPureFnExactFormatRowa
namespace Go.Proofs.YtlmfpkiaikjlbaaGreatDoor.Pure
open Go.RowKit Go.Proofs.YtlmfpkiaikjlbaaGreatDoorB Go.Proofs.YtlmfpkiaikjlbaaGreatDoor.PFnExactFormatRow Go.Proofs.YtlmfpkiaikjlbaaGreatDoorW.PrintWords Go.Proofs.YtlmfpkiaikjlbaaGreatDoorW.PrintLast Go.Proofs.YtlmfpkiaikjlbaaGreatDoorW.PrintMore
set_option linter.unusedVariables false
set_option linter.unusedSimpArgs false

theorem links_at_CountInserted_ev (l : List ILink) (hl : l.length ≤ 1048576) (hb : ∀ x ∈ l, okB x) (p : Int → Int → Bool) (hp : ∀ a b, impl_CountInserted_1.f a b = some (p a b)) :
 Ev (fun k => impl_links_at_CountInserted_1.f k l ()) ((cntK p l : Nat) : Int) := links_G_ev impl_CountInserted_1.f l hl hb p hp

theorem spec_CountInserted_gen (l : List ILink) (hl : l.length ≤ 1048576) (hb : ∀ x ∈ l, okB x) (p : Int → Int → Bool)
 (step : ∀ i (hi : i < l.length) (n : Nat), n ≤ i → ∀ r, Ev (fun k => spec_CountInserted.l0 k ((n + (if p l[i].f0 l[i].f1 then 1 else 0) : Nat) : Int) ((i + 1 : Nat) : Int) l) r → Ev (fun k => spec_CountInserted.j1 k (n : Int) (i : Int) true l) r) :
 Ev (fun k => spec_CountInserted.f k l) ((cntK p l : Nat) : Int) := by
 unfold spec_CountInserted.f cntK
 have key : ∀ i, i ≤ l.length → ∀ n : Nat, n ≤ i → Ev (fun k => spec_CountInserted.l0 k (n : Int) (i : Int) l) ((n + (if cand l then (l.drop i).countP (fun x => p x.f0 x.f1) else 0) : Nat) : Int) := by
  refine down_ind ?_ ?_
  · intro n _
    refine Ev.succ ?_
    simp only [spec_CountInserted.l0, Int.lt_irrefl, if_false]
    refine Ev.succ ?_
    simp only [spec_CountInserted.j1, Bool.false_eq_true, if_false]
    exact Ev.const (by simp)
  · intro i hi ih n hn
    refine Ev.succ ?_
    simp only [spec_CountInserted.l0, if_pos (show (i : Int) < (l.length : Int) by omega)]
    refine Ev.bind (spec_IsCandidate_ev l hl hb) ?_
    cases hc : cand l
    · refine Ev.succ ?_
      simp only [spec_CountInserted.j1, Bool.false_eq_true, if_false]
      exact Ev.const (by simp)
    · refine step i hi n hn _ ?_
      rw [drop_cons l i hi, List.countP_cons]
      refine Ev.cast (ih (n + (if p l[i].f0 l[i].f1 then 1 else 0)) (by split <;> omega)) ?_
      simp only [hc, if_true]
      omega
 refine Ev.cast (key 0 (by omega) 0 (by omega)) ?_
 simp

theorem impl_CountInserted_ev (l : List ILink) (hl : l.length ≤ 1048576) (hb : ∀ x ∈ l, okB x) : Ev (fun k => impl_CountInserted.f k l) ((cntK kIns l : Nat) : Int) := by
 unfold impl_CountInserted.f
 exact Ev.bind (links_at_CountInserted_ev l hl hb kIns (fun a b => by unfold impl_CountInserted_1.f kIns; rfl)) (Ev.const rfl)
theorem spec_CountInserted_ev (l : List ILink) (hl : l.length ≤ 1048576) (hb : ∀ x ∈ l, okB x) : Ev (fun k => spec_CountInserted.f k l) ((cntK kIns l : Nat) : Int) := by
 refine spec_CountInserted_gen l hl hb kIns ?_
 intro i hi n hn r ih
 refine Ev.succ ?_
 simp only [spec_CountInserted.j1, if_true, if_pos (show (0 : Int) ≤ i by omega), if_pos (show (i : Int) < (l.length : Int) by omega), rdK l i hi, wrap_succ (show i ≤ 4611686018427387903 by omega), wrap_succ (show n ≤ 4611686018427387903 by omega)]
 unfold kIns at ih
 by_cases h : l[i].f0 = 0
 · simpa [h] using ih
 · simpa [h] using ih

theorem links_at_CountVoiceChanged_ev (l : List ILink) (hl : l.length ≤ 1048576) (hb : ∀ x ∈ l, okB x) (p : Int → Int → Bool) (hp : ∀ a b, impl_CountVoiceChanged_1.f a b = some (p a b)) :
 Ev (fun k => impl_links_at_CountVoiceChanged_1.f k l ()) ((cntK p l : Nat) : Int) := links_G_ev impl_CountVoiceChanged_1.f l hl hb p hp

theorem spec_CountVoiceChanged_gen (l : List ILink) (hl : l.length ≤ 1048576) (hb : ∀ x ∈ l, okB x) (p : Int → Int → Bool)
 (step : ∀ i (hi : i < l.length) (n : Nat), n ≤ i → ∀ r, Ev (fun k => spec_CountVoiceChanged.l0 k ((n + (if p l[i].f0 l[i].f1 then 1 else 0) : Nat) : Int) ((i + 1 : Nat) : Int) l) r → Ev (fun k => spec_CountVoiceChanged.j1 k (n : Int) (i : Int) true l) r) :
 Ev (fun k => spec_CountVoiceChanged.f k l) ((cntK p l : Nat) : Int) := by
 unfold spec_CountVoiceChanged.f cntK
 have key : ∀ i, i ≤ l.length → ∀ n : Nat, n ≤ i → Ev (fun k => spec_CountVoiceChanged.l0 k (n : Int) (i : Int) l) ((n + (if cand l then (l.drop i).countP (fun x => p x.f0 x.f1) else 0) : Nat) : Int) := by
  refine down_ind ?_ ?_
  · intro n _
    refine Ev.succ ?_
    simp only [spec_CountVoiceChanged.l0, Int.lt_irrefl, if_false]
    refine Ev.succ ?_
    simp only [spec_CountVoiceChanged.j1, Bool.false_eq_true, if_false]
    exact Ev.const (by simp)
  · intro i hi ih n hn
    refine Ev.succ ?_
    simp only [spec_CountVoiceChanged.l0, if_pos (show (i : Int) < (l.length : Int) by omega)]
    refine Ev.bind (spec_IsCandidate_ev l hl hb) ?_
    cases hc : cand l
    · refine Ev.succ ?_
      simp only [spec_CountVoiceChanged.j1, Bool.false_eq_true, if_false]
      exact Ev.const (by simp)
    · refine step i hi n hn _ ?_
      rw [drop_cons l i hi, List.countP_cons]
      refine Ev.cast (ih (n + (if p l[i].f0 l[i].f1 then 1 else 0)) (by split <;> omega)) ?_
      simp only [hc, if_true]
      omega
 refine Ev.cast (key 0 (by omega) 0 (by omega)) ?_
 simp

theorem impl_CountVoiceChanged_ev (l : List ILink) (hl : l.length ≤ 1048576) (hb : ∀ x ∈ l, okB x) : Ev (fun k => impl_CountVoiceChanged.f k l) ((cntK kVoi l : Nat) : Int) := by
 unfold impl_CountVoiceChanged.f
 refine Ev.bind (links_at_CountVoiceChanged_ev l hl hb kVoi (fun a b => ?_)) (Ev.const rfl)
 unfold impl_CountVoiceChanged_1.f kVoi
 by_cases h : a = 0
 · simp [h]
 · by_cases h2 : b = 0
   · simp [h, h2]
   · simp only [if_neg h, if_neg h2, h, h2, decide_false, Bool.not_false, Bool.true_and]
     by_cases h3 : a = b
     · simp [h3]
     · simp [h3]
theorem spec_CountVoiceChanged_ev (l : List ILink) (hl : l.length ≤ 1048576) (hb : ∀ x ∈ l, okB x) : Ev (fun k => spec_CountVoiceChanged.f k l) ((cntK kVoi l : Nat) : Int) := by
 refine spec_CountVoiceChanged_gen l hl hb kVoi ?_
 intro i hi n hn r ih
 refine Ev.succ ?_
 simp only [spec_CountVoiceChanged.j1, if_true, if_pos (show (0 : Int) ≤ i by omega), if_pos (show (i : Int) < (l.length : Int) by omega), rdK l i hi, wrap_succ (show i ≤ 4611686018427387903 by omega), wrap_succ (show n ≤ 4611686018427387903 by omega)]
 unfold kVoi at ih
 by_cases h : l[i].f0 = 0
 · simpa [h] using ih
 · by_cases h2 : l[i].f1 = 0
   · simpa [h, h2] using ih
   · by_cases h3 : l[i].f0 = l[i].f1
     · simp only [if_neg h, if_neg h2, if_pos h3]
       simpa [h3] using ih
     · simp only [if_neg h, if_neg h2, if_neg h3]
       simpa [h, h2, h3] using ih

def kept (a b : Int) : Bool := !decide (a = 0) && !decide (b = 0)
def brk : List ILink → Bool → Nat → Nat
 | [], _, _ => 0
 | x :: l, s, p => if kept x.f0 x.f1 then p + brk l true 0 else if s then brk l s (p + 1) else brk l s p
def brks (l : List ILink) : Nat := if cand l then brk l false 0 else 0
def nks (l : List ILink) (j : Nat) : Nat := (l.take j).countP fun x => !kept x.f0 x.f1
theorem nks_succ (l : List ILink) (j : Nat) (h : j < l.length) : nks l (j + 1) = nks l j + (if kept l[j].f0 l[j].f1 then 0 else 1) := by
 unfold nks
 rw [take_snoc l j h, List.countP_append]
 cases hk : kept l[j].f0 l[j].f1 <;> simp [hk]
theorem impl_CountBreaks_ev (l : List ILink) (hl : l.length ≤ 1048576) (hb : ∀ x ∈ l, okB x) : Ev (fun k => impl_CountBreaks.f k l) ((brks l : Nat) : Int) := by
 unfold impl_CountBreaks.f brks
 have key : ∀ i, i ≤ l.length → ∀ (n p : Nat) (s : Bool), n + p ≤ i → Ev (fun k => impl_CountBreaks.l0 k (n : Int) (p : Int) s l (l.length : Int) (i : Int) l) ((n + (if cand l then brk (l.drop i) s p else 0) : Nat) : Int) := by
  refine down_ind ?_ ?_
  · intro n p s _
    refine Ev.succ ?_
    simp only [impl_CountBreaks.l0, Int.lt_irrefl, if_false]
    exact Ev.const (by simp [brk])
  · intro i hi ih n p s hn
    refine Ev.succ ?_
    simp only [impl_CountBreaks.l0, if_pos (show (i : Int) < (l.length : Int) by omega), if_pos (show (0 : Int) ≤ i by omega), rdK l i hi, wrap_succ (show i ≤ 4611686018427387903 by omega)]
    refine Ev.bind (impl_IsCandidate_ev l hl hb) ?_
    rw [drop_cons l i hi]
    cases hc : cand l
    · simp only [Bool.false_eq_true, if_false]
      refine Ev.cast (ih n p s (by omega)) ?_
      simp [hc]
    · have J : ∀ b, b = kept l[i].f0 l[i].f1 → Ev (fun k => impl_CountBreaks.j1 k (n : Int) (p : Int) s l (l.length : Int) (i : Int) b l) ((n + brk (l[i] :: l.drop (i + 1)) s p : Nat) : Int) := by
       intro b e
       refine Ev.succ ?_
       simp only [impl_CountBreaks.j1, brk, ← e, wrap_succ (show i ≤ 4611686018427387903 by omega), wrap_succ (show p ≤ 4611686018427387903 by omega)]
       cases b
       · simp only [Bool.false_eq_true, if_false]
         cases s
         · simp only [Bool.false_eq_true, if_false]
           refine Ev.cast (ih n p false (by omega)) ?_
           simp [hc]
         · simp only [if_true]
           refine Ev.cast (ih n (p + 1) true (by omega)) ?_
           simp [hc]
       · simp only [if_true]
         rw [show wrap64 ((n : Int) + (p : Int)) = ((n + p : Nat) : Int) by unfold wrap64; omega]
         refine Ev.cast (ih (n + p) 0 true (by omega)) ?_
         simp [hc]
         omega
      simp only [if_true]
      by_cases h0 : l[i].f0 = 0
      · simp only [if_pos h0]
        exact J false (by simp [kept, h0])
      · simp only [if_neg h0]
        exact J _ (by simp only [kept, h0, decide_false, Bool.not_false, Bool.true_and]; rw [bne_iff_decide])
 refine Ev.cast (key 0 (by omega) 0 0 false (by omega)) ?_
 simp
theorem spec_l9Kept_eq (a b : Int) : spec_l9Kept.f a b = some (kept a b) := by
 unfold spec_l9Kept.f kept
 by_cases h : a = 0
 · simp [h]
 · rw [if_neg h, bne_iff_decide]
   simp [h]
theorem spec_CountBreaks_ev (l : List ILink) (hl : l.length ≤ 1048576) (hb : ∀ x ∈ l, okB x) : Ev (fun k => spec_CountBreaks.f k l) ((brks l : Nat) : Int) := by
 unfold spec_CountBreaks.f brks
 have L1 : ∀ e : Nat, e ≤ l.length → ∀ j, j ≤ e → ∀ n : Nat, n ≤ j → Ev (fun k => spec_CountBreaks.l1 k (e : Int) (n : Int) (j : Int) l) ((n + (nks l e - nks l j) : Nat) : Int) := by
  intro e he
  have mono : ∀ j, j ≤ e → nks l j ≤ nks l e := by
   refine down_ind (Nat.le_refl _) ?_
   intro j hj ih
   rw [nks_succ l j (by omega)] at ih
   omega
  refine down_ind ?_ ?_
  · intro n _
    refine Ev.succ ?_
    simp only [spec_CountBreaks.l1, Int.lt_irrefl, if_false]
    exact Ev.const (by simp)
  · intro j hj ih n hn
    have hjl : j < l.length := by omega
    have hs := nks_succ l j hjl
    have hm := mono (j + 1) hj
    refine Ev.succ ?_
    simp only [spec_CountBreaks.l1, if_pos (show (j : Int) < (e : Int) by omega), if_pos (show (0 : Int) ≤ j by omega), if_pos (show (j : Int) < (l.length : Int) by omega), rdK l j hjl, spec_l9Kept_eq, Option.bind_some, wrap_succ (show j ≤ 4611686018427387903 by omega), wrap_succ (show n ≤ 4611686018427387903 by omega)]
    cases hk : kept l[j].f0 l[j].f1
    · rw [hk] at hs
      simp only [Bool.false_eq_true, if_false] at hs ⊢
      refine Ev.cast (ih (n + 1) (by omega)) ?_
      congr 1
      omega
    · rw [hk] at hs
      simp only [if_true] at hs ⊢
      refine Ev.cast (ih n (by omega)) ?_
      congr 1
      omega
 have none_ : Ev (fun k => spec_CountBreaks.l1 k (-1) 0 (mx 0 (-1)) l) 0 := by
  refine Ev.succ ?_
  simp only [spec_CountBreaks.l1, show ¬ (mx 0 (-1) < (-1 : Int)) by decide, if_false]
  exact Ev.const rfl
 have seen : ∀ i, i ≤ l.length → cand l = true → ∀ F e : Nat, F ≤ e → e < i → nks l F ≤ nks l e → nks l i + e + 1 = nks l e + i → Ev (fun k => spec_CountBreaks.l0 k (F : Int) (e : Int) (i : Int) l) (((nks l e - nks l F) + brk (l.drop i) true (i - 1 - e) : Nat) : Int) := by
  refine down_ind ?_ ?_
  · intro hc F e hF he hm hi
    refine Ev.succ ?_
    simp only [spec_CountBreaks.l0, Int.lt_irrefl, if_false]
    refine Ev.succ ?_
    simp only [spec_CountBreaks.j1, Bool.false_eq_true, if_false, show mx 0 (F : Int) = (F : Int) by unfold mx; split <;> omega]
    refine Ev.cast (L1 e (by omega) F hF 0 (by omega)) ?_
    simp [brk]
  · intro i hi ih hc F e hF he hm hinv
    have hs := nks_succ l i hi
    refine Ev.succ ?_
    simp only [spec_CountBreaks.l0, if_pos (show (i : Int) < (l.length : Int) by omega)]
    refine Ev.bind (spec_IsCandidate_ev l hl hb) ?_
    rw [hc]
    refine Ev.succ ?_
    simp only [spec_CountBreaks.j1, if_true, if_pos (show (0 : Int) ≤ i by omega), if_pos (show (i : Int) < (l.length : Int) by omega), rdK l i hi, spec_l9Kept_eq, Option.bind_some, wrap_succ (show i ≤ 4611686018427387903 by omega), if_neg (show ¬ (F : Int) < 0 by omega)]
    rw [drop_cons l i hi]
    simp only [brk]
    cases hk : kept l[i].f0 l[i].f1
    · rw [hk] at hs
      simp only [Bool.false_eq_true, if_false, if_true] at hs ⊢
      refine Ev.cast (ih hc F e hF (by omega) hm (by omega)) ?_
      rw [show i + 1 - 1 - e = i - 1 - e + 1 by omega]
    · rw [hk] at hs
      simp only [if_true] at hs ⊢
      refine Ev.cast (ih hc F i (by omega) (by omega) (by omega) (by omega)) ?_
      rw [show i + 1 - 1 - i = 0 by omega]
      congr 1
      omega
 have key : ∀ i, i ≤ l.length → Ev (fun k => spec_CountBreaks.l0 k (-1) (-1) (i : Int) l) ((if cand l then brk (l.drop i) false 0 else 0 : Nat) : Int) := by
  refine down_ind ?_ ?_
  · refine Ev.succ ?_
    simp only [spec_CountBreaks.l0, Int.lt_irrefl, if_false]
    refine Ev.succ ?_
    simp only [spec_CountBreaks.j1, Bool.false_eq_true, if_false]
    refine Ev.cast none_ ?_
    simp [brk]
  · intro i hi ih
    have hs := nks_succ l i hi
    refine Ev.succ ?_
    simp only [spec_CountBreaks.l0, if_pos (show (i : Int) < (l.length : Int) by omega)]
    refine Ev.bind (spec_IsCandidate_ev l hl hb) ?_
    cases hc : cand l
    · refine Ev.succ ?_
      simp only [spec_CountBreaks.j1, Bool.false_eq_true, if_false]
      exact none_
    · rw [hc] at ih
      refine Ev.succ ?_
      simp only [spec_CountBreaks.j1, if_true, if_pos (show (0 : Int) ≤ i by omega), if_pos (show (i : Int) < (l.length : Int) by omega), rdK l i hi, spec_l9Kept_eq, Option.bind_some, wrap_succ (show i ≤ 4611686018427387903 by omega), if_pos (show (-1 : Int) < 0 by omega)]
      rw [drop_cons l i hi]
      simp only [brk]
      cases hk : kept l[i].f0 l[i].f1
      · simp only [Bool.false_eq_true, if_false]
        exact ih
      · rw [hk] at hs
        simp only [if_true] at hs ⊢
        refine Ev.cast (seen (i + 1) (by omega) hc i i (Nat.le_refl _) (by omega) (Nat.le_refl _) (by omega)) ?_
        simp
 exact key 0 (by omega)

def viol (s : ByteArray) (l : List ILink) : Int := if cand l = true then
 (if s.toList = ([111, 110, 115, 101, 116] : List UInt8) then ((cntP pOnsetless (B (outS l)) : Nat) : Int) else
 if s.toList = ([110, 111, 99, 111, 100, 97] : List UInt8) then ((cntP pCodas (B (outS l)) : Nat) : Int) else
 if s.toList = ([99, 108, 117, 115, 116, 101, 114] : List UInt8) then ((cntP pClusters (B (outS l)) : Nat) : Int) else
 if s.toList = ([118, 111, 105, 99, 101] : List UInt8) then ((cntP pVoiced (B (outS l)) : Nat) : Int) else
 if s.toList = ([102, 105, 110, 97, 108] : List UInt8) then ((cntP pFinalVoiced (B (outS l)) : Nat) : Int) else
 if s.toList = ([110, 97, 115, 97, 108] : List UInt8) then ((cntP pNasalVoiceless (B (outS l)) : Nat) : Int) else
 if s.toList = ([109, 97, 120] : List UInt8) then ((cntK kDel l : Nat) : Int) else
 if s.toList = ([100, 101, 112] : List UInt8) then ((cntK kIns l : Nat) : Int) else
 if s.toList = ([105, 100, 101, 110, 116] : List UInt8) then ((cntK kVoi l : Nat) : Int) else
 if s.toList = ([99, 111, 110, 116, 105, 103] : List UInt8) then ((brks l : Nat) : Int) else -1) else -1
theorem Ev.ite {α : Type} {c : Prop} [Decidable c] {g h : Nat → Option α} {x y : α} (h1 : c → Ev g x) (h2 : ¬ c → Ev h y) : Ev (fun k => if c then g k else h k) (if c then x else y) := by
 by_cases hc : c
 · simp only [if_pos hc]
   exact h1 hc
 · simp only [if_neg hc]
   exact h2 hc
theorem spec_ViolationsOf_ev (s : ByteArray) (l : List ILink) (hl : l.length ≤ 1048576) (hb : ∀ x ∈ l, okB x) : Ev (fun k => spec_ViolationsOf.f k s l) (viol s l) := by
 unfold spec_ViolationsOf.f viol
 have ho : (outS l).size ≤ 140737488351232 := by have := outS_size l hl; omega
 refine Ev.bind (spec_IsCandidate_ev l hl hb) ?_
 cases cand l
 · simp only [Bool.false_eq_true, if_false]
   exact Ev.const rfl
 · simp only [if_true]
   refine Ev.bind (spec_OutputOf_ev l hl hb) ?_
   refine Ev.ite (fun _ => Ev.bind (spec_CountOnsetless_ev _ ho) (Ev.const rfl)) (fun _ => ?_)
   refine Ev.ite (fun _ => Ev.bind (spec_CountCodas_ev _ ho) (Ev.const rfl)) (fun _ => ?_)
   refine Ev.ite (fun _ => Ev.bind (spec_CountClusters_ev _ ho) (Ev.const rfl)) (fun _ => ?_)
   refine Ev.ite (fun _ => Ev.bind (spec_CountVoiced_ev _ ho) (Ev.const rfl)) (fun _ => ?_)
   refine Ev.ite (fun _ => Ev.bind (spec_CountFinalVoiced_ev _ ho) (Ev.const rfl)) (fun _ => ?_)
   refine Ev.ite (fun _ => Ev.bind (spec_CountNasalVoiceless_ev _ ho) (Ev.const rfl)) (fun _ => ?_)
   refine Ev.ite (fun _ => Ev.bind (spec_CountDeleted_ev l hl hb) (Ev.const rfl)) (fun _ => ?_)
   refine Ev.ite (fun _ => Ev.bind (spec_CountInserted_ev l hl hb) (Ev.const rfl)) (fun _ => ?_)
   refine Ev.ite (fun _ => Ev.bind (spec_CountVoiceChanged_ev l hl hb) (Ev.const rfl)) (fun _ => ?_)
   refine Ev.ite (fun _ => Ev.bind (spec_CountBreaks_ev l hl hb) (Ev.const rfl)) (fun _ => ?_)
   exact Ev.const rfl
theorem impl_ViolationsOf_ev (s : ByteArray) (l : List ILink) (hl : l.length ≤ 1048576) (hb : ∀ x ∈ l, okB x) : Ev (fun k => impl_ViolationsOf.f k s l) (viol s l) := by
 unfold impl_ViolationsOf.f viol
 have ho : (outS l).size ≤ 140737488351232 := by have := outS_size l hl; omega
 refine Ev.bind (impl_IsCandidate_ev l hl hb) ?_
 cases cand l
 · simp only [Bool.false_eq_true, if_false]
   exact Ev.const rfl
 · simp only [if_true]
   refine Ev.bind (impl_OutputOf_ev l hl hb) ?_
   refine Ev.ite (fun _ => Ev.bind (impl_CountOnsetless_ev _ ho) (Ev.const rfl)) (fun _ => ?_)
   refine Ev.ite (fun _ => Ev.bind (impl_CountCodas_ev _ ho) (Ev.const rfl)) (fun _ => ?_)
   refine Ev.ite (fun _ => Ev.bind (impl_CountClusters_ev _ ho) (Ev.const rfl)) (fun _ => ?_)
   refine Ev.ite (fun _ => Ev.bind (impl_CountVoiced_ev _ ho) (Ev.const rfl)) (fun _ => ?_)
   refine Ev.ite (fun _ => Ev.bind (impl_CountFinalVoiced_ev _ ho) (Ev.const rfl)) (fun _ => ?_)
   refine Ev.ite (fun _ => Ev.bind (impl_CountNasalVoiceless_ev _ ho) (Ev.const rfl)) (fun _ => ?_)
   refine Ev.ite (fun _ => Ev.bind (impl_CountDeleted_ev l hl hb) (Ev.const rfl)) (fun _ => ?_)
   refine Ev.ite (fun _ => Ev.bind (impl_CountInserted_ev l hl hb) (Ev.const rfl)) (fun _ => ?_)
   refine Ev.ite (fun _ => Ev.bind (impl_CountVoiceChanged_ev l hl hb) (Ev.const rfl)) (fun _ => ?_)
   refine Ev.ite (fun _ => Ev.bind (impl_CountBreaks_ev l hl hb) (Ev.const rfl)) (fun _ => ?_)
   exact Ev.const rfl

def cnames : List ByteArray := [⟨#[111, 110, 115, 101, 116]⟩, ⟨#[110, 111, 99, 111, 100, 97]⟩, ⟨#[99, 108, 117, 115, 116, 101, 114]⟩, ⟨#[118, 111, 105, 99, 101]⟩, ⟨#[102, 105, 110, 97, 108]⟩, ⟨#[110, 97, 115, 97, 108]⟩, ⟨#[109, 97, 120]⟩, ⟨#[100, 101, 112]⟩, ⟨#[105, 100, 101, 110, 116]⟩, ⟨#[99, 111, 110, 116, 105, 103]⟩]
theorem spec_ConstraintNames_eq : spec_ConstraintNames.f = some cnames := rfl
theorem impl_ConstraintNames_eq : impl_ConstraintNames.f = some cnames := rfl

def areC1 (l : List ByteArray) (j : Nat) : Bool := decide (l.getD j ByteArray.empty ∈ cnames) && !decide (l.getD j ByteArray.empty ∈ l.take j)
def areC (l : List ByteArray) : Bool := allFrom (areC1 l) l.length 0 && decide (1 ≤ l.length ∧ l.length ≤ 5)
theorem getS (l : List ByteArray) (j : Nat) (h : j < l.length) : l.getD j ByteArray.empty = l[j] := by simp [h]

theorem spec_l1In_eq (a b c : Int) : spec_l1In.f a b c = some (decide (b ≤ a ∧ a ≤ c)) := by
 unfold spec_l1In.f
 split
 · have : b ≤ a := by omega
   simp [*]
 · have : ¬ b ≤ a := by omega
   simp [*]

theorem spec_l3Has_ev (l : List ByteArray) (x : ByteArray) (hl : l.length ≤ 1048576) : Ev (fun k => spec_l3Has.f k l x) (decide (x ∈ l)) := by
 unfold spec_l3Has.f
 have key : ∀ i, i ≤ l.length → Ev (fun k => spec_l3Has.l0 k l x (i : Int)) (decide (x ∈ l.drop i)) := by
  refine down_ind ?_ ?_
  · refine Ev.succ ?_
    simp only [spec_l3Has.l0, Int.lt_irrefl, if_false]
    exact Ev.const (by simp)
  · intro i hi ih
    refine Ev.succ ?_
    simp only [spec_l3Has.l0, if_pos (show (i : Int) < (l.length : Int) by omega), if_pos (show (0 : Int) ≤ i by omega), rdOf_nat _ l i hi, toList_inj, wrap_succ (show i ≤ 4611686018427387903 by omega)]
    rw [drop_cons l i hi]
    by_cases he : l[i] = x
    · simp only [if_pos he]
      exact Ev.const (by rw [he]; simp)
    · simp only [if_neg he]
      refine Ev.cast ih ?_
      rw [decide_eq_decide, List.mem_cons]
      constructor
      · exact .inr
      · rintro (h | h)
        · exact absurd h.symm he
        · exact h
 exact key 0 (by omega)

theorem spec_AreConstraints_ev (l : List ByteArray) (hl : l.length ≤ 1048576) : Ev (fun k => spec_AreConstraints.f k l) (areC l) := by
 unfold spec_AreConstraints.f areC
 have key : ∀ i, i ≤ l.length → Ev (fun k => spec_AreConstraints.l0 k l (i : Int)) (allFrom (areC1 l) l.length i && decide (1 ≤ l.length ∧ l.length ≤ 5)) := by
  refine down_ind ?_ ?_
  · refine Ev.succ ?_
    simp only [spec_AreConstraints.l0, Int.lt_irrefl, if_false, spec_l1In_eq, Option.bind_some, allFrom_end _ (Nat.le_refl _), Bool.true_and]
    exact Ev.const (congrArg some (decide_eq_decide.2 (by omega)))
  · intro i hi ih
    refine Ev.succ ?_
    rw [allFrom_step _ hi, areC1, getS l i hi]
    simp only [spec_AreConstraints.l0, if_pos (show (i : Int) < (l.length : Int) by omega), if_pos (show (0 : Int) ≤ i by omega), spec_ConstraintNames_eq, Option.bind_some, rdOf_nat _ l i hi]
    refine Ev.bind (spec_l3Has_ev cnames l[i] (by decide)) ?_
    by_cases h1 : l[i] ∈ cnames
    · simp only [h1, decide_true, if_true, if_pos (show (i : Int) ≤ (l.length : Int) by omega), Int.toNat_natCast, Bool.true_and]
      refine Ev.bind (spec_l3Has_ev (l.take i) l[i] (by rw [List.length_take]; omega)) ?_
      by_cases h2 : l[i] ∈ l.take i
      · simp only [h2, decide_true, if_true]
        exact Ev.const rfl
      · simp only [h2, decide_false, Bool.false_eq_true, if_false, wrap_succ (show i ≤ 4611686018427387903 by omega), Bool.not_false, Bool.true_and]
        exact ih
    · simp only [h1, decide_false, Bool.false_eq_true, if_false, Bool.false_and]
      exact Ev.const rfl
 exact key 0 (by omega)

theorem slices_Index_string_ev2 (l : List ByteArray) (x : ByteArray) (hl : l.length ≤ 2097152) : Ev (fun k => slices_Index_string_string.f k l x) (idxS l x 0) := by
 unfold slices_Index_string_string.f
 have key : ∀ i, i ≤ l.length → Ev (fun k => slices_Index_string_string.l0 k l x (l.length : Int) (i : Int)) (idxS (l.drop i) x i) := by
  refine down_ind ?_ ?_
  · refine Ev.succ ?_
    simp only [slices_Index_string_string.l0, Int.lt_irrefl, if_false]
    exact Ev.const (by rw [List.drop_of_length_le (Nat.le_refl _)]; rfl)
  · intro i hi ih
    refine Ev.succ ?_
    simp only [slices_Index_string_string.l0, if_pos (show (i : Int) < (l.length : Int) by omega), if_pos (show (0 : Int) ≤ i by omega), rdOf_nat _ l i hi, toList_inj, wrap_succ (show i ≤ 4611686018427387903 by omega)]
    rw [drop_cons l i hi]
    by_cases he : x = l[i]
    · simp only [if_pos he]
      exact Ev.const (by simp only [idxS, if_pos he])
    · simp only [if_neg he]
      exact Ev.cast ih (by simp only [idxS, if_neg he]; rfl)
 exact key 0 (by omega)
theorem slices_Contains_string_ev2 (l : List ByteArray) (x : ByteArray) (hl : l.length ≤ 2097152) : Ev (fun k => slices_Contains_string_string.f k l x) (decide (x ∈ l)) := by
 unfold slices_Contains_string_string.f
 refine Ev.bind (slices_Index_string_ev2 l x hl) (Ev.const ?_)
 simp only [ge_iff_le, idxS_mem x l 0 (Int.le_refl _)]
theorem slices_Contains_string_ev (l : List ByteArray) (x : ByteArray) (hl : l.length ≤ 1048576) : Ev (fun k => slices_Contains_string_string.f k l x) (decide (x ∈ l)) := slices_Contains_string_ev2 l x (by omega)

theorem impl_AreConstraints_ev2 (l : List ByteArray) (hl : l.length ≤ 2097152) : Ev (fun k => impl_AreConstraints.f k l) (areC l) := by
 unfold impl_AreConstraints.f areC
 have key : ∀ i, i ≤ l.length → Ev (fun k => impl_AreConstraints.l0 k l l (l.length : Int) (i : Int)) (allFrom (areC1 l) l.length i && decide (1 ≤ l.length ∧ l.length ≤ 5)) := by
  refine down_ind ?_ ?_
  · refine Ev.succ ?_
    simp only [impl_AreConstraints.l0, Int.lt_irrefl, if_false, impl_within_eq, Option.bind_some, allFrom_end _ (Nat.le_refl _), Bool.true_and]
    exact Ev.const (congrArg some (decide_eq_decide.2 (by omega)))
  · intro i hi ih
    refine Ev.succ ?_
    rw [allFrom_step _ hi, areC1, getS l i hi]
    simp only [impl_AreConstraints.l0, if_pos (show (i : Int) < (l.length : Int) by omega), if_pos (show (0 : Int) ≤ i by omega), impl_ConstraintNames_eq, Option.bind_some, rdOf_nat _ l i hi]
    refine Ev.bind (slices_Contains_string_ev cnames l[i] (by decide)) ?_
    by_cases h1 : l[i] ∈ cnames
    · simp only [h1, decide_true, if_true, if_pos (show (i : Int) ≤ (l.length : Int) by omega), Int.toNat_natCast, Bool.true_and]
      refine Ev.bind (slices_Contains_string_ev2 (l.take i) l[i] (by rw [List.length_take]; omega)) ?_
      by_cases h2 : l[i] ∈ l.take i
      · simp only [h2, decide_true, if_true]
        exact Ev.const rfl
      · simp only [h2, decide_false, Bool.false_eq_true, if_false, wrap_succ (show i ≤ 4611686018427387903 by omega), Bool.not_false, Bool.true_and]
        exact ih
    · simp only [h1, decide_false, Bool.false_eq_true, if_false, Bool.false_and]
      exact Ev.const rfl
 exact key 0 (by omega)
theorem impl_AreConstraints_ev (l : List ByteArray) (hl : l.length ≤ 1048576) : Ev (fun k => impl_AreConstraints.f k l) (areC l) := impl_AreConstraints_ev2 l (by omega)

def prof (n : List ByteArray) (l : List ILink) : List Int := if areC n = true ∧ cand l = true then n.map (fun s => viol s l) else []
theorem prof_len (n : List ByteArray) (l : List ILink) : (prof n l).length ≤ n.length := by
 unfold prof
 split <;> simp
theorem spec_ProfileOf_ev (n : List ByteArray) (l : List ILink) (hn : n.length ≤ 1048576) (hl : l.length ≤ 1048576) (hb : ∀ x ∈ l, okB x) : Ev (fun k => spec_ProfileOf.f k n l) (prof n l) := by
 unfold spec_ProfileOf.f prof
 have key : ∀ i, i ≤ n.length → ∀ acc : List Int, acc.length ≤ i → Ev (fun k => spec_ProfileOf.l0 k n acc (i : Int) l) (acc ++ (if areC n = true ∧ cand l = true then (n.drop i).map (fun s => viol s l) else [])) := by
  refine down_ind ?_ ?_
  · intro acc _
    refine Ev.succ ?_
    simp only [spec_ProfileOf.l0, Int.lt_irrefl, if_false]
    exact Ev.const (by simp)
  · intro i hi ih acc hacc
    refine Ev.succ ?_
    simp only [spec_ProfileOf.l0, if_pos (show (i : Int) < (n.length : Int) by omega), if_pos (show (0 : Int) ≤ i by omega), rdOf_nat _ n i hi, if_pos (show acc.length < 17592186044416 by omega), wrap_succ (show i ≤ 4611686018427387903 by omega)]
    refine Ev.bind (spec_AreConstraints_ev n hn) ?_
    cases hc : areC n
    · simp only [Bool.false_eq_true, if_false, false_and]
      exact Ev.const (by simp)
    · simp only [if_true, true_and]
      refine Ev.bind (spec_IsCandidate_ev l hl hb) ?_
      cases hk : cand l
      · simp only [Bool.false_eq_true, if_false]
        exact Ev.const (by simp)
      · simp only [if_true]
        refine Ev.bind (spec_ViolationsOf_ev _ l hl hb) ?_
        refine Ev.cast (ih (acc ++ [viol n[i] l]) (by simp; omega)) ?_
        rw [drop_cons n i hi]
        simp only [hc, hk, and_self, if_true, List.map_cons, List.append_assoc, List.cons_append, List.nil_append]
 refine Ev.cast (key 0 (by omega) [] (by simp)) ?_
 simp
theorem impl_ProfileOf_ev (n : List ByteArray) (l : List ILink) (hn : n.length ≤ 1048576) (hl : l.length ≤ 1048576) (hb : ∀ x ∈ l, okB x) : Ev (fun k => impl_ProfileOf.f k n l) (prof n l) := by
 unfold impl_ProfileOf.f prof
 refine Ev.bind (impl_AreConstraints_ev n hn) ?_
 cases areC n
 · simp only [Bool.false_eq_true, if_false, false_and]
   refine Ev.succ ?_
   simp only [impl_ProfileOf.j0, if_true]
   exact Ev.const rfl
 · simp only [if_true, true_and]
   refine Ev.bind (impl_IsCandidate_ev l hl hb) ?_
   cases cand l
   · refine Ev.succ ?_
     simp only [impl_ProfileOf.j0, Bool.not_false, if_true, Bool.false_eq_true, if_false]
     exact Ev.const rfl
   · refine Ev.succ ?_
     simp only [impl_ProfileOf.j0, Bool.not_true, Bool.false_eq_true, if_false, if_true]
     have key : ∀ i, i ≤ n.length → ∀ acc : List Int, acc.length ≤ i → Ev (fun k => impl_ProfileOf.l0 k acc n (n.length : Int) (i : Int) l) (acc ++ (n.drop i).map (fun s => viol s l)) := by
      refine down_ind ?_ ?_
      · intro acc _
        refine Ev.succ ?_
        simp only [impl_ProfileOf.l0, Int.lt_irrefl, if_false]
        exact Ev.const (by simp)
      · intro i hi ih acc hacc
        refine Ev.succ ?_
        simp only [impl_ProfileOf.l0, if_pos (show (i : Int) < (n.length : Int) by omega), if_pos (show (0 : Int) ≤ i by omega), rdOf_nat _ n i hi, if_pos (show acc.length < 17592186044416 by omega), wrap_succ (show i ≤ 4611686018427387903 by omega)]
        refine Ev.bind (impl_ViolationsOf_ev _ l hl hb) ?_
        refine Ev.cast (ih (acc ++ [viol n[i] l]) (by simp; omega)) ?_
        rw [drop_cons n i hi]
        simp only [List.map_cons, List.append_assoc, List.cons_append, List.nil_append]
     refine Ev.cast (key 0 (by omega) [] (by simp)) ?_
     simp

theorem spec_l5Same_ev (a b : List Int) (hl : a.length ≤ 1048576) : Ev (fun k => spec_l5Same.f k a b) (decide (a = b)) := by
 unfold spec_l5Same.f
 by_cases hab : a.length = b.length
 · simp only [if_pos (show (a.length : Int) = (b.length : Int) by omega)]
   have key : ∀ i, i ≤ a.length → Ev (fun k => spec_l5Same.l0 k a b (i : Int)) (decide (a.drop i = b.drop i)) := by
    refine down_ind ?_ ?_
    · refine Ev.succ ?_
      simp only [spec_l5Same.l0, Int.lt_irrefl, if_false]
      refine Ev.const ?_
      rw [List.drop_of_length_le (Nat.le_refl _), List.drop_of_length_le (by omega)]
      rfl
    · intro i hi ih
      have hb : i < b.length := by omega
      refine Ev.succ ?_
      simp only [spec_l5Same.l0, if_pos (show (i : Int) < (a.length : Int) by omega), if_pos (show (0 : Int) ≤ i by omega), if_pos (show (i : Int) < (b.length : Int) by omega), rd_nat a i hi, rd_nat b i hb, wrap_succ (show i ≤ 4611686018427387903 by omega)]
      rw [drop_cons a i hi, drop_cons b i hb]
      by_cases he : a[i] = b[i]
      · simp only [if_pos he]
        exact Ev.cast ih (by simp only [List.cons.injEq, he, true_and])
      · simp only [if_neg he]
        exact Ev.const (by simp only [List.cons.injEq, he, false_and, decide_false])
   exact key 0 (by omega)
 · simp only [if_neg (show ¬ (a.length : Int) = (b.length : Int) by omega)]
   exact Ev.const (by
    have : a ≠ b := fun h => hab (by rw [h])
    simp [this])

theorem slices_Equal_int_ev (a b : List Int) (hl : a.length ≤ 1048576) : Ev (fun k => slices_Equal_int_int.f k a b) (decide (a = b)) := by
 unfold slices_Equal_int_int.f
 by_cases hab : a.length = b.length
 · simp only [if_pos (show (a.length : Int) = (b.length : Int) by omega)]
   have key : ∀ i, i ≤ a.length → Ev (fun k => slices_Equal_int_int.l0 k a b (a.length : Int) (i : Int)) (decide (a.drop i = b.drop i)) := by
    refine down_ind ?_ ?_
    · refine Ev.succ ?_
      simp only [slices_Equal_int_int.l0, Int.lt_irrefl, if_false]
      refine Ev.const ?_
      rw [List.drop_of_length_le (Nat.le_refl _), List.drop_of_length_le (by omega)]
      rfl
    · intro i hi ih
      have hb : i < b.length := by omega
      refine Ev.succ ?_
      simp only [slices_Equal_int_int.l0, if_pos (show (i : Int) < (a.length : Int) by omega), if_pos (show (0 : Int) ≤ i by omega), if_pos (show (i : Int) < (b.length : Int) by omega), rd_nat a i hi, rd_nat b i hb, wrap_succ (show i ≤ 4611686018427387903 by omega)]
      rw [drop_cons a i hi, drop_cons b i hb]
      by_cases he : a[i] = b[i]
      · simp only [if_pos he]
        exact Ev.cast ih (by simp only [List.cons.injEq, he, true_and])
      · simp only [if_neg he]
        exact Ev.const (by simp only [List.cons.injEq, he, false_and, decide_false])
   exact key 0 (by omega)
 · simp only [if_neg (show ¬ (a.length : Int) = (b.length : Int) by omega)]
   exact Ev.const (by
    have : a ≠ b := fun h => hab (by rw [h])
    simp [this])

def rowAt (s : ByteArray) (n : List ByteArray) (p : ICand × List Int) : Bool := decide (inS p.1.f0 = s) && (cand p.1.f0 && decide (p.2 = prof n p.1.f0))
def isTab (s : ByteArray) (n : List ByteArray) (r : List ICand) (m : List (List Int)) : Bool := areC n && (form (B s) && (decide (1 ≤ (r.length : Int) ∧ (r.length : Int) ≤ 250) && (decide (m.length = r.length) && (r.zip m).all (rowAt s n))))
theorem spec_l11Same_ev (a b : List Int) (hl : a.length ≤ 1048576) : Ev (fun k => spec_l11Same.f k a b) (decide (a = b)) := by
 unfold spec_l11Same.f
 exact Ev.bind (spec_l5Same_ev a b hl) (Ev.const rfl)
theorem spec_IsTableau_ev (s : ByteArray) (n : List ByteArray) (r : List ICand) (m : List (List Int)) (hs : s.size ≤ 1048576) (hn : n.length ≤ 1048576) (hr : okR r) (hrl : r.length ≤ 1048576) (hm : m.length + lensII m ≤ 1048576) : Ev (fun k => spec_IsTableau.f k s n r m) (isTab s n r m) := by
 unfold spec_IsTableau.f isTab
 have bad : ∀ x, x = false → Ev (fun k => spec_IsTableau.j0 k true s n r m) x := by
  rintro x rfl
  refine Ev.succ ?_
  simp only [spec_IsTableau.j0, if_true]
  exact Ev.const rfl
 refine Ev.bind (spec_AreConstraints_ev n hn) ?_
 cases areC n
 · simp only [Bool.false_eq_true, if_false]
   exact bad _ (by simp)
 · simp only [if_true, Bool.true_and]
   refine Ev.bind (spec_IsForm_ev s (by omega)) ?_
   cases form (B s)
   · simp only [Bool.false_eq_true, if_false]
     exact bad _ (by simp)
   · simp only [if_true, Bool.true_and, spec_l1In_eq, Option.bind_some]
     by_cases h1 : 1 ≤ (r.length : Int) ∧ (r.length : Int) ≤ 250
     · simp only [h1, and_self, decide_true, if_true, Bool.true_and]
       by_cases h2 : m.length = r.length
       · simp only [h2, bne_self_eq_false, decide_true, Bool.true_and]
         refine Ev.succ ?_
         simp only [spec_IsTableau.j0, Bool.false_eq_true, if_false]
         have key : ∀ i, i ≤ r.length → Ev (fun k => spec_IsTableau.l0 k (i : Int) s n r m) (((r.drop i).zip (m.drop i)).all (rowAt s n)) := by
          refine down_ind ?_ ?_
          · refine Ev.succ ?_
            simp only [spec_IsTableau.l0, Int.lt_irrefl, if_false]
            exact Ev.const (by simp)
          · intro i hi ih
            have hi' : i < m.length := by omega
            have ho := hr r[i] (List.getElem_mem hi)
            have hmi := lensII_get m i hi'
            refine Ev.succ ?_
            simp only [spec_IsTableau.l0, if_pos (show (i : Int) < (r.length : Int) by omega), if_pos (show (i : Int) < (m.length : Int) by omega), if_pos (show (0 : Int) ≤ i by omega), rdIC r i hi, rdII m i hi', toList_inj, wrap_succ (show i ≤ 4611686018427387903 by omega)]
            rw [drop_cons r i hi, drop_cons m i hi', List.zip_cons_cons, List.all_cons]
            refine Ev.bind (spec_InputOf_ev _ ho.2 ho.1) ?_
            by_cases h3 : inS r[i].f0 = s
            · simp only [if_pos h3, rowAt, h3, decide_true, Bool.true_and]
              refine Ev.bind (spec_IsCandidate_ev _ ho.2 ho.1) ?_
              cases cand r[i].f0
              · simp only [Bool.false_eq_true, if_false, Bool.false_and]
                exact Ev.const rfl
              · simp only [if_true, Bool.true_and]
                refine Ev.bind (spec_ProfileOf_ev n _ hn ho.2 ho.1) (Ev.bind (spec_l11Same_ev _ _ (by omega)) ?_)
                by_cases h4 : m[i] = prof n r[i].f0
                · simp only [h4, decide_true, if_true, Bool.true_and]
                  exact ih
                · simp only [h4, decide_false, Bool.false_eq_true, if_false, Bool.false_and]
                  exact Ev.const rfl
            · simp only [if_neg h3, rowAt, h3, decide_false, Bool.false_and]
              exact Ev.const rfl
         exact key 0 (by omega)
       · simp only [show ((m.length : Int) != (r.length : Int)) = true by rw [bne_iff_ne]; omega, h2, decide_false, Bool.false_and]
         exact bad _ rfl
     · simp only [h1, decide_false, Bool.false_eq_true, if_false, Bool.false_and]
       exact bad _ rfl
theorem impl_IsTableau_ev (s : ByteArray) (n : List ByteArray) (r : List ICand) (m : List (List Int)) (hs : s.size ≤ 1048576) (hn : n.length ≤ 1048576) (hr : okR r) (hrl : r.length ≤ 1048576) (hm : m.length + lensII m ≤ 1048576) : Ev (fun k => impl_IsTableau.f k s n r m) (isTab s n r m) := by
 unfold impl_IsTableau.f isTab
 have bad : ∀ x, x = false → Ev (fun k => impl_IsTableau.j0 k true s n r m) x := by
  rintro x rfl
  refine Ev.succ ?_
  simp only [impl_IsTableau.j0, if_true]
  exact Ev.const rfl
 refine Ev.bind (impl_AreConstraints_ev n hn) ?_
 cases areC n
 · simp only [Bool.false_eq_true, if_false]
   exact bad _ (by simp)
 · simp only [if_true, Bool.true_and]
   refine Ev.bind (impl_IsForm_ev s (by omega)) ?_
   cases form (B s)
   · simp only [Bool.false_eq_true, if_false]
     exact bad _ (by simp)
   · simp only [if_true, Bool.true_and, impl_within_eq, Option.bind_some]
     by_cases h1 : 1 ≤ (r.length : Int) ∧ (r.length : Int) ≤ 250
     · simp only [h1, and_self, decide_true, if_true, Bool.true_and]
       by_cases h2 : m.length = r.length
       · simp only [h2, bne_self_eq_false, decide_true, Bool.true_and]
         refine Ev.succ ?_
         simp only [impl_IsTableau.j0, Bool.false_eq_true, if_false]
         have key : ∀ i, i ≤ r.length → Ev (fun k => impl_IsTableau.l0 k r (r.length : Int) (i : Int) s n r m) (((r.drop i).zip (m.drop i)).all (rowAt s n)) := by
          refine down_ind ?_ ?_
          · refine Ev.succ ?_
            simp only [impl_IsTableau.l0, Int.lt_irrefl, if_false]
            exact Ev.const (by simp)
          · intro i hi ih
            have hi' : i < m.length := by omega
            have ho := hr r[i] (List.getElem_mem hi)
            have hmi := lensII_get m i hi'
            refine Ev.succ ?_
            simp only [impl_IsTableau.l0, if_pos (show (i : Int) < (r.length : Int) by omega), if_pos (show (i : Int) < (m.length : Int) by omega), if_pos (show (0 : Int) ≤ i by omega), rdIC r i hi, rdII m i hi', toList_inj, wrap_succ (show i ≤ 4611686018427387903 by omega)]
            rw [drop_cons r i hi, drop_cons m i hi', List.zip_cons_cons, List.all_cons]
            refine Ev.bind (impl_IsCandidate_ev _ ho.2 ho.1) ?_
            cases hc : cand r[i].f0
            · simp only [Bool.false_eq_true, if_false, rowAt, hc, Bool.false_and, Bool.and_false]
              exact Ev.const rfl
            · simp only [if_true]
              refine Ev.bind (impl_InputOf_ev _ ho.2 ho.1) ?_
              by_cases h3 : inS r[i].f0 = s
              · simp only [if_pos h3, rowAt, h3, decide_true, Bool.true_and, hc]
                refine Ev.bind (impl_ProfileOf_ev n _ hn ho.2 ho.1) (Ev.bind (slices_Equal_int_ev _ _ (by omega)) ?_)
                by_cases h4 : m[i] = prof n r[i].f0
                · simp only [h4, decide_true, if_true, Bool.true_and]
                  exact ih
                · simp only [h4, decide_false, Bool.false_eq_true, if_false, Bool.false_and]
                  exact Ev.const rfl
              · simp only [if_neg h3, rowAt, h3, decide_false, Bool.false_and]
                exact Ev.const rfl
         exact key 0 (by omega)
       · simp only [show ((m.length : Int) != (r.length : Int)) = true by rw [bne_iff_ne]; omega, h2, decide_false, Bool.false_and]
         exact bad _ rfl
     · simp only [h1, decide_false, Bool.false_eq_true, if_false, Bool.false_and]
       exact bad _ rfl

theorem isTab_len {s : ByteArray} {n : List ByteArray} {r : List ICand} {m : List (List Int)} (h : isTab s n r m = true) : m.length = r.length ∧ 1 ≤ r.length ∧ r.length ≤ 250 ∧ ∀ i (hi : i < m.length), m[i].length = n.length := by
 unfold isTab at h
 simp only [Bool.and_eq_true, decide_eq_true_eq] at h
 obtain ⟨ha, _, h1, h2, h3⟩ := h
 refine ⟨h2, by omega, by omega, fun i hi => ?_⟩
 have hz : i < (r.zip m).length := by rw [List.length_zip]; omega
 have hq := List.all_eq_true.1 h3 _ (List.getElem_mem hz)
 rw [List.getElem_zip] at hq
 unfold rowAt at hq
 simp only [Bool.and_eq_true, decide_eq_true_eq] at hq
 obtain ⟨_, hc, he⟩ := hq
 rw [he]
 unfold prof
 rw [if_pos ⟨ha, hc⟩, List.length_map]

theorem snd_small (c : Int) (h : snd c = true) : 97 ≤ c ∧ c ≤ 122 := by
 unfold snd at h
 have := of_decide_eq_true h
 simp only [List.mem_cons, List.not_mem_nil, or_false] at this
 omega
theorem lk_small (a b : Int) (h : lk a b = true) : ¬ (a = 0 ∧ b = 0) ∧ (0 ≤ a ∧ a < 128) ∧ (0 ≤ b ∧ b < 128) := by
 unfold lk at h
 by_cases ha : a = 0
 · subst ha
   rw [if_pos rfl] at h
   have := snd_small b h
   refine ⟨by omega, by omega, by omega⟩
 · rw [if_neg ha, Bool.and_eq_true] at h
   have h1 := snd_small a h.1
   refine ⟨fun e => ha e.1, by omega, ?_⟩
   have h2 := h.2
   rw [Bool.or_eq_true, Bool.or_eq_true, Bool.and_eq_true] at h2
   rcases h2 with h2 | h2 | h2
   · have := of_decide_eq_true h2
     omega
   · have := of_decide_eq_true h2
     omega
   · have e := of_decide_eq_true h2.2
     unfold swp at e
     split at e
     · omega
     · split at e
       · omega
       · split at e
         · omega
         · split at e <;> omega
theorem cand_len {l : List ILink} (h : cand l = true) : l.length ≤ 16 := by
 unfold cand at h
 rw [Bool.and_eq_true, Bool.and_eq_true, decide_eq_true_eq] at h
 exact h.2.1
theorem cand_lk {l : List ILink} (h : cand l = true) : ∀ x ∈ l, lk x.f0 x.f1 = true := by
 unfold cand at h
 rw [Bool.and_eq_true] at h
 exact List.all_eq_true.1 h.1

def fcl : List ILink → ByteArray → ByteArray
 | [], o => o
 | x :: l, o => fcl l (fc_link o x.f0 x.f1)
def endC (o : ByteArray) : ByteArray := if o.toList = [] then ⟨#[110, 111, 110, 101]⟩ else o
def fmtC (l : List ILink) : ByteArray := if cand l = true then endC (fcl l ⟨#[]⟩) else ⟨#[]⟩
theorem enc_nums (n : Int) (h : 0 ≤ n ∧ n < 128) : strOfNums [n] = Utf8.encode n := by
 obtain ⟨m, rfl⟩ := Int.eq_ofNat_of_zero_le h.1
 have hm : m < 128 := by omega
 have key : ∀ m : Fin 128, strOfNums [((m.val : Nat) : Int)] = Utf8.encode ((m.val : Nat) : Int) := by decide +kernel
 exact key ⟨m, hm⟩
theorem fc_link_size (o : ByteArray) (a b : Int) (ha : 0 ≤ a ∧ a < 128) (hb : 0 ≤ b ∧ b < 128) : (fc_link o a b).size ≤ o.size + 2 := by
 have s0 := enc_size a ha
 have s1 := enc_size b hb
 have q43 : (⟨#[43]⟩ : ByteArray).size = 1 := rfl
 have q45 : (⟨#[45]⟩ : ByteArray).size = 1 := rfl
 have q42 : (⟨#[42]⟩ : ByteArray).size = 1 := rfl
 unfold fc_link
 repeat' split
 all_goals simp only [ByteArray.size_append]
 all_goals omega
theorem fcl_size : ∀ (l : List ILink) (o : ByteArray), (∀ x ∈ l, lk x.f0 x.f1 = true) → (fcl l o).size ≤ o.size + 2 * l.length
 | [], o, _ => Nat.le_refl _
 | x :: l, o, h => by
  have h1 := lk_small _ _ (h x List.mem_cons_self)
  have h2 := fc_link_size o x.f0 x.f1 h1.2.1 h1.2.2
  have h3 := fcl_size l (fc_link o x.f0 x.f1) (fun y hy => h y (List.mem_cons_of_mem _ hy))
  simp only [fcl, List.length_cons]
  omega
theorem spec_FormatCandidate_ev (l : List ILink) (hl : l.length ≤ 1048576) (hb : ∀ x ∈ l, okB x) : Ev (fun k => spec_FormatCandidate.f k l) (fmtC l) := by
 unfold spec_FormatCandidate.f fmtC
 refine Ev.bind (spec_IsCandidate_ev l hl hb) ?_
 by_cases hc : cand l = true
 · simp only [hc, if_true]
   have h16 := cand_len hc
   have hlk := cand_lk hc
   have key : ∀ i, i ≤ l.length → ∀ o : ByteArray, o.size ≤ 2 * i → Ev (fun k => spec_FormatCandidate.l0 k o (i : Int) l) (endC (fcl (l.drop i) o)) := by
    refine down_ind ?_ ?_
    · intro o ho
      refine Ev.succ ?_
      simp only [spec_FormatCandidate.l0, Int.lt_irrefl, if_false]
      rw [List.drop_of_length_le (Nat.le_refl _)]
      unfold fcl endC
      by_cases he : o.toList = []
      · simp only [if_pos he]
        exact Ev.const rfl
      · simp only [if_neg he]
        exact Ev.const rfl
    · intro i hi ih o ho
      have hx := lk_small _ _ (hlk l[i] (List.getElem_mem hi))
      have hs := fc_link_size o l[i].f0 l[i].f1 hx.2.1 hx.2.2
      have s0 := enc_size _ hx.2.1
      have s1 := enc_size _ hx.2.2
      have q43 : (o ++ (⟨#[43]⟩ : ByteArray)).size = o.size + 1 := by rw [ByteArray.size_append]; rfl
      have q45 : (o ++ (⟨#[45]⟩ : ByteArray)).size = o.size + 1 := by rw [ByteArray.size_append]; rfl
      have q42 : (o ++ (⟨#[42]⟩ : ByteArray)).size = o.size + 1 := by rw [ByteArray.size_append]; rfl
      have IH := ih (fc_link o l[i].f0 l[i].f1) (by omega)
      refine Ev.succ ?_
      rw [drop_cons l i hi, fcl]
      simp only [spec_FormatCandidate.l0, if_pos (show (i : Int) < (l.length : Int) by omega), if_pos (show (0 : Int) ≤ i by omega), rdK l i hi, wrap_succ (show i ≤ 4611686018427387903 by omega), Option.bind_some]
      by_cases h1 : l[i].f0 = l[i].f1
      · have hn : ¬ l[i].f0 = 0 := fun e => hx.1 ⟨e, h1 ▸ e⟩
        simp only [if_pos h1]
        rw [enc_nums _ hx.2.1]
        simp only [if_pos (show o.size + (Utf8.encode l[i].f0).size ≤ 9223372036854775807 by omega)]
        have e : fc_link o l[i].f0 l[i].f1 = o ++ Utf8.encode l[i].f0 := by
         unfold fc_link
         rw [if_neg hn, if_neg (fun e => hn (h1.trans e)), if_pos h1]
        rw [e] at IH ⊢
        exact IH
      · simp only [if_neg h1]
        by_cases h2 : l[i].f0 = 0
        · simp only [if_pos h2, if_pos (show o.size + 1 ≤ 9223372036854775807 by omega)]
          rw [enc_nums _ hx.2.2]
          simp only [if_pos (show (o ++ (⟨#[43]⟩ : ByteArray)).size + (Utf8.encode l[i].f1).size ≤ 9223372036854775807 by omega)]
          have e : fc_link o l[i].f0 l[i].f1 = (o ++ (⟨#[43]⟩ : ByteArray)) ++ Utf8.encode l[i].f1 := by
           unfold fc_link
           rw [if_pos h2, ByteArray.append_assoc]
          rw [e] at IH ⊢
          exact IH
        · simp only [if_neg h2]
          by_cases h3 : l[i].f1 = 0
          · simp only [if_pos h3, if_pos (show o.size + 1 ≤ 9223372036854775807 by omega)]
            rw [enc_nums _ hx.2.1]
            simp only [if_pos (show (o ++ (⟨#[45]⟩ : ByteArray)).size + (Utf8.encode l[i].f0).size ≤ 9223372036854775807 by omega)]
            have e : fc_link o l[i].f0 l[i].f1 = (o ++ (⟨#[45]⟩ : ByteArray)) ++ Utf8.encode l[i].f0 := by
             unfold fc_link
             rw [if_neg h2, if_pos h3]
            rw [e] at IH ⊢
            exact IH
          · simp only [if_neg h3, if_pos (show o.size + 1 ≤ 9223372036854775807 by omega)]
            rw [enc_nums _ hx.2.1]
            simp only [if_pos (show (o ++ (⟨#[42]⟩ : ByteArray)).size + (Utf8.encode l[i].f0).size ≤ 9223372036854775807 by omega)]
            have e : fc_link o l[i].f0 l[i].f1 = (o ++ (⟨#[42]⟩ : ByteArray)) ++ Utf8.encode l[i].f0 := by
             unfold fc_link
             rw [if_neg h2, if_neg h3, if_neg h1]
            rw [e] at IH ⊢
            exact IH
   exact key 0 (Nat.zero_le _) ⟨#[]⟩ (Nat.le_refl _)
 · simp only [hc, Bool.false_eq_true, if_false]
   exact Ev.const rfl
theorem impl_FormatCandidate_ev (l : List ILink) (hl : l.length ≤ 1048576) (hb : ∀ x ∈ l, okB x) : Ev (fun k => impl_FormatCandidate.f k l) (fmtC l) := by
 unfold impl_FormatCandidate.f fmtC
 refine Ev.bind (impl_IsCandidate_ev l hl hb) ?_
 by_cases hc : cand l = true
 · simp only [hc, if_true]
   have h16 := cand_len hc
   have hlk := cand_lk hc
   have key : ∀ i, i ≤ l.length → ∀ o : ByteArray, o.size ≤ 2 * i → Ev (fun k => impl_FormatCandidate.l0 k l o (i : Int)) (endC (fcl (l.drop i) o)) := by
    refine down_ind ?_ ?_
    · intro o ho
      refine Ev.succ ?_
      simp only [impl_FormatCandidate.l0, Int.lt_irrefl, if_false]
      rw [List.drop_of_length_le (Nat.le_refl _)]
      unfold fcl endC
      by_cases he : o.toList = []
      · simp only [if_pos he]
        exact Ev.const rfl
      · simp only [if_neg he]
        exact Ev.const rfl
    · intro i hi ih o ho
      have hx := lk_small _ _ (hlk l[i] (List.getElem_mem hi))
      have hs := fc_link_size o l[i].f0 l[i].f1 hx.2.1 hx.2.2
      refine Ev.succ ?_
      rw [drop_cons l i hi, fcl]
      simp only [impl_FormatCandidate.l0, if_pos (show (i : Int) < (l.length : Int) by omega), if_pos (show (0 : Int) ≤ i by omega), rdK l i hi, wrap_succ (show i ≤ 4611686018427387903 by omega)]
      simp only [if_pos (show o.size ≤ 1000000 ∧ ((0 ≤ l[i].f0 ∧ l[i].f0 < 128) ∧ (0 ≤ l[i].f1 ∧ l[i].f1 < 128)) from ⟨by omega, hx.2.1, hx.2.2⟩)]
      exact ih _ (by omega)
   exact key 0 (Nat.zero_le _) ⟨#[]⟩ (Nat.le_refl _)
 · simp only [hc, Bool.false_eq_true, if_false]
   exact Ev.const rfl
theorem fmtC_size (l : List ILink) : (fmtC l).size ≤ 32 := by
 unfold fmtC
 split
 · rename_i hc
   have h16 := cand_len hc
   have := fcl_size l ⟨#[]⟩ (cand_lk hc)
   have z : (⟨#[]⟩ : ByteArray).size = 0 := rfl
   unfold endC
   split
   · exact (by decide : (⟨#[110, 111, 110, 101]⟩ : ByteArray).size ≤ 32)
   · omega
 · exact Nat.zero_le _

def sizes (l : List ByteArray) : Nat := (l.map ByteArray.size).sum
theorem laws_szStringS_ev (l : List ByteArray) (n : Nat) (hn : n ≤ 1048576) (hl : BdSlice 16 BdStr l) : Ev (fun k => laws_szStringS.f k l n) (if l.length + sizes l ≤ n then ((n - (l.length + sizes l) : Nat) : Int) else -1) := by
 have hl' : l.length ≤ 140737488351232 := by have := hl.1; omega
 unfold laws_szStringS.f
 rw [wrap_in (by omega) (by omega)]
 by_cases h : l.length ≤ n
 · rw [show ((n : Int) - (l.length : Int)) = ((n - l.length : Nat) : Int) by omega]
   simp only [if_neg (show ¬ ((n - l.length : Nat) : Int) < 0 by omega)]
   have key : ∀ i, i ≤ l.length → ∀ m : Nat, m ≤ n → Ev (fun k => laws_szStringS.l0 k l (m : Int) (i : Int)) (if sizes (l.drop i) ≤ m then ((m - sizes (l.drop i) : Nat) : Int) else -1) := by
    refine down_ind ?_ ?_
    · intro m hm
      refine Ev.succ ?_
      simp only [laws_szStringS.l0, Int.lt_irrefl, if_false]
      exact Ev.const (by simp [sizes])
    · intro i hi ih m hm
      have hb : l[i].size ≤ 140737488351232 := bd_get hl i hi
      refine Ev.succ ?_
      simp only [laws_szStringS.l0, if_pos (show (i : Int) < (l.length : Int) by omega), if_pos (show (0 : Int) ≤ i by omega), rdOf_nat _ l i hi, wrap_in (show -4611686018427387904 ≤ (m : Int) - (l[i].size : Int) by omega) (show (m : Int) - (l[i].size : Int) ≤ 4611686018427387904 by omega), wrap_succ (show i ≤ 4611686018427387903 by omega)]
      have hd : sizes (l.drop i) = l[i].size + sizes (l.drop (i + 1)) := by rw [drop_cons l i hi]; rfl
      rw [hd]
      by_cases hs : l[i].size ≤ m
      · simp only [if_neg (show ¬ (m : Int) - (l[i].size : Int) < 0 by omega), show (m : Int) - (l[i].size : Int) = ((m - l[i].size : Nat) : Int) by omega]
        refine Ev.cast (ih (m - l[i].size) (by omega)) ?_
        by_cases h2 : sizes (l.drop (i + 1)) ≤ m - l[i].size
        · rw [if_pos h2, if_pos (by omega)]
          congr 1
          omega
        · rw [if_neg h2, if_neg (by omega)]
      · simp only [if_pos (show (m : Int) - (l[i].size : Int) < 0 by omega)]
        exact Ev.const (by rw [if_neg (by omega)])
   refine Ev.cast (key 0 (by omega) (n - l.length) (by omega)) ?_
   simp only [List.drop_zero]
   by_cases h2 : sizes l ≤ n - l.length
   · rw [if_pos h2, if_pos (by omega)]
     congr 1
     omega
   · rw [if_neg h2, if_neg (by omega)]
 · simp only [if_pos (show ((n : Int) - (l.length : Int)) < 0 by omega)]
   exact Ev.const (by rw [if_neg (by omega)])

def jn44 (l : List ByteArray) : ByteArray := ⟨(Lib.join (l.map (·.data.toList)) [44]).toArray⟩
theorem jn44_snoc (l : List ByteArray) (i : Nat) (h : i < l.length) : jn44 (l.take (i + 1)) = if i = 0 then jn44 (l.take i) ++ l[i] else (jn44 (l.take i) ++ (⟨#[44]⟩ : ByteArray)) ++ l[i] := by
 apply data_inj
 cases l with
 | nil => simp at h
 | cons a t =>
  cases i with
  | zero => simp [jn44, Lib.join_one, Lib.join_nil]
  | succ m =>
   have hm : m < t.length := by simpa using h
   have := Lib.joinTail_take_succ [44] (t.map (·.data.toList)) m t[m].data.toList (by simp [hm])
   rw [if_neg (by omega)]
   simp only [jn44, List.take_succ_cons, List.map_cons, Lib.join_cons, List.map_take, List.getElem_cons_succ]
   rw [this]
   simp
theorem sizes_lens (l : List ByteArray) : Lib.lens (l.map (·.data.toList)) = sizes l := by
 unfold Lib.lens sizes
 rw [List.map_map]
 congr 1
theorem jn44_size (l : List ByteArray) : (jn44 l).size ≤ l.length + sizes l := by
 cases l with
 | nil => exact Nat.zero_le _
 | cons a t =>
  have := Lib.join_length a.data.toList (t.map (·.data.toList)) [44]
  rw [← List.map_cons (f := fun x : ByteArray => x.data.toList), sizes_lens] at this
  show (Lib.join ((a :: t).map (·.data.toList)) [44]).toArray.size ≤ _
  rw [List.size_toArray, this]
  simp
theorem jn44_take (l : List ByteArray) (i : Nat) : (jn44 (l.take i)).size ≤ l.length + sizes l := by
 have h := jn44_size (l.take i)
 have h2 := Lib.lens_take_le (l.map (·.data.toList)) i
 rw [← List.map_take, sizes_lens, sizes_lens] at h2
 have : (l.take i).length ≤ l.length := by rw [List.length_take]; omega
 omega
theorem strings_Join44_eq (l : List ByteArray) (hl : l.length + sizes l ≤ 1048576) : strings_Join.f l (⟨#[44]⟩ : ByteArray) = some (jn44 l) := by
 unfold strings_Join.f
 have := jn44_size l
 have h2 : (Lib.join (l.map (·.data.toList)) [44]).length = (jn44 l).size := by show _ = (Lib.join (l.map (·.data.toList)) [44]).toArray.size; rw [List.size_toArray]
 rw [if_pos]
 · rfl
 · refine ⟨by omega, ?_⟩
   show (Lib.join (l.map (·.data.toList)) [44]).length ≤ _
   omega

end Go.Proofs.YtlmfpkiaikjlbaaGreatDoor.Pure
