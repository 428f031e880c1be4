/- The pure statement of the law FnExactComposeCandidates: for all arguments within bounds its printed function answers true. -/
import Derived.Test.YtlmfpkiaikjlbaaPFnExactComposeCandidatesx
import Derived.Test.YtlmfpkiaikjlbaaUFnExactComposeCandidates
namespace Go.Proofs.Ytlmfpkiaikjlbaa.Pure
open Go.RowKit Go.Proofs.YtlmfpkiaikjlbaaB Go.Proofs.Ytlmfpkiaikjlbaa.PFnExactComposeCandidates Go.Proofs.YtlmfpkiaikjlbaaW.PrintWords Go.Proofs.YtlmfpkiaikjlbaaW.PrintLast Go.Proofs.YtlmfpkiaikjlbaaW.PrintMore
set_option linter.unusedVariables false
set_option linter.unusedSimpArgs false

def snd (c : Int) : Bool := decide (c ∈ ([112, 116, 98, 100, 110, 97, 105] : List Int))
def obs (c : Int) : Bool := decide (c ∈ ([112, 116, 98, 100] : List Int))
def form (l : List Int) : Bool := l.all snd && decide (l.length ≤ 8)
theorem byte_ind {P : Int → Prop} (h : ∀ n : Fin 256, P (n.val : Int)) (c : Int) (h0 : 0 ≤ c) (h1 : c < 256) : P c := by
 obtain ⟨n, rfl⟩ := Int.eq_ofNat_of_zero_le h0
 exact h ⟨n, by omega⟩

abbrev ILink := S63
def okB (x : ILink) : Prop := (0 ≤ x.f0 ∧ x.f0 < 256) ∧ (0 ≤ x.f1 ∧ x.f1 < 256)
theorem rdK (l : List ILink) (i : Nat) (h : i < l.length) : rd_T63 l (i : Int) = l[i] := by simp [rd_T63, h]
def swp (c : Int) : Int := if c = 112 then 98 else if c = 98 then 112 else if c = 116 then 100 else if c = 100 then 116 else c
def lk (a b : Int) : Bool := if a = 0 then snd b else snd a && (decide (b = 0) || (decide (a = b) || (obs a && decide (swp a = b))))
def inL (l : List ILink) : List Int := (l.filter fun x => !decide (x.f0 = 0)).map (·.f0)
def outL (l : List ILink) : List Int := (l.filter fun x => !decide (x.f1 = 0)).map (·.f1)
def cand (l : List ILink) : Bool := l.all (fun x => lk x.f0 x.f1) && (decide (l.length ≤ 16) && (form (inL l) && form (outL l)))
theorem B_nums (l : List Int) (h : ∀ c ∈ l, 0 ≤ c ∧ c < 256) : B (strOfNums l) = l := by
 simp only [B, bytesOf, strOfNums, List.map_map]
 conv => rhs; rw [← List.map_id l]
 apply List.map_congr_left
 intro c hc
 obtain ⟨h0, h1⟩ := h c hc
 obtain ⟨n, rfl⟩ := Int.eq_ofNat_of_zero_le h0
 simp
 omega
theorem size_nums (l : List Int) : (strOfNums l).size = l.length := by simp [strOfNums, ByteArray.size]
theorem inL_length (l : List ILink) : (inL l).length ≤ l.length := by
 unfold inL
 rw [List.length_map]
 exact List.length_filter_le _ _
theorem outL_length (l : List ILink) : (outL l).length ≤ l.length := by
 unfold outL
 rw [List.length_map]
 exact List.length_filter_le _ _
theorem inL_range (l : List ILink) (hb : ∀ x ∈ l, okB x) : ∀ c ∈ inL l, 0 ≤ c ∧ c < 256 := by
 intro c hc
 simp only [inL, List.mem_map, List.mem_filter] at hc
 obtain ⟨x, ⟨hx, _⟩, rfl⟩ := hc
 exact (hb x hx).1
theorem outL_range (l : List ILink) (hb : ∀ x ∈ l, okB x) : ∀ c ∈ outL l, 0 ≤ c ∧ c < 256 := by
 intro c hc
 simp only [outL, List.mem_map, List.mem_filter] at hc
 obtain ⟨x, ⟨hx, _⟩, rfl⟩ := hc
 exact (hb x hx).2
theorem inL_cons (x : ILink) (l : List ILink) : inL (x :: l) = if x.f0 = 0 then inL l else x.f0 :: inL l := by
 by_cases h : x.f0 = 0 <;> simp [inL, h]
theorem outL_cons (x : ILink) (l : List ILink) : outL (x :: l) = if x.f1 = 0 then outL l else x.f1 :: outL l := by
 by_cases h : x.f1 = 0 <;> simp [outL, h]
theorem snd_swp (c : Int) (h0 : 0 ≤ c) (h1 : c < 256) (h : obs c = true) : snd (swp c) = true := byte_ind (P := fun c => obs c = true → snd (swp c) = true) (by decide +kernel) c h0 h1 h

theorem impl_SwapVoice_eq (c : Int) (h0 : 0 ≤ c) (h1 : c < 256) : impl_SwapVoice.f c = some (swp c, obs c) := byte_ind (P := fun c => impl_SwapVoice.f c = some (swp c, obs c)) (by decide +kernel) c h0 h1

theorem impl_IsSound_eq (c : Int) (h0 : 0 ≤ c) (h1 : c < 256) : impl_IsSound.f c = some (snd c) := byte_ind (P := fun c => impl_IsSound.f c = some (snd c)) (by decide +kernel) c h0 h1
theorem spec_IsSound_ev (c : Int) (h0 : 0 ≤ c) (h1 : c < 256) : Ev (fun k => spec_IsSound.f k c) (snd c) :=
 Ev.at_ (spec_IsSound.mono c) 9 (byte_ind (P := fun c => spec_IsSound.f 9 c = some (snd c)) (by decide +kernel) c h0 h1)

theorem impl_isLink_eq (a b : Int) (ha : 0 ≤ a ∧ a < 256) (hb : 0 ≤ b ∧ b < 256) : impl_isLink.f a b = some (lk a b) := by
 unfold impl_isLink.f lk
 rw [impl_IsSound_eq a ha.1 ha.2, impl_IsSound_eq b hb.1 hb.2, impl_SwapVoice_eq a ha.1 ha.2]
 by_cases h : a = 0
 · simp [h]
 · simp only [if_neg h, Option.bind_some]
   cases snd a
   · simp
   · by_cases h2 : b = 0
     · simp [h2]
     · by_cases h3 : b = a
       · simp [h3]
       · cases obs a
         · simp [h2, h3, show ¬ a = b from fun e => h3 e.symm]
         · simp only [h2, h3, if_true, if_false, show ¬ a = b from fun e => h3 e.symm, decide_false, Bool.false_or, Bool.true_and]
           rfl

theorem spec_l6In_ev (l : List ILink) (hl : l.length ≤ 1048576) : Ev (fun k => spec_l6In.f k l) (strOfNums (inL l)) := by
 have key : ∀ i, i ≤ l.length → ∀ acc : List Int, acc.length ≤ i → Ev (fun k => spec_l6In.l0 k acc (i : Int) l) (strOfNums (acc ++ inL (l.drop i))) := by
  refine down_ind ?_ ?_
  · intro acc _
    refine Ev.succ ?_
    simp only [spec_l6In.l0, Int.lt_irrefl, if_false]
    exact Ev.const (by simp [inL])
  · intro i hi ih acc hacc
    refine Ev.succ ?_
    simp only [spec_l6In.l0, if_pos (show (i : Int) < (l.length : Int) by omega), if_pos (show (0 : Int) ≤ i by omega), rdK l i hi, wrap_succ (show i ≤ 4611686018427387903 by omega), if_pos (show acc.length < 140737488355328 by omega)]
    rw [drop_cons l i hi, inL_cons]
    by_cases h : l[i].f0 = 0
    · simp only [if_pos h]
      exact ih acc (by omega)
    · simp only [if_neg h]
      refine Ev.cast (ih (acc ++ [l[i].f0]) (by simp; omega)) ?_
      simp
 refine Ev.cast (key 0 (by omega) [] (by simp)) ?_
 simp
theorem spec_l6Out_ev (l : List ILink) (hl : l.length ≤ 1048576) : Ev (fun k => spec_l6Out.f k l) (strOfNums (outL l)) := by
 have key : ∀ i, i ≤ l.length → ∀ acc : List Int, acc.length ≤ i → Ev (fun k => spec_l6Out.l0 k acc (i : Int) l) (strOfNums (acc ++ outL (l.drop i))) := by
  refine down_ind ?_ ?_
  · intro acc _
    refine Ev.succ ?_
    simp only [spec_l6Out.l0, Int.lt_irrefl, if_false]
    exact Ev.const (by simp [outL])
  · intro i hi ih acc hacc
    refine Ev.succ ?_
    simp only [spec_l6Out.l0, if_pos (show (i : Int) < (l.length : Int) by omega), if_pos (show (0 : Int) ≤ i by omega), rdK l i hi, wrap_succ (show i ≤ 4611686018427387903 by omega), if_pos (show acc.length < 140737488355328 by omega)]
    rw [drop_cons l i hi, outL_cons]
    by_cases h : l[i].f1 = 0
    · simp only [if_pos h]
      exact ih acc (by omega)
    · simp only [if_neg h]
      refine Ev.cast (ih (acc ++ [l[i].f1]) (by simp; omega)) ?_
      simp
 refine Ev.cast (key 0 (by omega) [] (by simp)) ?_
 simp

theorem impl_sounds_ev (l : List ILink) (hl : l.length ≤ 1048576) (o : Bool) : Ev (fun k => impl_sounds.f k l o) (strOfNums (if o then outL l else inL l)) := by
 have key : ∀ i, i ≤ l.length → ∀ acc : List Int, acc.length ≤ i → Ev (fun k => impl_sounds.l0 k o acc l (l.length : Int) (i : Int)) (strOfNums (acc ++ (if o then outL (l.drop i) else inL (l.drop i)))) := by
  refine down_ind ?_ ?_
  · intro acc _
    refine Ev.succ ?_
    simp only [impl_sounds.l0, Int.lt_irrefl, if_false]
    exact Ev.const (by simp [outL, inL])
  · intro i hi ih acc hacc
    refine Ev.succ ?_
    simp only [impl_sounds.l0, if_pos (show (i : Int) < (l.length : Int) by omega), if_pos (show (0 : Int) ≤ i by omega), rdK l i hi, wrap_succ (show i ≤ 4611686018427387903 by omega), if_pos (show acc.length < 140737488355328 by omega)]
    rw [drop_cons l i hi, outL_cons, inL_cons]
    cases o
    · simp only [Bool.false_eq_true, if_false] at ih ⊢
      by_cases h : l[i].f0 = 0
      · simp only [if_pos h]
        exact ih acc (by omega)
      · simp only [if_neg h]
        refine Ev.cast (ih (acc ++ [l[i].f0]) (by simp; omega)) ?_
        simp
    · simp only [if_true] at ih ⊢
      by_cases h : l[i].f1 = 0
      · simp only [if_pos h]
        exact ih acc (by omega)
      · simp only [if_neg h]
        refine Ev.cast (ih (acc ++ [l[i].f1]) (by simp; omega)) ?_
        simp
 refine Ev.cast (key 0 (by omega) [] (by simp)) ?_
 simp

theorem impl_within_eq (a b c : Int) : impl_within.f a b c = some (decide (b ≤ a ∧ a ≤ c)) := by
 unfold impl_within.f
 split
 · simp [*]
 · simp [*]

theorem spec_l2Sounds_ev (s : ByteArray) (hn : s.size ≤ 140737488351232) : Ev (fun k => spec_l2Sounds.f k s) ((B s).all snd && decide (s.size ≤ 20)) := by
 have key : ∀ i, i ≤ s.size → Ev (fun k => spec_l2Sounds.l0 k s (i : Int)) (((B s).drop i).all snd && decide (s.size ≤ 20)) := by
  refine down_ind ?_ ?_
  · refine Ev.succ ?_
    simp only [spec_l2Sounds.l0, Int.lt_irrefl, if_false]
    refine Ev.const ?_
    rw [List.drop_of_length_le (by rw [B_length]; exact Nat.le_refl _)]
    simp
    omega
  · intro i hi ih
    have hB : i < (B s).length := by rw [B_length]; exact hi
    have hr := B_get_range s i hB
    refine Ev.succ ?_
    simp only [spec_l2Sounds.l0, if_pos (show (i : Int) < (s.size : Int) by omega), if_pos (show (0 : Int) ≤ i by omega), bt_nat s i hB]
    refine Ev.bind (spec_IsSound_ev _ hr.1 hr.2) ?_
    rw [drop_cons _ _ hB, List.all_cons]
    cases snd (B s)[i]
    · simp only [Bool.false_eq_true, if_false]
      exact Ev.const rfl
    · simp only [if_true, wrap_succ (show i ≤ 4611686018427387903 by omega), Bool.true_and]
      exact ih
 exact key 0 (by omega)
theorem spec_IsForm_ev (s : ByteArray) (hn : s.size ≤ 140737488351232) : Ev (fun k => spec_IsForm.f k s) (form (B s)) := by
 unfold spec_IsForm.f
 refine Ev.bind (spec_l2Sounds_ev s hn) ?_
 refine Ev.const ?_
 unfold form
 rw [B_length]
 cases (B s).all snd
 · simp
 · by_cases h : s.size ≤ 8
   · have h2 : s.size ≤ 20 := by omega
     simp [h, h2]
     omega
   · by_cases h2 : s.size ≤ 20
     · simp [h, h2]
       omega
     · simp [h, h2]
theorem impl_areSounds_ev (s : ByteArray) (hn : s.size ≤ 140737488351232) : Ev (fun k => impl_areSounds.f k s) ((B s).all snd && decide (1 ≤ s.size ∧ s.size ≤ 20)) := by
 have key : ∀ i, i ≤ s.size → Ev (fun k => impl_areSounds.l0 k s (s.size : Int) (i : Int)) (((B s).drop i).all snd && decide (1 ≤ s.size ∧ s.size ≤ 20)) := by
  refine down_ind ?_ ?_
  · refine Ev.succ ?_
    simp only [impl_areSounds.l0, Int.lt_irrefl, if_false, impl_within_eq, Option.bind_some]
    refine Ev.const ?_
    rw [List.drop_of_length_le (by rw [B_length]; exact Nat.le_refl _)]
    simp only [List.all_nil, Bool.true_and]
    exact congrArg some (decide_eq_decide.2 (by omega))
  · intro i hi ih
    have hB : i < (B s).length := by rw [B_length]; exact hi
    have hr := B_get_range s i hB
    refine Ev.succ ?_
    simp only [impl_areSounds.l0, if_pos (show (i : Int) < (s.size : Int) by omega), if_pos (show (0 : Int) ≤ i by omega), bt_nat s i hB, impl_IsSound_eq _ hr.1 hr.2, Option.bind_some]
    rw [drop_cons _ _ hB, List.all_cons]
    cases snd (B s)[i]
    · simp only [Bool.false_eq_true, if_false]
      exact Ev.const rfl
    · simp only [if_true, wrap_succ (show i ≤ 4611686018427387903 by omega), Bool.true_and]
      exact ih
 exact key 0 (by omega)
theorem impl_IsForm_ev (s : ByteArray) (hn : s.size ≤ 140737488351232) : Ev (fun k => impl_IsForm.f k s) (form (B s)) := by
 unfold impl_IsForm.f
 by_cases h0 : s.toList = []
 · simp only [if_pos h0]
   rw [toList_nil] at h0
   exact Ev.const (by rw [h0]; rfl)
 · simp only [if_neg h0]
   rw [toList_nil] at h0
   have h1 : 1 ≤ s.size := by
    rw [← B_length]
    exact List.length_pos_iff.2 h0
   by_cases h8 : s.size ≤ 8
   · simp only [if_pos (show (s.size : Int) ≤ 8 by omega)]
     refine Ev.bind (impl_areSounds_ev s hn) ?_
     refine Ev.const ?_
     unfold form
     rw [B_length]
     have h2 : s.size ≤ 20 := by omega
     simp [h1, h2, h8]
   · simp only [if_neg (show ¬ (s.size : Int) ≤ 8 by omega)]
     refine Ev.const ?_
     unfold form
     rw [B_length]
     simp [h8]

theorem spec_formNums (l : List Int) (hl : l.length ≤ 1048576) (h : ∀ c ∈ l, 0 ≤ c ∧ c < 256) : Ev (fun k => spec_IsForm.f k (strOfNums l)) (form l) := by
 have := spec_IsForm_ev (strOfNums l) (by rw [size_nums]; omega)
 rwa [B_nums l h] at this
theorem impl_formNums (l : List Int) (hl : l.length ≤ 1048576) (h : ∀ c ∈ l, 0 ≤ c ∧ c < 256) : Ev (fun k => impl_IsForm.f k (strOfNums l)) (form l) := by
 have := impl_IsForm_ev (strOfNums l) (by rw [size_nums]; omega)
 rwa [B_nums l h] at this

theorem spec_SwapVoice_eq (c : Int) (h0 : 0 ≤ c) (h1 : c < 256) : spec_SwapVoice.f c = some (swp c, obs c) := byte_ind (P := fun c => spec_SwapVoice.f c = some (swp c, obs c)) (by decide +kernel) c h0 h1

theorem impl_IsCandidate_ev (l : List ILink) (hl : l.length ≤ 1048576) (hb : ∀ x ∈ l, okB x) : Ev (fun k => impl_IsCandidate.f k l) (cand l) := by
 unfold impl_IsCandidate.f cand
 have h1 := inL_length l
 have h2 := outL_length l
 have key : ∀ i, i ≤ l.length → Ev (fun k => impl_IsCandidate.l0 k l (l.length : Int) (i : Int) l) ((l.drop i).all (fun x => lk x.f0 x.f1) && (decide (l.length ≤ 16) && (form (inL l) && form (outL l)))) := by
  refine down_ind ?_ ?_
  · refine Ev.succ ?_
    simp only [impl_IsCandidate.l0, Int.lt_irrefl, if_false]
    rw [List.drop_of_length_le (Nat.le_refl _), List.all_nil, Bool.true_and]
    by_cases h : l.length ≤ 16
    · simp only [if_pos (show (l.length : Int) ≤ 16 by omega), h, decide_true, Bool.true_and]
      refine Ev.bind (impl_sounds_ev l hl false) (Ev.bind (impl_formNums (inL l) (by omega) (inL_range l hb)) ?_)
      cases form (inL l)
      · simp only [Bool.false_eq_true, if_false, Bool.false_and]
        exact Ev.const rfl
      · simp only [if_true, Bool.true_and]
        refine Ev.bind (impl_sounds_ev l hl true) (Ev.bind (impl_formNums (outL l) (by omega) (outL_range l hb)) (Ev.const rfl))
    · simp only [if_neg (show ¬ (l.length : Int) ≤ 16 by omega), h, decide_false, Bool.false_and]
      exact Ev.const rfl
  · intro i hi ih
    have hx := hb l[i] (List.getElem_mem hi)
    refine Ev.succ ?_
    simp only [impl_IsCandidate.l0, if_pos (show (i : Int) < (l.length : Int) by omega), if_pos (show (0 : Int) ≤ i by omega), rdK l i hi, wrap_succ (show i ≤ 4611686018427387903 by omega), impl_isLink_eq _ _ hx.1 hx.2, Option.bind_some]
    rw [drop_cons l i hi, List.all_cons]
    cases lk l[i].f0 l[i].f1
    · simp only [Bool.false_eq_true, if_false, Bool.false_and]
      exact Ev.const rfl
    · simp only [if_true, Bool.true_and]
      exact ih
 exact key 0 (by omega)
theorem spec_IsCandidate_ev (l : List ILink) (hl : l.length ≤ 1048576) (hb : ∀ x ∈ l, okB x) : Ev (fun k => spec_IsCandidate.f k l) (cand l) := by
 unfold spec_IsCandidate.f cand
 have h1 := inL_length l
 have h2 := outL_length l
 have key : ∀ i, i ≤ l.length → Ev (fun k => spec_IsCandidate.l0 k (i : Int) l) ((l.drop i).all (fun x => lk x.f0 x.f1) && (decide (l.length ≤ 16) && (form (inL l) && form (outL l)))) := by
  refine down_ind ?_ ?_
  · refine Ev.succ ?_
    simp only [spec_IsCandidate.l0, Int.lt_irrefl, if_false]
    rw [List.drop_of_length_le (Nat.le_refl _), List.all_nil, Bool.true_and]
    by_cases h : l.length ≤ 16
    · simp only [if_pos (show (l.length : Int) ≤ 16 by omega), h, decide_true, Bool.true_and]
      refine Ev.bind (spec_l6In_ev l hl) (Ev.bind (spec_formNums (inL l) (by omega) (inL_range l hb)) ?_)
      cases form (inL l)
      · simp only [Bool.false_eq_true, if_false, Bool.false_and]
        exact Ev.const rfl
      · simp only [if_true, Bool.true_and]
        refine Ev.bind (spec_l6Out_ev l hl) (Ev.bind (spec_formNums (outL l) (by omega) (outL_range l hb)) (Ev.const rfl))
    · simp only [if_neg (show ¬ (l.length : Int) ≤ 16 by omega), h, decide_false, Bool.false_and]
      exact Ev.const rfl
  · intro i hi ih
    have hx := hb l[i] (List.getElem_mem hi)
    rw [drop_cons l i hi, List.all_cons]
    have hr := rdK l i hi
    revert hx
    generalize hxe : l[i] = x at hr ⊢
    intro hx
    have bad : ∀ (y : Int) (o : Bool), lk x.f0 x.f1 = false → Ev (fun k => spec_IsCandidate.j1 k (i : Int) y o true l x.f0 x.f1) (lk x.f0 x.f1 && (l.drop (i + 1)).all (fun x => lk x.f0 x.f1) && (decide (l.length ≤ 16) && (form (inL l) && form (outL l)))) := by
     intro y o h
     refine Ev.succ ?_
     simp only [spec_IsCandidate.j1, if_true, h, Bool.false_and]
     exact Ev.const rfl
    have good : (x.f0 = 0 → snd x.f1 = true) → (x.f0 ≠ 0 → snd x.f0 = true) → Ev (fun k => spec_IsCandidate.j1 k (i : Int) (swp x.f0) (obs x.f0) false l x.f0 x.f1) (lk x.f0 x.f1 && (l.drop (i + 1)).all (fun x => lk x.f0 x.f1) && (decide (l.length ≤ 16) && (form (inL l) && form (outL l)))) := by
     intro hz hn
     refine Ev.succ ?_
     simp only [spec_IsCandidate.j1, Bool.false_eq_true, if_false, wrap_succ (show i ≤ 4611686018427387903 by omega)]
     by_cases h0 : x.f0 = 0
     · simp only [if_pos h0, lk, hz h0, Bool.true_and]
       exact ih
     · simp only [if_neg h0, lk, hn h0, Bool.true_and]
       by_cases h1 : x.f1 = 0
       · simp only [h1, if_true, decide_true, Bool.true_or, Bool.true_and]
         exact ih
       · by_cases h2 : x.f0 = x.f1
         · simp only [if_neg h1, if_pos h2, h2, decide_true, Bool.true_or, Bool.or_true, Bool.true_and]
           exact ih
         · cases obs x.f0
           · simp only [if_neg h1, if_neg h2, h1, h2, decide_false, Bool.false_or, Bool.false_and, Bool.false_eq_true, if_false]
             exact Ev.const rfl
           · by_cases h3 : swp x.f0 = x.f1
             · simp only [if_neg h1, if_neg h2, h1, h2, if_pos h3, h3, decide_false, decide_true, Bool.false_or, Bool.true_and, if_true]
               exact ih
             · simp only [if_neg h1, if_neg h2, h1, h2, if_neg h3, h3, decide_false, Bool.false_or, Bool.true_and, if_true, Bool.false_and]
               exact Ev.const rfl
    have hno : x.f0 ≠ 0 → snd x.f1 = false → x.f1 ≠ 0 → lk x.f0 x.f1 = false := by
     intro h0 hs h1
     simp only [lk, if_neg h0, h1, decide_false, Bool.false_or]
     cases hs0 : snd x.f0
     · rfl
     · simp only [Bool.true_and]
       have e1 : ¬ x.f0 = x.f1 := fun e => by rw [e, hs] at hs0; exact absurd hs0 (by simp)
       simp only [e1, decide_false, Bool.false_or]
       cases ho : obs x.f0
       · rfl
       · have := snd_swp x.f0 hx.1.1 hx.1.2 ho
         have e2 : ¬ swp x.f0 = x.f1 := fun e => by rw [e, hs] at this; exact absurd this (by simp)
         simp [e2]
    refine Ev.succ ?_
    simp only [spec_IsCandidate.l0, if_pos (show (i : Int) < (l.length : Int) by omega), if_pos (show (0 : Int) ≤ i by omega), hr, spec_SwapVoice_eq _ hx.1.1 hx.1.2, Option.bind_some]
    by_cases h0 : x.f0 = 0
    · have hz : snd 0 = false := by decide
      by_cases h1 : x.f1 = 0
      · simp only [if_pos h0, if_pos h1, show (x.f1 == 0) = true by rw [h1]; rfl]
        exact bad _ _ (by simp [lk, h0, h1, hz])
      · simp only [if_pos h0, if_neg h1, show (x.f1 == 0) = false from beq_eq_false_iff_ne.2 h1]
        refine Ev.bind (spec_IsSound_ev _ hx.2.1 hx.2.2) ?_
        cases hs : snd x.f1
        · simp only [Bool.false_eq_true, if_false]
          exact bad _ _ (by simp [lk, h0, hs])
        · simp only [if_true]
          exact good (fun _ => hs) (fun h => absurd h0 h)
    · simp only [if_neg h0]
      refine Ev.bind (spec_IsSound_ev _ hx.1.1 hx.1.2) ?_
      cases hs0 : snd x.f0
      · simp only [Bool.false_eq_true, if_false]
        exact bad _ _ (by simp [lk, h0, hs0])
      · simp only [if_true]
        by_cases h1 : x.f1 = 0
        · simp only [if_pos h1]
          exact good (fun h => absurd h h0) (fun _ => hs0)
        · simp only [if_neg h1]
          refine Ev.bind (spec_IsSound_ev _ hx.2.1 hx.2.2) ?_
          cases hs : snd x.f1
          · simp only [Bool.false_eq_true, if_false]
            exact bad _ _ (hno h0 hs h1)
          · simp only [if_true]
            exact good (fun h => absurd h h0) (fun _ => hs0)
 exact key 0 (by omega)

def inS (l : List ILink) : ByteArray := if cand l = true then strOfNums (inL l) else ⟨#[]⟩
theorem spec_InputOf_ev (l : List ILink) (hl : l.length ≤ 1048576) (hb : ∀ x ∈ l, okB x) : Ev (fun k => spec_InputOf.f k l) (inS l) := by
 unfold spec_InputOf.f inS
 refine Ev.bind (spec_IsCandidate_ev l hl hb) ?_
 cases cand l
 · simp only [Bool.false_eq_true, if_false]
   exact Ev.const rfl
 · simp only [if_true]
   exact Ev.bind (spec_l6In_ev l hl) (Ev.const rfl)
theorem impl_InputOf_ev (l : List ILink) (hl : l.length ≤ 1048576) (hb : ∀ x ∈ l, okB x) : Ev (fun k => impl_InputOf.f k l) (inS l) := by
 unfold impl_InputOf.f inS
 refine Ev.bind (impl_IsCandidate_ev l hl hb) ?_
 cases cand l
 · simp only [Bool.false_eq_true, if_false]
   exact Ev.const rfl
 · simp only [if_true]
   exact Ev.bind (impl_sounds_ev l hl false) (Ev.const rfl)

def outS (l : List ILink) : ByteArray := if cand l = true then strOfNums (outL l) else ⟨#[]⟩
theorem spec_OutputOf_ev (l : List ILink) (hl : l.length ≤ 1048576) (hb : ∀ x ∈ l, okB x) : Ev (fun k => spec_OutputOf.f k l) (outS l) := by
 unfold spec_OutputOf.f outS
 refine Ev.bind (spec_IsCandidate_ev l hl hb) ?_
 cases cand l
 · simp only [Bool.false_eq_true, if_false]
   exact Ev.const rfl
 · simp only [if_true]
   exact Ev.bind (spec_l6Out_ev l hl) (Ev.const rfl)
theorem impl_OutputOf_ev (l : List ILink) (hl : l.length ≤ 1048576) (hb : ∀ x ∈ l, okB x) : Ev (fun k => impl_OutputOf.f k l) (outS l) := by
 unfold impl_OutputOf.f outS
 refine Ev.bind (impl_IsCandidate_ev l hl hb) ?_
 cases cand l
 · simp only [Bool.false_eq_true, if_false]
   exact Ev.const rfl
 · simp only [if_true]
   exact Ev.bind (impl_sounds_ev l hl true) (Ev.const rfl)
def cmpX (x : ILink) (rest : List ILink → List ILink) : List ILink → List ILink
 | [] => []
 | y :: b => if y.f0 = 0 then y :: cmpX x rest b else (if x.f0 = 0 ∧ y.f1 = 0 then [] else [(⟨x.f0, y.f1⟩ : ILink)]) ++ rest b
def cmpL : List ILink → List ILink → List ILink
 | [], b => b
 | x :: a, b => if x.f1 = 0 then x :: cmpL a b else cmpX x (cmpL a) b
theorem cmpX_ok (P : ILink → Prop) (x : ILink) (rest : List ILink → List ILink) (hr : ∀ b, (∀ y ∈ b, P y) → ∀ z ∈ rest b, P z) (hx : ∀ y, P y → P ⟨x.f0, y.f1⟩) : ∀ b, (∀ y ∈ b, P y) → ∀ z ∈ cmpX x rest b, P z
 | [], _, z, hz => by simp [cmpX] at hz
 | y :: b, h, z, hz => by
  simp only [cmpX] at hz
  have hb : ∀ y ∈ b, P y := fun w hw => h w (List.mem_cons_of_mem _ hw)
  by_cases c : y.f0 = 0
  · rw [if_pos c] at hz
    rcases List.mem_cons.1 hz with rfl | hz
    · exact h _ (List.mem_cons_self ..)
    · exact cmpX_ok P x rest hr hx b hb z hz
  · rw [if_neg c] at hz
    rcases List.mem_append.1 hz with hz | hz
    · by_cases d : x.f0 = 0 ∧ y.f1 = 0
      · rw [if_pos d] at hz
        cases hz
      · rw [if_neg d, List.mem_singleton] at hz
        rw [hz]
        exact hx y (h _ (List.mem_cons_self ..))
    · exact hr b hb z hz
theorem cmpL_ok (a : List ILink) (ha : ∀ x ∈ a, okB x) : ∀ b, (∀ y ∈ b, okB y) → ∀ z ∈ cmpL a b, okB z := by
 induction a with
 | nil => exact fun b h z hz => h z hz
 | cons x a ih =>
  intro b h z hz
  have ih := ih (fun w hw => ha w (List.mem_cons_of_mem _ hw))
  have hx := ha x (List.mem_cons_self ..)
  simp only [cmpL] at hz
  by_cases c : x.f1 = 0
  · rw [if_pos c] at hz
    rcases List.mem_cons.1 hz with rfl | hz
    · exact hx
    · exact ih b h z hz
  · rw [if_neg c] at hz
    exact cmpX_ok okB x _ ih (fun y hy => ⟨hx.1, hy.2⟩) b h z hz
theorem cmpX_len (x : ILink) (rest : List ILink → List ILink) (n : Nat) (hr : ∀ b, (rest b).length ≤ n + b.length) : ∀ b, (cmpX x rest b).length ≤ n + b.length
 | [] => by simp [cmpX]
 | y :: b => by
  simp only [cmpX]
  have h1 := cmpX_len x rest n hr b
  have h2 := hr b
  by_cases c : y.f0 = 0
  · rw [if_pos c]
    simp only [List.length_cons]
    omega
  · rw [if_neg c, List.length_append, List.length_cons]
    by_cases d : x.f0 = 0 ∧ y.f1 = 0
    · rw [if_pos d, List.length_nil]
      omega
    · rw [if_neg d, List.length_singleton]
      omega
theorem cmpL_len (a : List ILink) : ∀ b, (cmpL a b).length ≤ a.length + b.length := by
 induction a with
 | nil => exact fun b => by simp [cmpL]
 | cons x a ih =>
  intro b
  simp only [cmpL]
  by_cases c : x.f1 = 0
  · rw [if_pos c]
    have := ih b
    simp only [List.length_cons]
    omega
  · rw [if_neg c]
    have := cmpX_len x (cmpL a) a.length ih b
    simp only [List.length_cons]
    omega
def finK (R : List ILink) : List ILink × Bool := if cand R = true then (R, true) else ([], false)
theorem cand_len {l : List ILink} (h : cand l = true) : l.length ≤ 16 := by
 simp only [cand, Bool.and_eq_true, decide_eq_true_eq] at h
 exact h.2.1
theorem cand_lk {l : List ILink} (h : cand l = true) : ∀ x ∈ l, lk x.f0 x.f1 = true := by
 simp only [cand, Bool.and_eq_true] at h
 exact List.all_eq_true.1 h.1
theorem lk_zero (a b : Int) (h : lk a b = true) (hb : b = 0) : ¬ a = 0 := by
 intro ha
 subst ha hb
 revert h
 decide +kernel
theorem spec_comp_l0 (a b R : List ILink) (hal : a.length ≤ 16) (hbl : b.length ≤ 16) (hR : ∀ z ∈ R, okB z) (hRl : R.length ≤ 64) :
 ∀ i, i ≤ a.length → ∀ q o, q ≤ b.length → inL (b.drop q) = outL (a.drop i) → o ++ cmpL (a.drop i) (b.drop q) = R → Ev (fun k => spec_ComposeCandidates.l0 k (q : Int) (i : Int) a b o) (finK R) := by
 refine down_ind ?_ ?_
 · intro q o hq _ he
   refine Ev.succ ?_
   have hol : o.length ≤ 64 := by rw [← he] at hRl; rw [List.length_append] at hRl; omega
   simp only [spec_ComposeCandidates.l0, Int.lt_irrefl, if_false, if_pos (show (0 : Int) ≤ q by omega), if_pos (show (q : Int) ≤ (b.length : Int) by omega), Int.toNat_natCast, Option.bind_some, List.length_drop, if_pos (show o.length + (b.length - q) < 70368744177664 by omega)]
   rw [List.drop_length] at he
   rw [show o ++ b.drop q = R from he]
   refine Ev.bind (spec_IsCandidate_ev R (by omega) hR) ?_
   unfold finK
   by_cases c : cand R = true
   · simp only [if_pos c]
     exact Ev.const rfl
   · simp only [if_neg c]
     exact Ev.const rfl
 · intro i hi ih q o hq hio he
   have hd : a.drop i = a[i] :: a.drop (i + 1) := List.drop_eq_getElem_cons hi
   have hol : o.length ≤ 64 := by rw [← he] at hRl; rw [List.length_append] at hRl; omega
   refine Ev.succ ?_
   simp only [spec_ComposeCandidates.l0, if_pos (show (i : Int) < (a.length : Int) by omega), if_pos (show (0 : Int) ≤ i by omega), rdK a i hi]
   by_cases c : a[i].f1 = 0
   · simp only [if_pos c, if_pos (show o.length < 70368744177664 by omega), wrap_succ (show i ≤ 4611686018427387903 by omega)]
     refine ih q _ hq ?_ ?_
     · rw [hio, hd, outL_cons, if_pos c]
     · rw [← he, hd, cmpL, if_pos c]
       simp
   · simp only [if_neg c]
     rw [hd, outL_cons, if_neg c] at hio
     rw [hd, cmpL, if_neg c] at he
     have key : ∀ q, q ≤ b.length → inL (b.drop q) = a[i].f1 :: outL (a.drop (i + 1)) → ∀ o : List ILink, o ++ cmpX a[i] (cmpL (a.drop (i + 1))) (b.drop q) = R → o.length ≤ 64 → Ev (fun k => spec_ComposeCandidates.l1 k (q : Int) (i : Int) a b o a[i].f0 a[i].f1) (finK R) := by
      refine down_ind ?_ ?_
      · intro h
        rw [List.drop_length] at h
        simp [inL] at h
      · intro j hj ihq h o he hol
        have hdb : b.drop j = b[j] :: b.drop (j + 1) := List.drop_eq_getElem_cons hj
        refine Ev.succ ?_
        simp only [spec_ComposeCandidates.l1, if_pos (show (0 : Int) ≤ j by omega), if_pos (show (j : Int) < (b.length : Int) by omega), rdK b j hj, if_pos (show o.length < 70368744177664 by omega), wrap_succ (show i ≤ 4611686018427387903 by omega), wrap_succ (show j ≤ 4611686018427387903 by omega)]
        rw [hdb, inL_cons] at h
        rw [hdb, cmpX] at he
        by_cases d : b[j].f0 = 0
        · simp only [if_pos d] at h he ⊢
          have he' : (o ++ [(⟨b[j].f0, b[j].f1⟩ : ILink)]) ++ cmpX a[i] (cmpL (a.drop (i + 1))) (b.drop (j + 1)) = R := by rw [← he]; simp
          exact ihq h _ he' (by rw [← he', List.length_append] at hRl; omega)
        · simp only [if_neg d] at h he ⊢
          injection h with h1 h2
          by_cases e : a[i].f0 = 0 ∧ b[j].f1 = 0
          · simp only [if_pos e, List.nil_append] at he
            simp only [if_pos e.1, if_pos e.2]
            exact ih (j + 1) o (by omega) h2 he
          · simp only [if_neg e] at he
            have he' : (o ++ [(⟨a[i].f0, b[j].f1⟩ : ILink)]) ++ cmpL (a.drop (i + 1)) (b.drop (j + 1)) = R := by rw [← he]; simp
            have g := ih (j + 1) _ (by omega) h2 he'
            by_cases e1 : a[i].f0 = 0
            · simp only [if_pos e1, if_neg (fun e2 => e ⟨e1, e2⟩ : ¬ b[j].f1 = 0)]
              exact g
            · simp only [if_neg e1]
              exact g
     exact key q hq hio o he hol
theorem putL_ev (b : List ILink) (hbl : b.length ≤ 16) : ∀ q, q ≤ b.length → ∀ o : List ILink, o.length + b.length ≤ 80 + q → ∃ o' q', Ev (fun k => putL b k o (q : Int)) (o', ((q' : Nat) : Int)) ∧ q ≤ q' ∧ q' ≤ b.length ∧ o'.length + q = o.length + q' ∧ inL (b.drop q') = inL (b.drop q) ∧ (∀ h : q' < b.length, b[q'].f0 ≠ 0) ∧ (∀ x rest, o' ++ cmpX x rest (b.drop q') = o ++ cmpX x rest (b.drop q)) ∧ o' ++ b.drop q' = o ++ b.drop q := by
 refine down_ind ?_ ?_
 · intro o _
   refine ⟨o, b.length, Ev.succ ?_, Nat.le_refl _, Nat.le_refl _, rfl, rfl, fun h => absurd h (Nat.lt_irrefl _), fun _ _ => rfl, rfl⟩
   simp only [putL, Int.lt_irrefl, if_false]
   exact Ev.const rfl
 · intro j hj ih o ho
   have hdb : b.drop j = b[j] :: b.drop (j + 1) := List.drop_eq_getElem_cons hj
   by_cases d : b[j].f0 = 0
   · obtain ⟨o', q', h1, h2, h3, h4, h5, h6, h7, h8⟩ := ih (o ++ [(⟨b[j].f0, b[j].f1⟩ : ILink)]) (by rw [List.length_append, List.length_singleton]; omega)
     refine ⟨o', q', Ev.succ ?_, by omega, h3, by rw [List.length_append, List.length_singleton] at h4; omega, ?_, h6, ?_, ?_⟩
     · simp only [putL, if_pos (show (j : Int) < (b.length : Int) by omega), if_pos (show (0 : Int) ≤ j by omega), rdK b j hj, if_pos d, if_pos (show o.length < 70368744177664 by omega), wrap_succ (show j ≤ 4611686018427387903 by omega)]
       exact h1
     · rw [h5, hdb, inL_cons, if_pos d]
     · intro x rest
       rw [h7, hdb, cmpX, if_pos d]
       simp
     · rw [h8, List.append_assoc, List.singleton_append]
       exact congrArg (o ++ ·) hdb.symm
   · refine ⟨o, j, Ev.succ ?_, Nat.le_refl _, by omega, rfl, rfl, fun _ => d, fun _ _ => rfl, rfl⟩
     simp only [putL, if_pos (show (j : Int) < (b.length : Int) by omega), if_pos (show (0 : Int) ≤ j by omega), rdK b j hj, if_neg d]
     exact Ev.const rfl
theorem impl_comp_l0 (a b : List ILink) (hal : a.length ≤ 16) (hbl : b.length ≤ 16) (hlk : ∀ x ∈ a, lk x.f0 x.f1 = true) :
 ∀ i, i ≤ a.length → ∀ q o, q ≤ b.length → inL (b.drop q) = outL (a.drop i) → o.length ≤ i + q → ∃ o' q', Ev (fun k => comp_l0 b k a o (q : Int) (i : Int)) (o', ((q' : Nat) : Int)) ∧ q' ≤ b.length ∧ o'.length ≤ a.length + q' ∧ inL (b.drop q') = [] ∧ o' ++ b.drop q' = o ++ cmpL (a.drop i) (b.drop q) := by
 refine down_ind ?_ ?_
 · intro q o hq hio hol
   refine ⟨o, q, Ev.succ ?_, hq, hol, by rw [hio, List.drop_length]; rfl, by rw [List.drop_length]; rfl⟩
   simp only [comp_l0, Int.lt_irrefl, if_false]
   exact Ev.const rfl
 · intro i hi ih q o hq hio hol
   have hd : a.drop i = a[i] :: a.drop (i + 1) := List.drop_eq_getElem_cons hi
   by_cases c : a[i].f1 = 0
   · have c0 : ¬ a[i].f0 = 0 := lk_zero _ _ (hlk _ (List.getElem_mem hi)) c
     obtain ⟨o', q', h1, h2, h3, hn, h4⟩ := ih q (o ++ [(⟨a[i].f0, 0⟩ : ILink)]) hq (by rw [hio, hd, outL_cons, if_pos c]) (by rw [List.length_append, List.length_singleton]; omega)
     refine ⟨o', q', Ev.succ ?_, h2, h3, hn, ?_⟩
     · simp only [comp_l0, if_pos (show (i : Int) < (a.length : Int) by omega), if_pos (show (0 : Int) ≤ i by omega), rdK a i hi, if_pos c, if_neg c0, if_pos (show o.length < 70368744177664 by omega), wrap_succ (show i ≤ 4611686018427387903 by omega)]
       exact h1
     · rw [h4, hd, cmpL, if_pos c]
       have : (⟨a[i].f0, 0⟩ : ILink) = a[i] := by rw [← c]
       rw [this]
       simp
   · obtain ⟨o1, q1, h1, h2, h3, h4, h5, h6, h7, _⟩ := putL_ev b hbl q hq o (by omega)
     rw [hd, outL_cons, if_neg c] at hio
     have hq1 : q1 < b.length := by
      rcases Nat.lt_or_ge q1 b.length with h | h
      · exact h
      · rw [hio, List.drop_eq_nil_of_le h] at h5
        simp [inL] at h5
     have hdb : b.drop q1 = b[q1] :: b.drop (q1 + 1) := List.drop_eq_getElem_cons hq1
     have hb0 := h6 hq1
     rw [hio, hdb, inL_cons, if_neg hb0] at h5
     injection h5 with h51 h52
     have h7 := h7 a[i] (cmpL (a.drop (i + 1)))
     rw [hdb, cmpX, if_neg hb0] at h7
     by_cases e : a[i].f0 = 0 ∧ b[q1].f1 = 0
     · obtain ⟨o', q', g1, g2, g3, gn, g4⟩ := ih (q1 + 1) o1 (by omega) h52 (by omega)
       refine ⟨o', q', Ev.succ ?_, g2, g3, gn, ?_⟩
       · simp only [comp_l0, if_pos (show (i : Int) < (a.length : Int) by omega), if_pos (show (0 : Int) ≤ i by omega), rdK a i hi, if_neg c]
         refine Ev.bind h1 ?_
         simp only [if_pos (show (0 : Int) ≤ q1 by omega), if_pos (show (q1 : Int) < (b.length : Int) by omega), rdK b q1 hq1, if_pos e, wrap_succ (show i ≤ 4611686018427387903 by omega), wrap_succ (show q1 ≤ 4611686018427387903 by omega)]
         exact g1
       · rw [if_pos e, List.nil_append] at h7
         rw [g4, hd, cmpL, if_neg c, h7]
     · obtain ⟨o', q', g1, g2, g3, gn, g4⟩ := ih (q1 + 1) (o1 ++ [(⟨a[i].f0, b[q1].f1⟩ : ILink)]) (by omega) h52 (by rw [List.length_append, List.length_singleton]; omega)
       refine ⟨o', q', Ev.succ ?_, g2, g3, gn, ?_⟩
       · simp only [comp_l0, if_pos (show (i : Int) < (a.length : Int) by omega), if_pos (show (0 : Int) ≤ i by omega), rdK a i hi, if_neg c]
         refine Ev.bind h1 ?_
         simp only [if_pos (show (0 : Int) ≤ q1 by omega), if_pos (show (q1 : Int) < (b.length : Int) by omega), rdK b q1 hq1, if_neg e, if_pos (show o1.length < 70368744177664 by omega), wrap_succ (show i ≤ 4611686018427387903 by omega), wrap_succ (show q1 ≤ 4611686018427387903 by omega)]
         exact g1
       · rw [if_neg e, ← List.append_assoc] at h7
         rw [g4, hd, cmpL, if_neg c, h7]
def compK (a b : List ILink) : List ILink × Bool := if cand a = true ∧ cand b = true ∧ outS a = inS b then finK (cmpL a b) else ([], false)
theorem str_ne (a b : ByteArray) : (a.toList != b.toList) = !decide (a = b) := by
 by_cases h : a = b
 · subst h; simp
 · have : ¬ a.toList = b.toList := fun e => h (toList_inj.1 e)
   simp [h, this]
theorem in_out {a b : List ILink} (ha : ∀ x ∈ a, okB x) (hb : ∀ x ∈ b, okB x) (ca : cand a = true) (cb : cand b = true) (h : outS a = inS b) : inL b = outL a := by
 simp only [outS, inS, if_pos ca, if_pos cb] at h
 have := congrArg B h
 rw [B_nums _ (outL_range a ha), B_nums _ (inL_range b hb)] at this
 exact this.symm
theorem spec_Compose_ev (a b : List ILink) (hal : a.length ≤ 1048576) (hbl : b.length ≤ 1048576) (ha : ∀ x ∈ a, okB x) (hb : ∀ x ∈ b, okB x) : Ev (fun k => spec_ComposeCandidates.f k a b) (compK a b) := by
 unfold spec_ComposeCandidates.f compK
 refine Ev.bind (spec_IsCandidate_ev a hal ha) ?_
 by_cases ca : cand a = true
 · simp only [if_pos ca, ca, true_and]
   refine Ev.bind (spec_IsCandidate_ev b hbl hb) ?_
   by_cases cb : cand b = true
   · simp only [if_pos cb, cb, true_and]
     refine Ev.bind (spec_OutputOf_ev a hal ha) (Ev.bind (spec_InputOf_ev b hbl hb) ?_)
     refine Ev.succ ?_
     simp only [spec_ComposeCandidates.j0, str_ne]
     by_cases e : outS a = inS b
     · simp only [e, decide_true, Bool.not_true, Bool.false_eq_true, if_false, if_true]
       have la := cand_len ca
       have lb := cand_len cb
       have := spec_comp_l0 a b (cmpL a b) la lb (cmpL_ok a ha b hb) (by have := cmpL_len a b; omega) 0 (by omega) 0 [] (by omega) (in_out ha hb ca cb e) rfl
       exact this
     · simp only [e, decide_false, Bool.not_false, if_true, if_false]
       exact Ev.const rfl
   · simp only [if_neg cb, cb, false_and, Bool.false_eq_true, if_false]
     refine Ev.succ ?_
     simp only [spec_ComposeCandidates.j0, if_true]
     exact Ev.const rfl
 · simp only [if_neg ca, ca, false_and, Bool.false_eq_true, if_false]
   refine Ev.succ ?_
   simp only [spec_ComposeCandidates.j0, if_true]
   exact Ev.const rfl
theorem drop_q1 (b : List ILink) (q q' : Nat) : ∀ o o' : List ILink, o' ++ b.drop q' = o ++ b.drop q → q' = b.length → o' = o ++ b.drop q := by
 intro o o' h e
 rw [e, List.drop_length, List.append_nil] at h
 exact h
theorem impl_Compose_ev (a b : List ILink) (hal : a.length ≤ 1048576) (hbl : b.length ≤ 1048576) (ha : ∀ x ∈ a, okB x) (hb : ∀ x ∈ b, okB x) : Ev (fun k => impl_ComposeCandidates.f k a b) (compK a b) := by
 unfold impl_ComposeCandidates.f compK
 refine Ev.bind (impl_IsCandidate_ev a hal ha) ?_
 by_cases ca : cand a = true
 · simp only [if_pos ca, ca, true_and]
   refine Ev.bind (impl_IsCandidate_ev b hbl hb) ?_
   by_cases cb : cand b = true
   · simp only [if_pos cb, cb, true_and]
     refine Ev.bind (impl_OutputOf_ev a hal ha) (Ev.bind (impl_InputOf_ev b hbl hb) ?_)
     refine Ev.succ ?_
     simp only [impl_ComposeCandidates.j0, str_ne]
     by_cases e : outS a = inS b
     · simp only [e, decide_true, Bool.not_true, Bool.false_eq_true, if_false, if_true]
       have la := cand_len ca
       have lb := cand_len cb
       obtain ⟨o1, q1, h1, h2, h3, hn, h4⟩ := impl_comp_l0 a b la lb (cand_lk ca) 0 (by omega) 0 [] (by omega) (in_out ha hb ca cb e) (by simp)
       refine Ev.bind h1 ?_
       obtain ⟨o2, q2, g1, g2, g3, g4, g5, g6, _, g8⟩ := putL_ev b lb q1 h2 o1 (by omega)
       refine Ev.bind g1 ?_
       have hq2 : o2 = cmpL a b := by
        have hz : q2 = b.length := by
         rcases Nat.lt_or_ge q2 b.length with h | h
         · exfalso
           rw [hn, List.drop_eq_getElem_cons h, inL_cons, if_neg (g6 h)] at g5
           cases g5
         · omega
        have := drop_q1 b q1 q2 o1 o2 g8 hz
        rw [this]
        simpa using h4
       simp only [hq2]
       refine Ev.bind (impl_IsCandidate_ev (cmpL a b) (by have := cmpL_len a b; omega) (cmpL_ok a ha b hb)) ?_
       unfold finK
       by_cases c : cand (cmpL a b) = true
       · simp only [if_pos c]
         exact Ev.const rfl
       · simp only [if_neg c]
         exact Ev.const rfl
     · simp only [e, decide_false, Bool.not_false, if_true, if_false]
       exact Ev.const rfl
   · simp only [if_neg cb, cb, false_and, Bool.false_eq_true, if_false]
     refine Ev.succ ?_
     simp only [impl_ComposeCandidates.j0, if_true]
     exact Ev.const rfl
 · simp only [if_neg ca, ca, false_and, Bool.false_eq_true, if_false]
   refine Ev.succ ?_
   simp only [impl_ComposeCandidates.j0, if_true]
   exact Ev.const rfl

abbrev LLink := S97
def toK (x : LLink) : ILink := ⟨x.f0, x.f1⟩
theorem rdLK (l : List LLink) (i : Nat) (h : i < l.length) : rd_T97 l (i : Int) = l[i] := by simp [rd_T97, h]
theorem bdK {l : List LLink} (h : BdSlice 2 Bd97 l) : ∀ x ∈ l.map toK, okB x := by
 intro x hx
 rw [List.mem_map] at hx
 obtain ⟨y, hy, rfl⟩ := hx
 have := h.2 y hy
 simp only [Bd97, BdInt, Lit.wf, IntKind.min, IntKind.max, IntKind.signed, IntKind.bits, Bool.and_eq_true, decide_eq_true_eq] at this
 simp at this
 unfold okB toK
 simp only []
 omega

theorem laws_toCandidate_ev (l : List LLink) (hl : l.length ≤ 1048576) : Ev (fun k => laws_toCandidate.f k l) (l.map toK) := by
 unfold laws_toCandidate.f
 refine Ev.bind ?_ (Ev.const rfl)
 unfold laws_toLinkS.f
 simp only [if_pos (show (0 : Int) ≤ (l.length : Int) by omega), Int.toNat_natCast, if_pos (show l.length ≤ 140737488355328 by omega)]
 have key : ∀ i, i ≤ l.length → Ev (fun k => laws_toLinkS.l0 k l ((l.take i).map toK ++ List.replicate (l.length - i) z63) (i : Int)) (l.map toK) := by
  refine down_ind ?_ ?_
  · refine Ev.succ ?_
    simp only [laws_toLinkS.l0, Int.lt_irrefl, if_false]
    exact Ev.const (by simp)
  · intro i hi ih
    refine Ev.succ ?_
    have hlen : ((l.take i).map toK ++ List.replicate (l.length - i) z63).length = l.length := by simp; omega
    simp only [laws_toLinkS.l0, laws_toLink.f, Option.bind_some, hlen, if_pos (show (i : Int) < (l.length : Int) by omega), if_pos (show (0 : Int) ≤ i by omega), rdLK l i hi, Int.toNat_natCast, show (⟨l[i].f0, l[i].f1⟩ : ILink) = toK l[i] from rfl, set_fill2 l toK _ i hi, wrap_succ (show i ≤ 4611686018427387903 by omega)]
    exact ih
 have := key 0 (by omega)
 simpa using this

theorem laws_eqCandidate_ev (a : List ILink) (hl : a.length ≤ 1048576) : Ev (fun k => laws_eqCandidate.f k a a) true := by
 unfold laws_eqCandidate.f
 refine Ev.bind ?_ (Ev.const (if_pos rfl))
 unfold laws_eqLinkS.f
 simp only [if_true]
 have key : ∀ i, i ≤ a.length → Ev (fun k => laws_eqLinkS.l0 k a a (i : Int)) true := by
  refine down_ind ?_ ?_
  · refine Ev.succ ?_
    simp only [laws_eqLinkS.l0, Int.lt_irrefl, if_false]
    exact Ev.const rfl
  · intro i hi ih
    refine Ev.succ ?_
    simp only [laws_eqLinkS.l0, laws_eqLink.f, Option.bind_some, if_pos (show (i : Int) < (a.length : Int) by omega), if_pos (show (0 : Int) ≤ i by omega), if_true, wrap_succ (show i ≤ 4611686018427387903 by omega)]
    exact ih
 exact key 0 (by omega)

theorem laws_szCandidate_eq (l : List LLink) (n : Nat) (hn : n ≤ 1048576) (hl : l.length ≤ 140737488355328) : laws_szCandidate.f l n = some (if l.length ≤ n then ((n - l.length : Nat) : Int) else -1) := by
 unfold laws_szCandidate.f laws_szLinkS.f
 rw [wrap_in (by omega) (by omega)]
 by_cases h : l.length ≤ n
 · rw [if_neg (show ¬ ((n : Int) - (l.length : Int) < 0) by omega), if_pos h]
   simp only [Option.bind_some]
   rw [if_neg (by omega)]
   congr 1
   omega
 · rw [if_pos (show ((n : Int) - (l.length : Int) < 0) by omega), if_neg h]
   simp only [Option.bind_some]
   rfl

theorem set_mid {α : Type} (pre : List α) (x y : α) (rest : List α) : (pre ++ x :: rest).set pre.length y = (pre ++ [y]) ++ rest := by simp
def mlk (m : Nat) : Nat → List ILink
 | 0 => []
 | n + 1 => (⟨(m : Int) % 256, ((m + 1 : Nat) : Int) % 256⟩ : ILink) :: mlk (m + 2) n
theorem mlk_length (m n : Nat) : (mlk m n).length = n := by
 induction n generalizing m with
 | zero => rfl
 | succ n ih => simp [mlk, ih]
theorem laws_markLinkS_ev (l : List ILink) (m : Nat) (hl : l.length ≤ 2097152) (h1 : m ≤ 1099511627776) : Ev (fun k => laws_markLinkS.f k l (m : Int)) (((m + 2 * l.length : Nat) : Int), mlk m l.length) := by
 unfold laws_markLinkS.f
 have key : ∀ (rest pre : List ILink) (m : Nat), pre.length + rest.length ≤ 2097152 → m + 2 * rest.length ≤ 2199023255552 → Ev (fun k => laws_markLinkS.l0 k (pre ++ rest) (m : Int) (pre.length : Int)) (((m + 2 * rest.length : Nat) : Int), pre ++ mlk m rest.length) := by
  intro rest
  induction rest with
  | nil =>
   intro pre m _ _
   refine Ev.succ ?_
   simp only [laws_markLinkS.l0, List.append_nil, Int.lt_irrefl, if_false]
   exact Ev.const (by simp [mlk])
  | cons x rest ih =>
   intro pre m h1 h2
   simp only [List.length_cons] at h1 h2
   refine Ev.succ ?_
   have e2 : rd_T63 ((pre ++ [(⟨(m : Int) % 256, x.f1⟩ : ILink)]) ++ rest) (pre.length : Int) = ⟨(m : Int) % 256, x.f1⟩ := by
    unfold rd_T63
    simp
   have e1 : rd_T63 (pre ++ x :: rest) (pre.length : Int) = x := by
    unfold rd_T63
    simp
   simp only [laws_markLinkS.l0, List.length_append, List.length_cons, if_pos (show (pre.length : Int) < ((pre.length + (rest.length + 1) : Nat) : Int) by omega), if_pos (show (0 : Int) ≤ pre.length by omega), Int.toNat_natCast, e1, set_mid, Option.bind_some, e2, wrap_succ (show m ≤ 4611686018427387903 by omega), wrap_succ (show m + 1 ≤ 4611686018427387903 by omega), wrap_succ (show pre.length ≤ 4611686018427387903 by omega)]
   rw [show ((pre ++ [(⟨(m : Int) % 256, x.f1⟩ : ILink)]) ++ rest).set pre.length ⟨(m : Int) % 256, ((m + 1 : Nat) : Int) % 256⟩ = (pre ++ [(⟨(m : Int) % 256, ((m + 1 : Nat) : Int) % 256⟩ : ILink)]) ++ rest by simp]
   have := ih (pre ++ [(⟨(m : Int) % 256, ((m + 1 : Nat) : Int) % 256⟩ : ILink)]) (m + 1 + 1) (by simp; omega) (by omega)
   rw [List.length_append, List.length_singleton] at this
   refine Ev.cast this ?_
   simp only [mlk, List.append_assoc, List.singleton_append, Prod.mk.injEq, and_true]
   omega
 have := key l [] m (by simpa using hl) (by omega)
 simpa using this
theorem laws_heldLinkS_ev (n m : Nat) (hl : n ≤ 2097152) (h1 : m ≤ 1099511627776) : Ev (fun k => laws_heldLinkS.f k (mlk m n) (m : Int)) ((m + 2 * n : Nat) : Int) := by
 unfold laws_heldLinkS.f
 have key : ∀ (n : Nat) (pre : List ILink) (m : Nat), pre.length + n ≤ 2097152 → m + 2 * n ≤ 2199023255552 → Ev (fun k => laws_heldLinkS.l0 k (pre ++ mlk m n) (m : Int) (pre.length : Int)) ((m + 2 * n : Nat) : Int) := by
  intro n
  induction n with
  | zero =>
   intro pre m _ _
   refine Ev.succ ?_
   simp only [laws_heldLinkS.l0, mlk, List.append_nil, Int.lt_irrefl, if_false]
   exact Ev.const rfl
  | succ n ih =>
   intro pre m h1 h2
   refine Ev.succ ?_
   have e1 : rd_T63 (pre ++ mlk m (n + 1)) (pre.length : Int) = ⟨(m : Int) % 256, ((m + 1 : Nat) : Int) % 256⟩ := by
    unfold rd_T63
    simp [mlk]
   simp only [laws_heldLinkS.l0, List.length_append, mlk_length, if_pos (show (pre.length : Int) < ((pre.length + (n + 1) : Nat) : Int) by omega), if_pos (show (0 : Int) ≤ pre.length by omega), e1, if_true, wrap_succ (show m ≤ 4611686018427387903 by omega), wrap_succ (show m + 1 ≤ 4611686018427387903 by omega), wrap_succ (show pre.length ≤ 4611686018427387903 by omega)]
   have := ih (pre ++ [(⟨(m : Int) % 256, ((m + 1 : Nat) : Int) % 256⟩ : ILink)]) (m + 1 + 1) (by simp; omega) (by omega)
   rw [List.length_append, List.length_singleton, List.append_assoc] at this
   refine Ev.cast this ?_
   omega
 have := key n [] m (by simpa using hl) (by omega)
 simpa using this

theorem cmp_len16 (a b : List ILink) : (compK a b).1.length ≤ 32 := by
 have := cmpL_len a b
 unfold compK finK
 split
 · rename_i h
   have := cand_len h.1
   have := cand_len h.2.1
   split
   · show (cmpL a b).length ≤ 32
     omega
   · simp
 · simp
theorem FnExactComposeCandidates : laws_FnExactComposeCandidates.Pure := by
 intro l l2 hbd hbd2
 refine Ev.rounds ?_
 unfold laws_FnExactComposeCandidates.f
 rw [show (1048576 : Int) = ((1048576 : Nat) : Int) from rfl, laws_szCandidate_eq l 1048576 (Nat.le_refl _) (by have := hbd.1; omega)]
 simp only [Option.bind_some]
 by_cases h : l.length ≤ 1048576
 · simp only [if_pos h, if_neg (show ¬ ((1048576 - l.length : Nat) : Int) < 0 by omega)]
   rw [laws_szCandidate_eq l2 (1048576 - l.length) (by omega) (by have := hbd2.1; omega)]
   simp only [Option.bind_some]
   by_cases h2 : l2.length ≤ 1048576 - l.length
   · simp only [if_pos h2, if_neg (show ¬ ((1048576 - l.length - l2.length : Nat) : Int) < 0 by omega)]
     have hl : (l.map toK).length ≤ 1048576 := by rw [List.length_map]; exact h
     have hl2 : (l2.map toK).length ≤ 1048576 := by rw [List.length_map]; omega
     have hk := cmp_len16 (l.map toK) (l2.map toK)
     have t1 := laws_toCandidate_ev l h
     have t2 := laws_toCandidate_ev l2 (by omega)
     have im := impl_Compose_ev _ _ hl hl2 (bdK hbd) (bdK hbd2)
     have q0 := laws_eqCandidate_ev _ (show (compK (l.map toK) (l2.map toK)).1.length ≤ 1048576 by omega)
     refine Ev.bind t1 (Ev.bind t2 (Ev.bind (spec_Compose_ev _ _ hl hl2 (bdK hbd) (bdK hbd2)) (Ev.bind t1 (Ev.bind t2 (Ev.bind im (Ev.bind q0 ?_))))))
     simp only [if_true, bne_self_eq_false]
     refine Ev.succ ?_
     simp only [laws_FnExactComposeCandidates.j0, Bool.false_eq_true, if_false]
     refine Ev.bind t1 (Ev.bind (laws_eqCandidate_ev _ hl) ?_)
     simp only [if_true]
     refine Ev.bind t2 (Ev.bind (laws_eqCandidate_ev _ hl2) ?_)
     simp only [if_true]
     have mk1 : Ev (fun k => laws_markCandidate.f k (l.map toK) 1) (((1 + 2 * (l.map toK).length : Nat) : Int), mlk 1 (l.map toK).length) := by
      unfold laws_markCandidate.f
      exact Ev.bind (laws_markLinkS_ev _ 1 (by omega) (by omega)) (Ev.const rfl)
     refine Ev.bind mk1 ?_
     have mk2 : Ev (fun k => laws_markCandidate.f k (l2.map toK) ((1 + 2 * (l.map toK).length : Nat) : Int)) (((1 + 2 * (l.map toK).length + 2 * (l2.map toK).length : Nat) : Int), mlk (1 + 2 * (l.map toK).length) (l2.map toK).length) := by
      unfold laws_markCandidate.f
      exact Ev.bind (laws_markLinkS_ev _ _ (by omega) (by omega)) (Ev.const rfl)
     refine Ev.bind mk2 ?_
     simp only [if_neg (show ¬ ((1 + 2 * (l.map toK).length + 2 * (l2.map toK).length : Nat) : Int) < 0 by omega)]
     refine Ev.bind q0 ?_
     simp only [if_true]
     refine Ev.succ ?_
     simp only [laws_FnExactComposeCandidates.j1, bne_self_eq_false, Bool.false_eq_true, if_false]
     have mk3 : Ev (fun k => laws_markCandidate.f k (compK (l.map toK) (l2.map toK)).1 1) (((1 + 2 * (compK (l.map toK) (l2.map toK)).1.length : Nat) : Int), mlk 1 (compK (l.map toK) (l2.map toK)).1.length) := by
      unfold laws_markCandidate.f
      exact Ev.bind (laws_markLinkS_ev _ 1 (by omega) (by omega)) (Ev.const rfl)
     have hd : Ev (fun k => laws_heldCandidate.f k (mlk 1 (compK (l.map toK) (l2.map toK)).1.length) 1) ((1 + 2 * (compK (l.map toK) (l2.map toK)).1.length : Nat) : Int) := by
      unfold laws_heldCandidate.f
      refine Ev.bind (laws_heldLinkS_ev _ 1 (by omega) (by omega)) ?_
      simp only [if_neg (show ¬ ((1 + 2 * (compK (l.map toK) (l2.map toK)).1.length : Nat) : Int) < 0 by omega)]
      exact Ev.const rfl
     refine Ev.bind mk3 ?_
     refine Ev.bind hd ?_
     simp only [if_neg (show ¬ ((1 + 2 * (compK (l.map toK) (l2.map toK)).1.length : Nat) : Int) < 0 by omega), if_true]
     refine Ev.bind t1 (Ev.bind t2 (Ev.bind im (Ev.bind q0 ?_)))
     simp only [if_true, bne_self_eq_false]
     refine Ev.succ ?_
     simp only [laws_FnExactComposeCandidates.j2, bne_self_eq_false, Bool.false_eq_true, if_false]
     refine Ev.bind hd ?_
     simp only [if_neg (show ¬ ((1 + 2 * (compK (l.map toK) (l2.map toK)).1.length : Nat) : Int) < 0 by omega), if_true]
     exact Ev.const rfl
   · simp only [if_neg h2]
     exact Ev.const rfl
 · simp only [if_neg h]
   exact Ev.const rfl

end Go.Proofs.Ytlmfpkiaikjlbaa.Pure
