/- The pure statement of the law FnExactFormatRow: for all arguments within bounds its printed function answers true. -/
import Derived.Test.YtlmfpkiaikjlbaaGreatDoorPFnExactFormatRowx
import Derived.Test.YtlmfpkiaikjlbaaGreatDoorUFnExactFormatRow
namespace Go.Proofs.YtlmfpkiaikjlbaaGreatDoor.Pure
open Go.RowKit Go.Proofs.YtlmfpkiaikjlbaaGreatDoorB Go.Proofs.YtlmfpkiaikjlbaaGreatDoor.PFnExactFormatRow Go.Proofs.YtlmfpkiaikjlbaaGreatDoorW.PrintWords Go.Proofs.YtlmfpkiaikjlbaaGreatDoorW.PrintLast Go.Proofs.YtlmfpkiaikjlbaaGreatDoorW.PrintMore
set_option linter.unusedVariables false
set_option linter.unusedSimpArgs false

def snd (c : Int) : Bool := decide (c ∈ ([112, 116, 98, 100, 110, 97, 105] : List Int))
def obs (c : Int) : Bool := decide (c ∈ ([112, 116, 98, 100] : List Int))
def feat (c f : Int) : Bool := if f = 0 then decide (c ∈ ([97, 105] : List Int)) else if f = 1 then decide (c ∈ ([98, 100, 110, 97, 105] : List Int)) else if f = 2 then decide (c = 110) else if f = 3 then decide (c ∈ ([112, 98] : List Int)) else if f = 4 then decide (c = 105) else false
def vow (c : Int) : Bool := decide (c = 97 ∨ c = 105)
def form (l : List Int) : Bool := l.all snd && decide (l.length ≤ 8)
def voi (c : Int) : Bool := decide (c = 98 ∨ c = 100)
theorem byte_ind {P : Int → Prop} (h : ∀ n : Fin 256, P (n.val : Int)) (c : Int) (h0 : 0 ≤ c) (h1 : c < 256) : P c := by
 obtain ⟨n, rfl⟩ := Int.eq_ofNat_of_zero_le h0
 exact h ⟨n, by omega⟩

abbrev ILink := S90
def okB (x : ILink) : Prop := (0 ≤ x.f0 ∧ x.f0 < 256) ∧ (0 ≤ x.f1 ∧ x.f1 < 256)
theorem rdK (l : List ILink) (i : Nat) (h : i < l.length) : rd_T90 l (i : Int) = l[i] := by simp [rd_T90, h]
def swp (c : Int) : Int := if c = 112 then 98 else if c = 98 then 112 else if c = 116 then 100 else if c = 100 then 116 else c
def lk (a b : Int) : Bool := if a = 0 then snd b else snd a && (decide (b = 0) || (decide (a = b) || (obs a && decide (swp a = b))))
def inL (l : List ILink) : List Int := (l.filter fun x => !decide (x.f0 = 0)).map (·.f0)
def outL (l : List ILink) : List Int := (l.filter fun x => !decide (x.f1 = 0)).map (·.f1)
def cand (l : List ILink) : Bool := l.all (fun x => lk x.f0 x.f1) && (decide (l.length ≤ 16) && (form (inL l) && form (outL l)))
theorem B_nums (l : List Int) (h : ∀ c ∈ l, 0 ≤ c ∧ c < 256) : B (strOfNums l) = l := by
 simp only [B, bytesOf, strOfNums, List.map_map]
 conv => rhs; rw [← List.map_id l]
 apply List.map_congr_left
 intro c hc
 obtain ⟨h0, h1⟩ := h c hc
 obtain ⟨n, rfl⟩ := Int.eq_ofNat_of_zero_le h0
 simp
 omega
theorem size_nums (l : List Int) : (strOfNums l).size = l.length := by simp [strOfNums, ByteArray.size]
theorem inL_length (l : List ILink) : (inL l).length ≤ l.length := by
 unfold inL
 rw [List.length_map]
 exact List.length_filter_le _ _
theorem outL_length (l : List ILink) : (outL l).length ≤ l.length := by
 unfold outL
 rw [List.length_map]
 exact List.length_filter_le _ _
theorem inL_range (l : List ILink) (hb : ∀ x ∈ l, okB x) : ∀ c ∈ inL l, 0 ≤ c ∧ c < 256 := by
 intro c hc
 simp only [inL, List.mem_map, List.mem_filter] at hc
 obtain ⟨x, ⟨hx, _⟩, rfl⟩ := hc
 exact (hb x hx).1
theorem outL_range (l : List ILink) (hb : ∀ x ∈ l, okB x) : ∀ c ∈ outL l, 0 ≤ c ∧ c < 256 := by
 intro c hc
 simp only [outL, List.mem_map, List.mem_filter] at hc
 obtain ⟨x, ⟨hx, _⟩, rfl⟩ := hc
 exact (hb x hx).2
theorem inL_cons (x : ILink) (l : List ILink) : inL (x :: l) = if x.f0 = 0 then inL l else x.f0 :: inL l := by
 by_cases h : x.f0 = 0 <;> simp [inL, h]
theorem outL_cons (x : ILink) (l : List ILink) : outL (x :: l) = if x.f1 = 0 then outL l else x.f1 :: outL l := by
 by_cases h : x.f1 = 0 <;> simp [outL, h]
theorem snd_swp (c : Int) (h0 : 0 ≤ c) (h1 : c < 256) (h : obs c = true) : snd (swp c) = true := byte_ind (P := fun c => obs c = true → snd (swp c) = true) (by decide +kernel) c h0 h1 h

abbrev ICand := S42
theorem rdIC (l : List ICand) (i : Nat) (h : i < l.length) : rd_T42 l (i : Int) = l[i] := by simp [rd_T42, h]
theorem rdII (l : List (List Int)) (i : Nat) (h : i < l.length) : rd_L6 l (i : Int) = l[i] := by simp [rd_L6, h]
def lensII (l : List (List Int)) : Nat := (l.map List.length).sum
theorem sum_get {α : Type} (g : α → Nat) (l : List α) (i : Nat) (h : i < l.length) : g l[i] ≤ (l.map g).sum := by
 induction l generalizing i with
 | nil => simp at h
 | cons a l ih =>
  cases i with
  | zero => simp
  | succ i =>
   simp only [List.getElem_cons_succ, List.map_cons, List.sum_cons]
   have := ih i (by simpa using h)
   omega
theorem lensII_get (l : List (List Int)) (i : Nat) (h : i < l.length) : l[i].length ≤ lensII l := sum_get List.length l i h
def okR (l : List ICand) : Prop := ∀ x ∈ l, (∀ y ∈ x.f0, okB y) ∧ x.f0.length ≤ 1048576

abbrev LLink := S139
def toK (x : LLink) : ILink := ⟨x.f0, x.f1⟩
theorem rdLK (l : List LLink) (i : Nat) (h : i < l.length) : rd_T139 l (i : Int) = l[i] := by simp [rd_T139, h]
theorem bdK {l : List LLink} (h : BdSlice 2 Bd139 l) : ∀ x ∈ l.map toK, okB x := by
 intro x hx
 rw [List.mem_map] at hx
 obtain ⟨y, hy, rfl⟩ := hx
 have := h.2 y hy
 simp only [Bd139, BdInt, Lit.wf, IntKind.min, IntKind.max, IntKind.signed, IntKind.bits, Bool.and_eq_true, decide_eq_true_eq] at this
 simp at this
 unfold okB toK
 simp only []
 omega

abbrev LCand := S106
def toC (x : LCand) : ICand := ⟨x.f0.map toK⟩
theorem rdLC (l : List LCand) (i : Nat) (h : i < l.length) : rd_T106 l (i : Int) = l[i] := by simp [rd_T106, h]
def lensC (l : List LCand) : Nat := (l.map fun x => x.f0.length).sum
theorem lensC_get (l : List LCand) (i : Nat) (h : i < l.length) : l[i].f0.length ≤ lensC l := sum_get (fun x : LCand => x.f0.length) l i h
theorem bdR {l : List LCand} (h : BdSlice 24 Bd106 l) (hs : lensC l ≤ 1048576) : okR (l.map toC) := by
 intro x hx
 rw [List.mem_map] at hx
 obtain ⟨y, hy, rfl⟩ := hx
 refine ⟨bdK (h.2 y hy), ?_⟩
 obtain ⟨i, hi, rfl⟩ := List.mem_iff_getElem.1 hy
 have := lensC_get l i hi
 simp only [toC, List.length_map]
 omega

theorem impl_SwapVoice_eq (c : Int) (h0 : 0 ≤ c) (h1 : c < 256) : impl_SwapVoice.f c = some (swp c, obs c) := byte_ind (P := fun c => impl_SwapVoice.f c = some (swp c, obs c)) (by decide +kernel) c h0 h1

theorem impl_IsSound_eq (c : Int) (h0 : 0 ≤ c) (h1 : c < 256) : impl_IsSound.f c = some (snd c) := byte_ind (P := fun c => impl_IsSound.f c = some (snd c)) (by decide +kernel) c h0 h1
theorem spec_IsSound_ev (c : Int) (h0 : 0 ≤ c) (h1 : c < 256) : Ev (fun k => spec_IsSound.f k c) (snd c) :=
 Ev.at_ (spec_IsSound.mono c) 9 (byte_ind (P := fun c => spec_IsSound.f 9 c = some (snd c)) (by decide +kernel) c h0 h1)

theorem impl_isLink_eq (a b : Int) (ha : 0 ≤ a ∧ a < 256) (hb : 0 ≤ b ∧ b < 256) : impl_isLink.f a b = some (lk a b) := by
 unfold impl_isLink.f lk
 rw [impl_IsSound_eq a ha.1 ha.2, impl_IsSound_eq b hb.1 hb.2, impl_SwapVoice_eq a ha.1 ha.2]
 by_cases h : a = 0
 · simp [h]
 · simp only [if_neg h, Option.bind_some]
   cases snd a
   · simp
   · by_cases h2 : b = 0
     · simp [h2]
     · by_cases h3 : b = a
       · simp [h3]
       · cases obs a
         · simp [h2, h3, show ¬ a = b from fun e => h3 e.symm]
         · simp only [h2, h3, if_true, if_false, show ¬ a = b from fun e => h3 e.symm, decide_false, Bool.false_or, Bool.true_and]
           rfl

theorem spec_l6In_ev (l : List ILink) (hl : l.length ≤ 1048576) : Ev (fun k => spec_l6In.f k l) (strOfNums (inL l)) := by
 have key : ∀ i, i ≤ l.length → ∀ acc : List Int, acc.length ≤ i → Ev (fun k => spec_l6In.l0 k acc (i : Int) l) (strOfNums (acc ++ inL (l.drop i))) := by
  refine down_ind ?_ ?_
  · intro acc _
    refine Ev.succ ?_
    simp only [spec_l6In.l0, Int.lt_irrefl, if_false]
    exact Ev.const (by simp [inL])
  · intro i hi ih acc hacc
    refine Ev.succ ?_
    simp only [spec_l6In.l0, if_pos (show (i : Int) < (l.length : Int) by omega), if_pos (show (0 : Int) ≤ i by omega), rdK l i hi, wrap_succ (show i ≤ 4611686018427387903 by omega), if_pos (show acc.length < 140737488355328 by omega)]
    rw [drop_cons l i hi, inL_cons]
    by_cases h : l[i].f0 = 0
    · simp only [if_pos h]
      exact ih acc (by omega)
    · simp only [if_neg h]
      refine Ev.cast (ih (acc ++ [l[i].f0]) (by simp; omega)) ?_
      simp
 refine Ev.cast (key 0 (by omega) [] (by simp)) ?_
 simp
theorem spec_l6Out_ev (l : List ILink) (hl : l.length ≤ 1048576) : Ev (fun k => spec_l6Out.f k l) (strOfNums (outL l)) := by
 have key : ∀ i, i ≤ l.length → ∀ acc : List Int, acc.length ≤ i → Ev (fun k => spec_l6Out.l0 k acc (i : Int) l) (strOfNums (acc ++ outL (l.drop i))) := by
  refine down_ind ?_ ?_
  · intro acc _
    refine Ev.succ ?_
    simp only [spec_l6Out.l0, Int.lt_irrefl, if_false]
    exact Ev.const (by simp [outL])
  · intro i hi ih acc hacc
    refine Ev.succ ?_
    simp only [spec_l6Out.l0, if_pos (show (i : Int) < (l.length : Int) by omega), if_pos (show (0 : Int) ≤ i by omega), rdK l i hi, wrap_succ (show i ≤ 4611686018427387903 by omega), if_pos (show acc.length < 140737488355328 by omega)]
    rw [drop_cons l i hi, outL_cons]
    by_cases h : l[i].f1 = 0
    · simp only [if_pos h]
      exact ih acc (by omega)
    · simp only [if_neg h]
      refine Ev.cast (ih (acc ++ [l[i].f1]) (by simp; omega)) ?_
      simp
 refine Ev.cast (key 0 (by omega) [] (by simp)) ?_
 simp

theorem impl_sounds_ev (l : List ILink) (hl : l.length ≤ 1048576) (o : Bool) : Ev (fun k => impl_sounds.f k l o) (strOfNums (if o then outL l else inL l)) := by
 have key : ∀ i, i ≤ l.length → ∀ acc : List Int, acc.length ≤ i → Ev (fun k => impl_sounds.l0 k o acc l (l.length : Int) (i : Int)) (strOfNums (acc ++ (if o then outL (l.drop i) else inL (l.drop i)))) := by
  refine down_ind ?_ ?_
  · intro acc _
    refine Ev.succ ?_
    simp only [impl_sounds.l0, Int.lt_irrefl, if_false]
    exact Ev.const (by simp [outL, inL])
  · intro i hi ih acc hacc
    refine Ev.succ ?_
    simp only [impl_sounds.l0, if_pos (show (i : Int) < (l.length : Int) by omega), if_pos (show (0 : Int) ≤ i by omega), rdK l i hi, wrap_succ (show i ≤ 4611686018427387903 by omega), if_pos (show acc.length < 140737488355328 by omega)]
    rw [drop_cons l i hi, outL_cons, inL_cons]
    cases o
    · simp only [Bool.false_eq_true, if_false] at ih ⊢
      by_cases h : l[i].f0 = 0
      · simp only [if_pos h]
        exact ih acc (by omega)
      · simp only [if_neg h]
        refine Ev.cast (ih (acc ++ [l[i].f0]) (by simp; omega)) ?_
        simp
    · simp only [if_true] at ih ⊢
      by_cases h : l[i].f1 = 0
      · simp only [if_pos h]
        exact ih acc (by omega)
      · simp only [if_neg h]
        refine Ev.cast (ih (acc ++ [l[i].f1]) (by simp; omega)) ?_
        simp
 refine Ev.cast (key 0 (by omega) [] (by simp)) ?_
 simp

theorem impl_within_eq (a b c : Int) : impl_within.f a b c = some (decide (b ≤ a ∧ a ≤ c)) := by
 unfold impl_within.f
 split
 · simp [*]
 · simp [*]

theorem spec_l2Sounds_ev (s : ByteArray) (hn : s.size ≤ 140737488351232) : Ev (fun k => spec_l2Sounds.f k s) ((B s).all snd && decide (s.size ≤ 20)) := by
 have key : ∀ i, i ≤ s.size → Ev (fun k => spec_l2Sounds.l0 k s (i : Int)) (((B s).drop i).all snd && decide (s.size ≤ 20)) := by
  refine down_ind ?_ ?_
  · refine Ev.succ ?_
    simp only [spec_l2Sounds.l0, Int.lt_irrefl, if_false]
    refine Ev.const ?_
    rw [List.drop_of_length_le (by rw [B_length]; exact Nat.le_refl _)]
    simp
    omega
  · intro i hi ih
    have hB : i < (B s).length := by rw [B_length]; exact hi
    have hr := B_get_range s i hB
    refine Ev.succ ?_
    simp only [spec_l2Sounds.l0, if_pos (show (i : Int) < (s.size : Int) by omega), if_pos (show (0 : Int) ≤ i by omega), bt_nat s i hB]
    refine Ev.bind (spec_IsSound_ev _ hr.1 hr.2) ?_
    rw [drop_cons _ _ hB, List.all_cons]
    cases snd (B s)[i]
    · simp only [Bool.false_eq_true, if_false]
      exact Ev.const rfl
    · simp only [if_true, wrap_succ (show i ≤ 4611686018427387903 by omega), Bool.true_and]
      exact ih
 exact key 0 (by omega)
theorem spec_IsForm_ev (s : ByteArray) (hn : s.size ≤ 140737488351232) : Ev (fun k => spec_IsForm.f k s) (form (B s)) := by
 unfold spec_IsForm.f
 refine Ev.bind (spec_l2Sounds_ev s hn) ?_
 refine Ev.const ?_
 unfold form
 rw [B_length]
 cases (B s).all snd
 · simp
 · by_cases h : s.size ≤ 8
   · have h2 : s.size ≤ 20 := by omega
     simp [h, h2]
     omega
   · by_cases h2 : s.size ≤ 20
     · simp [h, h2]
       omega
     · simp [h, h2]
theorem impl_areSounds_ev (s : ByteArray) (hn : s.size ≤ 140737488351232) : Ev (fun k => impl_areSounds.f k s) ((B s).all snd && decide (1 ≤ s.size ∧ s.size ≤ 20)) := by
 have key : ∀ i, i ≤ s.size → Ev (fun k => impl_areSounds.l0 k s (s.size : Int) (i : Int)) (((B s).drop i).all snd && decide (1 ≤ s.size ∧ s.size ≤ 20)) := by
  refine down_ind ?_ ?_
  · refine Ev.succ ?_
    simp only [impl_areSounds.l0, Int.lt_irrefl, if_false, impl_within_eq, Option.bind_some]
    refine Ev.const ?_
    rw [List.drop_of_length_le (by rw [B_length]; exact Nat.le_refl _)]
    simp only [List.all_nil, Bool.true_and]
    exact congrArg some (decide_eq_decide.2 (by omega))
  · intro i hi ih
    have hB : i < (B s).length := by rw [B_length]; exact hi
    have hr := B_get_range s i hB
    refine Ev.succ ?_
    simp only [impl_areSounds.l0, if_pos (show (i : Int) < (s.size : Int) by omega), if_pos (show (0 : Int) ≤ i by omega), bt_nat s i hB, impl_IsSound_eq _ hr.1 hr.2, Option.bind_some]
    rw [drop_cons _ _ hB, List.all_cons]
    cases snd (B s)[i]
    · simp only [Bool.false_eq_true, if_false]
      exact Ev.const rfl
    · simp only [if_true, wrap_succ (show i ≤ 4611686018427387903 by omega), Bool.true_and]
      exact ih
 exact key 0 (by omega)
theorem impl_IsForm_ev (s : ByteArray) (hn : s.size ≤ 140737488351232) : Ev (fun k => impl_IsForm.f k s) (form (B s)) := by
 unfold impl_IsForm.f
 by_cases h0 : s.toList = []
 · simp only [if_pos h0]
   rw [toList_nil] at h0
   exact Ev.const (by rw [h0]; rfl)
 · simp only [if_neg h0]
   rw [toList_nil] at h0
   have h1 : 1 ≤ s.size := by
    rw [← B_length]
    exact List.length_pos_iff.2 h0
   by_cases h8 : s.size ≤ 8
   · simp only [if_pos (show (s.size : Int) ≤ 8 by omega)]
     refine Ev.bind (impl_areSounds_ev s hn) ?_
     refine Ev.const ?_
     unfold form
     rw [B_length]
     have h2 : s.size ≤ 20 := by omega
     simp [h1, h2, h8]
   · simp only [if_neg (show ¬ (s.size : Int) ≤ 8 by omega)]
     refine Ev.const ?_
     unfold form
     rw [B_length]
     simp [h8]

theorem spec_formNums (l : List Int) (hl : l.length ≤ 1048576) (h : ∀ c ∈ l, 0 ≤ c ∧ c < 256) : Ev (fun k => spec_IsForm.f k (strOfNums l)) (form l) := by
 have := spec_IsForm_ev (strOfNums l) (by rw [size_nums]; omega)
 rwa [B_nums l h] at this
theorem impl_formNums (l : List Int) (hl : l.length ≤ 1048576) (h : ∀ c ∈ l, 0 ≤ c ∧ c < 256) : Ev (fun k => impl_IsForm.f k (strOfNums l)) (form l) := by
 have := impl_IsForm_ev (strOfNums l) (by rw [size_nums]; omega)
 rwa [B_nums l h] at this

theorem spec_SwapVoice_eq (c : Int) (h0 : 0 ≤ c) (h1 : c < 256) : spec_SwapVoice.f c = some (swp c, obs c) := byte_ind (P := fun c => spec_SwapVoice.f c = some (swp c, obs c)) (by decide +kernel) c h0 h1

theorem impl_IsCandidate_ev (l : List ILink) (hl : l.length ≤ 1048576) (hb : ∀ x ∈ l, okB x) : Ev (fun k => impl_IsCandidate.f k l) (cand l) := by
 unfold impl_IsCandidate.f cand
 have h1 := inL_length l
 have h2 := outL_length l
 have key : ∀ i, i ≤ l.length → Ev (fun k => impl_IsCandidate.l0 k l (l.length : Int) (i : Int) l) ((l.drop i).all (fun x => lk x.f0 x.f1) && (decide (l.length ≤ 16) && (form (inL l) && form (outL l)))) := by
  refine down_ind ?_ ?_
  · refine Ev.succ ?_
    simp only [impl_IsCandidate.l0, Int.lt_irrefl, if_false]
    rw [List.drop_of_length_le (Nat.le_refl _), List.all_nil, Bool.true_and]
    by_cases h : l.length ≤ 16
    · simp only [if_pos (show (l.length : Int) ≤ 16 by omega), h, decide_true, Bool.true_and]
      refine Ev.bind (impl_sounds_ev l hl false) (Ev.bind (impl_formNums (inL l) (by omega) (inL_range l hb)) ?_)
      cases form (inL l)
      · simp only [Bool.false_eq_true, if_false, Bool.false_and]
        exact Ev.const rfl
      · simp only [if_true, Bool.true_and]
        refine Ev.bind (impl_sounds_ev l hl true) (Ev.bind (impl_formNums (outL l) (by omega) (outL_range l hb)) (Ev.const rfl))
    · simp only [if_neg (show ¬ (l.length : Int) ≤ 16 by omega), h, decide_false, Bool.false_and]
      exact Ev.const rfl
  · intro i hi ih
    have hx := hb l[i] (List.getElem_mem hi)
    refine Ev.succ ?_
    simp only [impl_IsCandidate.l0, if_pos (show (i : Int) < (l.length : Int) by omega), if_pos (show (0 : Int) ≤ i by omega), rdK l i hi, wrap_succ (show i ≤ 4611686018427387903 by omega), impl_isLink_eq _ _ hx.1 hx.2, Option.bind_some]
    rw [drop_cons l i hi, List.all_cons]
    cases lk l[i].f0 l[i].f1
    · simp only [Bool.false_eq_true, if_false, Bool.false_and]
      exact Ev.const rfl
    · simp only [if_true, Bool.true_and]
      exact ih
 exact key 0 (by omega)
theorem spec_IsCandidate_ev (l : List ILink) (hl : l.length ≤ 1048576) (hb : ∀ x ∈ l, okB x) : Ev (fun k => spec_IsCandidate.f k l) (cand l) := by
 unfold spec_IsCandidate.f cand
 have h1 := inL_length l
 have h2 := outL_length l
 have key : ∀ i, i ≤ l.length → Ev (fun k => spec_IsCandidate.l0 k (i : Int) l) ((l.drop i).all (fun x => lk x.f0 x.f1) && (decide (l.length ≤ 16) && (form (inL l) && form (outL l)))) := by
  refine down_ind ?_ ?_
  · refine Ev.succ ?_
    simp only [spec_IsCandidate.l0, Int.lt_irrefl, if_false]
    rw [List.drop_of_length_le (Nat.le_refl _), List.all_nil, Bool.true_and]
    by_cases h : l.length ≤ 16
    · simp only [if_pos (show (l.length : Int) ≤ 16 by omega), h, decide_true, Bool.true_and]
      refine Ev.bind (spec_l6In_ev l hl) (Ev.bind (spec_formNums (inL l) (by omega) (inL_range l hb)) ?_)
      cases form (inL l)
      · simp only [Bool.false_eq_true, if_false, Bool.false_and]
        exact Ev.const rfl
      · simp only [if_true, Bool.true_and]
        refine Ev.bind (spec_l6Out_ev l hl) (Ev.bind (spec_formNums (outL l) (by omega) (outL_range l hb)) (Ev.const rfl))
    · simp only [if_neg (show ¬ (l.length : Int) ≤ 16 by omega), h, decide_false, Bool.false_and]
      exact Ev.const rfl
  · intro i hi ih
    have hx := hb l[i] (List.getElem_mem hi)
    rw [drop_cons l i hi, List.all_cons]
    have hr := rdK l i hi
    revert hx
    generalize hxe : l[i] = x at hr ⊢
    intro hx
    have bad : ∀ (y : Int) (o : Bool), lk x.f0 x.f1 = false → Ev (fun k => spec_IsCandidate.j1 k (i : Int) y o true l x.f0 x.f1) (lk x.f0 x.f1 && (l.drop (i + 1)).all (fun x => lk x.f0 x.f1) && (decide (l.length ≤ 16) && (form (inL l) && form (outL l)))) := by
     intro y o h
     refine Ev.succ ?_
     simp only [spec_IsCandidate.j1, if_true, h, Bool.false_and]
     exact Ev.const rfl
    have good : (x.f0 = 0 → snd x.f1 = true) → (x.f0 ≠ 0 → snd x.f0 = true) → Ev (fun k => spec_IsCandidate.j1 k (i : Int) (swp x.f0) (obs x.f0) false l x.f0 x.f1) (lk x.f0 x.f1 && (l.drop (i + 1)).all (fun x => lk x.f0 x.f1) && (decide (l.length ≤ 16) && (form (inL l) && form (outL l)))) := by
     intro hz hn
     refine Ev.succ ?_
     simp only [spec_IsCandidate.j1, Bool.false_eq_true, if_false, wrap_succ (show i ≤ 4611686018427387903 by omega)]
     by_cases h0 : x.f0 = 0
     · simp only [if_pos h0, lk, hz h0, Bool.true_and]
       exact ih
     · simp only [if_neg h0, lk, hn h0, Bool.true_and]
       by_cases h1 : x.f1 = 0
       · simp only [h1, if_true, decide_true, Bool.true_or, Bool.true_and]
         exact ih
       · by_cases h2 : x.f0 = x.f1
         · simp only [if_neg h1, if_pos h2, h2, decide_true, Bool.true_or, Bool.or_true, Bool.true_and]
           exact ih
         · cases obs x.f0
           · simp only [if_neg h1, if_neg h2, h1, h2, decide_false, Bool.false_or, Bool.false_and, Bool.false_eq_true, if_false]
             exact Ev.const rfl
           · by_cases h3 : swp x.f0 = x.f1
             · simp only [if_neg h1, if_neg h2, h1, h2, if_pos h3, h3, decide_false, decide_true, Bool.false_or, Bool.true_and, if_true]
               exact ih
             · simp only [if_neg h1, if_neg h2, h1, h2, if_neg h3, h3, decide_false, Bool.false_or, Bool.true_and, if_true, Bool.false_and]
               exact Ev.const rfl
    have hno : x.f0 ≠ 0 → snd x.f1 = false → x.f1 ≠ 0 → lk x.f0 x.f1 = false := by
     intro h0 hs h1
     simp only [lk, if_neg h0, h1, decide_false, Bool.false_or]
     cases hs0 : snd x.f0
     · rfl
     · simp only [Bool.true_and]
       have e1 : ¬ x.f0 = x.f1 := fun e => by rw [e, hs] at hs0; exact absurd hs0 (by simp)
       simp only [e1, decide_false, Bool.false_or]
       cases ho : obs x.f0
       · rfl
       · have := snd_swp x.f0 hx.1.1 hx.1.2 ho
         have e2 : ¬ swp x.f0 = x.f1 := fun e => by rw [e, hs] at this; exact absurd this (by simp)
         simp [e2]
    refine Ev.succ ?_
    simp only [spec_IsCandidate.l0, if_pos (show (i : Int) < (l.length : Int) by omega), if_pos (show (0 : Int) ≤ i by omega), hr, spec_SwapVoice_eq _ hx.1.1 hx.1.2, Option.bind_some]
    by_cases h0 : x.f0 = 0
    · have hz : snd 0 = false := by decide
      by_cases h1 : x.f1 = 0
      · simp only [if_pos h0, if_pos h1, show (x.f1 == 0) = true by rw [h1]; rfl]
        exact bad _ _ (by simp [lk, h0, h1, hz])
      · simp only [if_pos h0, if_neg h1, show (x.f1 == 0) = false from beq_eq_false_iff_ne.2 h1]
        refine Ev.bind (spec_IsSound_ev _ hx.2.1 hx.2.2) ?_
        cases hs : snd x.f1
        · simp only [Bool.false_eq_true, if_false]
          exact bad _ _ (by simp [lk, h0, hs])
        · simp only [if_true]
          exact good (fun _ => hs) (fun h => absurd h0 h)
    · simp only [if_neg h0]
      refine Ev.bind (spec_IsSound_ev _ hx.1.1 hx.1.2) ?_
      cases hs0 : snd x.f0
      · simp only [Bool.false_eq_true, if_false]
        exact bad _ _ (by simp [lk, h0, hs0])
      · simp only [if_true]
        by_cases h1 : x.f1 = 0
        · simp only [if_pos h1]
          exact good (fun h => absurd h h0) (fun _ => hs0)
        · simp only [if_neg h1]
          refine Ev.bind (spec_IsSound_ev _ hx.2.1 hx.2.2) ?_
          cases hs : snd x.f1
          · simp only [Bool.false_eq_true, if_false]
            exact bad _ _ (hno h0 hs h1)
          · simp only [if_true]
            exact good (fun h => absurd h h0) (fun _ => hs0)
 exact key 0 (by omega)

def inS (l : List ILink) : ByteArray := if cand l = true then strOfNums (inL l) else ⟨#[]⟩
theorem spec_InputOf_ev (l : List ILink) (hl : l.length ≤ 1048576) (hb : ∀ x ∈ l, okB x) : Ev (fun k => spec_InputOf.f k l) (inS l) := by
 unfold spec_InputOf.f inS
 refine Ev.bind (spec_IsCandidate_ev l hl hb) ?_
 cases cand l
 · simp only [Bool.false_eq_true, if_false]
   exact Ev.const rfl
 · simp only [if_true]
   exact Ev.bind (spec_l6In_ev l hl) (Ev.const rfl)
theorem impl_InputOf_ev (l : List ILink) (hl : l.length ≤ 1048576) (hb : ∀ x ∈ l, okB x) : Ev (fun k => impl_InputOf.f k l) (inS l) := by
 unfold impl_InputOf.f inS
 refine Ev.bind (impl_IsCandidate_ev l hl hb) ?_
 cases cand l
 · simp only [Bool.false_eq_true, if_false]
   exact Ev.const rfl
 · simp only [if_true]
   exact Ev.bind (impl_sounds_ev l hl false) (Ev.const rfl)

def outS (l : List ILink) : ByteArray := if cand l = true then strOfNums (outL l) else ⟨#[]⟩
theorem spec_OutputOf_ev (l : List ILink) (hl : l.length ≤ 1048576) (hb : ∀ x ∈ l, okB x) : Ev (fun k => spec_OutputOf.f k l) (outS l) := by
 unfold spec_OutputOf.f outS
 refine Ev.bind (spec_IsCandidate_ev l hl hb) ?_
 cases cand l
 · simp only [Bool.false_eq_true, if_false]
   exact Ev.const rfl
 · simp only [if_true]
   exact Ev.bind (spec_l6Out_ev l hl) (Ev.const rfl)
theorem impl_OutputOf_ev (l : List ILink) (hl : l.length ≤ 1048576) (hb : ∀ x ∈ l, okB x) : Ev (fun k => impl_OutputOf.f k l) (outS l) := by
 unfold impl_OutputOf.f outS
 refine Ev.bind (impl_IsCandidate_ev l hl hb) ?_
 cases cand l
 · simp only [Bool.false_eq_true, if_false]
   exact Ev.const rfl
 · simp only [if_true]
   exact Ev.bind (impl_sounds_ev l hl true) (Ev.const rfl)
theorem outS_size (l : List ILink) (hl : l.length ≤ 1048576) : (outS l).size ≤ 1048576 := by
 unfold outS
 split
 · rw [size_nums]
   have := outL_length l
   omega
 · exact Nat.zero_le _

def cns (c : Int) : Bool := snd c && !vow c
def vls (c : Int) : Bool := decide (c = 112 ∨ c = 116)
def pOnsetless (b x h : Int) : Bool := vow x && !cns b
def pCodas (b x h : Int) : Bool := cns x && !vow h
def pClusters (b x h : Int) : Bool := cns b && cns x
def pVoiced (b x h : Int) : Bool := voi x
def pFinalVoiced (b x h : Int) : Bool := voi x && (h == 0)
def pNasalVoiceless (b x h : Int) : Bool := decide (b = 110) && vls x
def cntP (p : Int → Int → Int → Bool) (l : List Int) : Nat := if form l then plc p l 0 else 0

theorem places_G_ev (PF : Int → Int → Int → Option Bool) (s : ByteArray) (hn : s.size ≤ 140737488351232) (p : Int → Int → Int → Bool) (hp : ∀ a b c, 0 ≤ a ∧ a < 256 → 0 ≤ b ∧ b < 256 → 0 ≤ c ∧ c < 256 → PF a b c = some (p a b c)) :
 Ev (fun k => impl_places_G.f PF k s ()) ((cntP p (B s) : Nat) : Int) := by
 unfold impl_places_G.f cntP
 have key : ∀ i, i ≤ s.size → ∀ n : Nat, n ≤ i → Ev (fun k => impl_places_G.l0 PF k s (n : Int) (s.size : Int) (i : Int)) ((n + (if form (B s) then plc p (B s) i else 0) : Nat) : Int) := by
  refine down_ind ?_ ?_
  · intro n hn'
    refine Ev.succ ?_
    simp only [impl_places_G.l0, Int.lt_irrefl, if_false]
    exact Ev.const (by rw [plc_end _ _ (by rw [B_length]; exact Nat.le_refl _)]; simp)
  · intro i hi ih n hn'
    have hB : i < (B s).length := by rw [B_length]; exact hi
    have J2 : ∀ b h, (0 ≤ b ∧ b < 256) → (0 ≤ h ∧ h < 256) → b = befA (B s) i → h = behA (B s) i → Ev (fun k => impl_places_G.j2 PF k s (n : Int) (i : Int) b h (s.size : Int) (i : Int)) ((n + (if form (B s) then plc p (B s) i else 0) : Nat) : Int) := by
     intro b h hb hh eb eh
     refine Ev.succ ?_
     simp only [impl_places_G.j2]
     refine Ev.bind (impl_IsForm_ev s hn) ?_
     cases hf : form (B s)
     · simp only [Bool.false_eq_true, if_false, wrap_succ (show i ≤ 4611686018427387903 by omega)]
       refine Ev.cast (ih n (by omega)) ?_
       simp [hf]
     · simp only [if_true, if_pos (show (0 : Int) ≤ i by omega), if_pos (show (i : Int) < (s.size : Int) by omega), bt_nat s i hB, hp b _ h hb (B_get_range s i hB) hh, Option.bind_some, wrap_succ (show i ≤ 4611686018427387903 by omega)]
       rw [plc_step p (B s) i hB, ← eb, ← eh]
       cases p b (B s)[i] h
       · simp only [Bool.false_eq_true, if_false]
         refine Ev.cast (ih n (by omega)) ?_
         simp [hf]
       · simp only [if_true, wrap_succ (show n ≤ 4611686018427387903 by omega)]
         refine Ev.cast (ih (n + 1) (by omega)) ?_
         simp [hf]
         omega
    have J1 : ∀ b, (0 ≤ b ∧ b < 256) → b = befA (B s) i → Ev (fun k => impl_places_G.j1 PF k s (n : Int) (i : Int) b 0 (s.size : Int) (i : Int)) ((n + (if form (B s) then plc p (B s) i else 0) : Nat) : Int) := by
     intro b hb eb
     refine Ev.succ ?_
     simp only [impl_places_G.j1, wrap_succ (show i ≤ 4611686018427387903 by omega)]
     by_cases h1 : i + 1 < s.size
     · have hB1 : i + 1 < (B s).length := by rw [B_length]; exact h1
       simp only [if_pos (show (((i + 1 : Nat)) : Int) < (s.size : Int) by omega), if_pos (show (0 : Int) ≤ ((i + 1 : Nat) : Int) by omega), bt_nat s (i + 1) hB1]
       exact J2 b _ hb (B_get_range s (i + 1) hB1) eb (behA_in _ _ hB1).symm
     · simp only [if_neg (show ¬ (((i + 1 : Nat)) : Int) < (s.size : Int) by omega)]
       exact J2 b 0 hb (by omega) eb (behA_out _ _ (by rw [B_length]; exact h1)).symm
    refine Ev.succ ?_
    simp only [impl_places_G.l0, if_pos (show (i : Int) < (s.size : Int) by omega)]
    by_cases h0 : i = 0
    · simp only [if_neg (show ¬ (i : Int) > 0 by omega)]
      exact J1 0 (by omega) (by simp [befA, h0])
    · have hBm : i - 1 < (B s).length := by omega
      simp only [if_pos (show (i : Int) > 0 by omega), show wrap64 ((i : Int) - 1) = ((i - 1 : Nat) : Int) by unfold wrap64; omega, if_pos (show (0 : Int) ≤ ((i - 1 : Nat) : Int) by omega), if_pos (show ((i - 1 : Nat) : Int) < (s.size : Int) by omega), bt_nat s (i - 1) hBm]
      exact J1 _ (B_get_range s (i - 1) hBm) (befA_pos _ _ h0 hB).symm
 have := key 0 (by omega) 0 (by omega)
 simpa using this

theorem places_at_CountOnsetless_ev (s : ByteArray) (hn : s.size ≤ 140737488351232) (p : Int → Int → Int → Bool) (hp : ∀ a b c, 0 ≤ a ∧ a < 256 → 0 ≤ b ∧ b < 256 → 0 ≤ c ∧ c < 256 → impl_CountOnsetless_1.f a b c = some (p a b c)) :
 Ev (fun k => impl_places_at_CountOnsetless_1.f k s ()) ((cntP p (B s) : Nat) : Int) := places_G_ev impl_CountOnsetless_1.f s hn p hp

theorem impl_isVowel_eq (c : Int) (h0 : 0 ≤ c) (h1 : c < 256) : impl_isVowel.f c = some (vow c) := byte_ind (P := fun c => impl_isVowel.f c = some (vow c)) (by decide +kernel) c h0 h1

theorem impl_isConsonant_eq (c : Int) (h0 : 0 ≤ c) (h1 : c < 256) : impl_isConsonant.f c = some (cns c) := byte_ind (P := fun c => impl_isConsonant.f c = some (cns c)) (by decide +kernel) c h0 h1

theorem getD_in (l : List Int) (i : Nat) (h : i < l.length) : l.getD i 0 = l[i] := by simp [h]

theorem form_snd {l : List Int} (hf : form l = true) (i : Nat) (h : i < l.length) : snd l[i] = true := List.all_eq_true.1 (Bool.and_eq_true_iff.1 hf).1 _ (List.getElem_mem h)
theorem cns_of_snd {c : Int} (h : snd c = true) : cns c = !vow c := by simp [cns, h]
theorem behA_getD (l : List Int) (i : Nat) : behA l i = l.getD (i + 1) 0 := rfl
theorem spec_CountOnsetless_gen (s : ByteArray) (hn : s.size ≤ 140737488351232) (p : Int → Int → Int → Bool) (st : Nat)
 (step : ∀ i (hi : i < (B s).length) (n : Nat), n ≤ i → st ≤ i → form (B s) = true → ∀ r, Ev (fun k => spec_CountOnsetless.l0 k s ((n + (if p (befA (B s) i) (B s)[i] (behA (B s) i) then 1 else 0) : Nat) : Int) ((i + 1 : Nat) : Int)) r → Ev (fun k => spec_CountOnsetless.j1 k s (n : Int) (i : Int) true) r) :
 ∀ i, i ≤ s.size → st ≤ i → ∀ n : Nat, n ≤ i → Ev (fun k => spec_CountOnsetless.l0 k s (n : Int) (i : Int)) ((n + (if form (B s) then plc p (B s) i else 0) : Nat) : Int) := by
 refine down_ind ?_ ?_
 · intro _ n hn'
   refine Ev.succ ?_
   simp only [spec_CountOnsetless.l0, Int.lt_irrefl, if_false]
   refine Ev.succ ?_
   simp only [spec_CountOnsetless.j1, Bool.false_eq_true, if_false]
   exact Ev.const (by rw [plc_end _ _ (by rw [B_length]; exact Nat.le_refl _)]; simp)
 · intro i hi ih hst n hn'
   have hB : i < (B s).length := by rw [B_length]; exact hi
   refine Ev.succ ?_
   simp only [spec_CountOnsetless.l0, if_pos (show (i : Int) < (s.size : Int) by omega)]
   refine Ev.bind (spec_IsForm_ev s hn) ?_
   cases hf : form (B s)
   · refine Ev.succ ?_
     simp only [spec_CountOnsetless.j1, Bool.false_eq_true, if_false]
     exact Ev.const rfl
   · refine step i hB n hn' hst hf _ ?_
     rw [plc_step p (B s) i hB]
     by_cases hp : p (befA (B s) i) (B s)[i] (behA (B s) i) = true
     · simp only [if_pos hp]
       refine Ev.cast (ih (by omega) (n + 1) (by omega)) ?_
       simp [hf]
       omega
     · simp only [if_neg hp]
       refine Ev.cast (ih (by omega) n (by omega)) ?_
       simp [hf]

theorem spec_HasFeature_eq (c : Int) (h0 : 0 ≤ c) (h1 : c < 256) (f : Int) (hf : f ∈ ([0, 1, 2, 3, 4] : List Int)) : spec_HasFeature.f c f = some (feat c f) := byte_ind (P := fun c => ∀ f ∈ ([0, 1, 2, 3, 4] : List Int), spec_HasFeature.f c f = some (feat c f)) (by decide +kernel) c h0 h1 f hf

theorem spec_IsVowelAt_eq (s : ByteArray) (i : Nat) : spec_IsVowelAt.f s (i : Int) = some (vow ((B s).getD i 0)) := by
 unfold spec_IsVowelAt.f
 rw [if_pos (show (i : Int) ≥ 0 by omega)]
 by_cases h : i < s.size
 · have hB : i < (B s).length := by rw [B_length]; exact h
   rw [if_pos (by omega), if_pos (by omega), bt_nat s i hB, spec_HasFeature_eq _ (B_get_range s i hB).1 (B_get_range s i hB).2 0 (by decide)]
   simp only [Option.bind_some, feat, if_true, List.getD_eq_getElem?_getD, List.getElem?_eq_getElem hB, Option.getD_some, vow]
   simp
 · rw [if_neg (by omega)]
   simp only [List.getD_eq_getElem?_getD, List.getElem?_eq_none (show (B s).length ≤ i by rw [B_length]; omega)]
   rfl

theorem impl_CountOnsetless_ev (s : ByteArray) (hn : s.size ≤ 140737488351232) : Ev (fun k => impl_CountOnsetless.f k s) ((cntP pOnsetless (B s) : Nat) : Int) := by
 unfold impl_CountOnsetless.f
 refine Ev.bind (places_at_CountOnsetless_ev s hn pOnsetless ?_) (Ev.const rfl)
 intro a b c ha hb _
 unfold impl_CountOnsetless_1.f pOnsetless
 rw [impl_isVowel_eq b hb.1 hb.2, impl_isConsonant_eq a ha.1 ha.2]
 cases vow b <;> rfl
theorem spec_CountOnsetless_ev (s : ByteArray) (hn : s.size ≤ 140737488351232) : Ev (fun k => spec_CountOnsetless.f k s) ((cntP pOnsetless (B s) : Nat) : Int) := by
 unfold spec_CountOnsetless.f
 refine Ev.cast (spec_CountOnsetless_gen s hn pOnsetless 0 ?_ 0 (by omega) (by omega) 0 (by omega)) (by simp [cntP])
 intro i hi n hn' _ hf r ih
 have hb := B_length s
 refine Ev.succ ?_
 simp only [spec_CountOnsetless.j1, if_true, spec_IsVowelAt_eq, Option.bind_some, getD_in _ i hi, wrap_succ (show i ≤ 4611686018427387903 by omega), wrap_succ (show n ≤ 4611686018427387903 by omega)]
 unfold pOnsetless at ih
 cases hx : vow (B s)[i]
 · simp only [hx, Bool.false_and, Bool.false_eq_true, if_false, Nat.add_zero] at ih ⊢
   exact ih
 · by_cases h0 : i = 0
   · simp only [if_true, if_pos (show (i : Int) = 0 by omega)]
     simp only [hx, befA, if_pos h0, show cns 0 = false by decide, Bool.not_false, Bool.and_self, if_true] at ih
     exact ih
   · have hm : i - 1 < (B s).length := by omega
     simp only [if_true, if_neg (show ¬ (i : Int) = 0 by omega), show wrap64 ((i : Int) - 1) = ((i - 1 : Nat) : Int) by unfold wrap64; omega, spec_IsVowelAt_eq, Option.bind_some, getD_in _ (i - 1) hm]
     simp only [hx, befA_pos _ i h0 hi, cns_of_snd (form_snd hf (i - 1) hm), Bool.not_not, Bool.true_and] at ih
     cases hy : vow (B s)[i - 1]
     · simp only [hy, Bool.false_eq_true, if_false, Nat.add_zero] at ih ⊢
       exact ih
     · simp only [hy, if_true] at ih ⊢
       exact ih

theorem places_at_CountCodas_ev (s : ByteArray) (hn : s.size ≤ 140737488351232) (p : Int → Int → Int → Bool) (hp : ∀ a b c, 0 ≤ a ∧ a < 256 → 0 ≤ b ∧ b < 256 → 0 ≤ c ∧ c < 256 → impl_CountCodas_1.f a b c = some (p a b c)) :
 Ev (fun k => impl_places_at_CountCodas_1.f k s ()) ((cntP p (B s) : Nat) : Int) := places_G_ev impl_CountCodas_1.f s hn p hp

theorem spec_CountCodas_gen (s : ByteArray) (hn : s.size ≤ 140737488351232) (p : Int → Int → Int → Bool) (st : Nat)
 (step : ∀ i (hi : i < (B s).length) (n : Nat), n ≤ i → st ≤ i → form (B s) = true → ∀ r, Ev (fun k => spec_CountCodas.l0 k s ((n + (if p (befA (B s) i) (B s)[i] (behA (B s) i) then 1 else 0) : Nat) : Int) ((i + 1 : Nat) : Int)) r → Ev (fun k => spec_CountCodas.j1 k s (n : Int) (i : Int) true) r) :
 ∀ i, i ≤ s.size → st ≤ i → ∀ n : Nat, n ≤ i → Ev (fun k => spec_CountCodas.l0 k s (n : Int) (i : Int)) ((n + (if form (B s) then plc p (B s) i else 0) : Nat) : Int) := by
 refine down_ind ?_ ?_
 · intro _ n hn'
   refine Ev.succ ?_
   simp only [spec_CountCodas.l0, Int.lt_irrefl, if_false]
   refine Ev.succ ?_
   simp only [spec_CountCodas.j1, Bool.false_eq_true, if_false]
   exact Ev.const (by rw [plc_end _ _ (by rw [B_length]; exact Nat.le_refl _)]; simp)
 · intro i hi ih hst n hn'
   have hB : i < (B s).length := by rw [B_length]; exact hi
   refine Ev.succ ?_
   simp only [spec_CountCodas.l0, if_pos (show (i : Int) < (s.size : Int) by omega)]
   refine Ev.bind (spec_IsForm_ev s hn) ?_
   cases hf : form (B s)
   · refine Ev.succ ?_
     simp only [spec_CountCodas.j1, Bool.false_eq_true, if_false]
     exact Ev.const rfl
   · refine step i hB n hn' hst hf _ ?_
     rw [plc_step p (B s) i hB]
     by_cases hp : p (befA (B s) i) (B s)[i] (behA (B s) i) = true
     · simp only [if_pos hp]
       refine Ev.cast (ih (by omega) (n + 1) (by omega)) ?_
       simp [hf]
       omega
     · simp only [if_neg hp]
       refine Ev.cast (ih (by omega) n (by omega)) ?_
       simp [hf]

theorem impl_CountCodas_ev (s : ByteArray) (hn : s.size ≤ 140737488351232) : Ev (fun k => impl_CountCodas.f k s) ((cntP pCodas (B s) : Nat) : Int) := by
 unfold impl_CountCodas.f
 refine Ev.bind (places_at_CountCodas_ev s hn pCodas ?_) (Ev.const rfl)
 intro a b c _ hb hc
 unfold impl_CountCodas_1.f pCodas
 rw [impl_isConsonant_eq b hb.1 hb.2, impl_isVowel_eq c hc.1 hc.2]
 cases cns b <;> rfl
theorem spec_CountCodas_ev (s : ByteArray) (hn : s.size ≤ 140737488351232) : Ev (fun k => spec_CountCodas.f k s) ((cntP pCodas (B s) : Nat) : Int) := by
 unfold spec_CountCodas.f
 refine Ev.cast (spec_CountCodas_gen s hn pCodas 0 ?_ 0 (by omega) (by omega) 0 (by omega)) (by simp [cntP])
 intro i hi n hn' _ hf r ih
 have hb := B_length s
 refine Ev.succ ?_
 simp only [spec_CountCodas.j1, if_true, spec_IsVowelAt_eq, Option.bind_some, getD_in _ i hi, wrap_succ (show i ≤ 4611686018427387903 by omega), wrap_succ (show n ≤ 4611686018427387903 by omega)]
 unfold pCodas at ih
 simp only [cns_of_snd (form_snd hf i hi), behA_getD] at ih
 cases hx : vow (B s)[i]
 · simp only [hx, Bool.not_false, Bool.true_and, Bool.false_eq_true, if_false] at ih ⊢
   cases hy : vow ((B s).getD (i + 1) 0)
   · simp only [hy, Bool.not_false, if_true, Bool.false_eq_true, if_false] at ih ⊢
     exact ih
   · simp only [hy, Bool.not_true, if_true, Bool.false_eq_true, if_false, Nat.add_zero] at ih ⊢
     exact ih
 · simp only [hx, Bool.not_true, Bool.false_and, Bool.false_eq_true, if_false, Nat.add_zero, if_true] at ih ⊢
   exact ih

theorem plc_from1 (p : Int → Int → Int → Bool) (l : List Int) (h : ∀ x y, p 0 x y = false) : plc p l 0 = plc p l 1 := by
 by_cases hl : 0 < l.length
 · rw [plc_step p l 0 hl]
   simp [befA, h]
 · rw [plc_end _ _ (by omega), plc_end _ _ (by omega)]

theorem places_at_CountClusters_ev (s : ByteArray) (hn : s.size ≤ 140737488351232) (p : Int → Int → Int → Bool) (hp : ∀ a b c, 0 ≤ a ∧ a < 256 → 0 ≤ b ∧ b < 256 → 0 ≤ c ∧ c < 256 → impl_CountClusters_1.f a b c = some (p a b c)) :
 Ev (fun k => impl_places_at_CountClusters_1.f k s ()) ((cntP p (B s) : Nat) : Int) := places_G_ev impl_CountClusters_1.f s hn p hp

theorem spec_CountClusters_gen (s : ByteArray) (hn : s.size ≤ 140737488351232) (p : Int → Int → Int → Bool) (st : Nat)
 (step : ∀ i (hi : i < (B s).length) (n : Nat), n ≤ i → st ≤ i → form (B s) = true → ∀ r, Ev (fun k => spec_CountClusters.l0 k s ((n + (if p (befA (B s) i) (B s)[i] (behA (B s) i) then 1 else 0) : Nat) : Int) ((i + 1 : Nat) : Int)) r → Ev (fun k => spec_CountClusters.j1 k s (n : Int) (i : Int) true) r) :
 ∀ i, i ≤ s.size → st ≤ i → ∀ n : Nat, n ≤ i → Ev (fun k => spec_CountClusters.l0 k s (n : Int) (i : Int)) ((n + (if form (B s) then plc p (B s) i else 0) : Nat) : Int) := by
 refine down_ind ?_ ?_
 · intro _ n hn'
   refine Ev.succ ?_
   simp only [spec_CountClusters.l0, Int.lt_irrefl, if_false]
   refine Ev.succ ?_
   simp only [spec_CountClusters.j1, Bool.false_eq_true, if_false]
   exact Ev.const (by rw [plc_end _ _ (by rw [B_length]; exact Nat.le_refl _)]; simp)
 · intro i hi ih hst n hn'
   have hB : i < (B s).length := by rw [B_length]; exact hi
   refine Ev.succ ?_
   simp only [spec_CountClusters.l0, if_pos (show (i : Int) < (s.size : Int) by omega)]
   refine Ev.bind (spec_IsForm_ev s hn) ?_
   cases hf : form (B s)
   · refine Ev.succ ?_
     simp only [spec_CountClusters.j1, Bool.false_eq_true, if_false]
     exact Ev.const rfl
   · refine step i hB n hn' hst hf _ ?_
     rw [plc_step p (B s) i hB]
     by_cases hp : p (befA (B s) i) (B s)[i] (behA (B s) i) = true
     · simp only [if_pos hp]
       refine Ev.cast (ih (by omega) (n + 1) (by omega)) ?_
       simp [hf]
       omega
     · simp only [if_neg hp]
       refine Ev.cast (ih (by omega) n (by omega)) ?_
       simp [hf]

theorem impl_CountClusters_ev (s : ByteArray) (hn : s.size ≤ 140737488351232) : Ev (fun k => impl_CountClusters.f k s) ((cntP pClusters (B s) : Nat) : Int) := by
 unfold impl_CountClusters.f
 refine Ev.bind (places_at_CountClusters_ev s hn pClusters ?_) (Ev.const rfl)
 intro a b c ha hb _
 unfold impl_CountClusters_1.f pClusters
 rw [impl_isConsonant_eq a ha.1 ha.2, impl_isConsonant_eq b hb.1 hb.2]
 cases cns a <;> rfl
theorem spec_CountClusters_ev (s : ByteArray) (hn : s.size ≤ 140737488351232) : Ev (fun k => spec_CountClusters.f k s) ((cntP pClusters (B s) : Nat) : Int) := by
 unfold spec_CountClusters.f
 have h0 : ∀ x y, pClusters 0 x y = false := fun x y => by simp [pClusters, show cns 0 = false by decide]
 by_cases hs : s.size = 0
 · refine Ev.succ ?_
   simp only [spec_CountClusters.l0, hs, if_neg (show ¬ (1 : Int) < ((0 : Nat) : Int) by omega)]
   refine Ev.succ ?_
   simp only [spec_CountClusters.j1, Bool.false_eq_true, if_false]
   exact Ev.const (by simp [cntP, plc_end pClusters (B s) (i := 0) (by rw [B_length]; omega)])
 refine Ev.cast (spec_CountClusters_gen s hn pClusters 1 ?_ 1 (by omega) (by omega) 0 (by omega)) (by simp [cntP, plc_from1 _ _ h0])
 intro i hi n hn' h1 hf r ih
 have hb := B_length s
 have hm : i - 1 < (B s).length := by omega
 refine Ev.succ ?_
 simp only [spec_CountClusters.j1, if_true, show wrap64 ((i : Int) - 1) = ((i - 1 : Nat) : Int) by unfold wrap64; omega, spec_IsVowelAt_eq, Option.bind_some, getD_in _ i hi, getD_in _ (i - 1) hm, wrap_succ (show i ≤ 4611686018427387903 by omega), wrap_succ (show n ≤ 4611686018427387903 by omega)]
 unfold pClusters at ih
 simp only [befA_pos _ i (by omega) hi, cns_of_snd (form_snd hf i hi), cns_of_snd (form_snd hf (i - 1) hm)] at ih
 cases hx : vow (B s)[i - 1]
 · simp only [hx, Bool.not_false, Bool.true_and, Bool.false_eq_true, if_false] at ih ⊢
   cases hy : vow (B s)[i]
   · simp only [hy, Bool.not_false, if_true, Bool.false_eq_true, if_false] at ih ⊢
     exact ih
   · simp only [hy, Bool.not_true, if_true, Bool.false_eq_true, if_false, Nat.add_zero] at ih ⊢
     exact ih
 · simp only [hx, Bool.not_true, Bool.false_and, Bool.false_eq_true, if_false, Nat.add_zero, if_true] at ih ⊢
   exact ih

theorem places_at_CountVoiced_ev (s : ByteArray) (hn : s.size ≤ 140737488351232) (p : Int → Int → Int → Bool) (hp : ∀ a b c, 0 ≤ a ∧ a < 256 → 0 ≤ b ∧ b < 256 → 0 ≤ c ∧ c < 256 → impl_CountVoiced_1.f a b c = some (p a b c)) :
 Ev (fun k => impl_places_at_CountVoiced_1.f k s ()) ((cntP p (B s) : Nat) : Int) := places_G_ev impl_CountVoiced_1.f s hn p hp

theorem impl_isVoiced_eq (c : Int) (h0 : 0 ≤ c) (h1 : c < 256) : impl_isVoiced.f c = some (voi c) := byte_ind (P := fun c => impl_isVoiced.f c = some (voi c)) (by decide +kernel) c h0 h1

theorem spec_l8Voiced_eq (c : Int) (h0 : 0 ≤ c) (h1 : c < 256) : spec_l8Voiced.f c = some (voi c) := byte_ind (P := fun c => spec_l8Voiced.f c = some (voi c)) (by decide +kernel) c h0 h1

theorem spec_CountVoiced_gen (s : ByteArray) (hn : s.size ≤ 140737488351232) (p : Int → Int → Int → Bool) (st : Nat)
 (step : ∀ i (hi : i < (B s).length) (n : Nat), n ≤ i → st ≤ i → form (B s) = true → ∀ r, Ev (fun k => spec_CountVoiced.l0 k s ((n + (if p (befA (B s) i) (B s)[i] (behA (B s) i) then 1 else 0) : Nat) : Int) ((i + 1 : Nat) : Int)) r → Ev (fun k => spec_CountVoiced.j1 k s (n : Int) (i : Int) true) r) :
 ∀ i, i ≤ s.size → st ≤ i → ∀ n : Nat, n ≤ i → Ev (fun k => spec_CountVoiced.l0 k s (n : Int) (i : Int)) ((n + (if form (B s) then plc p (B s) i else 0) : Nat) : Int) := by
 refine down_ind ?_ ?_
 · intro _ n hn'
   refine Ev.succ ?_
   simp only [spec_CountVoiced.l0, Int.lt_irrefl, if_false]
   refine Ev.succ ?_
   simp only [spec_CountVoiced.j1, Bool.false_eq_true, if_false]
   exact Ev.const (by rw [plc_end _ _ (by rw [B_length]; exact Nat.le_refl _)]; simp)
 · intro i hi ih hst n hn'
   have hB : i < (B s).length := by rw [B_length]; exact hi
   refine Ev.succ ?_
   simp only [spec_CountVoiced.l0, if_pos (show (i : Int) < (s.size : Int) by omega)]
   refine Ev.bind (spec_IsForm_ev s hn) ?_
   cases hf : form (B s)
   · refine Ev.succ ?_
     simp only [spec_CountVoiced.j1, Bool.false_eq_true, if_false]
     exact Ev.const rfl
   · refine step i hB n hn' hst hf _ ?_
     rw [plc_step p (B s) i hB]
     by_cases hp : p (befA (B s) i) (B s)[i] (behA (B s) i) = true
     · simp only [if_pos hp]
       refine Ev.cast (ih (by omega) (n + 1) (by omega)) ?_
       simp [hf]
       omega
     · simp only [if_neg hp]
       refine Ev.cast (ih (by omega) n (by omega)) ?_
       simp [hf]

theorem impl_CountVoiced_ev (s : ByteArray) (hn : s.size ≤ 140737488351232) : Ev (fun k => impl_CountVoiced.f k s) ((cntP pVoiced (B s) : Nat) : Int) := by
 unfold impl_CountVoiced.f
 refine Ev.bind (places_at_CountVoiced_ev s hn pVoiced ?_) (Ev.const rfl)
 intro a b c _ hb _
 unfold impl_CountVoiced_1.f pVoiced
 rw [impl_isVoiced_eq b hb.1 hb.2]
 rfl
theorem spec_CountVoiced_ev (s : ByteArray) (hn : s.size ≤ 140737488351232) : Ev (fun k => spec_CountVoiced.f k s) ((cntP pVoiced (B s) : Nat) : Int) := by
 unfold spec_CountVoiced.f
 refine Ev.cast (spec_CountVoiced_gen s hn pVoiced 0 ?_ 0 (by omega) (by omega) 0 (by omega)) (by simp [cntP])
 intro i hi n hn' _ hf r ih
 have hb := B_length s
 refine Ev.succ ?_
 simp only [spec_CountVoiced.j1, if_true, if_pos (show (0 : Int) ≤ i by omega), if_pos (show (i : Int) < (s.size : Int) by omega), bt_nat s i hi, spec_l8Voiced_eq _ (B_get_range s i hi).1 (B_get_range s i hi).2, Option.bind_some, wrap_succ (show i ≤ 4611686018427387903 by omega), wrap_succ (show n ≤ 4611686018427387903 by omega)]
 unfold pVoiced at ih
 cases hx : voi (B s)[i]
 · simp only [hx, Bool.false_eq_true, if_false, Nat.add_zero] at ih ⊢
   exact ih
 · simp only [hx, if_true] at ih ⊢
   exact ih

theorem places_at_CountFinalVoiced_ev (s : ByteArray) (hn : s.size ≤ 140737488351232) (p : Int → Int → Int → Bool) (hp : ∀ a b c, 0 ≤ a ∧ a < 256 → 0 ≤ b ∧ b < 256 → 0 ≤ c ∧ c < 256 → impl_CountFinalVoiced_1.f a b c = some (p a b c)) :
 Ev (fun k => impl_places_at_CountFinalVoiced_1.f k s ()) ((cntP p (B s) : Nat) : Int) := places_G_ev impl_CountFinalVoiced_1.f s hn p hp

theorem impl_CountFinalVoiced_ev (s : ByteArray) (hn : s.size ≤ 140737488351232) : Ev (fun k => impl_CountFinalVoiced.f k s) ((cntP pFinalVoiced (B s) : Nat) : Int) := by
 unfold impl_CountFinalVoiced.f
 refine Ev.bind (places_at_CountFinalVoiced_ev s hn pFinalVoiced ?_) (Ev.const rfl)
 intro a b c _ hb _
 unfold impl_CountFinalVoiced_1.f pFinalVoiced
 rw [impl_isVoiced_eq b hb.1 hb.2]
 cases voi b <;> rfl
theorem spec_CountFinalVoiced_ev (s : ByteArray) (hn : s.size ≤ 140737488351232) : Ev (fun k => spec_CountFinalVoiced.f k s) ((cntP pFinalVoiced (B s) : Nat) : Int) := by
 unfold spec_CountFinalVoiced.f cntP
 refine Ev.bind (spec_IsForm_ev s hn) ?_
 cases hf : form (B s)
 · simp only [Bool.false_eq_true, if_false]
   exact Ev.const rfl
 · have hall : (B s).all snd = true := (Bool.and_eq_true_iff.1 hf).1
   simp only [if_true]
   by_cases h0 : s.toList = []
   · simp only [if_pos h0]
     rw [toList_nil] at h0
     exact Ev.const (by rw [plc_end _ _ (by simp [h0])]; rfl)
   · simp only [if_neg h0]
     rw [toList_nil] at h0
     have h1 : 1 ≤ s.size := by
      rw [← B_length]
      exact List.length_pos_iff.2 h0
     have hB : s.size - 1 < (B s).length := by rw [B_length]; omega
     simp only [show wrap64 ((s.size : Int) - 1) = ((s.size - 1 : Nat) : Int) by unfold wrap64; omega, if_pos (show (0 : Int) ≤ ((s.size - 1 : Nat) : Int) by omega), if_pos (show ((s.size - 1 : Nat) : Int) < (s.size : Int) by omega), bt_nat s _ hB, spec_l8Voiced_eq _ (B_get_range s _ hB).1 (B_get_range s _ hB).2, Option.bind_some]
     have key : ∀ i, i ≤ s.size - 1 → plc pFinalVoiced (B s) i = if voi ((B s)[s.size - 1]) then 1 else 0 := by
      refine down_ind ?_ ?_
      · rw [plc_step _ _ _ hB, plc_end _ _ (by rw [B_length]; omega), behA_out _ _ (by rw [B_length]; omega)]
        simp [pFinalVoiced]
      · intro i hi ih
        have hB1 : i + 1 < (B s).length := by rw [B_length]; omega
        rw [plc_step _ _ i (by omega), ih, behA_in _ _ hB1]
        have hs : snd (B s)[i + 1] = true := List.all_eq_true.1 hall _ (List.getElem_mem hB1)
        have h0 : ((B s)[i + 1] == 0) = false := by
         rw [beq_eq_false_iff_ne]
         intro e
         rw [e] at hs
         exact absurd hs (by decide)
        simp [pFinalVoiced, h0]
     rw [key 0 (by omega)]
     cases voi ((B s)[s.size - 1])
     · exact Ev.const rfl
     · exact Ev.const rfl

theorem places_at_CountNasalVoiceless_ev (s : ByteArray) (hn : s.size ≤ 140737488351232) (p : Int → Int → Int → Bool) (hp : ∀ a b c, 0 ≤ a ∧ a < 256 → 0 ≤ b ∧ b < 256 → 0 ≤ c ∧ c < 256 → impl_CountNasalVoiceless_1.f a b c = some (p a b c)) :
 Ev (fun k => impl_places_at_CountNasalVoiceless_1.f k s ()) ((cntP p (B s) : Nat) : Int) := places_G_ev impl_CountNasalVoiceless_1.f s hn p hp

theorem impl_HasFeature_eq (c : Int) (h0 : 0 ≤ c) (h1 : c < 256) (f : Int) (hf : f ∈ ([0, 1, 2, 3, 4] : List Int)) : impl_HasFeature.f c f = some (feat c f) := byte_ind (P := fun c => ∀ f ∈ ([0, 1, 2, 3, 4] : List Int), impl_HasFeature.f c f = some (feat c f)) (by decide +kernel) c h0 h1 f hf

theorem impl_isVoiceless_eq (c : Int) (h0 : 0 ≤ c) (h1 : c < 256) : impl_isVoiceless.f c = some (vls c) := byte_ind (P := fun c => impl_isVoiceless.f c = some (vls c)) (by decide +kernel) c h0 h1

theorem spec_CountNasalVoiceless_gen (s : ByteArray) (hn : s.size ≤ 140737488351232) (p : Int → Int → Int → Bool) (st : Nat)
 (step : ∀ i (hi : i < (B s).length) (n : Nat), n ≤ i → st ≤ i → form (B s) = true → ∀ r, Ev (fun k => spec_CountNasalVoiceless.l0 k s ((n + (if p (befA (B s) i) (B s)[i] (behA (B s) i) then 1 else 0) : Nat) : Int) ((i + 1 : Nat) : Int)) r → Ev (fun k => spec_CountNasalVoiceless.j1 k s (n : Int) (i : Int) true) r) :
 ∀ i, i ≤ s.size → st ≤ i → ∀ n : Nat, n ≤ i → Ev (fun k => spec_CountNasalVoiceless.l0 k s (n : Int) (i : Int)) ((n + (if form (B s) then plc p (B s) i else 0) : Nat) : Int) := by
 refine down_ind ?_ ?_
 · intro _ n hn'
   refine Ev.succ ?_
   simp only [spec_CountNasalVoiceless.l0, Int.lt_irrefl, if_false]
   refine Ev.succ ?_
   simp only [spec_CountNasalVoiceless.j1, Bool.false_eq_true, if_false]
   exact Ev.const (by rw [plc_end _ _ (by rw [B_length]; exact Nat.le_refl _)]; simp)
 · intro i hi ih hst n hn'
   have hB : i < (B s).length := by rw [B_length]; exact hi
   refine Ev.succ ?_
   simp only [spec_CountNasalVoiceless.l0, if_pos (show (i : Int) < (s.size : Int) by omega)]
   refine Ev.bind (spec_IsForm_ev s hn) ?_
   cases hf : form (B s)
   · refine Ev.succ ?_
     simp only [spec_CountNasalVoiceless.j1, Bool.false_eq_true, if_false]
     exact Ev.const rfl
   · refine step i hB n hn' hst hf _ ?_
     rw [plc_step p (B s) i hB]
     by_cases hp : p (befA (B s) i) (B s)[i] (behA (B s) i) = true
     · simp only [if_pos hp]
       refine Ev.cast (ih (by omega) (n + 1) (by omega)) ?_
       simp [hf]
       omega
     · simp only [if_neg hp]
       refine Ev.cast (ih (by omega) n (by omega)) ?_
       simp [hf]

theorem spec_IsObstruent_eq (c : Int) (h0 : 0 ≤ c) (h1 : c < 256) : spec_IsObstruent.f c = some (obs c) := byte_ind (P := fun c => spec_IsObstruent.f c = some (obs c)) (by decide +kernel) c h0 h1

theorem impl_CountNasalVoiceless_ev (s : ByteArray) (hn : s.size ≤ 140737488351232) : Ev (fun k => impl_CountNasalVoiceless.f k s) ((cntP pNasalVoiceless (B s) : Nat) : Int) := by
 unfold impl_CountNasalVoiceless.f
 refine Ev.bind (places_at_CountNasalVoiceless_ev s hn pNasalVoiceless ?_) (Ev.const rfl)
 intro a b c ha hb _
 unfold impl_CountNasalVoiceless_1.f pNasalVoiceless
 rw [impl_HasFeature_eq a ha.1 ha.2 2 (by decide), impl_isVoiceless_eq b hb.1 hb.2]
 simp only [feat, Option.bind_some, show ¬ ((2 : Int) = 0) by decide, show ¬ ((2 : Int) = 1) by decide, if_false, if_true]
 by_cases h : a = 110 <;> simp [h]
theorem vls_eq (c : Int) : vls c = (obs c && !feat c 1) := by
 simp only [vls, obs, feat, if_true, show ¬ ((1 : Int) = 0) by decide, if_false]
 by_cases h1 : c = 112
 · subst h1; decide
 · by_cases h2 : c = 116
   · subst h2; decide
   · by_cases h3 : c = 98
     · subst h3; decide
     · by_cases h4 : c = 100
       · subst h4; decide
       · simp [h1, h2, h3, h4]
theorem spec_CountNasalVoiceless_ev (s : ByteArray) (hn : s.size ≤ 140737488351232) : Ev (fun k => spec_CountNasalVoiceless.f k s) ((cntP pNasalVoiceless (B s) : Nat) : Int) := by
 unfold spec_CountNasalVoiceless.f
 have h0 : ∀ x y, pNasalVoiceless 0 x y = false := fun x y => by simp [pNasalVoiceless]
 by_cases hs : s.size = 0
 · refine Ev.succ ?_
   simp only [spec_CountNasalVoiceless.l0, hs, if_neg (show ¬ (1 : Int) < ((0 : Nat) : Int) by omega)]
   refine Ev.succ ?_
   simp only [spec_CountNasalVoiceless.j1, Bool.false_eq_true, if_false]
   exact Ev.const (by simp [cntP, plc_end pNasalVoiceless (B s) (i := 0) (by rw [B_length]; omega)])
 refine Ev.cast (spec_CountNasalVoiceless_gen s hn pNasalVoiceless 1 ?_ 1 (by omega) (by omega) 0 (by omega)) (by simp [cntP, plc_from1 _ _ h0])
 intro i hi n hn' h1 hf r ih
 have hb := B_length s
 have hm : i - 1 < (B s).length := by omega
 have hr := B_get_range s i hi
 have hr' := B_get_range s (i - 1) hm
 refine Ev.succ ?_
 simp only [spec_CountNasalVoiceless.j1, if_true, show wrap64 ((i : Int) - 1) = ((i - 1 : Nat) : Int) by unfold wrap64; omega, if_pos (show (0 : Int) ≤ ((i - 1 : Nat) : Int) by omega), if_pos (show ((i - 1 : Nat) : Int) < (s.size : Int) by omega), bt_nat s (i - 1) hm, spec_HasFeature_eq _ hr'.1 hr'.2 2 (by decide), if_pos (show (0 : Int) ≤ i by omega), if_pos (show (i : Int) < (s.size : Int) by omega), bt_nat s i hi, spec_IsObstruent_eq _ hr.1 hr.2, spec_HasFeature_eq _ hr.1 hr.2 1 (by decide), Option.bind_some, wrap_succ (show i ≤ 4611686018427387903 by omega), wrap_succ (show n ≤ 4611686018427387903 by omega)]
 unfold pNasalVoiceless at ih
 simp only [befA_pos _ i (by omega) hi, vls_eq] at ih
 have hfe : feat (B s)[i - 1] 2 = decide ((B s)[i - 1] = 110) := rfl
 simp only [hfe]
 cases hx : decide ((B s)[i - 1] = 110)
 · simp only [hx, Bool.false_and, Bool.false_eq_true, if_false, Nat.add_zero] at ih ⊢
   exact ih
 · simp only [hx, Bool.true_and, if_true] at ih ⊢
   cases hy : obs (B s)[i]
   · simp only [hy, Bool.false_and, Bool.false_eq_true, if_false, Nat.add_zero] at ih ⊢
     exact ih
   · simp only [hy, Bool.true_and, if_true] at ih ⊢
     cases hz : feat (B s)[i] 1
     · simp only [hz, Bool.not_false, Bool.false_eq_true, if_true, if_false] at ih ⊢
       exact ih
     · simp only [hz, Bool.not_true, Bool.false_eq_true, if_false, if_true, Nat.add_zero] at ih ⊢
       exact ih

def cntK (p : Int → Int → Bool) (l : List ILink) : Nat := if cand l then l.countP (fun x => p x.f0 x.f1) else 0
def kDel (a b : Int) : Bool := decide (b = 0)
def kIns (a b : Int) : Bool := decide (a = 0)
def kVoi (a b : Int) : Bool := !decide (a = 0) && (!decide (b = 0) && !decide (a = b))

theorem links_G_ev (PF : Int → Int → Option Bool) (l : List ILink) (hl : l.length ≤ 1048576) (hb : ∀ x ∈ l, okB x) (p : Int → Int → Bool) (hp : ∀ a b, PF a b = some (p a b)) :
 Ev (fun k => impl_links_G.f PF k l ()) ((cntK p l : Nat) : Int) := by
 unfold impl_links_G.f cntK
 have key : ∀ i, i ≤ l.length → ∀ n : Nat, n ≤ i → Ev (fun k => impl_links_G.l0 PF k (n : Int) l (l.length : Int) (i : Int) l) ((n + (if cand l then (l.drop i).countP (fun x => p x.f0 x.f1) else 0) : Nat) : Int) := by
  refine down_ind ?_ ?_
  · intro n _
    refine Ev.succ ?_
    simp only [impl_links_G.l0, Int.lt_irrefl, if_false]
    exact Ev.const (by simp)
  · intro i hi ih n hn
    refine Ev.succ ?_
    simp only [impl_links_G.l0, if_pos (show (i : Int) < (l.length : Int) by omega), if_pos (show (0 : Int) ≤ i by omega), rdK l i hi, wrap_succ (show i ≤ 4611686018427387903 by omega), wrap_succ (show n ≤ 4611686018427387903 by omega), hp, Option.bind_some]
    refine Ev.bind (impl_IsCandidate_ev l hl hb) ?_
    rw [drop_cons l i hi, List.countP_cons]
    cases hc : cand l
    · simp only [Bool.false_eq_true, if_false]
      refine Ev.cast (ih n (by omega)) ?_
      simp [hc]
    · simp only [if_true]
      cases p l[i].f0 l[i].f1
      · simp only [Bool.false_eq_true, if_false]
        refine Ev.cast (ih n (by omega)) ?_
        simp [hc]
      · simp only [if_true]
        refine Ev.cast (ih (n + 1) (by omega)) ?_
        simp [hc]
        omega
 refine Ev.cast (key 0 (by omega) 0 (by omega)) ?_
 simp

theorem links_at_CountDeleted_ev (l : List ILink) (hl : l.length ≤ 1048576) (hb : ∀ x ∈ l, okB x) (p : Int → Int → Bool) (hp : ∀ a b, impl_CountDeleted_1.f a b = some (p a b)) :
 Ev (fun k => impl_links_at_CountDeleted_1.f k l ()) ((cntK p l : Nat) : Int) := links_G_ev impl_CountDeleted_1.f l hl hb p hp

theorem spec_CountDeleted_gen (l : List ILink) (hl : l.length ≤ 1048576) (hb : ∀ x ∈ l, okB x) (p : Int → Int → Bool)
 (step : ∀ i (hi : i < l.length) (n : Nat), n ≤ i → ∀ r, Ev (fun k => spec_CountDeleted.l0 k ((n + (if p l[i].f0 l[i].f1 then 1 else 0) : Nat) : Int) ((i + 1 : Nat) : Int) l) r → Ev (fun k => spec_CountDeleted.j1 k (n : Int) (i : Int) true l) r) :
 Ev (fun k => spec_CountDeleted.f k l) ((cntK p l : Nat) : Int) := by
 unfold spec_CountDeleted.f cntK
 have key : ∀ i, i ≤ l.length → ∀ n : Nat, n ≤ i → Ev (fun k => spec_CountDeleted.l0 k (n : Int) (i : Int) l) ((n + (if cand l then (l.drop i).countP (fun x => p x.f0 x.f1) else 0) : Nat) : Int) := by
  refine down_ind ?_ ?_
  · intro n _
    refine Ev.succ ?_
    simp only [spec_CountDeleted.l0, Int.lt_irrefl, if_false]
    refine Ev.succ ?_
    simp only [spec_CountDeleted.j1, Bool.false_eq_true, if_false]
    exact Ev.const (by simp)
  · intro i hi ih n hn
    refine Ev.succ ?_
    simp only [spec_CountDeleted.l0, if_pos (show (i : Int) < (l.length : Int) by omega)]
    refine Ev.bind (spec_IsCandidate_ev l hl hb) ?_
    cases hc : cand l
    · refine Ev.succ ?_
      simp only [spec_CountDeleted.j1, Bool.false_eq_true, if_false]
      exact Ev.const (by simp)
    · refine step i hi n hn _ ?_
      rw [drop_cons l i hi, List.countP_cons]
      refine Ev.cast (ih (n + (if p l[i].f0 l[i].f1 then 1 else 0)) (by split <;> omega)) ?_
      simp only [hc, if_true]
      omega
 refine Ev.cast (key 0 (by omega) 0 (by omega)) ?_
 simp

theorem impl_CountDeleted_ev (l : List ILink) (hl : l.length ≤ 1048576) (hb : ∀ x ∈ l, okB x) : Ev (fun k => impl_CountDeleted.f k l) ((cntK kDel l : Nat) : Int) := by
 unfold impl_CountDeleted.f
 exact Ev.bind (links_at_CountDeleted_ev l hl hb kDel (fun a b => by unfold impl_CountDeleted_1.f kDel; rfl)) (Ev.const rfl)
theorem spec_CountDeleted_ev (l : List ILink) (hl : l.length ≤ 1048576) (hb : ∀ x ∈ l, okB x) : Ev (fun k => spec_CountDeleted.f k l) ((cntK kDel l : Nat) : Int) := by
 refine spec_CountDeleted_gen l hl hb kDel ?_
 intro i hi n hn r ih
 refine Ev.succ ?_
 simp only [spec_CountDeleted.j1, if_true, if_pos (show (0 : Int) ≤ i by omega), if_pos (show (i : Int) < (l.length : Int) by omega), rdK l i hi, wrap_succ (show i ≤ 4611686018427387903 by omega), wrap_succ (show n ≤ 4611686018427387903 by omega)]
 unfold kDel at ih
 by_cases h : l[i].f1 = 0
 · simpa [h] using ih
 · simpa [h] using ih

end Go.Proofs.YtlmfpkiaikjlbaaGreatDoor.Pure
