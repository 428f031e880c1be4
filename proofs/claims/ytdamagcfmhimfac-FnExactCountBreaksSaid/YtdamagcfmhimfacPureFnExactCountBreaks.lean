/- The pure statement of the law FnExactCountBreaks: for all arguments within bounds its printed function answers true. -/
import Derived.Test.YtdamagcfmhimfacPFnExactCountBreaksx
import Derived.Test.YtdamagcfmhimfacBase
namespace Go.Proofs.Ytdamagcfmhimfac.Pure
open Go.RowKit Go.Proofs.YtdamagcfmhimfacB Go.Proofs.Ytdamagcfmhimfac.PFnExactCountBreaks Go.Proofs.YtdamagcfmhimfacW.PrintWords Go.Proofs.YtdamagcfmhimfacW.PrintLast Go.Proofs.YtdamagcfmhimfacW.PrintMore
set_option linter.unusedVariables false
set_option linter.unusedSimpArgs false

/-! ### sounds -/
def snd (c : Int) : Bool := decide (c ∈ ([112, 116, 98, 100, 110, 97, 105] : List Int))
def obs (c : Int) : Bool := decide (c ∈ ([112, 116, 98, 100] : List Int))
def feat (c f : Int) : Bool := if f = 0 then decide (c ∈ ([97, 105] : List Int)) else if f = 1 then decide (c ∈ ([98, 100, 110, 97, 105] : List Int)) else if f = 2 then decide (c = 110) else if f = 3 then decide (c ∈ ([112, 98] : List Int)) else if f = 4 then decide (c = 105) else false
/-- a vowel -/
def vow (c : Int) : Bool := decide (c = 97 ∨ c = 105)
/-- the sounds of a form: at most eight -/
def form (l : List Int) : Bool := l.all snd && decide (l.length ≤ 8)
/-- a voiced obstruent -/
def voi (c : Int) : Bool := decide (c = 98 ∨ c = 100)
theorem byte_ind {P : Int → Prop} (h : ∀ n : Fin 256, P (n.val : Int)) (c : Int) (h0 : 0 ≤ c) (h1 : c < 256) : P c := by
  obtain ⟨n, rfl⟩ := Int.eq_ofNat_of_zero_le h0
  exact h ⟨n, by omega⟩

abbrev LLink := S79
abbrev ILink := S57
def toK (x : LLink) : ILink := ⟨x.f0, x.f1⟩
/-- a link of bytes -/
def okB (x : ILink) : Prop := (0 ≤ x.f0 ∧ x.f0 < 256) ∧ (0 ≤ x.f1 ∧ x.f1 < 256)
theorem rdLK (l : List LLink) (i : Nat) (h : i < l.length) : rd_T79 l (i : Int) = l[i] := by simp [rd_T79, h]
theorem rdK (l : List ILink) (i : Nat) (h : i < l.length) : rd_T57 l (i : Int) = l[i] := by simp [rd_T57, h]
def swp (c : Int) : Int := if c = 112 then 98 else if c = 98 then 112 else if c = 116 then 100 else if c = 100 then 116 else c
def lk (a b : Int) : Bool := if a = 0 then snd b else snd a && (decide (b = 0) || (decide (a = b) || (obs a && decide (swp a = b))))
def inL (l : List ILink) : List Int := (l.filter fun x => !decide (x.f0 = 0)).map (·.f0)
def outL (l : List ILink) : List Int := (l.filter fun x => !decide (x.f1 = 0)).map (·.f1)
def cand (l : List ILink) : Bool := l.all (fun x => lk x.f0 x.f1) && (decide (l.length ≤ 16) && (form (inL l) && form (outL l)))
theorem B_nums (l : List Int) (h : ∀ c ∈ l, 0 ≤ c ∧ c < 256) : B (strOfNums l) = l := by
  simp only [B, bytesOf, strOfNums, List.map_map]
  conv => rhs; rw [← List.map_id l]
  apply List.map_congr_left
  intro c hc
  obtain ⟨h0, h1⟩ := h c hc
  obtain ⟨n, rfl⟩ := Int.eq_ofNat_of_zero_le h0
  simp
  omega
theorem size_nums (l : List Int) : (strOfNums l).size = l.length := by simp [strOfNums, ByteArray.size]
theorem inL_length (l : List ILink) : (inL l).length ≤ l.length := by
  unfold inL
  rw [List.length_map]
  exact List.length_filter_le _ _
theorem outL_length (l : List ILink) : (outL l).length ≤ l.length := by
  unfold outL
  rw [List.length_map]
  exact List.length_filter_le _ _
theorem inL_range (l : List ILink) (hb : ∀ x ∈ l, okB x) : ∀ c ∈ inL l, 0 ≤ c ∧ c < 256 := by
  intro c hc
  simp only [inL, List.mem_map, List.mem_filter] at hc
  obtain ⟨x, ⟨hx, _⟩, rfl⟩ := hc
  exact (hb x hx).1
theorem outL_range (l : List ILink) (hb : ∀ x ∈ l, okB x) : ∀ c ∈ outL l, 0 ≤ c ∧ c < 256 := by
  intro c hc
  simp only [outL, List.mem_map, List.mem_filter] at hc
  obtain ⟨x, ⟨hx, _⟩, rfl⟩ := hc
  exact (hb x hx).2
theorem inL_cons (x : ILink) (l : List ILink) : inL (x :: l) = if x.f0 = 0 then inL l else x.f0 :: inL l := by
  by_cases h : x.f0 = 0 <;> simp [inL, h]
theorem outL_cons (x : ILink) (l : List ILink) : outL (x :: l) = if x.f1 = 0 then outL l else x.f1 :: outL l := by
  by_cases h : x.f1 = 0 <;> simp [outL, h]
theorem snd_swp (c : Int) (h0 : 0 ≤ c) (h1 : c < 256) (h : obs c = true) : snd (swp c) = true := byte_ind (P := fun c => obs c = true → snd (swp c) = true) (by decide +kernel) c h0 h1 h
theorem bdK {l : List LLink} (h : BdSlice 2 Bd79 l) : ∀ x ∈ l.map toK, okB x := by
  intro x hx
  rw [List.mem_map] at hx
  obtain ⟨y, hy, rfl⟩ := hx
  have := h.2 y hy
  simp only [Bd79, BdInt, Lit.wf, IntKind.min, IntKind.max, IntKind.signed, IntKind.bits, Bool.and_eq_true, decide_eq_true_eq] at this
  simp at this
  unfold okB toK
  simp only []
  omega

def kept (a b : Int) : Bool := !decide (a = 0) && !decide (b = 0)
def brk : List ILink → Bool → Nat → Nat
  | [], _, _ => 0
  | x :: l, s, p => if kept x.f0 x.f1 then p + brk l true 0 else if s then brk l s (p + 1) else brk l s p
def brks (l : List ILink) : Nat := if cand l then brk l false 0 else 0
/-- how many of the first j links are not kept -/
def nks (l : List ILink) (j : Nat) : Nat := (l.take j).countP fun x => !kept x.f0 x.f1
theorem nks_succ (l : List ILink) (j : Nat) (h : j < l.length) : nks l (j + 1) = nks l j + (if kept l[j].f0 l[j].f1 then 0 else 1) := by
  unfold nks
  rw [take_snoc l j h, List.countP_append]
  cases hk : kept l[j].f0 l[j].f1 <;> simp [hk]
theorem nks_le (l : List ILink) (j : Nat) : nks l j ≤ j := Nat.le_trans List.countP_le_length (by rw [List.length_take]; omega)

theorem impl_SwapVoice_eq (c : Int) (h0 : 0 ≤ c) (h1 : c < 256) : impl_SwapVoice.f c = some (swp c, obs c) := byte_ind (P := fun c => impl_SwapVoice.f c = some (swp c, obs c)) (by decide +kernel) c h0 h1

theorem impl_IsSound_eq (c : Int) (h0 : 0 ≤ c) (h1 : c < 256) : impl_IsSound.f c = some (snd c) := byte_ind (P := fun c => impl_IsSound.f c = some (snd c)) (by decide +kernel) c h0 h1
theorem spec_IsSound_ev (c : Int) (h0 : 0 ≤ c) (h1 : c < 256) : Ev (fun k => spec_IsSound.f k c) (snd c) :=
  Ev.at_ (spec_IsSound.mono c) 9 (byte_ind (P := fun c => spec_IsSound.f 9 c = some (snd c)) (by decide +kernel) c h0 h1)

theorem impl_isLink_eq (a b : Int) (ha : 0 ≤ a ∧ a < 256) (hb : 0 ≤ b ∧ b < 256) : impl_isLink.f a b = some (lk a b) := by
  unfold impl_isLink.f lk
  rw [impl_IsSound_eq a ha.1 ha.2, impl_IsSound_eq b hb.1 hb.2, impl_SwapVoice_eq a ha.1 ha.2]
  by_cases h : a = 0
  · simp [h]
  · simp only [if_neg h, Option.bind_some]
    cases snd a
    · simp
    · by_cases h2 : b = 0
      · simp [h2]
      · by_cases h3 : b = a
        · simp [h3]
        · cases obs a
          · simp [h2, h3, show ¬ a = b from fun e => h3 e.symm]
          · simp only [h2, h3, if_true, if_false, show ¬ a = b from fun e => h3 e.symm, decide_false, Bool.false_or, Bool.true_and]
            rfl

theorem spec_l6In_ev (l : List ILink) (hl : l.length ≤ 1048576) : Ev (fun k => spec_l6In.f k l) (strOfNums (inL l)) := by
  have key : ∀ i, i ≤ l.length → ∀ acc : List Int, acc.length ≤ i → Ev (fun k => spec_l6In.l0 k acc (i : Int) l) (strOfNums (acc ++ inL (l.drop i))) := by
    refine down_ind ?_ ?_
    · intro acc _
      refine Ev.succ ?_
      simp only [spec_l6In.l0, Int.lt_irrefl, if_false]
      exact Ev.const (by simp [inL])
    · intro i hi ih acc hacc
      refine Ev.succ ?_
      simp only [spec_l6In.l0, if_pos (show (i : Int) < (l.length : Int) by omega), if_pos (show (0 : Int) ≤ i by omega), rdK l i hi, wrap_succ (show i ≤ 4611686018427387903 by omega), if_pos (show acc.length < 140737488355328 by omega)]
      rw [drop_cons l i hi, inL_cons]
      by_cases h : l[i].f0 = 0
      · simp only [if_pos h]
        exact ih acc (by omega)
      · simp only [if_neg h]
        refine Ev.cast (ih (acc ++ [l[i].f0]) (by simp; omega)) ?_
        simp
  refine Ev.cast (key 0 (by omega) [] (by simp)) ?_
  simp
theorem spec_l6Out_ev (l : List ILink) (hl : l.length ≤ 1048576) : Ev (fun k => spec_l6Out.f k l) (strOfNums (outL l)) := by
  have key : ∀ i, i ≤ l.length → ∀ acc : List Int, acc.length ≤ i → Ev (fun k => spec_l6Out.l0 k acc (i : Int) l) (strOfNums (acc ++ outL (l.drop i))) := by
    refine down_ind ?_ ?_
    · intro acc _
      refine Ev.succ ?_
      simp only [spec_l6Out.l0, Int.lt_irrefl, if_false]
      exact Ev.const (by simp [outL])
    · intro i hi ih acc hacc
      refine Ev.succ ?_
      simp only [spec_l6Out.l0, if_pos (show (i : Int) < (l.length : Int) by omega), if_pos (show (0 : Int) ≤ i by omega), rdK l i hi, wrap_succ (show i ≤ 4611686018427387903 by omega), if_pos (show acc.length < 140737488355328 by omega)]
      rw [drop_cons l i hi, outL_cons]
      by_cases h : l[i].f1 = 0
      · simp only [if_pos h]
        exact ih acc (by omega)
      · simp only [if_neg h]
        refine Ev.cast (ih (acc ++ [l[i].f1]) (by simp; omega)) ?_
        simp
  refine Ev.cast (key 0 (by omega) [] (by simp)) ?_
  simp

theorem impl_sounds_ev (l : List ILink) (hl : l.length ≤ 1048576) (o : Bool) : Ev (fun k => impl_sounds.f k l o) (strOfNums (if o then outL l else inL l)) := by
  have key : ∀ i, i ≤ l.length → ∀ acc : List Int, acc.length ≤ i → Ev (fun k => impl_sounds.l0 k o acc l (l.length : Int) (i : Int)) (strOfNums (acc ++ (if o then outL (l.drop i) else inL (l.drop i)))) := by
    refine down_ind ?_ ?_
    · intro acc _
      refine Ev.succ ?_
      simp only [impl_sounds.l0, Int.lt_irrefl, if_false]
      exact Ev.const (by simp [outL, inL])
    · intro i hi ih acc hacc
      refine Ev.succ ?_
      simp only [impl_sounds.l0, if_pos (show (i : Int) < (l.length : Int) by omega), if_pos (show (0 : Int) ≤ i by omega), rdK l i hi, wrap_succ (show i ≤ 4611686018427387903 by omega), if_pos (show acc.length < 140737488355328 by omega)]
      rw [drop_cons l i hi, outL_cons, inL_cons]
      cases o
      · simp only [Bool.false_eq_true, if_false] at ih ⊢
        by_cases h : l[i].f0 = 0
        · simp only [if_pos h]
          exact ih acc (by omega)
        · simp only [if_neg h]
          refine Ev.cast (ih (acc ++ [l[i].f0]) (by simp; omega)) ?_
          simp
      · simp only [if_true] at ih ⊢
        by_cases h : l[i].f1 = 0
        · simp only [if_pos h]
          exact ih acc (by omega)
        · simp only [if_neg h]
          refine Ev.cast (ih (acc ++ [l[i].f1]) (by simp; omega)) ?_
          simp
  refine Ev.cast (key 0 (by omega) [] (by simp)) ?_
  simp

theorem impl_within_eq (a b c : Int) : impl_within.f a b c = some (decide (b ≤ a ∧ a ≤ c)) := by
  unfold impl_within.f
  split
  · simp [*]
  · simp [*]

theorem spec_l2Sounds_ev (s : ByteArray) (hn : s.size ≤ 140737488351232) : Ev (fun k => spec_l2Sounds.f k s) ((B s).all snd && decide (s.size ≤ 20)) := by
  have key : ∀ i, i ≤ s.size → Ev (fun k => spec_l2Sounds.l0 k s (i : Int)) (((B s).drop i).all snd && decide (s.size ≤ 20)) := by
    refine down_ind ?_ ?_
    · refine Ev.succ ?_
      simp only [spec_l2Sounds.l0, Int.lt_irrefl, if_false]
      refine Ev.const ?_
      rw [List.drop_of_length_le (by rw [B_length]; exact Nat.le_refl _)]
      simp
      omega
    · intro i hi ih
      have hB : i < (B s).length := by rw [B_length]; exact hi
      have hr := B_get_range s i hB
      refine Ev.succ ?_
      simp only [spec_l2Sounds.l0, if_pos (show (i : Int) < (s.size : Int) by omega), if_pos (show (0 : Int) ≤ i by omega), bt_nat s i hB]
      refine Ev.bind (spec_IsSound_ev _ hr.1 hr.2) ?_
      rw [drop_cons _ _ hB, List.all_cons]
      cases snd (B s)[i]
      · simp only [Bool.false_eq_true, if_false]
        exact Ev.const rfl
      · simp only [if_true, wrap_succ (show i ≤ 4611686018427387903 by omega), Bool.true_and]
        exact ih
  exact key 0 (by omega)
theorem spec_IsForm_ev (s : ByteArray) (hn : s.size ≤ 140737488351232) : Ev (fun k => spec_IsForm.f k s) (form (B s)) := by
  unfold spec_IsForm.f
  refine Ev.bind (spec_l2Sounds_ev s hn) ?_
  refine Ev.const ?_
  unfold form
  rw [B_length]
  cases (B s).all snd
  · simp
  · by_cases h : s.size ≤ 8
    · have h2 : s.size ≤ 20 := by omega
      simp [h, h2]
      omega
    · by_cases h2 : s.size ≤ 20
      · simp [h, h2]
        omega
      · simp [h, h2]
theorem impl_areSounds_ev (s : ByteArray) (hn : s.size ≤ 140737488351232) : Ev (fun k => impl_areSounds.f k s) ((B s).all snd && decide (1 ≤ s.size ∧ s.size ≤ 20)) := by
  have key : ∀ i, i ≤ s.size → Ev (fun k => impl_areSounds.l0 k s (s.size : Int) (i : Int)) (((B s).drop i).all snd && decide (1 ≤ s.size ∧ s.size ≤ 20)) := by
    refine down_ind ?_ ?_
    · refine Ev.succ ?_
      simp only [impl_areSounds.l0, Int.lt_irrefl, if_false, impl_within_eq, Option.bind_some]
      refine Ev.const ?_
      rw [List.drop_of_length_le (by rw [B_length]; exact Nat.le_refl _)]
      simp only [List.all_nil, Bool.true_and]
      exact congrArg some (decide_eq_decide.2 (by omega))
    · intro i hi ih
      have hB : i < (B s).length := by rw [B_length]; exact hi
      have hr := B_get_range s i hB
      refine Ev.succ ?_
      simp only [impl_areSounds.l0, if_pos (show (i : Int) < (s.size : Int) by omega), if_pos (show (0 : Int) ≤ i by omega), bt_nat s i hB, impl_IsSound_eq _ hr.1 hr.2, Option.bind_some]
      rw [drop_cons _ _ hB, List.all_cons]
      cases snd (B s)[i]
      · simp only [Bool.false_eq_true, if_false]
        exact Ev.const rfl
      · simp only [if_true, wrap_succ (show i ≤ 4611686018427387903 by omega), Bool.true_and]
        exact ih
  exact key 0 (by omega)
theorem impl_IsForm_ev (s : ByteArray) (hn : s.size ≤ 140737488351232) : Ev (fun k => impl_IsForm.f k s) (form (B s)) := by
  unfold impl_IsForm.f
  by_cases h0 : s.toList = []
  · simp only [if_pos h0]
    rw [toList_nil] at h0
    exact Ev.const (by rw [h0]; rfl)
  · simp only [if_neg h0]
    rw [toList_nil] at h0
    have h1 : 1 ≤ s.size := by
      rw [← B_length]
      exact List.length_pos_iff.2 h0
    by_cases h8 : s.size ≤ 8
    · simp only [if_pos (show (s.size : Int) ≤ 8 by omega)]
      refine Ev.bind (impl_areSounds_ev s hn) ?_
      refine Ev.const ?_
      unfold form
      rw [B_length]
      have h2 : s.size ≤ 20 := by omega
      simp [h1, h2, h8]
    · simp only [if_neg (show ¬ (s.size : Int) ≤ 8 by omega)]
      refine Ev.const ?_
      unfold form
      rw [B_length]
      simp [h8]

theorem spec_formNums (l : List Int) (hl : l.length ≤ 1048576) (h : ∀ c ∈ l, 0 ≤ c ∧ c < 256) : Ev (fun k => spec_IsForm.f k (strOfNums l)) (form l) := by
  have := spec_IsForm_ev (strOfNums l) (by rw [size_nums]; omega)
  rwa [B_nums l h] at this
theorem impl_formNums (l : List Int) (hl : l.length ≤ 1048576) (h : ∀ c ∈ l, 0 ≤ c ∧ c < 256) : Ev (fun k => impl_IsForm.f k (strOfNums l)) (form l) := by
  have := impl_IsForm_ev (strOfNums l) (by rw [size_nums]; omega)
  rwa [B_nums l h] at this

theorem spec_SwapVoice_eq (c : Int) (h0 : 0 ≤ c) (h1 : c < 256) : spec_SwapVoice.f c = some (swp c, obs c) := byte_ind (P := fun c => spec_SwapVoice.f c = some (swp c, obs c)) (by decide +kernel) c h0 h1

theorem impl_IsCandidate_ev (l : List ILink) (hl : l.length ≤ 1048576) (hb : ∀ x ∈ l, okB x) : Ev (fun k => impl_IsCandidate.f k l) (cand l) := by
  unfold impl_IsCandidate.f cand
  have h1 := inL_length l
  have h2 := outL_length l
  have key : ∀ i, i ≤ l.length → Ev (fun k => impl_IsCandidate.l0 k l (l.length : Int) (i : Int) l) ((l.drop i).all (fun x => lk x.f0 x.f1) && (decide (l.length ≤ 16) && (form (inL l) && form (outL l)))) := by
    refine down_ind ?_ ?_
    · refine Ev.succ ?_
      simp only [impl_IsCandidate.l0, Int.lt_irrefl, if_false]
      rw [List.drop_of_length_le (Nat.le_refl _), List.all_nil, Bool.true_and]
      by_cases h : l.length ≤ 16
      · simp only [if_pos (show (l.length : Int) ≤ 16 by omega), h, decide_true, Bool.true_and]
        refine Ev.bind (impl_sounds_ev l hl false) (Ev.bind (impl_formNums (inL l) (by omega) (inL_range l hb)) ?_)
        cases form (inL l)
        · simp only [Bool.false_eq_true, if_false, Bool.false_and]
          exact Ev.const rfl
        · simp only [if_true, Bool.true_and]
          refine Ev.bind (impl_sounds_ev l hl true) (Ev.bind (impl_formNums (outL l) (by omega) (outL_range l hb)) (Ev.const rfl))
      · simp only [if_neg (show ¬ (l.length : Int) ≤ 16 by omega), h, decide_false, Bool.false_and]
        exact Ev.const rfl
    · intro i hi ih
      have hx := hb l[i] (List.getElem_mem hi)
      refine Ev.succ ?_
      simp only [impl_IsCandidate.l0, if_pos (show (i : Int) < (l.length : Int) by omega), if_pos (show (0 : Int) ≤ i by omega), rdK l i hi, wrap_succ (show i ≤ 4611686018427387903 by omega), impl_isLink_eq _ _ hx.1 hx.2, Option.bind_some]
      rw [drop_cons l i hi, List.all_cons]
      cases lk l[i].f0 l[i].f1
      · simp only [Bool.false_eq_true, if_false, Bool.false_and]
        exact Ev.const rfl
      · simp only [if_true, Bool.true_and]
        exact ih
  exact key 0 (by omega)
theorem spec_IsCandidate_ev (l : List ILink) (hl : l.length ≤ 1048576) (hb : ∀ x ∈ l, okB x) : Ev (fun k => spec_IsCandidate.f k l) (cand l) := by
  unfold spec_IsCandidate.f cand
  have h1 := inL_length l
  have h2 := outL_length l
  have key : ∀ i, i ≤ l.length → Ev (fun k => spec_IsCandidate.l0 k (i : Int) l) ((l.drop i).all (fun x => lk x.f0 x.f1) && (decide (l.length ≤ 16) && (form (inL l) && form (outL l)))) := by
    refine down_ind ?_ ?_
    · refine Ev.succ ?_
      simp only [spec_IsCandidate.l0, Int.lt_irrefl, if_false]
      rw [List.drop_of_length_le (Nat.le_refl _), List.all_nil, Bool.true_and]
      by_cases h : l.length ≤ 16
      · simp only [if_pos (show (l.length : Int) ≤ 16 by omega), h, decide_true, Bool.true_and]
        refine Ev.bind (spec_l6In_ev l hl) (Ev.bind (spec_formNums (inL l) (by omega) (inL_range l hb)) ?_)
        cases form (inL l)
        · simp only [Bool.false_eq_true, if_false, Bool.false_and]
          exact Ev.const rfl
        · simp only [if_true, Bool.true_and]
          refine Ev.bind (spec_l6Out_ev l hl) (Ev.bind (spec_formNums (outL l) (by omega) (outL_range l hb)) (Ev.const rfl))
      · simp only [if_neg (show ¬ (l.length : Int) ≤ 16 by omega), h, decide_false, Bool.false_and]
        exact Ev.const rfl
    · intro i hi ih
      have hx := hb l[i] (List.getElem_mem hi)
      rw [drop_cons l i hi, List.all_cons]
      have hr := rdK l i hi
      revert hx
      generalize hxe : l[i] = x at hr ⊢
      intro hx
      have bad : ∀ (y : Int) (o : Bool), lk x.f0 x.f1 = false → Ev (fun k => spec_IsCandidate.j1 k (i : Int) y o true l x.f0 x.f1) (lk x.f0 x.f1 && (l.drop (i + 1)).all (fun x => lk x.f0 x.f1) && (decide (l.length ≤ 16) && (form (inL l) && form (outL l)))) := by
        intro y o h
        refine Ev.succ ?_
        simp only [spec_IsCandidate.j1, if_true, h, Bool.false_and]
        exact Ev.const rfl
      have good : (x.f0 = 0 → snd x.f1 = true) → (x.f0 ≠ 0 → snd x.f0 = true) → Ev (fun k => spec_IsCandidate.j1 k (i : Int) (swp x.f0) (obs x.f0) false l x.f0 x.f1) (lk x.f0 x.f1 && (l.drop (i + 1)).all (fun x => lk x.f0 x.f1) && (decide (l.length ≤ 16) && (form (inL l) && form (outL l)))) := by
        intro hz hn
        refine Ev.succ ?_
        simp only [spec_IsCandidate.j1, Bool.false_eq_true, if_false, wrap_succ (show i ≤ 4611686018427387903 by omega)]
        by_cases h0 : x.f0 = 0
        · simp only [if_pos h0, lk, hz h0, Bool.true_and]
          exact ih
        · simp only [if_neg h0, lk, hn h0, Bool.true_and]
          by_cases h1 : x.f1 = 0
          · simp only [h1, if_true, decide_true, Bool.true_or, Bool.true_and]
            exact ih
          · by_cases h2 : x.f0 = x.f1
            · simp only [if_neg h1, if_pos h2, h2, decide_true, Bool.true_or, Bool.or_true, Bool.true_and]
              exact ih
            · cases obs x.f0
              · simp only [if_neg h1, if_neg h2, h1, h2, decide_false, Bool.false_or, Bool.false_and, Bool.false_eq_true, if_false]
                exact Ev.const rfl
              · by_cases h3 : swp x.f0 = x.f1
                · simp only [if_neg h1, if_neg h2, h1, h2, if_pos h3, h3, decide_false, decide_true, Bool.false_or, Bool.true_and, if_true]
                  exact ih
                · simp only [if_neg h1, if_neg h2, h1, h2, if_neg h3, h3, decide_false, Bool.false_or, Bool.true_and, if_true, Bool.false_and]
                  exact Ev.const rfl
      have hno : x.f0 ≠ 0 → snd x.f1 = false → x.f1 ≠ 0 → lk x.f0 x.f1 = false := by
        intro h0 hs h1
        simp only [lk, if_neg h0, h1, decide_false, Bool.false_or]
        cases hs0 : snd x.f0
        · rfl
        · simp only [Bool.true_and]
          have e1 : ¬ x.f0 = x.f1 := fun e => by rw [e, hs] at hs0; exact absurd hs0 (by simp)
          simp only [e1, decide_false, Bool.false_or]
          cases ho : obs x.f0
          · rfl
          · have := snd_swp x.f0 hx.1.1 hx.1.2 ho
            have e2 : ¬ swp x.f0 = x.f1 := fun e => by rw [e, hs] at this; exact absurd this (by simp)
            simp [e2]
      refine Ev.succ ?_
      simp only [spec_IsCandidate.l0, if_pos (show (i : Int) < (l.length : Int) by omega), if_pos (show (0 : Int) ≤ i by omega), hr, spec_SwapVoice_eq _ hx.1.1 hx.1.2, Option.bind_some]
      by_cases h0 : x.f0 = 0
      · have hz : snd 0 = false := by decide
        by_cases h1 : x.f1 = 0
        · simp only [if_pos h0, if_pos h1, show (x.f1 == 0) = true by rw [h1]; rfl]
          exact bad _ _ (by simp [lk, h0, h1, hz])
        · simp only [if_pos h0, if_neg h1, show (x.f1 == 0) = false from beq_eq_false_iff_ne.2 h1]
          refine Ev.bind (spec_IsSound_ev _ hx.2.1 hx.2.2) ?_
          cases hs : snd x.f1
          · simp only [Bool.false_eq_true, if_false]
            exact bad _ _ (by simp [lk, h0, hs])
          · simp only [if_true]
            exact good (fun _ => hs) (fun h => absurd h0 h)
      · simp only [if_neg h0]
        refine Ev.bind (spec_IsSound_ev _ hx.1.1 hx.1.2) ?_
        cases hs0 : snd x.f0
        · simp only [Bool.false_eq_true, if_false]
          exact bad _ _ (by simp [lk, h0, hs0])
        · simp only [if_true]
          by_cases h1 : x.f1 = 0
          · simp only [if_pos h1]
            exact good (fun h => absurd h h0) (fun _ => hs0)
          · simp only [if_neg h1]
            refine Ev.bind (spec_IsSound_ev _ hx.2.1 hx.2.2) ?_
            cases hs : snd x.f1
            · simp only [Bool.false_eq_true, if_false]
              exact bad _ _ (hno h0 hs h1)
            · simp only [if_true]
              exact good (fun h => absurd h h0) (fun _ => hs0)
  exact key 0 (by omega)

theorem impl_CountBreaks_ev (l : List ILink) (hl : l.length ≤ 1048576) (hb : ∀ x ∈ l, okB x) : Ev (fun k => impl_CountBreaks.f k l) ((brks l : Nat) : Int) := by
  unfold impl_CountBreaks.f brks
  have key : ∀ i, i ≤ l.length → ∀ (n p : Nat) (s : Bool), n + p ≤ i → Ev (fun k => impl_CountBreaks.l0 k (n : Int) (p : Int) s l (l.length : Int) (i : Int) l) ((n + (if cand l then brk (l.drop i) s p else 0) : Nat) : Int) := by
    refine down_ind ?_ ?_
    · intro n p s _
      refine Ev.succ ?_
      simp only [impl_CountBreaks.l0, Int.lt_irrefl, if_false]
      exact Ev.const (by simp [brk])
    · intro i hi ih n p s hn
      refine Ev.succ ?_
      simp only [impl_CountBreaks.l0, if_pos (show (i : Int) < (l.length : Int) by omega), if_pos (show (0 : Int) ≤ i by omega), rdK l i hi, wrap_succ (show i ≤ 4611686018427387903 by omega)]
      refine Ev.bind (impl_IsCandidate_ev l hl hb) ?_
      rw [drop_cons l i hi]
      cases hc : cand l
      · simp only [Bool.false_eq_true, if_false]
        refine Ev.cast (ih n p s (by omega)) ?_
        simp [hc]
      · have J : ∀ b, b = kept l[i].f0 l[i].f1 → Ev (fun k => impl_CountBreaks.j1 k (n : Int) (p : Int) s l (l.length : Int) (i : Int) b l) ((n + brk (l[i] :: l.drop (i + 1)) s p : Nat) : Int) := by
          intro b e
          refine Ev.succ ?_
          simp only [impl_CountBreaks.j1, brk, ← e, wrap_succ (show i ≤ 4611686018427387903 by omega), wrap_succ (show p ≤ 4611686018427387903 by omega)]
          cases b
          · simp only [Bool.false_eq_true, if_false]
            cases s
            · simp only [Bool.false_eq_true, if_false]
              refine Ev.cast (ih n p false (by omega)) ?_
              simp [hc]
            · simp only [if_true]
              refine Ev.cast (ih n (p + 1) true (by omega)) ?_
              simp [hc]
          · simp only [if_true]
            rw [show wrap64 ((n : Int) + (p : Int)) = ((n + p : Nat) : Int) by unfold wrap64; omega]
            refine Ev.cast (ih (n + p) 0 true (by omega)) ?_
            simp [hc]
            omega
        simp only [if_true]
        by_cases h0 : l[i].f0 = 0
        · simp only [if_pos h0]
          exact J false (by simp [kept, h0])
        · simp only [if_neg h0]
          exact J _ (by simp only [kept, h0, decide_false, Bool.not_false, Bool.true_and]; rw [bne_iff_decide])
  refine Ev.cast (key 0 (by omega) 0 0 false (by omega)) ?_
  simp
theorem spec_l9Kept_eq (a b : Int) : spec_l9Kept.f a b = some (kept a b) := by
  unfold spec_l9Kept.f kept
  by_cases h : a = 0
  · simp [h]
  · rw [if_neg h, bne_iff_decide]
    simp [h]
theorem spec_CountBreaks_ev (l : List ILink) (hl : l.length ≤ 1048576) (hb : ∀ x ∈ l, okB x) : Ev (fun k => spec_CountBreaks.f k l) ((brks l : Nat) : Int) := by
  unfold spec_CountBreaks.f brks
  have L1 : ∀ e : Nat, e ≤ l.length → ∀ j, j ≤ e → ∀ n : Nat, n ≤ j → Ev (fun k => spec_CountBreaks.l1 k (e : Int) (n : Int) (j : Int) l) ((n + (nks l e - nks l j) : Nat) : Int) := by
    intro e he
    have mono : ∀ j, j ≤ e → nks l j ≤ nks l e := by
      refine down_ind (Nat.le_refl _) ?_
      intro j hj ih
      rw [nks_succ l j (by omega)] at ih
      omega
    refine down_ind ?_ ?_
    · intro n _
      refine Ev.succ ?_
      simp only [spec_CountBreaks.l1, Int.lt_irrefl, if_false]
      exact Ev.const (by simp)
    · intro j hj ih n hn
      have hjl : j < l.length := by omega
      have hs := nks_succ l j hjl
      have hm := mono (j + 1) hj
      refine Ev.succ ?_
      simp only [spec_CountBreaks.l1, if_pos (show (j : Int) < (e : Int) by omega), if_pos (show (0 : Int) ≤ j by omega), if_pos (show (j : Int) < (l.length : Int) by omega), rdK l j hjl, spec_l9Kept_eq, Option.bind_some, wrap_succ (show j ≤ 4611686018427387903 by omega), wrap_succ (show n ≤ 4611686018427387903 by omega)]
      cases hk : kept l[j].f0 l[j].f1
      · rw [hk] at hs
        simp only [Bool.false_eq_true, if_false] at hs ⊢
        refine Ev.cast (ih (n + 1) (by omega)) ?_
        congr 1
        omega
      · rw [hk] at hs
        simp only [if_true] at hs ⊢
        refine Ev.cast (ih n (by omega)) ?_
        congr 1
        omega
  have none_ : Ev (fun k => spec_CountBreaks.l1 k (-1) 0 (mx 0 (-1)) l) 0 := by
    refine Ev.succ ?_
    simp only [spec_CountBreaks.l1, show ¬ (mx 0 (-1) < (-1 : Int)) by decide, if_false]
    exact Ev.const rfl
  have seen : ∀ i, i ≤ l.length → cand l = true → ∀ F e : Nat, F ≤ e → e < i → nks l F ≤ nks l e → nks l i + e + 1 = nks l e + i → Ev (fun k => spec_CountBreaks.l0 k (F : Int) (e : Int) (i : Int) l) (((nks l e - nks l F) + brk (l.drop i) true (i - 1 - e) : Nat) : Int) := by
    refine down_ind ?_ ?_
    · intro hc F e hF he hm hi
      refine Ev.succ ?_
      simp only [spec_CountBreaks.l0, Int.lt_irrefl, if_false]
      refine Ev.succ ?_
      simp only [spec_CountBreaks.j1, Bool.false_eq_true, if_false, show mx 0 (F : Int) = (F : Int) by unfold mx; split <;> omega]
      refine Ev.cast (L1 e (by omega) F hF 0 (by omega)) ?_
      simp [brk]
    · intro i hi ih hc F e hF he hm hinv
      have hs := nks_succ l i hi
      refine Ev.succ ?_
      simp only [spec_CountBreaks.l0, if_pos (show (i : Int) < (l.length : Int) by omega)]
      refine Ev.bind (spec_IsCandidate_ev l hl hb) ?_
      rw [hc]
      refine Ev.succ ?_
      simp only [spec_CountBreaks.j1, if_true, if_pos (show (0 : Int) ≤ i by omega), if_pos (show (i : Int) < (l.length : Int) by omega), rdK l i hi, spec_l9Kept_eq, Option.bind_some, wrap_succ (show i ≤ 4611686018427387903 by omega), if_neg (show ¬ (F : Int) < 0 by omega)]
      rw [drop_cons l i hi]
      simp only [brk]
      cases hk : kept l[i].f0 l[i].f1
      · rw [hk] at hs
        simp only [Bool.false_eq_true, if_false, if_true] at hs ⊢
        refine Ev.cast (ih hc F e hF (by omega) hm (by omega)) ?_
        rw [show i + 1 - 1 - e = i - 1 - e + 1 by omega]
      · rw [hk] at hs
        simp only [if_true] at hs ⊢
        refine Ev.cast (ih hc F i (by omega) (by omega) (by omega) (by omega)) ?_
        rw [show i + 1 - 1 - i = 0 by omega]
        congr 1
        omega
  have key : ∀ i, i ≤ l.length → Ev (fun k => spec_CountBreaks.l0 k (-1) (-1) (i : Int) l) ((if cand l then brk (l.drop i) false 0 else 0 : Nat) : Int) := by
    refine down_ind ?_ ?_
    · refine Ev.succ ?_
      simp only [spec_CountBreaks.l0, Int.lt_irrefl, if_false]
      refine Ev.succ ?_
      simp only [spec_CountBreaks.j1, Bool.false_eq_true, if_false]
      refine Ev.cast none_ ?_
      simp [brk]
    · intro i hi ih
      have hs := nks_succ l i hi
      refine Ev.succ ?_
      simp only [spec_CountBreaks.l0, if_pos (show (i : Int) < (l.length : Int) by omega)]
      refine Ev.bind (spec_IsCandidate_ev l hl hb) ?_
      cases hc : cand l
      · refine Ev.succ ?_
        simp only [spec_CountBreaks.j1, Bool.false_eq_true, if_false]
        exact none_
      · rw [hc] at ih
        refine Ev.succ ?_
        simp only [spec_CountBreaks.j1, if_true, if_pos (show (0 : Int) ≤ i by omega), if_pos (show (i : Int) < (l.length : Int) by omega), rdK l i hi, spec_l9Kept_eq, Option.bind_some, wrap_succ (show i ≤ 4611686018427387903 by omega), if_pos (show (-1 : Int) < 0 by omega)]
        rw [drop_cons l i hi]
        simp only [brk]
        cases hk : kept l[i].f0 l[i].f1
        · simp only [Bool.false_eq_true, if_false]
          exact ih
        · rw [hk] at hs
          simp only [if_true] at hs ⊢
          refine Ev.cast (seen (i + 1) (by omega) hc i i (Nat.le_refl _) (by omega) (Nat.le_refl _) (by omega)) ?_
          simp
  exact key 0 (by omega)

theorem laws_toCandidate_ev (l : List LLink) (hl : l.length ≤ 1048576) : Ev (fun k => laws_toCandidate.f k l) (l.map toK) := by
  unfold laws_toCandidate.f
  refine Ev.bind ?_ (Ev.const rfl)
  unfold laws_toLinkS.f
  simp only [if_pos (show (0 : Int) ≤ (l.length : Int) by omega), Int.toNat_natCast, if_pos (show l.length ≤ 140737488355328 by omega)]
  have key : ∀ i, i ≤ l.length → Ev (fun k => laws_toLinkS.l0 k l ((l.take i).map toK ++ List.replicate (l.length - i) z57) (i : Int)) (l.map toK) := by
    refine down_ind ?_ ?_
    · refine Ev.succ ?_
      simp only [laws_toLinkS.l0, Int.lt_irrefl, if_false]
      exact Ev.const (by simp)
    · intro i hi ih
      refine Ev.succ ?_
      have hlen : ((l.take i).map toK ++ List.replicate (l.length - i) z57).length = l.length := by simp; omega
      simp only [laws_toLinkS.l0, laws_toLink.f, Option.bind_some, hlen, if_pos (show (i : Int) < (l.length : Int) by omega), if_pos (show (0 : Int) ≤ i by omega), rdLK l i hi, Int.toNat_natCast, show (⟨l[i].f0, l[i].f1⟩ : ILink) = toK l[i] from rfl, set_fill2 l toK _ i hi, wrap_succ (show i ≤ 4611686018427387903 by omega)]
      exact ih
  have := key 0 (by omega)
  simpa using this

theorem laws_eqCandidate_ev (a : List ILink) (hl : a.length ≤ 1048576) : Ev (fun k => laws_eqCandidate.f k a a) true := by
  unfold laws_eqCandidate.f
  refine Ev.bind ?_ (Ev.const (if_pos rfl))
  unfold laws_eqLinkS.f
  simp only [if_true]
  have key : ∀ i, i ≤ a.length → Ev (fun k => laws_eqLinkS.l0 k a a (i : Int)) true := by
    refine down_ind ?_ ?_
    · refine Ev.succ ?_
      simp only [laws_eqLinkS.l0, Int.lt_irrefl, if_false]
      exact Ev.const rfl
    · intro i hi ih
      refine Ev.succ ?_
      simp only [laws_eqLinkS.l0, laws_eqLink.f, Option.bind_some, if_pos (show (i : Int) < (a.length : Int) by omega), if_pos (show (0 : Int) ≤ i by omega), if_true, wrap_succ (show i ≤ 4611686018427387903 by omega)]
      exact ih
  exact key 0 (by omega)

theorem laws_szCandidate_eq (l : List LLink) (n : Nat) (hn : n ≤ 1048576) (hl : l.length ≤ 140737488355328) : laws_szCandidate.f l n = some (if l.length ≤ n then ((n - l.length : Nat) : Int) else -1) := by
  unfold laws_szCandidate.f laws_szLinkS.f
  rw [wrap_in (by omega) (by omega)]
  by_cases h : l.length ≤ n
  · rw [if_neg (show ¬ ((n : Int) - (l.length : Int) < 0) by omega), if_pos h]
    simp only [Option.bind_some]
    rw [if_neg (by omega)]
    congr 1
    omega
  · rw [if_pos (show ((n : Int) - (l.length : Int) < 0) by omega), if_neg h]
    simp only [Option.bind_some]
    rfl

theorem FnExactCountBreaks : laws_FnExactCountBreaks.Pure := by
  intro l hbd
  refine Ev.rounds ?_
  unfold laws_FnExactCountBreaks.f
  rw [show (1048576 : Int) = ((1048576 : Nat) : Int) from rfl, laws_szCandidate_eq l 1048576 (Nat.le_refl _) (by have := hbd.1; omega)]
  simp only [Option.bind_some]
  by_cases h : l.length ≤ 1048576
  · have hl : (l.map toK).length ≤ 1048576 := by rw [List.length_map]; exact h
    simp only [if_pos h, if_neg (show ¬ ((1048576 - l.length : Nat) : Int) < 0 by omega)]
    refine Ev.bind (laws_toCandidate_ev l h) (Ev.bind (spec_CountBreaks_ev _ hl (bdK hbd)) (Ev.bind (laws_toCandidate_ev l h) (Ev.bind (impl_CountBreaks_ev _ hl (bdK hbd)) ?_)))
    simp only [if_true]
    refine Ev.bind (laws_toCandidate_ev l h) (Ev.bind (laws_eqCandidate_ev _ hl) ?_)
    simp only [if_true]
    exact Ev.const rfl
  · simp only [if_neg h]
    exact Ev.const rfl

end Go.Proofs.Ytdamagcfmhimfac.Pure
