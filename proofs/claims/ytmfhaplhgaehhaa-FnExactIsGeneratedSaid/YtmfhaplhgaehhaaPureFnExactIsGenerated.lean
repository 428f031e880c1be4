/- The pure statement of the law FnExactIsGenerated: for all arguments within bounds its printed function answers true. -/
import Derived.Test.YtmfhaplhgaehhaaPFnExactIsGeneratedx
import Derived.Test.YtmfhaplhgaehhaaBase
namespace Go.Proofs.Ytmfhaplhgaehhaa.Pure
open Go.RowKit Go.Proofs.YtmfhaplhgaehhaaB Go.Proofs.Ytmfhaplhgaehhaa.PFnExactIsGenerated Go.Proofs.YtmfhaplhgaehhaaW.PrintWords Go.Proofs.YtmfhaplhgaehhaaW.PrintLast Go.Proofs.YtmfhaplhgaehhaaW.PrintMore
set_option linter.unusedVariables false
set_option linter.unusedSimpArgs false

/-! ### sounds -/
def snd (c : Int) : Bool := decide (c ∈ ([112, 116, 98, 100, 110, 97, 105] : List Int))
def obs (c : Int) : Bool := decide (c ∈ ([112, 116, 98, 100] : List Int))
def feat (c f : Int) : Bool := if f = 0 then decide (c ∈ ([97, 105] : List Int)) else if f = 1 then decide (c ∈ ([98, 100, 110, 97, 105] : List Int)) else if f = 2 then decide (c = 110) else if f = 3 then decide (c ∈ ([112, 98] : List Int)) else if f = 4 then decide (c = 105) else false
/-- a vowel -/
def vow (c : Int) : Bool := decide (c = 97 ∨ c = 105)
/-- the sounds of a form: at most eight -/
def form (l : List Int) : Bool := l.all snd && decide (l.length ≤ 8)
/-- a voiced obstruent -/
def voi (c : Int) : Bool := decide (c = 98 ∨ c = 100)
theorem byte_ind {P : Int → Prop} (h : ∀ n : Fin 256, P (n.val : Int)) (c : Int) (h0 : 0 ≤ c) (h1 : c < 256) : P c := by
  obtain ⟨n, rfl⟩ := Int.eq_ofNat_of_zero_le h0
  exact h ⟨n, by omega⟩

abbrev ILink := S87
/-- a link of bytes -/
def okB (x : ILink) : Prop := (0 ≤ x.f0 ∧ x.f0 < 256) ∧ (0 ≤ x.f1 ∧ x.f1 < 256)
theorem rdK (l : List ILink) (i : Nat) (h : i < l.length) : rd_T87 l (i : Int) = l[i] := by simp [rd_T87, h]
def swp (c : Int) : Int := if c = 112 then 98 else if c = 98 then 112 else if c = 116 then 100 else if c = 100 then 116 else c
def lk (a b : Int) : Bool := if a = 0 then snd b else snd a && (decide (b = 0) || (decide (a = b) || (obs a && decide (swp a = b))))
def inL (l : List ILink) : List Int := (l.filter fun x => !decide (x.f0 = 0)).map (·.f0)
def outL (l : List ILink) : List Int := (l.filter fun x => !decide (x.f1 = 0)).map (·.f1)
def cand (l : List ILink) : Bool := l.all (fun x => lk x.f0 x.f1) && (decide (l.length ≤ 16) && (form (inL l) && form (outL l)))
theorem B_nums (l : List Int) (h : ∀ c ∈ l, 0 ≤ c ∧ c < 256) : B (strOfNums l) = l := by
  simp only [B, bytesOf, strOfNums, List.map_map]
  conv => rhs; rw [← List.map_id l]
  apply List.map_congr_left
  intro c hc
  obtain ⟨h0, h1⟩ := h c hc
  obtain ⟨n, rfl⟩ := Int.eq_ofNat_of_zero_le h0
  simp
  omega
theorem size_nums (l : List Int) : (strOfNums l).size = l.length := by simp [strOfNums, ByteArray.size]
theorem inL_length (l : List ILink) : (inL l).length ≤ l.length := by
  unfold inL
  rw [List.length_map]
  exact List.length_filter_le _ _
theorem outL_length (l : List ILink) : (outL l).length ≤ l.length := by
  unfold outL
  rw [List.length_map]
  exact List.length_filter_le _ _
theorem inL_range (l : List ILink) (hb : ∀ x ∈ l, okB x) : ∀ c ∈ inL l, 0 ≤ c ∧ c < 256 := by
  intro c hc
  simp only [inL, List.mem_map, List.mem_filter] at hc
  obtain ⟨x, ⟨hx, _⟩, rfl⟩ := hc
  exact (hb x hx).1
theorem outL_range (l : List ILink) (hb : ∀ x ∈ l, okB x) : ∀ c ∈ outL l, 0 ≤ c ∧ c < 256 := by
  intro c hc
  simp only [outL, List.mem_map, List.mem_filter] at hc
  obtain ⟨x, ⟨hx, _⟩, rfl⟩ := hc
  exact (hb x hx).2
theorem inL_cons (x : ILink) (l : List ILink) : inL (x :: l) = if x.f0 = 0 then inL l else x.f0 :: inL l := by
  by_cases h : x.f0 = 0 <;> simp [inL, h]
theorem outL_cons (x : ILink) (l : List ILink) : outL (x :: l) = if x.f1 = 0 then outL l else x.f1 :: outL l := by
  by_cases h : x.f1 = 0 <;> simp [outL, h]
theorem snd_swp (c : Int) (h0 : 0 ≤ c) (h1 : c < 256) (h : obs c = true) : snd (swp c) = true := byte_ind (P := fun c => obs c = true → snd (swp c) = true) (by decide +kernel) c h0 h1 h

abbrev GC := S26

theorem spec_SwapVoice_eq (c : Int) (h0 : 0 ≤ c) (h1 : c < 256) : spec_SwapVoice.f c = some (swp c, obs c) := byte_ind (P := fun c => spec_SwapVoice.f c = some (swp c, obs c)) (by decide +kernel) c h0 h1

theorem impl_SwapVoice_eq (c : Int) (h0 : 0 ≤ c) (h1 : c < 256) : impl_SwapVoice.f c = some (swp c, obs c) := byte_ind (P := fun c => impl_SwapVoice.f c = some (swp c, obs c)) (by decide +kernel) c h0 h1

theorem impl_IsSound_eq (c : Int) (h0 : 0 ≤ c) (h1 : c < 256) : impl_IsSound.f c = some (snd c) := byte_ind (P := fun c => impl_IsSound.f c = some (snd c)) (by decide +kernel) c h0 h1
theorem spec_IsSound_ev (c : Int) (h0 : 0 ≤ c) (h1 : c < 256) : Ev (fun k => spec_IsSound.f k c) (snd c) :=
  Ev.at_ (spec_IsSound.mono c) 9 (byte_ind (P := fun c => spec_IsSound.f 9 c = some (snd c)) (by decide +kernel) c h0 h1)

theorem impl_within_eq (a b c : Int) : impl_within.f a b c = some (decide (b ≤ a ∧ a ≤ c)) := by
  unfold impl_within.f
  split
  · simp [*]
  · simp [*]

theorem spec_l2Sounds_ev (s : ByteArray) (hn : s.size ≤ 140737488351232) : Ev (fun k => spec_l2Sounds.f k s) ((B s).all snd && decide (s.size ≤ 20)) := by
  have key : ∀ i, i ≤ s.size → Ev (fun k => spec_l2Sounds.l0 k s (i : Int)) (((B s).drop i).all snd && decide (s.size ≤ 20)) := by
    refine down_ind ?_ ?_
    · refine Ev.succ ?_
      simp only [spec_l2Sounds.l0, Int.lt_irrefl, if_false]
      refine Ev.const ?_
      rw [List.drop_of_length_le (by rw [B_length]; exact Nat.le_refl _)]
      simp
      omega
    · intro i hi ih
      have hB : i < (B s).length := by rw [B_length]; exact hi
      have hr := B_get_range s i hB
      refine Ev.succ ?_
      simp only [spec_l2Sounds.l0, if_pos (show (i : Int) < (s.size : Int) by omega), if_pos (show (0 : Int) ≤ i by omega), bt_nat s i hB]
      refine Ev.bind (spec_IsSound_ev _ hr.1 hr.2) ?_
      rw [drop_cons _ _ hB, List.all_cons]
      cases snd (B s)[i]
      · simp only [Bool.false_eq_true, if_false]
        exact Ev.const rfl
      · simp only [if_true, wrap_succ (show i ≤ 4611686018427387903 by omega), Bool.true_and]
        exact ih
  exact key 0 (by omega)
theorem spec_IsForm_ev (s : ByteArray) (hn : s.size ≤ 140737488351232) : Ev (fun k => spec_IsForm.f k s) (form (B s)) := by
  unfold spec_IsForm.f
  refine Ev.bind (spec_l2Sounds_ev s hn) ?_
  refine Ev.const ?_
  unfold form
  rw [B_length]
  cases (B s).all snd
  · simp
  · by_cases h : s.size ≤ 8
    · have h2 : s.size ≤ 20 := by omega
      simp [h, h2]
      omega
    · by_cases h2 : s.size ≤ 20
      · simp [h, h2]
        omega
      · simp [h, h2]
theorem impl_areSounds_ev (s : ByteArray) (hn : s.size ≤ 140737488351232) : Ev (fun k => impl_areSounds.f k s) ((B s).all snd && decide (1 ≤ s.size ∧ s.size ≤ 20)) := by
  have key : ∀ i, i ≤ s.size → Ev (fun k => impl_areSounds.l0 k s (s.size : Int) (i : Int)) (((B s).drop i).all snd && decide (1 ≤ s.size ∧ s.size ≤ 20)) := by
    refine down_ind ?_ ?_
    · refine Ev.succ ?_
      simp only [impl_areSounds.l0, Int.lt_irrefl, if_false, impl_within_eq, Option.bind_some]
      refine Ev.const ?_
      rw [List.drop_of_length_le (by rw [B_length]; exact Nat.le_refl _)]
      simp only [List.all_nil, Bool.true_and]
      exact congrArg some (decide_eq_decide.2 (by omega))
    · intro i hi ih
      have hB : i < (B s).length := by rw [B_length]; exact hi
      have hr := B_get_range s i hB
      refine Ev.succ ?_
      simp only [impl_areSounds.l0, if_pos (show (i : Int) < (s.size : Int) by omega), if_pos (show (0 : Int) ≤ i by omega), bt_nat s i hB, impl_IsSound_eq _ hr.1 hr.2, Option.bind_some]
      rw [drop_cons _ _ hB, List.all_cons]
      cases snd (B s)[i]
      · simp only [Bool.false_eq_true, if_false]
        exact Ev.const rfl
      · simp only [if_true, wrap_succ (show i ≤ 4611686018427387903 by omega), Bool.true_and]
        exact ih
  exact key 0 (by omega)
theorem impl_IsForm_ev (s : ByteArray) (hn : s.size ≤ 140737488351232) : Ev (fun k => impl_IsForm.f k s) (form (B s)) := by
  unfold impl_IsForm.f
  by_cases h0 : s.toList = []
  · simp only [if_pos h0]
    rw [toList_nil] at h0
    exact Ev.const (by rw [h0]; rfl)
  · simp only [if_neg h0]
    rw [toList_nil] at h0
    have h1 : 1 ≤ s.size := by
      rw [← B_length]
      exact List.length_pos_iff.2 h0
    by_cases h8 : s.size ≤ 8
    · simp only [if_pos (show (s.size : Int) ≤ 8 by omega)]
      refine Ev.bind (impl_areSounds_ev s hn) ?_
      refine Ev.const ?_
      unfold form
      rw [B_length]
      have h2 : s.size ≤ 20 := by omega
      simp [h1, h2, h8]
    · simp only [if_neg (show ¬ (s.size : Int) ≤ 8 by omega)]
      refine Ev.const ?_
      unfold form
      rw [B_length]
      simp [h8]

def mkC (c : List ILink) : GC := ⟨c⟩
theorem rdGC (l : List GC) (i : Nat) (h : i < l.length) : rd_T26 l (i : Int) = l[i] := by simp [rd_T26, h]
theorem btr (s : ByteArray) (i : Int) : 0 ≤ bt s i ∧ bt s i < 256 := Go.Proofs.YtmfhaplhgaehhaaB.bt_range s i
theorem bt_B (s : ByteArray) (i : Nat) (h : i < s.size) : bt s (i : Int) = (B s)[i]'(by rw [B_length]; exact h) := bt_nat s i (by rw [B_length]; exact h)
theorem genF_step (s : ByteArray) (m i l : Nat) : genF s (m + 1) i l =
    (if i < s.size then (genF s m (i + 1) l).map ((⟨bt s i, bt s i⟩ : ILink) :: ·) ++
      (if 0 < l then (genF s m (i + 1) (l - 1)).map ((⟨bt s i, 0⟩ : ILink) :: ·) ++
        (if obs (bt s i) = true then (genF s m (i + 1) (l - 1)).map ((⟨bt s i, swp (bt s i)⟩ : ILink) :: ·) else []) else []) else [[]]) ++
      (if 0 < l then (genF s m i (l - 1)).map ((⟨0, 116⟩ : ILink) :: ·) ++ (genF s m i (l - 1)).map ((⟨0, 105⟩ : ILink) :: ·) else []) := by
  rw [genF, impl_SwapVoice_eq (bt s i) (btr s i).1 (btr s i).2]
  cases obs (bt s i) <;> simp
theorem genF_len (s : ByteArray) : ∀ m i l, ∀ c ∈ genF s m i l, c.length ≤ m
  | 0, _, _, c, h => by simp [genF] at h
  | m + 1, i, l, c, h => by
    have key : ∀ i l x c, c ∈ (genF s m i l).map (x :: ·) → c.length ≤ m + 1 := by
      intro i l x c hc
      rw [List.mem_map] at hc
      obtain ⟨d, hd, rfl⟩ := hc
      have := genF_len s m i l d hd
      simp only [List.length_cons]
      omega
    rw [genF_step] at h
    rcases List.mem_append.1 h with h | h
    · split at h
      · rcases List.mem_append.1 h with h | h
        · exact key _ _ _ _ h
        · split at h
          · rcases List.mem_append.1 h with h | h
            · exact key _ _ _ _ h
            · split at h
              · exact key _ _ _ _ h
              · cases h
          · cases h
      · rw [List.mem_singleton] at h
        subst h
        exact Nat.zero_le _
    · split at h
      · rcases List.mem_append.1 h with h | h
        · exact key _ _ _ _ h
        · exact key _ _ _ _ h
      · cases h
theorem genF_small (s : ByteArray) (hn : s.size ≤ 16) (m i l : Nat) (hl : l ≤ 2) : (genF s m i l).length ≤ 7225 :=
  Nat.le_trans (genF_length s m i l) (Nat.le_trans (Nat.pow_le_pow_left (show 5 * (s.size - i + 1) ≤ 85 by omega) l) (Nat.le_trans (Nat.pow_le_pow_right (by omega) hl) (by decide)))

theorem Ev.congr_acc {α β : Type} {g : Nat → β → Option α} {r : α} {x y : β} (h : Ev (fun k => g k x) r) (e : x = y) : Ev (fun k => g k y) r := e ▸ h
theorem before_map (x : ILink) (G : List (List ILink)) : ((G.map mkC).map fun c => mkC (x :: c.f0)) = (G.map (x :: ·)).map mkC := by simp [List.map_map, Function.comp_def, mkC]

/-- the candidates with at most l edits -/
def gens (s : ByteArray) (l : Nat) : List GC := (genF s (s.size + l + 1) 0 l).map mkC
theorem impl_Generate_ev (s : ByteArray) (hs : s.size ≤ 140737488351232) : Ev (fun k => impl_Generate.f k s) (if form (B s) = true ∧ s.size ≤ 4 then gens s 2 else []) := by
  unfold impl_Generate.f
  refine Ev.bind (impl_IsForm_ev s hs) ?_
  cases form (B s)
  · simp only [Bool.false_eq_true, if_false, false_and]
    exact Ev.const rfl
  · simp only [if_true, true_and]
    by_cases h : s.size ≤ 4
    · simp only [if_neg (show ¬ (s.size : Int) > 4 by omega), if_pos h]
      refine Ev.const ?_
      unfold impl_generate.f
      rw [if_pos ⟨by omega, by decide, by decide⟩]
      rfl
    · simp only [if_pos (show (s.size : Int) > 4 by omega), if_neg h]
      exact Ev.const rfl

def edits (l : List ILink) : Nat := l.countP fun x => !decide (x.f0 = x.f1)
theorem spec_CountEdits_ev (l : List ILink) (hl : l.length ≤ 1048576) : Ev (fun k => spec_CountEdits.f k l) ((edits l : Nat) : Int) := by
  unfold spec_CountEdits.f edits
  have key : ∀ i, i ≤ l.length → ∀ n : Nat, n ≤ i → Ev (fun k => spec_CountEdits.l0 k (n : Int) (i : Int) l) ((n + (l.drop i).countP (fun x => !decide (x.f0 = x.f1)) : Nat) : Int) := by
    refine down_ind ?_ ?_
    · intro n _
      refine Ev.succ ?_
      simp only [spec_CountEdits.l0, Int.lt_irrefl, if_false]
      exact Ev.const (by simp)
    · intro i hi ih n hn
      refine Ev.succ ?_
      simp only [spec_CountEdits.l0, if_pos (show (i : Int) < (l.length : Int) by omega), if_pos (show (0 : Int) ≤ i by omega), rdK l i hi, wrap_succ (show i ≤ 4611686018427387903 by omega), wrap_succ (show n ≤ 4611686018427387903 by omega)]
      rw [drop_cons l i hi, List.countP_cons]
      by_cases h : l[i].f0 = l[i].f1
      · simp only [if_pos h]
        refine Ev.cast (ih n (by omega)) ?_
        simp [h]
      · simp only [if_neg h]
        refine Ev.cast (ih (n + 1) (by omega)) ?_
        simp [h]
        omega
  refine Ev.cast (key 0 (by omega) 0 (by omega)) ?_
  simp

def okl (x : ILink) : Prop := lk x.f0 x.f1 = true ∧ (x.f0 = 0 → x.f1 = 116 ∨ x.f1 = 105)
theorem edits_cons (x : ILink) (c : List ILink) : edits (x :: c) = (if x.f0 = x.f1 then 0 else 1) + edits c := by
  unfold edits
  rw [List.countP_cons]
  by_cases h : x.f0 = x.f1 <;> simp [h]
  omega
theorem swp_ne (c : Int) (h0 : 0 ≤ c) (h1 : c < 256) (h : obs c = true) : swp c ≠ c := by
  have := byte_ind (P := fun c => obs c = true → ¬ (swp c = c)) (by decide +kernel) c h0 h1 h
  exact this
theorem snd_ne0 (c : Int) (h : snd c = true) : c ≠ 0 := by
  rintro rfl
  revert h
  decide
theorem lk_same (c : Int) (h : snd c = true) : lk c c = true := by
  unfold lk
  rw [if_neg (snd_ne0 c h)]
  simp [h]
theorem lk_del (c : Int) (h : snd c = true) : lk c 0 = true := by
  unfold lk
  rw [if_neg (snd_ne0 c h)]
  simp [h]
theorem lk_swp (c : Int) (h : snd c = true) (ho : obs c = true) : lk c (swp c) = true := by
  unfold lk
  rw [if_neg (snd_ne0 c h)]
  simp [h, ho]
theorem gen_sound (s : ByteArray) (hf : (B s).all snd = true) : ∀ m i l, i ≤ s.size → ∀ c ∈ genF s m i l, inL c = (B s).drop i ∧ (∀ x ∈ c, okl x) ∧ edits c ≤ l
  | 0, _, _, _, c, h => by simp [genF] at h
  | m + 1, i, l, hi, c, h => by
    have ih := gen_sound s hf m
    have hsnd : ∀ h : i < s.size, snd (bt s i) = true := fun h => by rw [bt_B s i h]; exact List.all_eq_true.1 hf _ (List.getElem_mem _)
    have hdrop : ∀ h : i < s.size, (B s).drop i = bt s i :: (B s).drop (i + 1) := fun h => by rw [bt_B s i h]; exact drop_cons _ _ _
    -- a link of the input's own
    have own : ∀ (h1 : i < s.size) (y : Int) (l' : Nat) (hy : lk (bt s i) y = true) (he : (if bt s i = y then 0 else 1) + l' ≤ l), c ∈ (genF s m (i + 1) l').map ((⟨bt s i, y⟩ : ILink) :: ·) → inL c = (B s).drop i ∧ (∀ x ∈ c, okl x) ∧ edits c ≤ l := by
      intro h1 y l' hy he hc
      rw [List.mem_map] at hc
      obtain ⟨d, hd, rfl⟩ := hc
      obtain ⟨g1, g2, g3⟩ := ih (i + 1) l' (by omega) d hd
      have h0 := snd_ne0 _ (hsnd h1)
      refine ⟨?_, ?_, ?_⟩
      · rw [inL_cons, if_neg h0, g1, hdrop h1]
      · intro x hx
        rcases List.mem_cons.1 hx with rfl | hx
        · exact ⟨hy, fun e => absurd e h0⟩
        · exact g2 x hx
      · rw [edits_cons]
        simp only
        omega
    have ins : ∀ (y : Int) (hy : y = 116 ∨ y = 105) (l' : Nat) (he : l' + 1 ≤ l), c ∈ (genF s m i l').map ((⟨0, y⟩ : ILink) :: ·) → inL c = (B s).drop i ∧ (∀ x ∈ c, okl x) ∧ edits c ≤ l := by
      intro y hy l' he hc
      rw [List.mem_map] at hc
      obtain ⟨d, hd, rfl⟩ := hc
      obtain ⟨g1, g2, g3⟩ := ih i l' hi d hd
      refine ⟨?_, ?_, ?_⟩
      · rw [inL_cons, if_pos rfl, g1]
      · intro x hx
        rcases List.mem_cons.1 hx with rfl | hx
        · exact ⟨by rcases hy with rfl | rfl <;> decide, fun _ => hy⟩
        · exact g2 x hx
      · rw [edits_cons]
        rcases hy with rfl | rfl
        · rw [if_neg (by decide)]; omega
        · rw [if_neg (by decide)]; omega
    rw [genF_step] at h
    rcases List.mem_append.1 h with h | h
    · by_cases h1 : i < s.size
      · rw [if_pos h1] at h
        rcases List.mem_append.1 h with h | h
        · exact own h1 _ l (lk_same _ (hsnd h1)) (by rw [if_pos rfl]; omega) h
        · by_cases h2 : 0 < l
          · rw [if_pos h2] at h
            rcases List.mem_append.1 h with h | h
            · exact own h1 _ (l - 1) (lk_del _ (hsnd h1)) (by split <;> omega) h
            · by_cases h3 : obs (bt s i) = true
              · rw [if_pos h3] at h
                exact own h1 _ (l - 1) (lk_swp _ (hsnd h1) h3) (by split <;> omega) h
              · rw [if_neg h3] at h
                cases h
          · rw [if_neg h2] at h
            cases h
      · rw [if_neg h1, List.mem_singleton] at h
        subst h
        refine ⟨?_, fun x hx => (by cases hx), Nat.zero_le _⟩
        rw [List.drop_of_length_le (by rw [B_length]; omega)]
        rfl
    · by_cases h2 : 0 < l
      · rw [if_pos h2] at h
        rcases List.mem_append.1 h with h | h
        · exact ins 116 (.inl rfl) (l - 1) (by omega) h
        · exact ins 105 (.inr rfl) (l - 1) (by omega) h
      · rw [if_neg h2] at h
        cases h
theorem gen_all (s : ByteArray) (hf : (B s).all snd = true) : ∀ m i l, i ≤ s.size → (s.size - i) + l < m → ∀ c : List ILink, inL c = (B s).drop i → (∀ x ∈ c, okl x) → edits c ≤ l → c ∈ genF s m i l
  | 0, _, _, _, h, _, _, _, _ => by omega
  | m + 1, i, l, hi, hm, c, h1, h2, h3 => by
    have ih := gen_all s hf m
    rw [genF_step]
    cases c with
    | nil =>
      have hn : ¬ i < s.size := by
        intro h
        have := congrArg List.length h1
        rw [List.length_drop, B_length] at this
        simp [inL] at this
        omega
      rw [if_neg hn]
      exact List.mem_append_left _ (List.mem_singleton.2 rfl)
    | cons x c =>
      have hx := h2 x List.mem_cons_self
      have h2' : ∀ y ∈ c, okl y := fun y hy => h2 y (List.mem_cons_of_mem _ hy)
      rw [edits_cons] at h3
      rw [inL_cons] at h1
      by_cases h0 : x.f0 = 0
      · rw [if_pos h0] at h1
        have hne : ¬ x.f0 = x.f1 := by rcases hx.2 h0 with e | e <;> rw [h0, e] <;> decide
        rw [if_neg hne] at h3
        have hm2 := ih i (l - 1) hi (by omega) c h1 h2' (by omega)
        refine List.mem_append_right _ ?_
        rw [if_pos (show 0 < l by omega)]
        have ex : ∀ y, x.f1 = y → x = (⟨0, y⟩ : ILink) := fun y e => by cases x; simp_all
        rcases hx.2 h0 with e | e
        · rw [ex _ e]
          exact List.mem_append_left _ (List.mem_map_of_mem hm2)
        · rw [ex _ e]
          exact List.mem_append_right _ (List.mem_map_of_mem hm2)
      · rw [if_neg h0] at h1
        have hlt : i < s.size := by
          have := congrArg List.length h1
          rw [List.length_drop, B_length, List.length_cons] at this
          omega
        rw [drop_cons (B s) i (by rw [B_length]; exact hlt)] at h1
        injection h1 with e1 e2
        rw [← bt_B s i hlt] at e1
        rw [if_pos hlt]
        refine List.mem_append_left _ ?_
        have ex : ∀ y, x.f1 = y → x = (⟨bt s i, y⟩ : ILink) := fun y e => by cases x; simp_all
        by_cases hk : x.f0 = x.f1
        · rw [if_pos hk] at h3
          rw [ex _ (hk.symm.trans e1)]
          exact List.mem_append_left _ (List.mem_map_of_mem (ih (i + 1) l (by omega) (by omega) c e2 h2' (by omega)))
        · rw [if_neg hk] at h3
          have hm2 := ih (i + 1) (l - 1) (by omega) (by omega) c e2 h2' (by omega)
          refine List.mem_append_right _ ?_
          rw [if_pos (show 0 < l by omega)]
          have hl := hx.1
          unfold lk at hl
          rw [if_neg h0] at hl
          simp only [Bool.and_eq_true, Bool.or_eq_true, decide_eq_true_eq] at hl
          rcases hl.2 with e | e | ⟨e, e'⟩
          · rw [ex _ e]
            exact List.mem_append_left _ (List.mem_map_of_mem hm2)
          · exact absurd e hk
          · rw [e1] at e e'
            rw [ex _ e'.symm, if_pos e]
            exact List.mem_append_right _ (List.mem_map_of_mem hm2)


theorem spec_l6In_ev (l : List ILink) (hl : l.length ≤ 1048576) : Ev (fun k => spec_l6In.f k l) (strOfNums (inL l)) := by
  have key : ∀ i, i ≤ l.length → ∀ acc : List Int, acc.length ≤ i → Ev (fun k => spec_l6In.l0 k acc (i : Int) l) (strOfNums (acc ++ inL (l.drop i))) := by
    refine down_ind ?_ ?_
    · intro acc _
      refine Ev.succ ?_
      simp only [spec_l6In.l0, Int.lt_irrefl, if_false]
      exact Ev.const (by simp [inL])
    · intro i hi ih acc hacc
      refine Ev.succ ?_
      simp only [spec_l6In.l0, if_pos (show (i : Int) < (l.length : Int) by omega), if_pos (show (0 : Int) ≤ i by omega), rdK l i hi, wrap_succ (show i ≤ 4611686018427387903 by omega), if_pos (show acc.length < 140737488355328 by omega)]
      rw [drop_cons l i hi, inL_cons]
      by_cases h : l[i].f0 = 0
      · simp only [if_pos h]
        exact ih acc (by omega)
      · simp only [if_neg h]
        refine Ev.cast (ih (acc ++ [l[i].f0]) (by simp; omega)) ?_
        simp
  refine Ev.cast (key 0 (by omega) [] (by simp)) ?_
  simp
theorem spec_l6Out_ev (l : List ILink) (hl : l.length ≤ 1048576) : Ev (fun k => spec_l6Out.f k l) (strOfNums (outL l)) := by
  have key : ∀ i, i ≤ l.length → ∀ acc : List Int, acc.length ≤ i → Ev (fun k => spec_l6Out.l0 k acc (i : Int) l) (strOfNums (acc ++ outL (l.drop i))) := by
    refine down_ind ?_ ?_
    · intro acc _
      refine Ev.succ ?_
      simp only [spec_l6Out.l0, Int.lt_irrefl, if_false]
      exact Ev.const (by simp [outL])
    · intro i hi ih acc hacc
      refine Ev.succ ?_
      simp only [spec_l6Out.l0, if_pos (show (i : Int) < (l.length : Int) by omega), if_pos (show (0 : Int) ≤ i by omega), rdK l i hi, wrap_succ (show i ≤ 4611686018427387903 by omega), if_pos (show acc.length < 140737488355328 by omega)]
      rw [drop_cons l i hi, outL_cons]
      by_cases h : l[i].f1 = 0
      · simp only [if_pos h]
        exact ih acc (by omega)
      · simp only [if_neg h]
        refine Ev.cast (ih (acc ++ [l[i].f1]) (by simp; omega)) ?_
        simp
  refine Ev.cast (key 0 (by omega) [] (by simp)) ?_
  simp


theorem spec_formNums (l : List Int) (hl : l.length ≤ 1048576) (h : ∀ c ∈ l, 0 ≤ c ∧ c < 256) : Ev (fun k => spec_IsForm.f k (strOfNums l)) (form l) := by
  have := spec_IsForm_ev (strOfNums l) (by rw [size_nums]; omega)
  rwa [B_nums l h] at this
theorem impl_formNums (l : List Int) (hl : l.length ≤ 1048576) (h : ∀ c ∈ l, 0 ≤ c ∧ c < 256) : Ev (fun k => impl_IsForm.f k (strOfNums l)) (form l) := by
  have := impl_IsForm_ev (strOfNums l) (by rw [size_nums]; omega)
  rwa [B_nums l h] at this

theorem spec_IsCandidate_ev (l : List ILink) (hl : l.length ≤ 1048576) (hb : ∀ x ∈ l, okB x) : Ev (fun k => spec_IsCandidate.f k l) (cand l) := by
  unfold spec_IsCandidate.f cand
  have h1 := inL_length l
  have h2 := outL_length l
  have key : ∀ i, i ≤ l.length → Ev (fun k => spec_IsCandidate.l0 k (i : Int) l) ((l.drop i).all (fun x => lk x.f0 x.f1) && (decide (l.length ≤ 16) && (form (inL l) && form (outL l)))) := by
    refine down_ind ?_ ?_
    · refine Ev.succ ?_
      simp only [spec_IsCandidate.l0, Int.lt_irrefl, if_false]
      rw [List.drop_of_length_le (Nat.le_refl _), List.all_nil, Bool.true_and]
      by_cases h : l.length ≤ 16
      · simp only [if_pos (show (l.length : Int) ≤ 16 by omega), h, decide_true, Bool.true_and]
        refine Ev.bind (spec_l6In_ev l hl) (Ev.bind (spec_formNums (inL l) (by omega) (inL_range l hb)) ?_)
        cases form (inL l)
        · simp only [Bool.false_eq_true, if_false, Bool.false_and]
          exact Ev.const rfl
        · simp only [if_true, Bool.true_and]
          refine Ev.bind (spec_l6Out_ev l hl) (Ev.bind (spec_formNums (outL l) (by omega) (outL_range l hb)) (Ev.const rfl))
      · simp only [if_neg (show ¬ (l.length : Int) ≤ 16 by omega), h, decide_false, Bool.false_and]
        exact Ev.const rfl
    · intro i hi ih
      have hx := hb l[i] (List.getElem_mem hi)
      rw [drop_cons l i hi, List.all_cons]
      have hr := rdK l i hi
      revert hx
      generalize hxe : l[i] = x at hr ⊢
      intro hx
      have bad : ∀ (y : Int) (o : Bool), lk x.f0 x.f1 = false → Ev (fun k => spec_IsCandidate.j1 k (i : Int) y o true l x.f0 x.f1) (lk x.f0 x.f1 && (l.drop (i + 1)).all (fun x => lk x.f0 x.f1) && (decide (l.length ≤ 16) && (form (inL l) && form (outL l)))) := by
        intro y o h
        refine Ev.succ ?_
        simp only [spec_IsCandidate.j1, if_true, h, Bool.false_and]
        exact Ev.const rfl
      have good : (x.f0 = 0 → snd x.f1 = true) → (x.f0 ≠ 0 → snd x.f0 = true) → Ev (fun k => spec_IsCandidate.j1 k (i : Int) (swp x.f0) (obs x.f0) false l x.f0 x.f1) (lk x.f0 x.f1 && (l.drop (i + 1)).all (fun x => lk x.f0 x.f1) && (decide (l.length ≤ 16) && (form (inL l) && form (outL l)))) := by
        intro hz hn
        refine Ev.succ ?_
        simp only [spec_IsCandidate.j1, Bool.false_eq_true, if_false, wrap_succ (show i ≤ 4611686018427387903 by omega)]
        by_cases h0 : x.f0 = 0
        · simp only [if_pos h0, lk, hz h0, Bool.true_and]
          exact ih
        · simp only [if_neg h0, lk, hn h0, Bool.true_and]
          by_cases h1 : x.f1 = 0
          · simp only [h1, if_true, decide_true, Bool.true_or, Bool.true_and]
            exact ih
          · by_cases h2 : x.f0 = x.f1
            · simp only [if_neg h1, if_pos h2, h2, decide_true, Bool.true_or, Bool.or_true, Bool.true_and]
              exact ih
            · cases obs x.f0
              · simp only [if_neg h1, if_neg h2, h1, h2, decide_false, Bool.false_or, Bool.false_and, Bool.false_eq_true, if_false]
                exact Ev.const rfl
              · by_cases h3 : swp x.f0 = x.f1
                · simp only [if_neg h1, if_neg h2, h1, h2, if_pos h3, h3, decide_false, decide_true, Bool.false_or, Bool.true_and, if_true]
                  exact ih
                · simp only [if_neg h1, if_neg h2, h1, h2, if_neg h3, h3, decide_false, Bool.false_or, Bool.true_and, if_true, Bool.false_and]
                  exact Ev.const rfl
      have hno : x.f0 ≠ 0 → snd x.f1 = false → x.f1 ≠ 0 → lk x.f0 x.f1 = false := by
        intro h0 hs h1
        simp only [lk, if_neg h0, h1, decide_false, Bool.false_or]
        cases hs0 : snd x.f0
        · rfl
        · simp only [Bool.true_and]
          have e1 : ¬ x.f0 = x.f1 := fun e => by rw [e, hs] at hs0; exact absurd hs0 (by simp)
          simp only [e1, decide_false, Bool.false_or]
          cases ho : obs x.f0
          · rfl
          · have := snd_swp x.f0 hx.1.1 hx.1.2 ho
            have e2 : ¬ swp x.f0 = x.f1 := fun e => by rw [e, hs] at this; exact absurd this (by simp)
            simp [e2]
      refine Ev.succ ?_
      simp only [spec_IsCandidate.l0, if_pos (show (i : Int) < (l.length : Int) by omega), if_pos (show (0 : Int) ≤ i by omega), hr, spec_SwapVoice_eq _ hx.1.1 hx.1.2, Option.bind_some]
      by_cases h0 : x.f0 = 0
      · have hz : snd 0 = false := by decide
        by_cases h1 : x.f1 = 0
        · simp only [if_pos h0, if_pos h1, show (x.f1 == 0) = true by rw [h1]; rfl]
          exact bad _ _ (by simp [lk, h0, h1, hz])
        · simp only [if_pos h0, if_neg h1, show (x.f1 == 0) = false from beq_eq_false_iff_ne.2 h1]
          refine Ev.bind (spec_IsSound_ev _ hx.2.1 hx.2.2) ?_
          cases hs : snd x.f1
          · simp only [Bool.false_eq_true, if_false]
            exact bad _ _ (by simp [lk, h0, hs])
          · simp only [if_true]
            exact good (fun _ => hs) (fun h => absurd h0 h)
      · simp only [if_neg h0]
        refine Ev.bind (spec_IsSound_ev _ hx.1.1 hx.1.2) ?_
        cases hs0 : snd x.f0
        · simp only [Bool.false_eq_true, if_false]
          exact bad _ _ (by simp [lk, h0, hs0])
        · simp only [if_true]
          by_cases h1 : x.f1 = 0
          · simp only [if_pos h1]
            exact good (fun h => absurd h h0) (fun _ => hs0)
          · simp only [if_neg h1]
            refine Ev.bind (spec_IsSound_ev _ hx.2.1 hx.2.2) ?_
            cases hs : snd x.f1
            · simp only [Bool.false_eq_true, if_false]
              exact bad _ _ (hno h0 hs h1)
            · simp only [if_true]
              exact good (fun h => absurd h h0) (fun _ => hs0)
  exact key 0 (by omega)

theorem snd_range (c : Int) (h : snd c = true) : 0 ≤ c ∧ c < 256 := by
  unfold snd at h
  simp only [List.mem_cons, List.not_mem_nil, or_false, decide_eq_true_eq] at h
  omega
theorem lk_bytes {x : ILink} (h : lk x.f0 x.f1 = true) : okB x ∧ (x.f1 ≠ 0 → snd x.f1 = true) := by
  unfold lk at h
  by_cases h0 : x.f0 = 0
  · rw [if_pos h0] at h
    exact ⟨⟨by rw [h0]; decide, snd_range _ h⟩, fun _ => h⟩
  · rw [if_neg h0] at h
    simp only [Bool.and_eq_true, Bool.or_eq_true, decide_eq_true_eq] at h
    have hr := snd_range _ h.1
    have hs : x.f1 ≠ 0 → snd x.f1 = true := by
      intro h1
      rcases h.2 with e | e | ⟨e, e'⟩
      · exact absurd e h1
      · rw [← e]; exact h.1
      · rw [← e']; exact snd_swp _ hr.1 hr.2 e
    refine ⟨⟨hr, ?_⟩, hs⟩
    by_cases h1 : x.f1 = 0
    · rw [h1]; decide
    · exact snd_range _ (hs h1)
theorem cand_of {s : ByteArray} (hf : form (B s) = true) {c : List ILink} (hl : c.length ≤ 8) (h1 : inL c = B s) (h2 : ∀ x ∈ c, okl x) : cand c = true ∧ ∀ x ∈ c, okB x := by
  refine ⟨?_, fun x hx => (lk_bytes (h2 x hx).1).1⟩
  unfold cand
  rw [h1, hf]
  have e1 : (c.all fun x => lk x.f0 x.f1) = true := List.all_eq_true.2 fun x hx => (h2 x hx).1
  have e2 : form (outL c) = true := by
    unfold form
    rw [Bool.and_eq_true, decide_eq_true_eq]
    refine ⟨List.all_eq_true.2 fun y hy => ?_, Nat.le_trans (outL_length c) hl⟩
    unfold outL at hy
    rw [List.mem_map] at hy
    obtain ⟨x, hx, rfl⟩ := hy
    rw [List.mem_filter] at hx
    exact (lk_bytes (h2 x hx.1).1).2 (by simpa using hx.2)
  rw [e1, e2]
  simp
  omega
theorem gens_cand (s : ByteArray) (hf : form (B s) = true) (h4 : s.size ≤ 4) : ∀ c ∈ gens s 2, cand c.f0 = true ∧ (∀ x ∈ c.f0, okB x) ∧ c.f0.length ≤ 8 := by
  intro c hc
  unfold gens at hc
  rw [List.mem_map] at hc
  obtain ⟨d, hd, rfl⟩ := hc
  have h1 := genF_len s _ 0 2 d hd
  obtain ⟨g1, g2, g3⟩ := gen_sound s (Bool.and_eq_true_iff.1 hf).1 _ 0 2 (Nat.zero_le _) d hd
  have hl : d.length ≤ 8 := by omega
  exact ⟨(cand_of hf hl (by simpa using g1) g2).1, (cand_of hf hl (by simpa using g1) g2).2, hl⟩
theorem gens_length (s : ByteArray) (h4 : s.size ≤ 4) : (gens s 2).length ≤ 7225 := by
  unfold gens
  rw [List.length_map]
  exact genF_small s (by omega) _ 0 2 (by omega)
/-- what both sides' Generate comes to -/
def genR (s : ByteArray) : List GC := if form (B s) = true ∧ s.size ≤ 4 then gens s 2 else []
theorem genR_good (s : ByteArray) : (∀ c ∈ genR s, cand c.f0 = true ∧ (∀ x ∈ c.f0, okB x) ∧ c.f0.length ≤ 8) ∧ (genR s).length ≤ 7225 := by
  unfold genR
  split
  · rename_i h
    exact ⟨gens_cand s h.1 h.2, gens_length s h.2⟩
  · exact ⟨fun c hc => (by cases hc), by simp⟩

def inS (l : List ILink) : ByteArray := if cand l = true then strOfNums (inL l) else ⟨#[]⟩
theorem spec_InputOf_ev (l : List ILink) (hl : l.length ≤ 1048576) (hb : ∀ x ∈ l, okB x) : Ev (fun k => spec_InputOf.f k l) (inS l) := by
  unfold spec_InputOf.f inS
  refine Ev.bind (spec_IsCandidate_ev l hl hb) ?_
  cases cand l
  · simp only [Bool.false_eq_true, if_false]
    exact Ev.const rfl
  · simp only [if_true]
    exact Ev.bind (spec_l6In_ev l hl) (Ev.const rfl)

instance decLink : DecidableEq ILink := fun x y => if h : x.f0 = y.f0 ∧ x.f1 = y.f1 then isTrue (by cases x; cases y; obtain ⟨rfl, rfl⟩ := h; rfl) else isFalse (fun e => h (by rw [e]; exact ⟨rfl, rfl⟩))
theorem impl_EqualCandidates_ev (a b : List ILink) (ha : a.length ≤ 1048576) (hb : b.length ≤ 1048576) : Ev (fun k => impl_EqualCandidates.f k a b) (decide (a = b)) := by
  unfold impl_EqualCandidates.f
  refine Ev.bind (r := decide (a = b)) ?_ (Ev.const rfl)
  unfold slices_Equal_impl_Link_impl_Link.f
  by_cases hl : a.length = b.length
  · simp only [if_pos (show (a.length : Int) = (b.length : Int) by omega)]
    have key : ∀ i, i ≤ a.length → Ev (fun k => slices_Equal_impl_Link_impl_Link.l0 k a b (a.length : Int) (i : Int)) (decide (a.drop i = b.drop i)) := by
      refine down_ind ?_ ?_
      · refine Ev.succ ?_
        simp only [slices_Equal_impl_Link_impl_Link.l0, Int.lt_irrefl, if_false]
        refine Ev.const ?_
        rw [List.drop_length, List.drop_of_length_le (by omega)]
        simp
      · intro i hi ih
        have hi' : i < b.length := by omega
        refine Ev.succ ?_
        simp only [slices_Equal_impl_Link_impl_Link.l0, if_pos (show (i : Int) < (a.length : Int) by omega), if_pos (show (i : Int) < (b.length : Int) by omega), if_pos (show (0 : Int) ≤ i by omega), rdK a i hi, rdK b i hi', wrap_succ (show i ≤ 4611686018427387903 by omega)]
        rw [drop_cons a i hi, drop_cons b i hi']
        by_cases h : a[i] = b[i]
        · simp only [h, beq_self_eq_true, Bool.not_true, Bool.or_self, Bool.false_eq_true, if_false]
          refine Ev.cast ih ?_
          refine decide_eq_decide.2 ⟨fun e => ?_, fun e => (List.cons.inj e).2⟩
          first | rw [e] | rw [h, e]
        · have hne : (!(a[i].f0 == b[i].f0) || (!(a[i].f1 == b[i].f1))) = true := by
            cases h1 : a[i].f0 == b[i].f0 with
            | false => rfl
            | true =>
              cases h2 : a[i].f1 == b[i].f1 with
              | false => rfl
              | true =>
                refine absurd ?_ h
                rw [beq_iff_eq] at h1 h2
                cases hx : a[i]
                cases hy : b[i]
                simp_all
          simp only [hne, if_true]
          refine Ev.const ?_
          congr 1
          refine (decide_eq_false ?_).symm
          intro e
          injection e with e1 e2
          exact h e1
    exact key 0 (by omega)
  · simp only [if_neg (show ¬ (a.length : Int) = (b.length : Int) by omega)]
    refine Ev.const ?_
    congr 1
    exact (decide_eq_false (fun e => hl (by rw [e]))).symm

def insB (x : ILink) : Bool := !decide (x.f0 = 0) || (decide (x.f1 = 116) || decide (x.f1 = 105))
theorem spec_l7Inserts_ev (l : List ILink) (hl : l.length ≤ 1048576) : Ev (fun k => spec_l7Inserts.f k l) (l.all insB) := by
  unfold spec_l7Inserts.f
  have e0 : bt (⟨#[116, 105]⟩ : ByteArray) 0 = 116 := by decide +kernel
  have e1 : bt (⟨#[116, 105]⟩ : ByteArray) 1 = 105 := by decide +kernel
  have key : ∀ i, i ≤ l.length → Ev (fun k => spec_l7Inserts.l0 k (i : Int) l) ((l.drop i).all insB) := by
    refine down_ind ?_ ?_
    · refine Ev.succ ?_
      simp only [spec_l7Inserts.l0, Int.lt_irrefl, if_false]
      exact Ev.const (by simp)
    · intro i hi ih
      refine Ev.succ ?_
      simp only [spec_l7Inserts.l0, if_pos (show (i : Int) < (l.length : Int) by omega), if_pos (show (0 : Int) ≤ i by omega), rdK l i hi, wrap_succ (show i ≤ 4611686018427387903 by omega), if_pos (show 0 < 2 by decide), if_pos (show 1 < 2 by decide), e0, e1]
      rw [drop_cons l i hi, List.all_cons]
      by_cases h0 : l[i].f0 = 0
      · simp only [if_pos h0]
        by_cases h1 : l[i].f1 = 116
        · simp only [if_pos h1]
          refine Ev.cast ih ?_
          simp [insB, h0, h1]
        · simp only [if_neg h1]
          by_cases h2 : l[i].f1 = 105
          · simp only [if_pos h2]
            refine Ev.cast ih ?_
            simp [insB, h0, h1, h2]
          · simp only [if_neg h2]
            refine Ev.const ?_
            simp [insB, h0, h1, h2]
      · simp only [if_neg h0]
        refine Ev.cast ih ?_
        simp [insB, h0]
  exact key 0 (by omega)
def isg (s : ByteArray) (c : List ILink) : Bool := (genR s).any fun x => decide (x.f0 = c)
theorem impl_IsGenerated_ev (s : ByteArray) (c : List ILink) (hs : s.size ≤ 140737488351232) (hl : c.length ≤ 1048576) : Ev (fun k => impl_IsGenerated.f k s c) (isg s c) := by
  unfold impl_IsGenerated.f isg
  refine Ev.bind (impl_Generate_ev s hs) ?_
  show Ev (fun k => impl_IsGenerated.l0 k (genR s) c 0) _
  obtain ⟨hg, hn⟩ := genR_good s
  generalize genR s = L at hg hn ⊢
  have key : ∀ i, i ≤ L.length → Ev (fun k => impl_IsGenerated.l0 k L c (i : Int)) ((L.drop i).any fun x => decide (x.f0 = c)) := by
    refine down_ind ?_ ?_
    · refine Ev.succ ?_
      simp only [impl_IsGenerated.l0, Int.lt_irrefl, if_false]
      exact Ev.const (by simp)
    · intro i hi ih
      obtain ⟨h1, h2, h3⟩ := hg L[i] (List.getElem_mem hi)
      refine Ev.succ ?_
      simp only [impl_IsGenerated.l0, if_pos (show (i : Int) < (L.length : Int) by omega), if_pos (show (0 : Int) ≤ i by omega), show (L.getD (i : Int).toNat z26) = L[i] by simp [hi], wrap_succ (show i ≤ 4611686018427387903 by omega)]
      refine Ev.bind (impl_EqualCandidates_ev _ c (by omega) hl) ?_
      rw [drop_cons L i hi, List.any_cons]
      cases decide (L[i].f0 = c)
      · simp only [Bool.false_eq_true, if_false, Bool.false_or]
        exact ih
      · simp only [if_true, Bool.true_or]
        exact Ev.const rfl
  exact key 0 (by omega)
theorem nums_B (s : ByteArray) : strOfNums (B s) = s := B_inj (B_nums _ (B_range s))
theorem isg_iff (s : ByteArray) (c : List ILink) (hb : ∀ x ∈ c, okB x) : isg s c = (form (B s) && (decide (s.size ≤ 4) && (cand c && (decide (strOfNums (inL c) = s) && (decide (edits c ≤ 2) && c.all insB))))) := by
  unfold isg genR
  cases hf : form (B s)
  · simp
  by_cases h4 : s.size ≤ 4
  · simp only [h4, and_self, if_true, decide_true, Bool.true_and]
    have hs := (Bool.and_eq_true_iff.1 hf).1
    rw [Bool.eq_iff_iff]
    simp only [List.any_eq_true, decide_eq_true_eq, Bool.and_eq_true]
    constructor
    · rintro ⟨x, hx, rfl⟩
      unfold gens at hx
      rw [List.mem_map] at hx
      obtain ⟨d, hd, rfl⟩ := hx
      have h1 := genF_len s _ 0 2 d hd
      obtain ⟨g1, g2, g3⟩ := gen_sound s hs _ 0 2 (Nat.zero_le _) d hd
      rw [List.drop_zero] at g1
      obtain ⟨k1, k2⟩ := cand_of hf (show d.length ≤ 8 by omega) g1 g2
      refine ⟨k1, ?_, g3, ?_⟩
      · show strOfNums (inL d) = s
        rw [g1]
        exact nums_B s
      · refine List.all_eq_true.2 fun x hx => ?_
        have := (g2 x hx).2
        unfold insB
        by_cases e : x.f0 = 0
        · rcases this e with e' | e' <;> simp [e, e']
        · simp [e]
    · rintro ⟨k1, k2, k3, k4⟩
      refine ⟨mkC c, ?_, rfl⟩
      unfold gens
      refine List.mem_map_of_mem (gen_all s hs _ 0 2 (Nat.zero_le _) (by omega) c ?_ ?_ k3)
      · rw [List.drop_zero, ← k2, B_nums _ (inL_range c hb)]
      · intro x hx
        refine ⟨?_, ?_⟩
        · unfold cand at k1
          rw [Bool.and_eq_true] at k1
          exact List.all_eq_true.1 k1.1 x hx
        · intro e
          have := List.all_eq_true.1 k4 x hx
          unfold insB at this
          simpa [e] using this
  · simp [h4]
theorem spec_IsGenerated_ev (s : ByteArray) (c : List ILink) (hs : s.size ≤ 140737488351232) (hl : c.length ≤ 1048576) (hb : ∀ x ∈ c, okB x) : Ev (fun k => spec_IsGenerated.f k s c) (isg s c) := by
  rw [isg_iff s c hb]
  unfold spec_IsGenerated.f
  refine Ev.bind (spec_IsForm_ev s hs) ?_
  cases form (B s)
  · simp only [Bool.false_eq_true, if_false, Bool.false_and]
    exact Ev.const rfl
  simp only [if_true, Bool.true_and]
  by_cases h4 : s.size ≤ 4
  · simp only [if_pos (show (s.size : Int) ≤ 4 by omega), h4, decide_true, Bool.true_and]
    refine Ev.bind (spec_IsCandidate_ev c hl hb) ?_
    cases hc : cand c
    · simp only [Bool.false_eq_true, if_false, Bool.false_and]
      exact Ev.const rfl
    simp only [if_true, Bool.true_and]
    refine Ev.bind (spec_InputOf_ev c hl hb) ?_
    simp only [show inS c = strOfNums (inL c) by unfold inS; rw [if_pos hc], toList_inj]
    by_cases h5 : strOfNums (inL c) = s
    · simp only [if_pos h5, h5, decide_true, Bool.true_and]
      refine Ev.bind (spec_CountEdits_ev c hl) ?_
      by_cases h6 : edits c ≤ 2
      · simp only [if_pos (show ((edits c : Nat) : Int) ≤ 2 by omega), h6, decide_true, Bool.true_and]
        exact Ev.bind (spec_l7Inserts_ev c hl) (Ev.const rfl)
      · simp only [if_neg (show ¬ ((edits c : Nat) : Int) ≤ 2 by omega), h6, decide_false, Bool.false_and]
        exact Ev.const rfl
    · simp only [if_neg h5, h5, decide_false, Bool.false_and]
      exact Ev.const rfl
  · simp only [if_neg (show ¬ (s.size : Int) ≤ 4 by omega), h4, decide_false, Bool.false_and]
    exact Ev.const rfl

abbrev LLink := S131
def toK (x : LLink) : ILink := ⟨x.f0, x.f1⟩
theorem rdLK (l : List LLink) (i : Nat) (h : i < l.length) : rd_T131 l (i : Int) = l[i] := by simp [rd_T131, h]
theorem bdK {l : List LLink} (h : BdSlice 2 Bd131 l) : ∀ x ∈ l.map toK, okB x := by
  intro x hx
  rw [List.mem_map] at hx
  obtain ⟨y, hy, rfl⟩ := hx
  have := h.2 y hy
  simp only [Bd131, BdInt, Lit.wf, IntKind.min, IntKind.max, IntKind.signed, IntKind.bits, Bool.and_eq_true, decide_eq_true_eq] at this
  simp at this
  unfold okB toK
  simp only []
  omega

theorem laws_toCandidate_ev (l : List LLink) (hl : l.length ≤ 1048576) : Ev (fun k => laws_toCandidate.f k l) (l.map toK) := by
  unfold laws_toCandidate.f
  refine Ev.bind ?_ (Ev.const rfl)
  unfold laws_toLinkS.f
  simp only [if_pos (show (0 : Int) ≤ (l.length : Int) by omega), Int.toNat_natCast, if_pos (show l.length ≤ 140737488355328 by omega)]
  have key : ∀ i, i ≤ l.length → Ev (fun k => laws_toLinkS.l0 k l ((l.take i).map toK ++ List.replicate (l.length - i) z87) (i : Int)) (l.map toK) := by
    refine down_ind ?_ ?_
    · refine Ev.succ ?_
      simp only [laws_toLinkS.l0, Int.lt_irrefl, if_false]
      exact Ev.const (by simp)
    · intro i hi ih
      refine Ev.succ ?_
      have hlen : ((l.take i).map toK ++ List.replicate (l.length - i) z87).length = l.length := by simp; omega
      simp only [laws_toLinkS.l0, laws_toLink.f, Option.bind_some, hlen, if_pos (show (i : Int) < (l.length : Int) by omega), if_pos (show (0 : Int) ≤ i by omega), rdLK l i hi, Int.toNat_natCast, show (⟨l[i].f0, l[i].f1⟩ : ILink) = toK l[i] from rfl, set_fill2 l toK _ i hi, wrap_succ (show i ≤ 4611686018427387903 by omega)]
      exact ih
  have := key 0 (by omega)
  simpa using this

theorem laws_eqCandidate_ev (a : List ILink) (hl : a.length ≤ 1048576) : Ev (fun k => laws_eqCandidate.f k a a) true := by
  unfold laws_eqCandidate.f
  refine Ev.bind ?_ (Ev.const (if_pos rfl))
  unfold laws_eqLinkS.f
  simp only [if_true]
  have key : ∀ i, i ≤ a.length → Ev (fun k => laws_eqLinkS.l0 k a a (i : Int)) true := by
    refine down_ind ?_ ?_
    · refine Ev.succ ?_
      simp only [laws_eqLinkS.l0, Int.lt_irrefl, if_false]
      exact Ev.const rfl
    · intro i hi ih
      refine Ev.succ ?_
      simp only [laws_eqLinkS.l0, laws_eqLink.f, Option.bind_some, if_pos (show (i : Int) < (a.length : Int) by omega), if_pos (show (0 : Int) ≤ i by omega), if_true, wrap_succ (show i ≤ 4611686018427387903 by omega)]
      exact ih
  exact key 0 (by omega)

theorem laws_szCandidate_eq (l : List LLink) (n : Nat) (hn : n ≤ 1048576) (hl : l.length ≤ 140737488355328) : laws_szCandidate.f l n = some (if l.length ≤ n then ((n - l.length : Nat) : Int) else -1) := by
  unfold laws_szCandidate.f laws_szLinkS.f
  rw [wrap_in (by omega) (by omega)]
  by_cases h : l.length ≤ n
  · rw [if_neg (show ¬ ((n : Int) - (l.length : Int) < 0) by omega), if_pos h]
    simp only [Option.bind_some]
    rw [if_neg (by omega)]
    congr 1
    omega
  · rw [if_pos (show ((n : Int) - (l.length : Int) < 0) by omega), if_neg h]
    simp only [Option.bind_some]
    rfl

theorem FnExactIsGenerated : laws_FnExactIsGenerated.Pure := by
  intro s l hs hbd
  refine Ev.rounds ?_
  unfold laws_FnExactIsGenerated.f
  by_cases h0 : (s.size : Int) > 1048576
  · simp only [if_pos h0]
    exact Ev.const rfl
  simp only [if_neg h0]
  rw [show (1048576 : Int) = ((1048576 : Nat) : Int) from rfl, laws_szCandidate_eq l 1048576 (Nat.le_refl _) (by have := hbd.1; omega)]
  simp only [Option.bind_some]
  by_cases h : l.length ≤ 1048576
  · have hl : (l.map toK).length ≤ 1048576 := by rw [List.length_map]; exact h
    simp only [if_pos h, if_neg (show ¬ ((1048576 - l.length : Nat) : Int) < 0 by omega)]
    refine Ev.bind (laws_toCandidate_ev l h) (Ev.bind (spec_IsGenerated_ev s _ (by omega) hl (bdK hbd)) (Ev.bind (laws_toCandidate_ev l h) (Ev.bind (impl_IsGenerated_ev s _ (by omega) hl) ?_)))
    simp only [bne_self_eq_false, Bool.false_eq_true, if_false]
    refine Ev.bind (laws_toCandidate_ev l h) (Ev.bind (laws_eqCandidate_ev _ hl) ?_)
    simp only [if_true]
    exact Ev.const rfl
  · simp only [if_neg h]
    exact Ev.const rfl

end Go.Proofs.Ytmfhaplhgaehhaa.Pure
