/- The pure statement of the law FnExactOutputsOf: for all arguments within bounds its printed function answers true. -/
import Derived.Test.YtmfhaplhgaehhaaPFnExactOutputsOfx
import Derived.Test.YtmfhaplhgaehhaaBase
namespace Go.Proofs.Ytmfhaplhgaehhaa.Pure
open Go.RowKit Go.Proofs.YtmfhaplhgaehhaaB Go.Proofs.Ytmfhaplhgaehhaa.PFnExactOutputsOf Go.Proofs.YtmfhaplhgaehhaaW.PrintWords Go.Proofs.YtmfhaplhgaehhaaW.PrintLast Go.Proofs.YtmfhaplhgaehhaaW.PrintMore
set_option linter.unusedVariables false
set_option linter.unusedSimpArgs false

/-! ### sounds -/
def snd (c : Int) : Bool := decide (c ∈ ([112, 116, 98, 100, 110, 97, 105] : List Int))
def obs (c : Int) : Bool := decide (c ∈ ([112, 116, 98, 100] : List Int))
def feat (c f : Int) : Bool := if f = 0 then decide (c ∈ ([97, 105] : List Int)) else if f = 1 then decide (c ∈ ([98, 100, 110, 97, 105] : List Int)) else if f = 2 then decide (c = 110) else if f = 3 then decide (c ∈ ([112, 98] : List Int)) else if f = 4 then decide (c = 105) else false
/-- a vowel -/
def vow (c : Int) : Bool := decide (c = 97 ∨ c = 105)
/-- the sounds of a form: at most eight -/
def form (l : List Int) : Bool := l.all snd && decide (l.length ≤ 8)
/-- a voiced obstruent -/
def voi (c : Int) : Bool := decide (c = 98 ∨ c = 100)
theorem byte_ind {P : Int → Prop} (h : ∀ n : Fin 256, P (n.val : Int)) (c : Int) (h0 : 0 ≤ c) (h1 : c < 256) : P c := by
  obtain ⟨n, rfl⟩ := Int.eq_ofNat_of_zero_le h0
  exact h ⟨n, by omega⟩

abbrev ILink := S87
/-- a link of bytes -/
def okB (x : ILink) : Prop := (0 ≤ x.f0 ∧ x.f0 < 256) ∧ (0 ≤ x.f1 ∧ x.f1 < 256)
theorem rdK (l : List ILink) (i : Nat) (h : i < l.length) : rd_T87 l (i : Int) = l[i] := by simp [rd_T87, h]
def swp (c : Int) : Int := if c = 112 then 98 else if c = 98 then 112 else if c = 116 then 100 else if c = 100 then 116 else c
def lk (a b : Int) : Bool := if a = 0 then snd b else snd a && (decide (b = 0) || (decide (a = b) || (obs a && decide (swp a = b))))
def inL (l : List ILink) : List Int := (l.filter fun x => !decide (x.f0 = 0)).map (·.f0)
def outL (l : List ILink) : List Int := (l.filter fun x => !decide (x.f1 = 0)).map (·.f1)
def cand (l : List ILink) : Bool := l.all (fun x => lk x.f0 x.f1) && (decide (l.length ≤ 16) && (form (inL l) && form (outL l)))
theorem B_nums (l : List Int) (h : ∀ c ∈ l, 0 ≤ c ∧ c < 256) : B (strOfNums l) = l := by
  simp only [B, bytesOf, strOfNums, List.map_map]
  conv => rhs; rw [← List.map_id l]
  apply List.map_congr_left
  intro c hc
  obtain ⟨h0, h1⟩ := h c hc
  obtain ⟨n, rfl⟩ := Int.eq_ofNat_of_zero_le h0
  simp
  omega
theorem size_nums (l : List Int) : (strOfNums l).size = l.length := by simp [strOfNums, ByteArray.size]
theorem inL_length (l : List ILink) : (inL l).length ≤ l.length := by
  unfold inL
  rw [List.length_map]
  exact List.length_filter_le _ _
theorem outL_length (l : List ILink) : (outL l).length ≤ l.length := by
  unfold outL
  rw [List.length_map]
  exact List.length_filter_le _ _
theorem inL_range (l : List ILink) (hb : ∀ x ∈ l, okB x) : ∀ c ∈ inL l, 0 ≤ c ∧ c < 256 := by
  intro c hc
  simp only [inL, List.mem_map, List.mem_filter] at hc
  obtain ⟨x, ⟨hx, _⟩, rfl⟩ := hc
  exact (hb x hx).1
theorem outL_range (l : List ILink) (hb : ∀ x ∈ l, okB x) : ∀ c ∈ outL l, 0 ≤ c ∧ c < 256 := by
  intro c hc
  simp only [outL, List.mem_map, List.mem_filter] at hc
  obtain ⟨x, ⟨hx, _⟩, rfl⟩ := hc
  exact (hb x hx).2
theorem inL_cons (x : ILink) (l : List ILink) : inL (x :: l) = if x.f0 = 0 then inL l else x.f0 :: inL l := by
  by_cases h : x.f0 = 0 <;> simp [inL, h]
theorem outL_cons (x : ILink) (l : List ILink) : outL (x :: l) = if x.f1 = 0 then outL l else x.f1 :: outL l := by
  by_cases h : x.f1 = 0 <;> simp [outL, h]
theorem snd_swp (c : Int) (h0 : 0 ≤ c) (h1 : c < 256) (h : obs c = true) : snd (swp c) = true := byte_ind (P := fun c => obs c = true → snd (swp c) = true) (by decide +kernel) c h0 h1 h

theorem spec_SwapVoice_eq (c : Int) (h0 : 0 ≤ c) (h1 : c < 256) : spec_SwapVoice.f c = some (swp c, obs c) := byte_ind (P := fun c => spec_SwapVoice.f c = some (swp c, obs c)) (by decide +kernel) c h0 h1

theorem impl_SwapVoice_eq (c : Int) (h0 : 0 ≤ c) (h1 : c < 256) : impl_SwapVoice.f c = some (swp c, obs c) := byte_ind (P := fun c => impl_SwapVoice.f c = some (swp c, obs c)) (by decide +kernel) c h0 h1

theorem impl_IsSound_eq (c : Int) (h0 : 0 ≤ c) (h1 : c < 256) : impl_IsSound.f c = some (snd c) := byte_ind (P := fun c => impl_IsSound.f c = some (snd c)) (by decide +kernel) c h0 h1
theorem spec_IsSound_ev (c : Int) (h0 : 0 ≤ c) (h1 : c < 256) : Ev (fun k => spec_IsSound.f k c) (snd c) :=
  Ev.at_ (spec_IsSound.mono c) 9 (byte_ind (P := fun c => spec_IsSound.f 9 c = some (snd c)) (by decide +kernel) c h0 h1)

theorem impl_within_eq (a b c : Int) : impl_within.f a b c = some (decide (b ≤ a ∧ a ≤ c)) := by
  unfold impl_within.f
  split
  · simp [*]
  · simp [*]

theorem spec_l2Sounds_ev (s : ByteArray) (hn : s.size ≤ 140737488351232) : Ev (fun k => spec_l2Sounds.f k s) ((B s).all snd && decide (s.size ≤ 20)) := by
  have key : ∀ i, i ≤ s.size → Ev (fun k => spec_l2Sounds.l0 k s (i : Int)) (((B s).drop i).all snd && decide (s.size ≤ 20)) := by
    refine down_ind ?_ ?_
    · refine Ev.succ ?_
      simp only [spec_l2Sounds.l0, Int.lt_irrefl, if_false]
      refine Ev.const ?_
      rw [List.drop_of_length_le (by rw [B_length]; exact Nat.le_refl _)]
      simp
      omega
    · intro i hi ih
      have hB : i < (B s).length := by rw [B_length]; exact hi
      have hr := B_get_range s i hB
      refine Ev.succ ?_
      simp only [spec_l2Sounds.l0, if_pos (show (i : Int) < (s.size : Int) by omega), if_pos (show (0 : Int) ≤ i by omega), bt_nat s i hB]
      refine Ev.bind (spec_IsSound_ev _ hr.1 hr.2) ?_
      rw [drop_cons _ _ hB, List.all_cons]
      cases snd (B s)[i]
      · simp only [Bool.false_eq_true, if_false]
        exact Ev.const rfl
      · simp only [if_true, wrap_succ (show i ≤ 4611686018427387903 by omega), Bool.true_and]
        exact ih
  exact key 0 (by omega)
theorem spec_IsForm_ev (s : ByteArray) (hn : s.size ≤ 140737488351232) : Ev (fun k => spec_IsForm.f k s) (form (B s)) := by
  unfold spec_IsForm.f
  refine Ev.bind (spec_l2Sounds_ev s hn) ?_
  refine Ev.const ?_
  unfold form
  rw [B_length]
  cases (B s).all snd
  · simp
  · by_cases h : s.size ≤ 8
    · have h2 : s.size ≤ 20 := by omega
      simp [h, h2]
      omega
    · by_cases h2 : s.size ≤ 20
      · simp [h, h2]
        omega
      · simp [h, h2]
theorem impl_areSounds_ev (s : ByteArray) (hn : s.size ≤ 140737488351232) : Ev (fun k => impl_areSounds.f k s) ((B s).all snd && decide (1 ≤ s.size ∧ s.size ≤ 20)) := by
  have key : ∀ i, i ≤ s.size → Ev (fun k => impl_areSounds.l0 k s (s.size : Int) (i : Int)) (((B s).drop i).all snd && decide (1 ≤ s.size ∧ s.size ≤ 20)) := by
    refine down_ind ?_ ?_
    · refine Ev.succ ?_
      simp only [impl_areSounds.l0, Int.lt_irrefl, if_false, impl_within_eq, Option.bind_some]
      refine Ev.const ?_
      rw [List.drop_of_length_le (by rw [B_length]; exact Nat.le_refl _)]
      simp only [List.all_nil, Bool.true_and]
      exact congrArg some (decide_eq_decide.2 (by omega))
    · intro i hi ih
      have hB : i < (B s).length := by rw [B_length]; exact hi
      have hr := B_get_range s i hB
      refine Ev.succ ?_
      simp only [impl_areSounds.l0, if_pos (show (i : Int) < (s.size : Int) by omega), if_pos (show (0 : Int) ≤ i by omega), bt_nat s i hB, impl_IsSound_eq _ hr.1 hr.2, Option.bind_some]
      rw [drop_cons _ _ hB, List.all_cons]
      cases snd (B s)[i]
      · simp only [Bool.false_eq_true, if_false]
        exact Ev.const rfl
      · simp only [if_true, wrap_succ (show i ≤ 4611686018427387903 by omega), Bool.true_and]
        exact ih
  exact key 0 (by omega)
theorem impl_IsForm_ev (s : ByteArray) (hn : s.size ≤ 140737488351232) : Ev (fun k => impl_IsForm.f k s) (form (B s)) := by
  unfold impl_IsForm.f
  by_cases h0 : s.toList = []
  · simp only [if_pos h0]
    rw [toList_nil] at h0
    exact Ev.const (by rw [h0]; rfl)
  · simp only [if_neg h0]
    rw [toList_nil] at h0
    have h1 : 1 ≤ s.size := by
      rw [← B_length]
      exact List.length_pos_iff.2 h0
    by_cases h8 : s.size ≤ 8
    · simp only [if_pos (show (s.size : Int) ≤ 8 by omega)]
      refine Ev.bind (impl_areSounds_ev s hn) ?_
      refine Ev.const ?_
      unfold form
      rw [B_length]
      have h2 : s.size ≤ 20 := by omega
      simp [h1, h2, h8]
    · simp only [if_neg (show ¬ (s.size : Int) ≤ 8 by omega)]
      refine Ev.const ?_
      unfold form
      rw [B_length]
      simp [h8]

abbrev GC := S26
def mkC (c : List ILink) : GC := ⟨c⟩
theorem rdGC (l : List GC) (i : Nat) (h : i < l.length) : rd_T26 l (i : Int) = l[i] := by simp [rd_T26, h]
theorem btr (s : ByteArray) (i : Int) : 0 ≤ bt s i ∧ bt s i < 256 := Go.Proofs.YtmfhaplhgaehhaaB.bt_range s i
theorem bt_B (s : ByteArray) (i : Nat) (h : i < s.size) : bt s (i : Int) = (B s)[i]'(by rw [B_length]; exact h) := bt_nat s i (by rw [B_length]; exact h)
theorem genF_step (s : ByteArray) (m i l : Nat) : genF s (m + 1) i l =
    (if i < s.size then (genF s m (i + 1) l).map ((⟨bt s i, bt s i⟩ : ILink) :: ·) ++
      (if 0 < l then (genF s m (i + 1) (l - 1)).map ((⟨bt s i, 0⟩ : ILink) :: ·) ++
        (if obs (bt s i) = true then (genF s m (i + 1) (l - 1)).map ((⟨bt s i, swp (bt s i)⟩ : ILink) :: ·) else []) else []) else [[]]) ++
      (if 0 < l then (genF s m i (l - 1)).map ((⟨0, 116⟩ : ILink) :: ·) ++ (genF s m i (l - 1)).map ((⟨0, 105⟩ : ILink) :: ·) else []) := by
  rw [genF, impl_SwapVoice_eq (bt s i) (btr s i).1 (btr s i).2]
  cases obs (bt s i) <;> simp
theorem genF_len (s : ByteArray) : ∀ m i l, ∀ c ∈ genF s m i l, c.length ≤ m
  | 0, _, _, c, h => by simp [genF] at h
  | m + 1, i, l, c, h => by
    have key : ∀ i l x c, c ∈ (genF s m i l).map (x :: ·) → c.length ≤ m + 1 := by
      intro i l x c hc
      rw [List.mem_map] at hc
      obtain ⟨d, hd, rfl⟩ := hc
      have := genF_len s m i l d hd
      simp only [List.length_cons]
      omega
    rw [genF_step] at h
    rcases List.mem_append.1 h with h | h
    · split at h
      · rcases List.mem_append.1 h with h | h
        · exact key _ _ _ _ h
        · split at h
          · rcases List.mem_append.1 h with h | h
            · exact key _ _ _ _ h
            · split at h
              · exact key _ _ _ _ h
              · cases h
          · cases h
      · rw [List.mem_singleton] at h
        subst h
        exact Nat.zero_le _
    · split at h
      · rcases List.mem_append.1 h with h | h
        · exact key _ _ _ _ h
        · exact key _ _ _ _ h
      · cases h
theorem genF_small (s : ByteArray) (hn : s.size ≤ 16) (m i l : Nat) (hl : l ≤ 2) : (genF s m i l).length ≤ 7225 :=
  Nat.le_trans (genF_length s m i l) (Nat.le_trans (Nat.pow_le_pow_left (show 5 * (s.size - i + 1) ≤ 85 by omega) l) (Nat.le_trans (Nat.pow_le_pow_right (by omega) hl) (by decide)))

theorem Ev.congr_acc {α β : Type} {g : Nat → β → Option α} {r : α} {x y : β} (h : Ev (fun k => g k x) r) (e : x = y) : Ev (fun k => g k y) r := e ▸ h
theorem spec_l7Before_ev (a b : Int) (L : List GC) (hL : L.length ≤ 1000000) (hl : ∀ c ∈ L, c.f0.length ≤ 1000000) : Ev (fun k => spec_l7Before.f k a b L) (L.map fun c => mkC (⟨a, b⟩ :: c.f0)) := by
  unfold spec_l7Before.f
  have key : ∀ i, i ≤ L.length → ∀ acc : List GC, acc.length ≤ i → Ev (fun k => spec_l7Before.l0 k L acc (i : Int) a b) (acc ++ (L.drop i).map fun c => mkC (⟨a, b⟩ :: c.f0)) := by
    refine down_ind ?_ ?_
    · intro acc _
      refine Ev.succ ?_
      simp only [spec_l7Before.l0, Int.lt_irrefl, if_false]
      exact Ev.const (by simp)
    · intro i hi ih acc ha
      have h1 := hl L[i] (List.getElem_mem hi)
      refine Ev.succ ?_
      simp only [spec_l7Before.l0, if_pos (show (i : Int) < (L.length : Int) by omega), if_pos (show (0 : Int) ≤ i by omega), rdGC L i hi, Option.bind_some, List.length_cons, List.length_nil, if_pos (show 0 + 1 + L[i].f0.length < 70368744177664 by omega), if_pos (show acc.length < 5864062014805 by omega), wrap_succ (show i ≤ 4611686018427387903 by omega)]
      refine Ev.cast (ih (acc ++ [mkC (⟨a, b⟩ :: L[i].f0)]) (by simp; omega)) ?_
      rw [drop_cons L i hi]
      simp only [List.map_cons, List.append_assoc, List.cons_append, List.nil_append]
  refine Ev.cast (key 0 (by omega) [] (by simp)) ?_
  simp
theorem before_map (x : ILink) (G : List (List ILink)) : ((G.map mkC).map fun c => mkC (x :: c.f0)) = (G.map (x :: ·)).map mkC := by simp [List.map_map, Function.comp_def, mkC]
theorem l7Before_gen (s : ByteArray) (hn : s.size ≤ 16) (m i l : Nat) (hl : l ≤ 2) (hm : m ≤ 1000) (a b : Int) : Ev (fun k => spec_l7Before.f k a b ((genF s m i l).map mkC)) (((genF s m i l).map ((⟨a, b⟩ : ILink) :: ·)).map mkC) := by
  refine Ev.cast (spec_l7Before_ev a b _ ?_ ?_) (before_map _ _)
  · rw [List.length_map]
    have := genF_small s hn m i l hl
    omega
  · intro c hc
    rw [List.mem_map] at hc
    obtain ⟨d, hd, rfl⟩ := hc
    have := genF_len s m i l d hd
    simp only [mkC]
    omega
theorem spec_l7From_j1_ev (s : ByteArray) (hn : s.size ≤ 16) (m i l : Nat) (hl : l ≤ 1) (hm : m ≤ 1000) (ih : Ev (fun k => spec_l7From.f k s (i : Int) (l : Int)) ((genF s m i l).map mkC)) (acc : List (List ILink)) (ha : acc.length ≤ 100000) :
    Ev (fun k => spec_l7From.j1 k s (i : Int) ((l + 1 : Nat) : Int) (acc.map mkC)) ((acc ++ ((genF s m i l).map ((⟨0, 116⟩ : ILink) :: ·) ++ (genF s m i l).map ((⟨0, 105⟩ : ILink) :: ·))).map mkC) := by
  have hg := genF_small s hn m i l (by omega)
  refine Ev.succ ?_
  simp only [spec_l7From.j1, show wrap64 (((l + 1 : Nat) : Int) - 1) = (l : Int) by unfold wrap64; omega]
  refine Ev.bind ih ?_
  refine Ev.succ ?_
  simp only [spec_l7From.l0, if_pos (show (0 : Int) < 2 by decide), Int.le_refl, if_true, show bt (⟨#[116, 105]⟩ : ByteArray) 0 = 116 by decide +kernel]
  refine Ev.bind (l7Before_gen s hn m i l (by omega) hm _ _) ?_
  simp only [List.length_map, if_pos (show acc.length + (genF s m i l).length < 5864062014805 by omega), show wrap64 (0 + 1) = 1 by unfold wrap64; omega]
  refine Ev.succ ?_
  simp only [spec_l7From.l0, if_pos (show (1 : Int) < 2 by decide), if_pos (show (0 : Int) ≤ 1 by decide), show bt (⟨#[116, 105]⟩ : ByteArray) 1 = 105 by decide +kernel]
  refine Ev.bind (l7Before_gen s hn m i l (by omega) hm _ _) ?_
  simp only [List.length_append, List.length_map, if_pos (show acc.length + (genF s m i l).length + (genF s m i l).length < 5864062014805 by omega), show wrap64 (1 + 1) = 2 by unfold wrap64; omega]
  refine Ev.succ ?_
  simp only [spec_l7From.l0, Int.lt_irrefl, if_false]
  refine Ev.const ?_
  simp [List.map_append, List.append_assoc]
theorem spec_l7From_ev (s : ByteArray) (hn : s.size ≤ 16) : ∀ m i l, l ≤ 2 → m ≤ 1000 → i ≤ s.size → (s.size - i) + l < m → Ev (fun k => spec_l7From.f k s (i : Int) (l : Int)) ((genF s m i l).map mkC)
  | 0, _, _, _, _, _, h => by omega
  | m + 1, i, l, hl, hm, hi, h => by
    have ih := spec_l7From_ev s hn m
    -- behind the first part
    have hj : ∀ acc : List (List ILink), acc.length ≤ 7225 → Ev (fun k => spec_l7From.j0 k s (i : Int) (l : Int) (acc.map mkC))
        ((acc ++ ((if 0 < l then (if i < s.size then (genF s m (i + 1) (l - 1)).map ((⟨bt s i, 0⟩ : ILink) :: ·) ++ (if obs (bt s i) = true then (genF s m (i + 1) (l - 1)).map ((⟨bt s i, swp (bt s i)⟩ : ILink) :: ·) else []) else []) else []) ++
          (if 0 < l then (genF s m i (l - 1)).map ((⟨0, 116⟩ : ILink) :: ·) ++ (genF s m i (l - 1)).map ((⟨0, 105⟩ : ILink) :: ·) else []))).map mkC) := by
      intro acc ha
      refine Ev.succ ?_
      cases l with
      | zero =>
        simp only [spec_l7From.j0, Int.ofNat_eq_natCast, Int.natCast_zero, if_true, Nat.lt_irrefl, if_false, List.append_nil]
        exact Ev.const rfl
      | succ l =>
        have hg := genF_small s hn m (i + 1) l (by omega)
        simp only [spec_l7From.j0, if_neg (show ¬ ((l + 1 : Nat) : Int) = 0 by omega), Nat.zero_lt_succ, if_true, Nat.add_sub_cancel]
        by_cases h1 : i < s.size
        · simp only [if_pos h1, if_pos (show (i : Int) < (s.size : Int) by omega), if_pos (show (0 : Int) ≤ i by omega), wrap_succ (show i ≤ 4611686018427387903 by omega), show wrap64 (((l + 1 : Nat) : Int) - 1) = (l : Int) by unfold wrap64; omega]
          refine Ev.bind (ih (i + 1) l (by omega) (by omega) (by omega) (by omega)) ?_
          refine Ev.bind (l7Before_gen s hn m (i + 1) l (by omega) (by omega) _ _) ?_
          simp only [List.length_map, if_pos (show acc.length + (genF s m (i + 1) l).length < 5864062014805 by omega), Option.bind_some, spec_SwapVoice_eq (bt s i) (btr s i).1 (btr s i).2]
          cases ho : obs (bt s i) with
          | true =>
            simp only [if_true]
            refine Ev.bind (l7Before_gen s hn m (i + 1) l (by omega) (by omega) _ _) ?_
            simp only [List.length_append, List.length_map, if_pos (show acc.length + (genF s m (i + 1) l).length + (genF s m (i + 1) l).length < 5864062014805 by omega)]
            refine Ev.cast (Ev.congr_acc (spec_l7From_j1_ev s hn m i l (by omega) (by omega) (ih i l (by omega) (by omega) hi (by omega)) (acc ++ (genF s m (i + 1) l).map ((⟨bt s i, 0⟩ : ILink) :: ·) ++ (genF s m (i + 1) l).map ((⟨bt s i, swp (bt s i)⟩ : ILink) :: ·)) (by simp only [List.length_append, List.length_map]; omega)) (by simp [List.map_append, List.append_assoc])) ?_
            simp [List.append_assoc]
          | false =>
            simp only [Bool.false_eq_true, if_false, List.append_nil]
            refine Ev.cast (Ev.congr_acc (spec_l7From_j1_ev s hn m i l (by omega) (by omega) (ih i l (by omega) (by omega) hi (by omega)) (acc ++ (genF s m (i + 1) l).map ((⟨bt s i, 0⟩ : ILink) :: ·)) (by simp only [List.length_append, List.length_map]; omega)) (by simp [List.map_append])) ?_
            simp [List.append_assoc]
        · simp only [if_neg h1, if_neg (show ¬ (i : Int) < (s.size : Int) by omega), List.nil_append]
          exact spec_l7From_j1_ev s hn m i l (by omega) (by omega) (ih i l (by omega) (by omega) hi (by omega)) acc (by omega)
    refine Ev.succ ?_
    rw [genF_step]
    by_cases h1 : i < s.size
    · have hg := genF_small s hn m (i + 1) l (by omega)
      simp only [spec_l7From.f, Option.bind_some, if_neg (show ¬ (i : Int) = (s.size : Int) by omega), if_pos (show (0 : Int) ≤ i by omega), if_pos (show (i : Int) < (s.size : Int) by omega), wrap_succ (show i ≤ 4611686018427387903 by omega)]
      refine Ev.bind (ih (i + 1) l hl (by omega) (by omega) (by omega)) ?_
      refine Ev.bind (l7Before_gen s hn m (i + 1) l (by omega) (by omega) _ _) ?_
      simp only [List.length_nil, List.length_map, if_pos (show 0 + (genF s m (i + 1) l).length < 5864062014805 by omega), List.nil_append]
      refine Ev.cast (hj _ (by rw [List.length_map]; exact hg)) ?_
      simp only [if_pos h1, List.append_assoc]
    · have e : (i : Int) = (s.size : Int) := by omega
      simp only [spec_l7From.f, Option.bind_some, if_pos e, List.length_nil, if_pos (show 0 < 5864062014805 by omega), List.nil_append]
      refine Ev.cast (hj [[]] (by simp)) ?_
      simp only [if_neg h1, List.nil_append]
      split <;> simp

/-- the candidates with at most l edits -/
def gens (s : ByteArray) (l : Nat) : List GC := (genF s (s.size + l + 1) 0 l).map mkC
theorem spec_Generate_ev (s : ByteArray) (hs : s.size ≤ 140737488351232) : Ev (fun k => spec_Generate.f k s) (if form (B s) = true ∧ s.size ≤ 4 then gens s 2 else []) := by
  unfold spec_Generate.f
  refine Ev.bind (spec_IsForm_ev s hs) ?_
  cases form (B s)
  · simp only [Bool.false_eq_true, if_false, false_and]
    exact Ev.const rfl
  · simp only [if_true, true_and]
    by_cases h : s.size ≤ 4
    · simp only [if_neg (show ¬ (s.size : Int) > 4 by omega), if_pos h]
      refine Ev.bind ?_ (Ev.const rfl)
      exact spec_l7From_ev s (by omega) (s.size + 2 + 1) 0 2 (by omega) (by omega) (by omega) (by omega)
    · simp only [if_pos (show (s.size : Int) > 4 by omega), if_neg h]
      exact Ev.const rfl
theorem impl_Generate_ev (s : ByteArray) (hs : s.size ≤ 140737488351232) : Ev (fun k => impl_Generate.f k s) (if form (B s) = true ∧ s.size ≤ 4 then gens s 2 else []) := by
  unfold impl_Generate.f
  refine Ev.bind (impl_IsForm_ev s hs) ?_
  cases form (B s)
  · simp only [Bool.false_eq_true, if_false, false_and]
    exact Ev.const rfl
  · simp only [if_true, true_and]
    by_cases h : s.size ≤ 4
    · simp only [if_neg (show ¬ (s.size : Int) > 4 by omega), if_pos h]
      refine Ev.const ?_
      unfold impl_generate.f
      rw [if_pos ⟨by omega, by decide, by decide⟩]
      rfl
    · simp only [if_pos (show (s.size : Int) > 4 by omega), if_neg h]
      exact Ev.const rfl

def edits (l : List ILink) : Nat := l.countP fun x => !decide (x.f0 = x.f1)

def okl (x : ILink) : Prop := lk x.f0 x.f1 = true ∧ (x.f0 = 0 → x.f1 = 116 ∨ x.f1 = 105)
theorem edits_cons (x : ILink) (c : List ILink) : edits (x :: c) = (if x.f0 = x.f1 then 0 else 1) + edits c := by
  unfold edits
  rw [List.countP_cons]
  by_cases h : x.f0 = x.f1 <;> simp [h]
  omega
theorem swp_ne (c : Int) (h0 : 0 ≤ c) (h1 : c < 256) (h : obs c = true) : swp c ≠ c := by
  have := byte_ind (P := fun c => obs c = true → ¬ (swp c = c)) (by decide +kernel) c h0 h1 h
  exact this
theorem snd_ne0 (c : Int) (h : snd c = true) : c ≠ 0 := by
  rintro rfl
  revert h
  decide
theorem lk_same (c : Int) (h : snd c = true) : lk c c = true := by
  unfold lk
  rw [if_neg (snd_ne0 c h)]
  simp [h]
theorem lk_del (c : Int) (h : snd c = true) : lk c 0 = true := by
  unfold lk
  rw [if_neg (snd_ne0 c h)]
  simp [h]
theorem lk_swp (c : Int) (h : snd c = true) (ho : obs c = true) : lk c (swp c) = true := by
  unfold lk
  rw [if_neg (snd_ne0 c h)]
  simp [h, ho]
theorem gen_sound (s : ByteArray) (hf : (B s).all snd = true) : ∀ m i l, i ≤ s.size → ∀ c ∈ genF s m i l, inL c = (B s).drop i ∧ (∀ x ∈ c, okl x) ∧ edits c ≤ l
  | 0, _, _, _, c, h => by simp [genF] at h
  | m + 1, i, l, hi, c, h => by
    have ih := gen_sound s hf m
    have hsnd : ∀ h : i < s.size, snd (bt s i) = true := fun h => by rw [bt_B s i h]; exact List.all_eq_true.1 hf _ (List.getElem_mem _)
    have hdrop : ∀ h : i < s.size, (B s).drop i = bt s i :: (B s).drop (i + 1) := fun h => by rw [bt_B s i h]; exact drop_cons _ _ _
    -- a link of the input's own
    have own : ∀ (h1 : i < s.size) (y : Int) (l' : Nat) (hy : lk (bt s i) y = true) (he : (if bt s i = y then 0 else 1) + l' ≤ l), c ∈ (genF s m (i + 1) l').map ((⟨bt s i, y⟩ : ILink) :: ·) → inL c = (B s).drop i ∧ (∀ x ∈ c, okl x) ∧ edits c ≤ l := by
      intro h1 y l' hy he hc
      rw [List.mem_map] at hc
      obtain ⟨d, hd, rfl⟩ := hc
      obtain ⟨g1, g2, g3⟩ := ih (i + 1) l' (by omega) d hd
      have h0 := snd_ne0 _ (hsnd h1)
      refine ⟨?_, ?_, ?_⟩
      · rw [inL_cons, if_neg h0, g1, hdrop h1]
      · intro x hx
        rcases List.mem_cons.1 hx with rfl | hx
        · exact ⟨hy, fun e => absurd e h0⟩
        · exact g2 x hx
      · rw [edits_cons]
        simp only
        omega
    have ins : ∀ (y : Int) (hy : y = 116 ∨ y = 105) (l' : Nat) (he : l' + 1 ≤ l), c ∈ (genF s m i l').map ((⟨0, y⟩ : ILink) :: ·) → inL c = (B s).drop i ∧ (∀ x ∈ c, okl x) ∧ edits c ≤ l := by
      intro y hy l' he hc
      rw [List.mem_map] at hc
      obtain ⟨d, hd, rfl⟩ := hc
      obtain ⟨g1, g2, g3⟩ := ih i l' hi d hd
      refine ⟨?_, ?_, ?_⟩
      · rw [inL_cons, if_pos rfl, g1]
      · intro x hx
        rcases List.mem_cons.1 hx with rfl | hx
        · exact ⟨by rcases hy with rfl | rfl <;> decide, fun _ => hy⟩
        · exact g2 x hx
      · rw [edits_cons]
        rcases hy with rfl | rfl
        · rw [if_neg (by decide)]; omega
        · rw [if_neg (by decide)]; omega
    rw [genF_step] at h
    rcases List.mem_append.1 h with h | h
    · by_cases h1 : i < s.size
      · rw [if_pos h1] at h
        rcases List.mem_append.1 h with h | h
        · exact own h1 _ l (lk_same _ (hsnd h1)) (by rw [if_pos rfl]; omega) h
        · by_cases h2 : 0 < l
          · rw [if_pos h2] at h
            rcases List.mem_append.1 h with h | h
            · exact own h1 _ (l - 1) (lk_del _ (hsnd h1)) (by split <;> omega) h
            · by_cases h3 : obs (bt s i) = true
              · rw [if_pos h3] at h
                exact own h1 _ (l - 1) (lk_swp _ (hsnd h1) h3) (by split <;> omega) h
              · rw [if_neg h3] at h
                cases h
          · rw [if_neg h2] at h
            cases h
      · rw [if_neg h1, List.mem_singleton] at h
        subst h
        refine ⟨?_, fun x hx => (by cases hx), Nat.zero_le _⟩
        rw [List.drop_of_length_le (by rw [B_length]; omega)]
        rfl
    · by_cases h2 : 0 < l
      · rw [if_pos h2] at h
        rcases List.mem_append.1 h with h | h
        · exact ins 116 (.inl rfl) (l - 1) (by omega) h
        · exact ins 105 (.inr rfl) (l - 1) (by omega) h
      · rw [if_neg h2] at h
        cases h
theorem gen_all (s : ByteArray) (hf : (B s).all snd = true) : ∀ m i l, i ≤ s.size → (s.size - i) + l < m → ∀ c : List ILink, inL c = (B s).drop i → (∀ x ∈ c, okl x) → edits c ≤ l → c ∈ genF s m i l
  | 0, _, _, _, h, _, _, _, _ => by omega
  | m + 1, i, l, hi, hm, c, h1, h2, h3 => by
    have ih := gen_all s hf m
    rw [genF_step]
    cases c with
    | nil =>
      have hn : ¬ i < s.size := by
        intro h
        have := congrArg List.length h1
        rw [List.length_drop, B_length] at this
        simp [inL] at this
        omega
      rw [if_neg hn]
      exact List.mem_append_left _ (List.mem_singleton.2 rfl)
    | cons x c =>
      have hx := h2 x List.mem_cons_self
      have h2' : ∀ y ∈ c, okl y := fun y hy => h2 y (List.mem_cons_of_mem _ hy)
      rw [edits_cons] at h3
      rw [inL_cons] at h1
      by_cases h0 : x.f0 = 0
      · rw [if_pos h0] at h1
        have hne : ¬ x.f0 = x.f1 := by rcases hx.2 h0 with e | e <;> rw [h0, e] <;> decide
        rw [if_neg hne] at h3
        have hm2 := ih i (l - 1) hi (by omega) c h1 h2' (by omega)
        refine List.mem_append_right _ ?_
        rw [if_pos (show 0 < l by omega)]
        have ex : ∀ y, x.f1 = y → x = (⟨0, y⟩ : ILink) := fun y e => by cases x; simp_all
        rcases hx.2 h0 with e | e
        · rw [ex _ e]
          exact List.mem_append_left _ (List.mem_map_of_mem hm2)
        · rw [ex _ e]
          exact List.mem_append_right _ (List.mem_map_of_mem hm2)
      · rw [if_neg h0] at h1
        have hlt : i < s.size := by
          have := congrArg List.length h1
          rw [List.length_drop, B_length, List.length_cons] at this
          omega
        rw [drop_cons (B s) i (by rw [B_length]; exact hlt)] at h1
        injection h1 with e1 e2
        rw [← bt_B s i hlt] at e1
        rw [if_pos hlt]
        refine List.mem_append_left _ ?_
        have ex : ∀ y, x.f1 = y → x = (⟨bt s i, y⟩ : ILink) := fun y e => by cases x; simp_all
        by_cases hk : x.f0 = x.f1
        · rw [if_pos hk] at h3
          rw [ex _ (hk.symm.trans e1)]
          exact List.mem_append_left _ (List.mem_map_of_mem (ih (i + 1) l (by omega) (by omega) c e2 h2' (by omega)))
        · rw [if_neg hk] at h3
          have hm2 := ih (i + 1) (l - 1) (by omega) (by omega) c e2 h2' (by omega)
          refine List.mem_append_right _ ?_
          rw [if_pos (show 0 < l by omega)]
          have hl := hx.1
          unfold lk at hl
          rw [if_neg h0] at hl
          simp only [Bool.and_eq_true, Bool.or_eq_true, decide_eq_true_eq] at hl
          rcases hl.2 with e | e | ⟨e, e'⟩
          · rw [ex _ e]
            exact List.mem_append_left _ (List.mem_map_of_mem hm2)
          · exact absurd e hk
          · rw [e1] at e e'
            rw [ex _ e'.symm, if_pos e]
            exact List.mem_append_right _ (List.mem_map_of_mem hm2)

theorem impl_isLink_eq (a b : Int) (ha : 0 ≤ a ∧ a < 256) (hb : 0 ≤ b ∧ b < 256) : impl_isLink.f a b = some (lk a b) := by
  unfold impl_isLink.f lk
  rw [impl_IsSound_eq a ha.1 ha.2, impl_IsSound_eq b hb.1 hb.2, impl_SwapVoice_eq a ha.1 ha.2]
  by_cases h : a = 0
  · simp [h]
  · simp only [if_neg h, Option.bind_some]
    cases snd a
    · simp
    · by_cases h2 : b = 0
      · simp [h2]
      · by_cases h3 : b = a
        · simp [h3]
        · cases obs a
          · simp [h2, h3, show ¬ a = b from fun e => h3 e.symm]
          · simp only [h2, h3, if_true, if_false, show ¬ a = b from fun e => h3 e.symm, decide_false, Bool.false_or, Bool.true_and]
            rfl

theorem spec_l6Out_ev (l : List ILink) (hl : l.length ≤ 1048576) : Ev (fun k => spec_l6Out.f k l) (strOfNums (outL l)) := by
  have key : ∀ i, i ≤ l.length → ∀ acc : List Int, acc.length ≤ i → Ev (fun k => spec_l6Out.l0 k acc (i : Int) l) (strOfNums (acc ++ outL (l.drop i))) := by
    refine down_ind ?_ ?_
    · intro acc _
      refine Ev.succ ?_
      simp only [spec_l6Out.l0, Int.lt_irrefl, if_false]
      exact Ev.const (by simp [outL])
    · intro i hi ih acc hacc
      refine Ev.succ ?_
      simp only [spec_l6Out.l0, if_pos (show (i : Int) < (l.length : Int) by omega), if_pos (show (0 : Int) ≤ i by omega), rdK l i hi, wrap_succ (show i ≤ 4611686018427387903 by omega), if_pos (show acc.length < 140737488355328 by omega)]
      rw [drop_cons l i hi, outL_cons]
      by_cases h : l[i].f1 = 0
      · simp only [if_pos h]
        exact ih acc (by omega)
      · simp only [if_neg h]
        refine Ev.cast (ih (acc ++ [l[i].f1]) (by simp; omega)) ?_
        simp
  refine Ev.cast (key 0 (by omega) [] (by simp)) ?_
  simp

theorem impl_sounds_ev (l : List ILink) (hl : l.length ≤ 1048576) (o : Bool) : Ev (fun k => impl_sounds.f k l o) (strOfNums (if o then outL l else inL l)) := by
  have key : ∀ i, i ≤ l.length → ∀ acc : List Int, acc.length ≤ i → Ev (fun k => impl_sounds.l0 k o acc l (l.length : Int) (i : Int)) (strOfNums (acc ++ (if o then outL (l.drop i) else inL (l.drop i)))) := by
    refine down_ind ?_ ?_
    · intro acc _
      refine Ev.succ ?_
      simp only [impl_sounds.l0, Int.lt_irrefl, if_false]
      exact Ev.const (by simp [outL, inL])
    · intro i hi ih acc hacc
      refine Ev.succ ?_
      simp only [impl_sounds.l0, if_pos (show (i : Int) < (l.length : Int) by omega), if_pos (show (0 : Int) ≤ i by omega), rdK l i hi, wrap_succ (show i ≤ 4611686018427387903 by omega), if_pos (show acc.length < 140737488355328 by omega)]
      rw [drop_cons l i hi, outL_cons, inL_cons]
      cases o
      · simp only [Bool.false_eq_true, if_false] at ih ⊢
        by_cases h : l[i].f0 = 0
        · simp only [if_pos h]
          exact ih acc (by omega)
        · simp only [if_neg h]
          refine Ev.cast (ih (acc ++ [l[i].f0]) (by simp; omega)) ?_
          simp
      · simp only [if_true] at ih ⊢
        by_cases h : l[i].f1 = 0
        · simp only [if_pos h]
          exact ih acc (by omega)
        · simp only [if_neg h]
          refine Ev.cast (ih (acc ++ [l[i].f1]) (by simp; omega)) ?_
          simp
  refine Ev.cast (key 0 (by omega) [] (by simp)) ?_
  simp

theorem spec_formNums (l : List Int) (hl : l.length ≤ 1048576) (h : ∀ c ∈ l, 0 ≤ c ∧ c < 256) : Ev (fun k => spec_IsForm.f k (strOfNums l)) (form l) := by
  have := spec_IsForm_ev (strOfNums l) (by rw [size_nums]; omega)
  rwa [B_nums l h] at this
theorem impl_formNums (l : List Int) (hl : l.length ≤ 1048576) (h : ∀ c ∈ l, 0 ≤ c ∧ c < 256) : Ev (fun k => impl_IsForm.f k (strOfNums l)) (form l) := by
  have := impl_IsForm_ev (strOfNums l) (by rw [size_nums]; omega)
  rwa [B_nums l h] at this

theorem impl_IsCandidate_ev (l : List ILink) (hl : l.length ≤ 1048576) (hb : ∀ x ∈ l, okB x) : Ev (fun k => impl_IsCandidate.f k l) (cand l) := by
  unfold impl_IsCandidate.f cand
  have h1 := inL_length l
  have h2 := outL_length l
  have key : ∀ i, i ≤ l.length → Ev (fun k => impl_IsCandidate.l0 k l (l.length : Int) (i : Int) l) ((l.drop i).all (fun x => lk x.f0 x.f1) && (decide (l.length ≤ 16) && (form (inL l) && form (outL l)))) := by
    refine down_ind ?_ ?_
    · refine Ev.succ ?_
      simp only [impl_IsCandidate.l0, Int.lt_irrefl, if_false]
      rw [List.drop_of_length_le (Nat.le_refl _), List.all_nil, Bool.true_and]
      by_cases h : l.length ≤ 16
      · simp only [if_pos (show (l.length : Int) ≤ 16 by omega), h, decide_true, Bool.true_and]
        refine Ev.bind (impl_sounds_ev l hl false) (Ev.bind (impl_formNums (inL l) (by omega) (inL_range l hb)) ?_)
        cases form (inL l)
        · simp only [Bool.false_eq_true, if_false, Bool.false_and]
          exact Ev.const rfl
        · simp only [if_true, Bool.true_and]
          refine Ev.bind (impl_sounds_ev l hl true) (Ev.bind (impl_formNums (outL l) (by omega) (outL_range l hb)) (Ev.const rfl))
      · simp only [if_neg (show ¬ (l.length : Int) ≤ 16 by omega), h, decide_false, Bool.false_and]
        exact Ev.const rfl
    · intro i hi ih
      have hx := hb l[i] (List.getElem_mem hi)
      refine Ev.succ ?_
      simp only [impl_IsCandidate.l0, if_pos (show (i : Int) < (l.length : Int) by omega), if_pos (show (0 : Int) ≤ i by omega), rdK l i hi, wrap_succ (show i ≤ 4611686018427387903 by omega), impl_isLink_eq _ _ hx.1 hx.2, Option.bind_some]
      rw [drop_cons l i hi, List.all_cons]
      cases lk l[i].f0 l[i].f1
      · simp only [Bool.false_eq_true, if_false, Bool.false_and]
        exact Ev.const rfl
      · simp only [if_true, Bool.true_and]
        exact ih
  exact key 0 (by omega)

theorem snd_range (c : Int) (h : snd c = true) : 0 ≤ c ∧ c < 256 := by
  unfold snd at h
  simp only [List.mem_cons, List.not_mem_nil, or_false, decide_eq_true_eq] at h
  omega
theorem lk_bytes {x : ILink} (h : lk x.f0 x.f1 = true) : okB x ∧ (x.f1 ≠ 0 → snd x.f1 = true) := by
  unfold lk at h
  by_cases h0 : x.f0 = 0
  · rw [if_pos h0] at h
    exact ⟨⟨by rw [h0]; decide, snd_range _ h⟩, fun _ => h⟩
  · rw [if_neg h0] at h
    simp only [Bool.and_eq_true, Bool.or_eq_true, decide_eq_true_eq] at h
    have hr := snd_range _ h.1
    have hs : x.f1 ≠ 0 → snd x.f1 = true := by
      intro h1
      rcases h.2 with e | e | ⟨e, e'⟩
      · exact absurd e h1
      · rw [← e]; exact h.1
      · rw [← e']; exact snd_swp _ hr.1 hr.2 e
    refine ⟨⟨hr, ?_⟩, hs⟩
    by_cases h1 : x.f1 = 0
    · rw [h1]; decide
    · exact snd_range _ (hs h1)
theorem cand_of {s : ByteArray} (hf : form (B s) = true) {c : List ILink} (hl : c.length ≤ 8) (h1 : inL c = B s) (h2 : ∀ x ∈ c, okl x) : cand c = true ∧ ∀ x ∈ c, okB x := by
  refine ⟨?_, fun x hx => (lk_bytes (h2 x hx).1).1⟩
  unfold cand
  rw [h1, hf]
  have e1 : (c.all fun x => lk x.f0 x.f1) = true := List.all_eq_true.2 fun x hx => (h2 x hx).1
  have e2 : form (outL c) = true := by
    unfold form
    rw [Bool.and_eq_true, decide_eq_true_eq]
    refine ⟨List.all_eq_true.2 fun y hy => ?_, Nat.le_trans (outL_length c) hl⟩
    unfold outL at hy
    rw [List.mem_map] at hy
    obtain ⟨x, hx, rfl⟩ := hy
    rw [List.mem_filter] at hx
    exact (lk_bytes (h2 x hx.1).1).2 (by simpa using hx.2)
  rw [e1, e2]
  simp
  omega
theorem gens_cand (s : ByteArray) (hf : form (B s) = true) (h4 : s.size ≤ 4) : ∀ c ∈ gens s 2, cand c.f0 = true ∧ (∀ x ∈ c.f0, okB x) ∧ c.f0.length ≤ 8 := by
  intro c hc
  unfold gens at hc
  rw [List.mem_map] at hc
  obtain ⟨d, hd, rfl⟩ := hc
  have h1 := genF_len s _ 0 2 d hd
  obtain ⟨g1, g2, g3⟩ := gen_sound s (Bool.and_eq_true_iff.1 hf).1 _ 0 2 (Nat.zero_le _) d hd
  have hl : d.length ≤ 8 := by omega
  exact ⟨(cand_of hf hl (by simpa using g1) g2).1, (cand_of hf hl (by simpa using g1) g2).2, hl⟩
theorem gens_length (s : ByteArray) (h4 : s.size ≤ 4) : (gens s 2).length ≤ 7225 := by
  unfold gens
  rw [List.length_map]
  exact genF_small s (by omega) _ 0 2 (by omega)
/-- what both sides' Generate comes to -/
def genR (s : ByteArray) : List GC := if form (B s) = true ∧ s.size ≤ 4 then gens s 2 else []
theorem genR_good (s : ByteArray) : (∀ c ∈ genR s, cand c.f0 = true ∧ (∀ x ∈ c.f0, okB x) ∧ c.f0.length ≤ 8) ∧ (genR s).length ≤ 7225 := by
  unfold genR
  split
  · rename_i h
    exact ⟨gens_cand s h.1 h.2, gens_length s h.2⟩
  · exact ⟨fun c hc => (by cases hc), by simp⟩

def outS (l : List ILink) : ByteArray := if cand l = true then strOfNums (outL l) else ⟨#[]⟩
theorem impl_OutputOf_ev (l : List ILink) (hl : l.length ≤ 1048576) (hb : ∀ x ∈ l, okB x) : Ev (fun k => impl_OutputOf.f k l) (outS l) := by
  unfold impl_OutputOf.f outS
  refine Ev.bind (impl_IsCandidate_ev l hl hb) ?_
  cases cand l
  · simp only [Bool.false_eq_true, if_false]
    exact Ev.const rfl
  · simp only [if_true]
    exact Ev.bind (impl_sounds_ev l hl true) (Ev.const rfl)
theorem outS_size (l : List ILink) (hl : l.length ≤ 1048576) : (outS l).size ≤ 1048576 := by
  unfold outS
  split
  · rw [size_nums]
    have := outL_length l
    omega
  · exact Nat.zero_le _

theorem slices_Index_string_ev (l : List ByteArray) (x : ByteArray) (hl : l.length ≤ 1048576) : Ev (fun k => slices_Index_string_string.f k l x) (idxS l x 0) := by
  unfold slices_Index_string_string.f
  have key : ∀ i, i ≤ l.length → Ev (fun k => slices_Index_string_string.l0 k l x (l.length : Int) (i : Int)) (idxS (l.drop i) x i) := by
    refine down_ind ?_ ?_
    · refine Ev.succ ?_
      simp only [slices_Index_string_string.l0, Int.lt_irrefl, if_false]
      exact Ev.const (by rw [List.drop_of_length_le (Nat.le_refl _)]; rfl)
    · intro i hi ih
      refine Ev.succ ?_
      simp only [slices_Index_string_string.l0, if_pos (show (i : Int) < (l.length : Int) by omega), if_pos (show (0 : Int) ≤ i by omega), rdOf_nat _ l i hi, toList_inj, wrap_succ (show i ≤ 4611686018427387903 by omega)]
      rw [drop_cons l i hi]
      by_cases he : x = l[i]
      · simp only [if_pos he]
        exact Ev.const (by simp only [idxS, if_pos he])
      · simp only [if_neg he]
        exact Ev.cast ih (by simp only [idxS, if_neg he]; rfl)
  exact key 0 (by omega)

theorem slices_Contains_string_ev (l : List ByteArray) (x : ByteArray) (hl : l.length ≤ 1048576) : Ev (fun k => slices_Contains_string_string.f k l x) (decide (x ∈ l)) := by
  unfold slices_Contains_string_string.f
  refine Ev.bind (slices_Index_string_ev l x hl) (Ev.const ?_)
  simp only [ge_iff_le, idxS_mem x l 0 (Int.le_refl _)]

def addS (l : List ByteArray) (x : ByteArray) : List ByteArray := if x ∈ l then l else l ++ [x]
theorem addS_length (l : List ByteArray) (x : ByteArray) : (addS l x).length ≤ l.length + 1 := by
  unfold addS
  split
  · omega
  · simp
theorem impl_addOnce_ev (l : List ByteArray) (x : ByteArray) (hl : l.length ≤ 1000000) : Ev (fun k => impl_addOnce.f k l x) (addS l x) := by
  unfold impl_addOnce.f addS
  refine Ev.bind (slices_Contains_string_ev l x (by omega)) ?_
  by_cases h : x ∈ l
  · simp only [decide_eq_true h, if_true, h]
    exact Ev.const rfl
  · simp only [decide_eq_false h, Bool.false_eq_true, if_false, h, if_pos (show l.length < 8796093022208 by omega)]
    exact Ev.const rfl

theorem spec_l3Has_ev (l : List ByteArray) (x : ByteArray) (hl : l.length ≤ 1048576) : Ev (fun k => spec_l3Has.f k l x) (decide (x ∈ l)) := by
  unfold spec_l3Has.f
  have key : ∀ i, i ≤ l.length → Ev (fun k => spec_l3Has.l0 k l x (i : Int)) (decide (x ∈ l.drop i)) := by
    refine down_ind ?_ ?_
    · refine Ev.succ ?_
      simp only [spec_l3Has.l0, Int.lt_irrefl, if_false]
      exact Ev.const (by simp)
    · intro i hi ih
      refine Ev.succ ?_
      simp only [spec_l3Has.l0, if_pos (show (i : Int) < (l.length : Int) by omega), if_pos (show (0 : Int) ≤ i by omega), rdOf_nat _ l i hi, toList_inj, wrap_succ (show i ≤ 4611686018427387903 by omega)]
      rw [drop_cons l i hi]
      by_cases he : l[i] = x
      · simp only [if_pos he]
        exact Ev.const (by rw [he]; simp)
      · simp only [if_neg he]
        refine Ev.cast ih ?_
        rw [decide_eq_decide, List.mem_cons]
        constructor
        · exact .inr
        · rintro (h | h)
          · exact absurd h.symm he
          · exact h
  exact key 0 (by omega)

def outsOf : List GC → List ByteArray → List ByteArray
  | [], acc => acc
  | c :: L, acc => outsOf L (addS acc (strOfNums (outL c.f0)))
theorem outsOf_length (L : List GC) (acc : List ByteArray) : (outsOf L acc).length ≤ acc.length + L.length := by
  induction L generalizing acc with
  | nil => exact Nat.le_refl _
  | cons c L ih =>
    have := ih (addS acc (strOfNums (outL c.f0)))
    have := addS_length acc (strOfNums (outL c.f0))
    simp only [outsOf, List.length_cons]
    omega
theorem spec_OutputsOf_ev (s : ByteArray) (hs : s.size ≤ 140737488351232) : Ev (fun k => spec_OutputsOf.f k s) (outsOf (genR s) []) := by
  unfold spec_OutputsOf.f
  refine Ev.bind (spec_Generate_ev s hs) ?_
  show Ev (fun k => spec_OutputsOf.l0 k [] (genR s) 0) _
  obtain ⟨hg, hn⟩ := genR_good s
  generalize genR s = L at hg hn ⊢
  have key : ∀ i, i ≤ L.length → ∀ acc : List ByteArray, acc.length ≤ i → Ev (fun k => spec_OutputsOf.l0 k acc L (i : Int)) (outsOf (L.drop i) acc) := by
    refine down_ind ?_ ?_
    · intro acc _
      refine Ev.succ ?_
      simp only [spec_OutputsOf.l0, Int.lt_irrefl, if_false]
      exact Ev.const (by simp [outsOf])
    · intro i hi ih acc ha
      obtain ⟨h1, h2, h3⟩ := hg L[i] (List.getElem_mem hi)
      refine Ev.succ ?_
      simp only [spec_OutputsOf.l0, if_pos (show (i : Int) < (L.length : Int) by omega), if_pos (show (0 : Int) ≤ i by omega), rdGC L i hi, wrap_succ (show i ≤ 4611686018427387903 by omega)]
      refine Ev.bind (spec_l6Out_ev _ (by omega)) (Ev.bind (spec_l3Has_ev acc _ (by omega)) ?_)
      rw [drop_cons L i hi, outsOf]
      unfold addS
      by_cases h : strOfNums (outL L[i].f0) ∈ acc
      · simp only [decide_eq_true h, if_true, h]
        exact ih acc (by omega)
      · simp only [decide_eq_false h, Bool.false_eq_true, if_false, h, if_pos (show acc.length < 8796093022208 by omega)]
        exact ih _ (by simp; omega)
  exact key 0 (by omega) [] (by simp)
theorem impl_OutputsOf_ev (s : ByteArray) (hs : s.size ≤ 140737488351232) : Ev (fun k => impl_OutputsOf.f k s) (outsOf (genR s) []) := by
  unfold impl_OutputsOf.f
  refine Ev.bind (impl_Generate_ev s hs) ?_
  show Ev (fun k => impl_OutputsOf.l0 k [] (genR s) ((genR s).length : Int) 0) _
  obtain ⟨hg, hn⟩ := genR_good s
  generalize genR s = L at hg hn ⊢
  have key : ∀ i, i ≤ L.length → ∀ acc : List ByteArray, acc.length ≤ i → Ev (fun k => impl_OutputsOf.l0 k acc L (L.length : Int) (i : Int)) (outsOf (L.drop i) acc) := by
    refine down_ind ?_ ?_
    · intro acc _
      refine Ev.succ ?_
      simp only [impl_OutputsOf.l0, Int.lt_irrefl, if_false]
      exact Ev.const (by simp [outsOf])
    · intro i hi ih acc ha
      obtain ⟨h1, h2, h3⟩ := hg L[i] (List.getElem_mem hi)
      refine Ev.succ ?_
      simp only [impl_OutputsOf.l0, if_pos (show (i : Int) < (L.length : Int) by omega), if_pos (show (0 : Int) ≤ i by omega), rdGC L i hi, wrap_succ (show i ≤ 4611686018427387903 by omega)]
      refine Ev.bind (impl_OutputOf_ev _ (by omega) h2) (Ev.bind (impl_addOnce_ev acc _ (by omega)) ?_)
      rw [drop_cons L i hi, outsOf, show outS L[i].f0 = strOfNums (outL L[i].f0) by unfold outS; rw [if_pos h1]]
      exact ih _ (by have := addS_length acc (strOfNums (outL L[i].f0)); omega)
  exact key 0 (by omega) [] (by simp)

theorem laws_eqStringS_ev (a : List ByteArray) (hl : a.length ≤ 1048576) : Ev (fun k => laws_eqStringS.f k a a) true := by
  unfold laws_eqStringS.f
  simp only [if_true]
  have key : ∀ i, i ≤ a.length → Ev (fun k => laws_eqStringS.l0 k a a (i : Int)) true := by
    refine down_ind ?_ ?_
    · refine Ev.succ ?_
      simp only [laws_eqStringS.l0, Int.lt_irrefl, if_false]
      exact Ev.const rfl
    · intro i hi ih
      refine Ev.succ ?_
      simp only [laws_eqStringS.l0, if_pos (show (i : Int) < (a.length : Int) by omega), if_pos (show (0 : Int) ≤ i by omega), if_true, wrap_succ (show i ≤ 4611686018427387903 by omega)]
      exact ih
  exact key 0 (by omega)

theorem size_append (a b : ByteArray) : (a ++ b).size = a.size + b.size := by
  rw [← B_length, ← B_length, ← B_length, B_append, List.length_append]
theorem laws_markText_some (m : Int) (h0 : 0 ≤ m) (h1 : m ≤ 4398046511104) : ∃ s, Ev (fun k => laws_markText.f k m) s := by
  unfold laws_markText.f
  by_cases hm : m ≤ 0
  · simp only [if_pos hm]
    exact ⟨_, Ev.const rfl⟩
  · simp only [if_neg hm]
    obtain ⟨n, rfl⟩ := Int.eq_ofNat_of_zero_le h0
    have key : ∀ (n : Nat) (x : ByteArray), x.size + n ≤ 8796093022208 → ∃ s, Ev (fun k => laws_markText.l0 k (n : Int) x) s := by
      intro n
      induction n using Nat.strongRecOn with
      | _ n ih =>
        intro x hx
        by_cases hn : n = 0
        · subst hn
          refine ⟨(⟨#[109]⟩ : ByteArray) ++ x, Ev.succ ?_⟩
          simp only [laws_markText.l0, if_neg (show ¬ ((0 : Nat) : Int) > 0 by omega), if_pos (show 1 + x.size ≤ 9223372036854775807 by omega)]
          exact Ev.const rfl
        · have hs : ∀ d : Int, (strOfNums [d]).size = 1 := fun d => rfl
          obtain ⟨s, hs'⟩ := ih (n / 10) (by omega) (strOfNums [wrap64 (48 + Int.tmod (n : Int) 10) % 256] ++ x) (by rw [size_append, hs]; omega)
          refine ⟨s, Ev.succ ?_⟩
          have hd : wrap64 (Int.tdiv (n : Int) 10) = ((n / 10 : Nat) : Int) := by
            rw [show Int.tdiv (n : Int) 10 = ((n / 10 : Nat) : Int) from by rw [Int.tdiv_eq_ediv_of_nonneg (by omega)]; omega]
            exact wrap_nat (by omega)
          simp only [laws_markText.l0, if_pos (show (n : Int) > 0 by omega), Option.bind_some, hs, if_pos (show 1 + x.size ≤ 9223372036854775807 by omega), hd]
          exact hs'
    exact key n _ (by show 0 + n ≤ _; omega)
noncomputable def mtx (m : Int) : ByteArray := Classical.epsilon fun s => Ev (fun k => laws_markText.f k m) s
theorem laws_markText_ev (m : Int) (h0 : 0 ≤ m) (h1 : m ≤ 4398046511104) : Ev (fun k => laws_markText.f k m) (mtx m) := Classical.epsilon_spec (laws_markText_some m h0 h1)

theorem laws_markStringS_ev (l : List ByteArray) (m : Int) (hl : l.length ≤ 2097152) (h0 : 0 ≤ m) (h1 : m ≤ 1099511627776) : Ev (fun k => laws_markStringS.f k l m) (m + l.length, (idxs m l.length).map mtx) := by
  unfold laws_markStringS.f
  have key : ∀ i, i ≤ l.length → Ev (fun k => laws_markStringS.l0 k ((idxs m i).map mtx ++ l.drop i) (m + (i : Int)) (i : Int)) (m + l.length, (idxs m l.length).map mtx) := by
    refine down_ind ?_ ?_
    · refine Ev.succ ?_
      have hlen : ((idxs m l.length).map mtx ++ l.drop l.length).length = l.length := by simp [idxs_length]
      simp only [laws_markStringS.l0, hlen, Int.lt_irrefl, if_false]
      exact Ev.const (by simp)
    · intro i hi ih
      refine Ev.succ ?_
      have hlen : ((idxs m i).map mtx ++ l.drop i).length = l.length := by rw [List.length_append, List.length_map, idxs_length, List.length_drop]; omega
      have hset : ((idxs m i).map mtx ++ l.drop i).set i (mtx (m + i)) = (idxs m (i + 1)).map mtx ++ l.drop (i + 1) := by
        rw [List.set_append, List.length_map, idxs_length, if_neg (by omega), Nat.sub_self, drop_cons l i hi, List.set_cons_zero, idxs_snoc, List.map_append, List.append_assoc]
        rfl
      simp only [laws_markStringS.l0, hlen, if_pos (show (i : Int) < (l.length : Int) by omega)]
      refine Ev.bind (laws_markText_ev (m + i) (by omega) (by omega)) ?_
      simp only [if_pos (show (0 : Int) ≤ i by omega), Int.toNat_natCast, hset, wrap_succ (show i ≤ 4611686018427387903 by omega), wrap_in (show -4611686018427387904 ≤ m + (i : Int) + 1 by omega) (show m + (i : Int) + 1 ≤ 4611686018427387904 by omega)]
      exact (show m + ((i + 1 : Nat) : Int) = m + (i : Int) + 1 by omega) ▸ ih
  have := key 0 (by omega)
  simpa [idxs] using this

theorem laws_heldStringS_ev (n : Nat) (m : Int) (hl : n ≤ 2097152) (h0 : 0 ≤ m) (h1 : m ≤ 1099511627776) : Ev (fun k => laws_heldStringS.f k ((idxs m n).map mtx) m) (m + n) := by
  unfold laws_heldStringS.f
  have key : ∀ i, i ≤ n → Ev (fun k => laws_heldStringS.l0 k ((idxs m n).map mtx) (m + (i : Int)) (i : Int)) (m + n) := by
    refine down_ind ?_ ?_
    · refine Ev.succ ?_
      simp only [laws_heldStringS.l0, List.length_map, idxs_length, Int.lt_irrefl, if_false]
      exact Ev.const rfl
    · intro i hi ih
      refine Ev.succ ?_
      have hi' : i < ((idxs m n).map mtx).length := by rw [List.length_map, idxs_length]; exact hi
      simp only [laws_heldStringS.l0, List.length_map, idxs_length, if_pos (show (i : Int) < (n : Int) by omega), if_pos (show (0 : Int) ≤ i by omega)]
      refine Ev.bind (laws_markText_ev (m + i) (by omega) (by omega)) ?_
      have hg : rdOf ByteArray.empty ((idxs m n).map mtx) (i : Int) = mtx (m + i) := by rw [rdOf_nat _ _ i hi', List.getElem_map, idxs_get]
      simp only [hg, if_true, wrap_succ (show i ≤ 4611686018427387903 by omega), wrap_in (show -4611686018427387904 ≤ m + (i : Int) + 1 by omega) (show m + (i : Int) + 1 ≤ 4611686018427387904 by omega)]
      exact (show m + ((i + 1 : Nat) : Int) = m + (i : Int) + 1 by omega) ▸ ih
  have := key 0 (by omega)
  simpa using this

theorem FnExactOutputsOf : laws_FnExactOutputsOf.Pure := by
  intro s hs
  refine Ev.rounds ?_
  unfold laws_FnExactOutputsOf.f
  by_cases h0 : (s.size : Int) > 1048576
  · simp only [if_pos h0]
    exact Ev.const rfl
  simp only [if_neg h0]
  have hn : (outsOf (genR s) []).length ≤ 1048576 := by
    have := outsOf_length (genR s) []
    have := (genR_good s).2
    simp only [List.length_nil] at *
    omega
  have hi := impl_OutputsOf_ev s (by omega)
  have hp := spec_OutputsOf_ev s (by omega)
  generalize outsOf (genR s) [] = o at hn hi hp
  refine Ev.bind hp (Ev.bind hi ?_)
  refine Ev.bind (laws_eqStringS_ev o (by omega)) ?_
  simp only [if_true]
  refine Ev.bind (laws_markStringS_ev o 1 (by omega) (by omega) (by omega)) (Ev.bind (laws_heldStringS_ev o.length 1 (by omega) (by omega) (by omega)) ?_)
  simp only [if_neg (show ¬ (1 + (o.length : Int)) < 0 by omega), if_true]
  refine Ev.bind hi (Ev.bind (laws_eqStringS_ev o (by omega)) ?_)
  simp only [if_true]
  refine Ev.bind (laws_heldStringS_ev o.length 1 (by omega) (by omega) (by omega)) ?_
  simp only [if_neg (show ¬ (1 + (o.length : Int)) < 0 by omega), if_true]
  exact Ev.const rfl

end Go.Proofs.Ytmfhaplhgaehhaa.Pure
