/- The pure statement of the law FnExactOneEdit: for all arguments within bounds its printed function answers true. -/
import Derived.Test.YtmfhaplhgaehhaaPFnExactOneEditx
import Derived.Test.YtmfhaplhgaehhaaBase
namespace Go.Proofs.Ytmfhaplhgaehhaa.Pure
open Go.RowKit Go.Proofs.YtmfhaplhgaehhaaB Go.Proofs.Ytmfhaplhgaehhaa.PFnExactOneEdit Go.Proofs.YtmfhaplhgaehhaaW.PrintWords Go.Proofs.YtmfhaplhgaehhaaW.PrintLast Go.Proofs.YtmfhaplhgaehhaaW.PrintMore
set_option linter.unusedVariables false
set_option linter.unusedSimpArgs false

/-! ### sounds -/
def snd (c : Int) : Bool := decide (c ∈ ([112, 116, 98, 100, 110, 97, 105] : List Int))
def obs (c : Int) : Bool := decide (c ∈ ([112, 116, 98, 100] : List Int))
def feat (c f : Int) : Bool := if f = 0 then decide (c ∈ ([97, 105] : List Int)) else if f = 1 then decide (c ∈ ([98, 100, 110, 97, 105] : List Int)) else if f = 2 then decide (c = 110) else if f = 3 then decide (c ∈ ([112, 98] : List Int)) else if f = 4 then decide (c = 105) else false
/-- a vowel -/
def vow (c : Int) : Bool := decide (c = 97 ∨ c = 105)
/-- the sounds of a form: at most eight -/
def form (l : List Int) : Bool := l.all snd && decide (l.length ≤ 8)
/-- a voiced obstruent -/
def voi (c : Int) : Bool := decide (c = 98 ∨ c = 100)
theorem byte_ind {P : Int → Prop} (h : ∀ n : Fin 256, P (n.val : Int)) (c : Int) (h0 : 0 ≤ c) (h1 : c < 256) : P c := by
  obtain ⟨n, rfl⟩ := Int.eq_ofNat_of_zero_le h0
  exact h ⟨n, by omega⟩

abbrev ILink := S87
/-- a link of bytes -/
def okB (x : ILink) : Prop := (0 ≤ x.f0 ∧ x.f0 < 256) ∧ (0 ≤ x.f1 ∧ x.f1 < 256)
theorem rdK (l : List ILink) (i : Nat) (h : i < l.length) : rd_T87 l (i : Int) = l[i] := by simp [rd_T87, h]
def swp (c : Int) : Int := if c = 112 then 98 else if c = 98 then 112 else if c = 116 then 100 else if c = 100 then 116 else c
def lk (a b : Int) : Bool := if a = 0 then snd b else snd a && (decide (b = 0) || (decide (a = b) || (obs a && decide (swp a = b))))
def inL (l : List ILink) : List Int := (l.filter fun x => !decide (x.f0 = 0)).map (·.f0)
def outL (l : List ILink) : List Int := (l.filter fun x => !decide (x.f1 = 0)).map (·.f1)
def cand (l : List ILink) : Bool := l.all (fun x => lk x.f0 x.f1) && (decide (l.length ≤ 16) && (form (inL l) && form (outL l)))
theorem B_nums (l : List Int) (h : ∀ c ∈ l, 0 ≤ c ∧ c < 256) : B (strOfNums l) = l := by
  simp only [B, bytesOf, strOfNums, List.map_map]
  conv => rhs; rw [← List.map_id l]
  apply List.map_congr_left
  intro c hc
  obtain ⟨h0, h1⟩ := h c hc
  obtain ⟨n, rfl⟩ := Int.eq_ofNat_of_zero_le h0
  simp
  omega
theorem size_nums (l : List Int) : (strOfNums l).size = l.length := by simp [strOfNums, ByteArray.size]
theorem inL_length (l : List ILink) : (inL l).length ≤ l.length := by
  unfold inL
  rw [List.length_map]
  exact List.length_filter_le _ _
theorem outL_length (l : List ILink) : (outL l).length ≤ l.length := by
  unfold outL
  rw [List.length_map]
  exact List.length_filter_le _ _
theorem inL_range (l : List ILink) (hb : ∀ x ∈ l, okB x) : ∀ c ∈ inL l, 0 ≤ c ∧ c < 256 := by
  intro c hc
  simp only [inL, List.mem_map, List.mem_filter] at hc
  obtain ⟨x, ⟨hx, _⟩, rfl⟩ := hc
  exact (hb x hx).1
theorem outL_range (l : List ILink) (hb : ∀ x ∈ l, okB x) : ∀ c ∈ outL l, 0 ≤ c ∧ c < 256 := by
  intro c hc
  simp only [outL, List.mem_map, List.mem_filter] at hc
  obtain ⟨x, ⟨hx, _⟩, rfl⟩ := hc
  exact (hb x hx).2
theorem inL_cons (x : ILink) (l : List ILink) : inL (x :: l) = if x.f0 = 0 then inL l else x.f0 :: inL l := by
  by_cases h : x.f0 = 0 <;> simp [inL, h]
theorem outL_cons (x : ILink) (l : List ILink) : outL (x :: l) = if x.f1 = 0 then outL l else x.f1 :: outL l := by
  by_cases h : x.f1 = 0 <;> simp [outL, h]
theorem snd_swp (c : Int) (h0 : 0 ≤ c) (h1 : c < 256) (h : obs c = true) : snd (swp c) = true := byte_ind (P := fun c => obs c = true → snd (swp c) = true) (by decide +kernel) c h0 h1 h

abbrev GC := S26

theorem spec_SwapVoice_eq (c : Int) (h0 : 0 ≤ c) (h1 : c < 256) : spec_SwapVoice.f c = some (swp c, obs c) := byte_ind (P := fun c => spec_SwapVoice.f c = some (swp c, obs c)) (by decide +kernel) c h0 h1

theorem impl_SwapVoice_eq (c : Int) (h0 : 0 ≤ c) (h1 : c < 256) : impl_SwapVoice.f c = some (swp c, obs c) := byte_ind (P := fun c => impl_SwapVoice.f c = some (swp c, obs c)) (by decide +kernel) c h0 h1

theorem impl_IsSound_eq (c : Int) (h0 : 0 ≤ c) (h1 : c < 256) : impl_IsSound.f c = some (snd c) := byte_ind (P := fun c => impl_IsSound.f c = some (snd c)) (by decide +kernel) c h0 h1
theorem spec_IsSound_ev (c : Int) (h0 : 0 ≤ c) (h1 : c < 256) : Ev (fun k => spec_IsSound.f k c) (snd c) :=
  Ev.at_ (spec_IsSound.mono c) 9 (byte_ind (P := fun c => spec_IsSound.f 9 c = some (snd c)) (by decide +kernel) c h0 h1)

theorem impl_within_eq (a b c : Int) : impl_within.f a b c = some (decide (b ≤ a ∧ a ≤ c)) := by
  unfold impl_within.f
  split
  · simp [*]
  · simp [*]

theorem spec_l2Sounds_ev (s : ByteArray) (hn : s.size ≤ 140737488351232) : Ev (fun k => spec_l2Sounds.f k s) ((B s).all snd && decide (s.size ≤ 20)) := by
  have key : ∀ i, i ≤ s.size → Ev (fun k => spec_l2Sounds.l0 k s (i : Int)) (((B s).drop i).all snd && decide (s.size ≤ 20)) := by
    refine down_ind ?_ ?_
    · refine Ev.succ ?_
      simp only [spec_l2Sounds.l0, Int.lt_irrefl, if_false]
      refine Ev.const ?_
      rw [List.drop_of_length_le (by rw [B_length]; exact Nat.le_refl _)]
      simp
      omega
    · intro i hi ih
      have hB : i < (B s).length := by rw [B_length]; exact hi
      have hr := B_get_range s i hB
      refine Ev.succ ?_
      simp only [spec_l2Sounds.l0, if_pos (show (i : Int) < (s.size : Int) by omega), if_pos (show (0 : Int) ≤ i by omega), bt_nat s i hB]
      refine Ev.bind (spec_IsSound_ev _ hr.1 hr.2) ?_
      rw [drop_cons _ _ hB, List.all_cons]
      cases snd (B s)[i]
      · simp only [Bool.false_eq_true, if_false]
        exact Ev.const rfl
      · simp only [if_true, wrap_succ (show i ≤ 4611686018427387903 by omega), Bool.true_and]
        exact ih
  exact key 0 (by omega)
theorem spec_IsForm_ev (s : ByteArray) (hn : s.size ≤ 140737488351232) : Ev (fun k => spec_IsForm.f k s) (form (B s)) := by
  unfold spec_IsForm.f
  refine Ev.bind (spec_l2Sounds_ev s hn) ?_
  refine Ev.const ?_
  unfold form
  rw [B_length]
  cases (B s).all snd
  · simp
  · by_cases h : s.size ≤ 8
    · have h2 : s.size ≤ 20 := by omega
      simp [h, h2]
      omega
    · by_cases h2 : s.size ≤ 20
      · simp [h, h2]
        omega
      · simp [h, h2]
theorem impl_areSounds_ev (s : ByteArray) (hn : s.size ≤ 140737488351232) : Ev (fun k => impl_areSounds.f k s) ((B s).all snd && decide (1 ≤ s.size ∧ s.size ≤ 20)) := by
  have key : ∀ i, i ≤ s.size → Ev (fun k => impl_areSounds.l0 k s (s.size : Int) (i : Int)) (((B s).drop i).all snd && decide (1 ≤ s.size ∧ s.size ≤ 20)) := by
    refine down_ind ?_ ?_
    · refine Ev.succ ?_
      simp only [impl_areSounds.l0, Int.lt_irrefl, if_false, impl_within_eq, Option.bind_some]
      refine Ev.const ?_
      rw [List.drop_of_length_le (by rw [B_length]; exact Nat.le_refl _)]
      simp only [List.all_nil, Bool.true_and]
      exact congrArg some (decide_eq_decide.2 (by omega))
    · intro i hi ih
      have hB : i < (B s).length := by rw [B_length]; exact hi
      have hr := B_get_range s i hB
      refine Ev.succ ?_
      simp only [impl_areSounds.l0, if_pos (show (i : Int) < (s.size : Int) by omega), if_pos (show (0 : Int) ≤ i by omega), bt_nat s i hB, impl_IsSound_eq _ hr.1 hr.2, Option.bind_some]
      rw [drop_cons _ _ hB, List.all_cons]
      cases snd (B s)[i]
      · simp only [Bool.false_eq_true, if_false]
        exact Ev.const rfl
      · simp only [if_true, wrap_succ (show i ≤ 4611686018427387903 by omega), Bool.true_and]
        exact ih
  exact key 0 (by omega)
theorem impl_IsForm_ev (s : ByteArray) (hn : s.size ≤ 140737488351232) : Ev (fun k => impl_IsForm.f k s) (form (B s)) := by
  unfold impl_IsForm.f
  by_cases h0 : s.toList = []
  · simp only [if_pos h0]
    rw [toList_nil] at h0
    exact Ev.const (by rw [h0]; rfl)
  · simp only [if_neg h0]
    rw [toList_nil] at h0
    have h1 : 1 ≤ s.size := by
      rw [← B_length]
      exact List.length_pos_iff.2 h0
    by_cases h8 : s.size ≤ 8
    · simp only [if_pos (show (s.size : Int) ≤ 8 by omega)]
      refine Ev.bind (impl_areSounds_ev s hn) ?_
      refine Ev.const ?_
      unfold form
      rw [B_length]
      have h2 : s.size ≤ 20 := by omega
      simp [h1, h2, h8]
    · simp only [if_neg (show ¬ (s.size : Int) ≤ 8 by omega)]
      refine Ev.const ?_
      unfold form
      rw [B_length]
      simp [h8]

def mkC (c : List ILink) : GC := ⟨c⟩
theorem rdGC (l : List GC) (i : Nat) (h : i < l.length) : rd_T26 l (i : Int) = l[i] := by simp [rd_T26, h]
theorem btr (s : ByteArray) (i : Int) : 0 ≤ bt s i ∧ bt s i < 256 := Go.Proofs.YtmfhaplhgaehhaaB.bt_range s i
theorem bt_B (s : ByteArray) (i : Nat) (h : i < s.size) : bt s (i : Int) = (B s)[i]'(by rw [B_length]; exact h) := bt_nat s i (by rw [B_length]; exact h)
theorem genF_step (s : ByteArray) (m i l : Nat) : genF s (m + 1) i l =
    (if i < s.size then (genF s m (i + 1) l).map ((⟨bt s i, bt s i⟩ : ILink) :: ·) ++
      (if 0 < l then (genF s m (i + 1) (l - 1)).map ((⟨bt s i, 0⟩ : ILink) :: ·) ++
        (if obs (bt s i) = true then (genF s m (i + 1) (l - 1)).map ((⟨bt s i, swp (bt s i)⟩ : ILink) :: ·) else []) else []) else [[]]) ++
      (if 0 < l then (genF s m i (l - 1)).map ((⟨0, 116⟩ : ILink) :: ·) ++ (genF s m i (l - 1)).map ((⟨0, 105⟩ : ILink) :: ·) else []) := by
  rw [genF, impl_SwapVoice_eq (bt s i) (btr s i).1 (btr s i).2]
  cases obs (bt s i) <;> simp
theorem genF_len (s : ByteArray) : ∀ m i l, ∀ c ∈ genF s m i l, c.length ≤ m
  | 0, _, _, c, h => by simp [genF] at h
  | m + 1, i, l, c, h => by
    have key : ∀ i l x c, c ∈ (genF s m i l).map (x :: ·) → c.length ≤ m + 1 := by
      intro i l x c hc
      rw [List.mem_map] at hc
      obtain ⟨d, hd, rfl⟩ := hc
      have := genF_len s m i l d hd
      simp only [List.length_cons]
      omega
    rw [genF_step] at h
    rcases List.mem_append.1 h with h | h
    · split at h
      · rcases List.mem_append.1 h with h | h
        · exact key _ _ _ _ h
        · split at h
          · rcases List.mem_append.1 h with h | h
            · exact key _ _ _ _ h
            · split at h
              · exact key _ _ _ _ h
              · cases h
          · cases h
      · rw [List.mem_singleton] at h
        subst h
        exact Nat.zero_le _
    · split at h
      · rcases List.mem_append.1 h with h | h
        · exact key _ _ _ _ h
        · exact key _ _ _ _ h
      · cases h
theorem genF_small (s : ByteArray) (hn : s.size ≤ 16) (m i l : Nat) (hl : l ≤ 2) : (genF s m i l).length ≤ 7225 :=
  Nat.le_trans (genF_length s m i l) (Nat.le_trans (Nat.pow_le_pow_left (show 5 * (s.size - i + 1) ≤ 85 by omega) l) (Nat.le_trans (Nat.pow_le_pow_right (by omega) hl) (by decide)))

theorem Ev.congr_acc {α β : Type} {g : Nat → β → Option α} {r : α} {x y : β} (h : Ev (fun k => g k x) r) (e : x = y) : Ev (fun k => g k y) r := e ▸ h
theorem spec_l7Before_ev (a b : Int) (L : List GC) (hL : L.length ≤ 1000000) (hl : ∀ c ∈ L, c.f0.length ≤ 1000000) : Ev (fun k => spec_l7Before.f k a b L) (L.map fun c => mkC (⟨a, b⟩ :: c.f0)) := by
  unfold spec_l7Before.f
  have key : ∀ i, i ≤ L.length → ∀ acc : List GC, acc.length ≤ i → Ev (fun k => spec_l7Before.l0 k L acc (i : Int) a b) (acc ++ (L.drop i).map fun c => mkC (⟨a, b⟩ :: c.f0)) := by
    refine down_ind ?_ ?_
    · intro acc _
      refine Ev.succ ?_
      simp only [spec_l7Before.l0, Int.lt_irrefl, if_false]
      exact Ev.const (by simp)
    · intro i hi ih acc ha
      have h1 := hl L[i] (List.getElem_mem hi)
      refine Ev.succ ?_
      simp only [spec_l7Before.l0, if_pos (show (i : Int) < (L.length : Int) by omega), if_pos (show (0 : Int) ≤ i by omega), rdGC L i hi, Option.bind_some, List.length_cons, List.length_nil, if_pos (show 0 + 1 + L[i].f0.length < 70368744177664 by omega), if_pos (show acc.length < 5864062014805 by omega), wrap_succ (show i ≤ 4611686018427387903 by omega)]
      refine Ev.cast (ih (acc ++ [mkC (⟨a, b⟩ :: L[i].f0)]) (by simp; omega)) ?_
      rw [drop_cons L i hi]
      simp only [List.map_cons, List.append_assoc, List.cons_append, List.nil_append]
  refine Ev.cast (key 0 (by omega) [] (by simp)) ?_
  simp
theorem before_map (x : ILink) (G : List (List ILink)) : ((G.map mkC).map fun c => mkC (x :: c.f0)) = (G.map (x :: ·)).map mkC := by simp [List.map_map, Function.comp_def, mkC]
theorem l7Before_gen (s : ByteArray) (hn : s.size ≤ 16) (m i l : Nat) (hl : l ≤ 2) (hm : m ≤ 1000) (a b : Int) : Ev (fun k => spec_l7Before.f k a b ((genF s m i l).map mkC)) (((genF s m i l).map ((⟨a, b⟩ : ILink) :: ·)).map mkC) := by
  refine Ev.cast (spec_l7Before_ev a b _ ?_ ?_) (before_map _ _)
  · rw [List.length_map]
    have := genF_small s hn m i l hl
    omega
  · intro c hc
    rw [List.mem_map] at hc
    obtain ⟨d, hd, rfl⟩ := hc
    have := genF_len s m i l d hd
    simp only [mkC]
    omega
theorem spec_l7From_j1_ev (s : ByteArray) (hn : s.size ≤ 16) (m i l : Nat) (hl : l ≤ 1) (hm : m ≤ 1000) (ih : Ev (fun k => spec_l7From.f k s (i : Int) (l : Int)) ((genF s m i l).map mkC)) (acc : List (List ILink)) (ha : acc.length ≤ 100000) :
    Ev (fun k => spec_l7From.j1 k s (i : Int) ((l + 1 : Nat) : Int) (acc.map mkC)) ((acc ++ ((genF s m i l).map ((⟨0, 116⟩ : ILink) :: ·) ++ (genF s m i l).map ((⟨0, 105⟩ : ILink) :: ·))).map mkC) := by
  have hg := genF_small s hn m i l (by omega)
  refine Ev.succ ?_
  simp only [spec_l7From.j1, show wrap64 (((l + 1 : Nat) : Int) - 1) = (l : Int) by unfold wrap64; omega]
  refine Ev.bind ih ?_
  refine Ev.succ ?_
  simp only [spec_l7From.l0, if_pos (show (0 : Int) < 2 by decide), Int.le_refl, if_true, show bt (⟨#[116, 105]⟩ : ByteArray) 0 = 116 by decide +kernel]
  refine Ev.bind (l7Before_gen s hn m i l (by omega) hm _ _) ?_
  simp only [List.length_map, if_pos (show acc.length + (genF s m i l).length < 5864062014805 by omega), show wrap64 (0 + 1) = 1 by unfold wrap64; omega]
  refine Ev.succ ?_
  simp only [spec_l7From.l0, if_pos (show (1 : Int) < 2 by decide), if_pos (show (0 : Int) ≤ 1 by decide), show bt (⟨#[116, 105]⟩ : ByteArray) 1 = 105 by decide +kernel]
  refine Ev.bind (l7Before_gen s hn m i l (by omega) hm _ _) ?_
  simp only [List.length_append, List.length_map, if_pos (show acc.length + (genF s m i l).length + (genF s m i l).length < 5864062014805 by omega), show wrap64 (1 + 1) = 2 by unfold wrap64; omega]
  refine Ev.succ ?_
  simp only [spec_l7From.l0, Int.lt_irrefl, if_false]
  refine Ev.const ?_
  simp [List.map_append, List.append_assoc]
theorem spec_l7From_ev (s : ByteArray) (hn : s.size ≤ 16) : ∀ m i l, l ≤ 2 → m ≤ 1000 → i ≤ s.size → (s.size - i) + l < m → Ev (fun k => spec_l7From.f k s (i : Int) (l : Int)) ((genF s m i l).map mkC)
  | 0, _, _, _, _, _, h => by omega
  | m + 1, i, l, hl, hm, hi, h => by
    have ih := spec_l7From_ev s hn m
    -- behind the first part
    have hj : ∀ acc : List (List ILink), acc.length ≤ 7225 → Ev (fun k => spec_l7From.j0 k s (i : Int) (l : Int) (acc.map mkC))
        ((acc ++ ((if 0 < l then (if i < s.size then (genF s m (i + 1) (l - 1)).map ((⟨bt s i, 0⟩ : ILink) :: ·) ++ (if obs (bt s i) = true then (genF s m (i + 1) (l - 1)).map ((⟨bt s i, swp (bt s i)⟩ : ILink) :: ·) else []) else []) else []) ++
          (if 0 < l then (genF s m i (l - 1)).map ((⟨0, 116⟩ : ILink) :: ·) ++ (genF s m i (l - 1)).map ((⟨0, 105⟩ : ILink) :: ·) else []))).map mkC) := by
      intro acc ha
      refine Ev.succ ?_
      cases l with
      | zero =>
        simp only [spec_l7From.j0, Int.ofNat_eq_natCast, Int.natCast_zero, if_true, Nat.lt_irrefl, if_false, List.append_nil]
        exact Ev.const rfl
      | succ l =>
        have hg := genF_small s hn m (i + 1) l (by omega)
        simp only [spec_l7From.j0, if_neg (show ¬ ((l + 1 : Nat) : Int) = 0 by omega), Nat.zero_lt_succ, if_true, Nat.add_sub_cancel]
        by_cases h1 : i < s.size
        · simp only [if_pos h1, if_pos (show (i : Int) < (s.size : Int) by omega), if_pos (show (0 : Int) ≤ i by omega), wrap_succ (show i ≤ 4611686018427387903 by omega), show wrap64 (((l + 1 : Nat) : Int) - 1) = (l : Int) by unfold wrap64; omega]
          refine Ev.bind (ih (i + 1) l (by omega) (by omega) (by omega) (by omega)) ?_
          refine Ev.bind (l7Before_gen s hn m (i + 1) l (by omega) (by omega) _ _) ?_
          simp only [List.length_map, if_pos (show acc.length + (genF s m (i + 1) l).length < 5864062014805 by omega), Option.bind_some, spec_SwapVoice_eq (bt s i) (btr s i).1 (btr s i).2]
          cases ho : obs (bt s i) with
          | true =>
            simp only [if_true]
            refine Ev.bind (l7Before_gen s hn m (i + 1) l (by omega) (by omega) _ _) ?_
            simp only [List.length_append, List.length_map, if_pos (show acc.length + (genF s m (i + 1) l).length + (genF s m (i + 1) l).length < 5864062014805 by omega)]
            refine Ev.cast (Ev.congr_acc (spec_l7From_j1_ev s hn m i l (by omega) (by omega) (ih i l (by omega) (by omega) hi (by omega)) (acc ++ (genF s m (i + 1) l).map ((⟨bt s i, 0⟩ : ILink) :: ·) ++ (genF s m (i + 1) l).map ((⟨bt s i, swp (bt s i)⟩ : ILink) :: ·)) (by simp only [List.length_append, List.length_map]; omega)) (by simp [List.map_append, List.append_assoc])) ?_
            simp [List.append_assoc]
          | false =>
            simp only [Bool.false_eq_true, if_false, List.append_nil]
            refine Ev.cast (Ev.congr_acc (spec_l7From_j1_ev s hn m i l (by omega) (by omega) (ih i l (by omega) (by omega) hi (by omega)) (acc ++ (genF s m (i + 1) l).map ((⟨bt s i, 0⟩ : ILink) :: ·)) (by simp only [List.length_append, List.length_map]; omega)) (by simp [List.map_append])) ?_
            simp [List.append_assoc]
        · simp only [if_neg h1, if_neg (show ¬ (i : Int) < (s.size : Int) by omega), List.nil_append]
          exact spec_l7From_j1_ev s hn m i l (by omega) (by omega) (ih i l (by omega) (by omega) hi (by omega)) acc (by omega)
    refine Ev.succ ?_
    rw [genF_step]
    by_cases h1 : i < s.size
    · have hg := genF_small s hn m (i + 1) l (by omega)
      simp only [spec_l7From.f, Option.bind_some, if_neg (show ¬ (i : Int) = (s.size : Int) by omega), if_pos (show (0 : Int) ≤ i by omega), if_pos (show (i : Int) < (s.size : Int) by omega), wrap_succ (show i ≤ 4611686018427387903 by omega)]
      refine Ev.bind (ih (i + 1) l hl (by omega) (by omega) (by omega)) ?_
      refine Ev.bind (l7Before_gen s hn m (i + 1) l (by omega) (by omega) _ _) ?_
      simp only [List.length_nil, List.length_map, if_pos (show 0 + (genF s m (i + 1) l).length < 5864062014805 by omega), List.nil_append]
      refine Ev.cast (hj _ (by rw [List.length_map]; exact hg)) ?_
      simp only [if_pos h1, List.append_assoc]
    · have e : (i : Int) = (s.size : Int) := by omega
      simp only [spec_l7From.f, Option.bind_some, if_pos e, List.length_nil, if_pos (show 0 < 5864062014805 by omega), List.nil_append]
      refine Ev.cast (hj [[]] (by simp)) ?_
      simp only [if_neg h1, List.nil_append]
      split <;> simp

/-- the candidates with at most l edits -/
def gens (s : ByteArray) (l : Nat) : List GC := (genF s (s.size + l + 1) 0 l).map mkC

def oneR (s : ByteArray) : List GC := if form (B s) = true ∧ s.size ≤ 7 then gens s 1 else []
theorem form_size {s : ByteArray} (h : form (B s) = true) : s.size ≤ 8 := by
  have := of_decide_eq_true (Bool.and_eq_true_iff.1 h).2
  rwa [B_length] at this
theorem spec_OneEdit_ev (s : ByteArray) (hs : s.size ≤ 140737488351232) : Ev (fun k => spec_OneEdit.f k s) (oneR s) := by
  unfold spec_OneEdit.f oneR
  refine Ev.bind (spec_IsForm_ev s hs) ?_
  cases form (B s)
  · simp only [Bool.false_eq_true, if_false, false_and]
    exact Ev.const rfl
  · simp only [if_true, true_and]
    by_cases h : s.size ≤ 7
    · simp only [if_neg (show ¬ (s.size : Int) > 7 by omega), if_pos h]
      refine Ev.bind ?_ (Ev.const rfl)
      exact spec_l7From_ev s (by omega) (s.size + 1 + 1) 0 1 (by omega) (by omega) (by omega) (by omega)
    · simp only [if_pos (show (s.size : Int) > 7 by omega), if_neg h]
      exact Ev.const rfl
theorem impl_OneEdit_ev (s : ByteArray) (hs : s.size ≤ 140737488351232) : Ev (fun k => impl_OneEdit.f k s) (oneR s) := by
  unfold impl_OneEdit.f oneR
  refine Ev.bind (impl_IsForm_ev s hs) ?_
  cases hf : form (B s)
  · simp only [Bool.false_eq_true, if_false, false_and]
    exact Ev.const rfl
  · have h8 := form_size hf
    simp only [if_true, true_and]
    by_cases h : s.size ≤ 7
    · simp only [if_neg (show ¬ (s.size : Int) = 8 by omega), if_pos h]
      refine Ev.const ?_
      unfold impl_generate.f
      rw [if_pos ⟨by omega, by decide, by decide⟩]
      rfl
    · simp only [if_pos (show (s.size : Int) = 8 by omega), if_neg h]
      exact Ev.const rfl
theorem oneR_good (s : ByteArray) : (∀ c ∈ oneR s, c.f0.length ≤ 9) ∧ (oneR s).length ≤ 7225 := by
  unfold oneR
  split
  · rename_i h
    refine ⟨fun c hc => ?_, ?_⟩
    · unfold gens at hc
      rw [List.mem_map] at hc
      obtain ⟨d, hd, rfl⟩ := hc
      have := genF_len s _ 0 1 d hd
      simp only [mkC]
      omega
    · unfold gens
      rw [List.length_map]
      exact genF_small s (by omega) _ 0 1 (by omega)
  · exact ⟨fun c hc => (by cases hc), by simp⟩

theorem laws_eqCandidate_ev (a : List ILink) (hl : a.length ≤ 1048576) : Ev (fun k => laws_eqCandidate.f k a a) true := by
  unfold laws_eqCandidate.f
  refine Ev.bind ?_ (Ev.const (if_pos rfl))
  unfold laws_eqLinkS.f
  simp only [if_true]
  have key : ∀ i, i ≤ a.length → Ev (fun k => laws_eqLinkS.l0 k a a (i : Int)) true := by
    refine down_ind ?_ ?_
    · refine Ev.succ ?_
      simp only [laws_eqLinkS.l0, Int.lt_irrefl, if_false]
      exact Ev.const rfl
    · intro i hi ih
      refine Ev.succ ?_
      simp only [laws_eqLinkS.l0, laws_eqLink.f, Option.bind_some, if_pos (show (i : Int) < (a.length : Int) by omega), if_pos (show (0 : Int) ≤ i by omega), if_true, wrap_succ (show i ≤ 4611686018427387903 by omega)]
      exact ih
  exact key 0 (by omega)

theorem eqGCS_ev (a : List GC) (hl : a.length ≤ 1048576) (hr : ∀ x ∈ a, x.f0.length ≤ 1048576) : Ev (fun k => laws_eqCandidateS.f k a a) true := by
  unfold laws_eqCandidateS.f
  simp only [if_true]
  have key : ∀ i, i ≤ a.length → Ev (fun k => laws_eqCandidateS.l0 k a a (i : Int)) true := by
    refine down_ind ?_ ?_
    · refine Ev.succ ?_
      simp only [laws_eqCandidateS.l0, Int.lt_irrefl, if_false]
      exact Ev.const rfl
    · intro i hi ih
      refine Ev.succ ?_
      simp only [laws_eqCandidateS.l0, if_pos (show (i : Int) < (a.length : Int) by omega), if_pos (show (0 : Int) ≤ i by omega), show rd_T26 a (i : Int) = a[i] by simp [rd_T26, hi]]
      refine Ev.bind (laws_eqCandidate_ev _ (hr _ (List.getElem_mem hi))) ?_
      simp only [if_true, wrap_succ (show i ≤ 4611686018427387903 by omega)]
      exact ih
  exact key 0 (by omega)

theorem get_mid {α : Type} (pre : List α) (x : α) (rest : List α) (z : α) : (pre ++ x :: rest).getD pre.length z = x := by simp
theorem set_mid {α : Type} (pre : List α) (x y : α) (rest : List α) : (pre ++ x :: rest).set pre.length y = (pre ++ [y]) ++ rest := by simp
def totN : List Nat → Nat
  | [] => 0
  | n :: l => n + totN l

def mlk (m : Nat) : Nat → List ILink
  | 0 => []
  | n + 1 => (⟨(m : Int) % 256, ((m + 1 : Nat) : Int) % 256⟩ : ILink) :: mlk (m + 2) n
theorem mlk_length (m n : Nat) : (mlk m n).length = n := by
  induction n generalizing m with
  | zero => rfl
  | succ n ih => simp [mlk, ih]
theorem laws_markLinkS_ev (l : List ILink) (m : Nat) (hl : l.length ≤ 2097152) (h1 : m ≤ 1099511627776) : Ev (fun k => laws_markLinkS.f k l (m : Int)) (((m + 2 * l.length : Nat) : Int), mlk m l.length) := by
  unfold laws_markLinkS.f
  have key : ∀ (rest pre : List ILink) (m : Nat), pre.length + rest.length ≤ 2097152 → m + 2 * rest.length ≤ 2199023255552 → Ev (fun k => laws_markLinkS.l0 k (pre ++ rest) (m : Int) (pre.length : Int)) (((m + 2 * rest.length : Nat) : Int), pre ++ mlk m rest.length) := by
    intro rest
    induction rest with
    | nil =>
      intro pre m _ _
      refine Ev.succ ?_
      simp only [laws_markLinkS.l0, List.append_nil, Int.lt_irrefl, if_false]
      exact Ev.const (by simp [mlk])
    | cons x rest ih =>
      intro pre m h1 h2
      simp only [List.length_cons] at h1 h2
      refine Ev.succ ?_
      have e2 : rd_T87 ((pre ++ [(⟨(m : Int) % 256, x.f1⟩ : ILink)]) ++ rest) (pre.length : Int) = ⟨(m : Int) % 256, x.f1⟩ := by
        unfold rd_T87
        simp
      have e1 : rd_T87 (pre ++ x :: rest) (pre.length : Int) = x := by
        unfold rd_T87
        simp
      simp only [laws_markLinkS.l0, List.length_append, List.length_cons, if_pos (show (pre.length : Int) < ((pre.length + (rest.length + 1) : Nat) : Int) by omega), if_pos (show (0 : Int) ≤ pre.length by omega), Int.toNat_natCast, e1, set_mid, Option.bind_some, e2, wrap_succ (show m ≤ 4611686018427387903 by omega), wrap_succ (show m + 1 ≤ 4611686018427387903 by omega), wrap_succ (show pre.length ≤ 4611686018427387903 by omega)]
      rw [show ((pre ++ [(⟨(m : Int) % 256, x.f1⟩ : ILink)]) ++ rest).set pre.length ⟨(m : Int) % 256, ((m + 1 : Nat) : Int) % 256⟩ = (pre ++ [(⟨(m : Int) % 256, ((m + 1 : Nat) : Int) % 256⟩ : ILink)]) ++ rest by simp]
      have := ih (pre ++ [(⟨(m : Int) % 256, ((m + 1 : Nat) : Int) % 256⟩ : ILink)]) (m + 1 + 1) (by simp; omega) (by omega)
      rw [List.length_append, List.length_singleton] at this
      refine Ev.cast this ?_
      simp only [mlk, List.append_assoc, List.singleton_append, Prod.mk.injEq, and_true]
      omega
  have := key l [] m (by simpa using hl) (by omega)
  simpa using this
theorem laws_heldLinkS_ev (n m : Nat) (hl : n ≤ 2097152) (h1 : m ≤ 1099511627776) : Ev (fun k => laws_heldLinkS.f k (mlk m n) (m : Int)) ((m + 2 * n : Nat) : Int) := by
  unfold laws_heldLinkS.f
  have key : ∀ (n : Nat) (pre : List ILink) (m : Nat), pre.length + n ≤ 2097152 → m + 2 * n ≤ 2199023255552 → Ev (fun k => laws_heldLinkS.l0 k (pre ++ mlk m n) (m : Int) (pre.length : Int)) ((m + 2 * n : Nat) : Int) := by
    intro n
    induction n with
    | zero =>
      intro pre m _ _
      refine Ev.succ ?_
      simp only [laws_heldLinkS.l0, mlk, List.append_nil, Int.lt_irrefl, if_false]
      exact Ev.const rfl
    | succ n ih =>
      intro pre m h1 h2
      refine Ev.succ ?_
      have e1 : rd_T87 (pre ++ mlk m (n + 1)) (pre.length : Int) = ⟨(m : Int) % 256, ((m + 1 : Nat) : Int) % 256⟩ := by
        unfold rd_T87
        simp [mlk]
      simp only [laws_heldLinkS.l0, List.length_append, mlk_length, if_pos (show (pre.length : Int) < ((pre.length + (n + 1) : Nat) : Int) by omega), if_pos (show (0 : Int) ≤ pre.length by omega), e1, if_true, wrap_succ (show m ≤ 4611686018427387903 by omega), wrap_succ (show m + 1 ≤ 4611686018427387903 by omega), wrap_succ (show pre.length ≤ 4611686018427387903 by omega)]
      have := ih (pre ++ [(⟨(m : Int) % 256, ((m + 1 : Nat) : Int) % 256⟩ : ILink)]) (m + 1 + 1) (by simp; omega) (by omega)
      rw [List.length_append, List.length_singleton, List.append_assoc] at this
      refine Ev.cast this ?_
      omega
  have := key n [] m (by simpa using hl) (by omega)
  simpa using this

def mcrow (m : Nat) : List Nat → List GC
  | [] => []
  | n :: l => (⟨mlk m n⟩ : GC) :: mcrow (m + 2 * n) l
theorem mcrow_length (m : Nat) (l : List Nat) : (mcrow m l).length = l.length := by
  induction l generalizing m with
  | nil => rfl
  | cons n l ih => simp [mcrow, ih]
theorem laws_markCandidateS_ev (l : List GC) (m : Nat) (hl : l.length + 2 * totN (l.map fun x => (x.f0).length) ≤ 2097152) (h1 : m ≤ 1048576) : Ev (fun k => laws_markCandidateS.f k l (m : Int)) (((m + 2 * totN (l.map fun x => (x.f0).length) : Nat) : Int), mcrow m (l.map fun x => (x.f0).length)) := by
  unfold laws_markCandidateS.f
  have key : ∀ (rest pre : List GC) (m : Nat), pre.length + rest.length + 2 * totN (rest.map fun x => (x.f0).length) ≤ 2097152 → m + 2 * totN (rest.map fun x => (x.f0).length) ≤ 4194304 → Ev (fun k => laws_markCandidateS.l0 k (pre ++ rest) (m : Int) (pre.length : Int)) (((m + 2 * totN (rest.map fun x => (x.f0).length) : Nat) : Int), pre ++ mcrow m (rest.map fun x => (x.f0).length)) := by
    intro rest
    induction rest with
    | nil =>
      intro pre m _ _
      refine Ev.succ ?_
      simp only [laws_markCandidateS.l0, List.append_nil, Int.lt_irrefl, if_false]
      exact Ev.const (by simp [mcrow, totN])
    | cons x rest ih =>
      intro pre m h1 h2
      simp only [List.length_cons, List.map_cons, totN] at h1 h2
      refine Ev.succ ?_
      simp only [laws_markCandidateS.l0, List.length_append, List.length_cons, if_pos (show (pre.length : Int) < ((pre.length + (rest.length + 1) : Nat) : Int) by omega), if_pos (show (0 : Int) ≤ pre.length by omega), Int.toNat_natCast, get_mid]
      refine Ev.bind (laws_markLinkS_ev _ m (by omega) (by omega)) ?_
      simp only [set_mid, wrap_succ (show pre.length ≤ 4611686018427387903 by omega)]
      have := ih (pre ++ [(⟨mlk m x.f0.length⟩ : GC)]) (m + 2 * (x.f0).length) (by simp; omega) (by omega)
      rw [List.length_append, List.length_singleton] at this
      refine Ev.cast this ?_
      simp only [mcrow, totN, List.map_cons, List.append_assoc, List.singleton_append, Prod.mk.injEq, and_true]
      omega
  have := key l [] m (by simpa using hl) (by omega)
  simpa using this
theorem laws_heldCandidateS_ev (l : List Nat) (m : Nat) (hl : l.length + 2 * totN l ≤ 2097152) (h1 : m ≤ 1048576) : Ev (fun k => laws_heldCandidateS.f k (mcrow m l) (m : Int)) ((m + 2 * totN l : Nat) : Int) := by
  unfold laws_heldCandidateS.f
  have key : ∀ (l : List Nat) (pre : List GC) (m : Nat), pre.length + l.length + 2 * totN l ≤ 2097152 → m + 2 * totN l ≤ 4194304 → Ev (fun k => laws_heldCandidateS.l0 k (pre ++ mcrow m l) (m : Int) (pre.length : Int)) ((m + 2 * totN l : Nat) : Int) := by
    intro l
    induction l with
    | nil =>
      intro pre m _ _
      refine Ev.succ ?_
      simp only [laws_heldCandidateS.l0, mcrow, List.append_nil, Int.lt_irrefl, if_false]
      exact Ev.const (by simp [totN])
    | cons n l ih =>
      intro pre m h1 h2
      simp only [List.length_cons, totN] at h1 h2
      refine Ev.succ ?_
      have e1 : rd_T26 (pre ++ mcrow m (n :: l)) (pre.length : Int) = (⟨mlk m n⟩ : GC) := by
        unfold rd_T26
        simp [mcrow]
      simp only [laws_heldCandidateS.l0, List.length_append, mcrow_length, List.length_cons, if_pos (show (pre.length : Int) < ((pre.length + (l.length + 1) : Nat) : Int) by omega), if_pos (show (0 : Int) ≤ pre.length by omega), e1]
      refine Ev.bind (laws_heldLinkS_ev n m (by omega) (by omega)) ?_
      simp only [if_neg (show ¬ ((m + 2 * n : Nat) : Int) < 0 by omega), if_false, wrap_succ (show pre.length ≤ 4611686018427387903 by omega)]
      have := ih (pre ++ [(⟨mlk m n⟩ : GC)]) (m + 2 * n) (by simp; omega) (by omega)
      rw [List.length_append, List.length_singleton, List.append_assoc] at this
      refine Ev.cast this ?_
      simp only [totN]
      omega
  have := key l [] m (by simpa using hl) (by omega)
  simpa using this

theorem totN_le (l : List GC) (b : Nat) (h : ∀ c ∈ l, c.f0.length ≤ b) : totN (l.map fun x => (x.f0).length) ≤ l.length * b := by
  induction l with
  | nil => simp [totN]
  | cons c l ih =>
    have h1 := h c List.mem_cons_self
    have h2 := ih (fun c hc => h c (List.mem_cons_of_mem _ hc))
    simp only [List.map_cons, totN, List.length_cons]
    rw [Nat.add_mul]
    omega
theorem FnExactOneEdit : laws_FnExactOneEdit.Pure := by
  intro s hs
  refine Ev.rounds ?_
  unfold laws_FnExactOneEdit.f
  by_cases h0 : (s.size : Int) > 1048576
  · simp only [if_pos h0]
    exact Ev.const rfl
  simp only [if_neg h0]
  obtain ⟨hg, hn⟩ := oneR_good s
  have hi := impl_OneEdit_ev s (by omega)
  have hp := spec_OneEdit_ev s (by omega)
  generalize oneR s = o at hg hn hi hp
  have ht := totN_le o 9 hg
  have he := eqGCS_ev o (by omega) (fun x hx => by have := hg x hx; omega)
  refine Ev.bind hp (Ev.bind hi (Ev.bind he ?_))
  simp only [if_true]
  have hh := laws_heldCandidateS_ev (o.map fun x => (x.f0).length) 1 (by rw [List.length_map]; omega) (by omega)
  refine Ev.bind (laws_markCandidateS_ev o 1 (by omega) (by omega)) (Ev.bind hh ?_)
  simp only [if_neg (show ¬ ((1 + 2 * totN (o.map fun x => (x.f0).length) : Nat) : Int) < 0 by omega), if_true]
  refine Ev.bind hi (Ev.bind he ?_)
  simp only [if_true]
  refine Ev.bind hh ?_
  simp only [if_neg (show ¬ ((1 + 2 * totN (o.map fun x => (x.f0).length) : Nat) : Int) < 0 by omega), if_true]
  exact Ev.const rfl

end Go.Proofs.Ytmfhaplhgaehhaa.Pure
