/- The pure statement of the law FnExactTableauOf: for all arguments within bounds its printed function answers true. -/
import Derived.Test.YtlmfpkiaikjlbaaGreatPFnExactTableauOfx
import Derived.Test.YtlmfpkiaikjlbaaGreatUFnExactTableauOf
namespace Go.Proofs.YtlmfpkiaikjlbaaGreat.Pure
open Go.RowKit Go.Proofs.YtlmfpkiaikjlbaaGreatB Go.Proofs.YtlmfpkiaikjlbaaGreat.PFnExactTableauOf Go.Proofs.YtlmfpkiaikjlbaaGreatW.PrintWords Go.Proofs.YtlmfpkiaikjlbaaGreatW.PrintLast Go.Proofs.YtlmfpkiaikjlbaaGreatW.PrintMore
set_option linter.unusedVariables false
set_option linter.unusedSimpArgs false

def snd (c : Int) : Bool := decide (c ∈ ([112, 116, 98, 100, 110, 97, 105] : List Int))
def obs (c : Int) : Bool := decide (c ∈ ([112, 116, 98, 100] : List Int))
def feat (c f : Int) : Bool := if f = 0 then decide (c ∈ ([97, 105] : List Int)) else if f = 1 then decide (c ∈ ([98, 100, 110, 97, 105] : List Int)) else if f = 2 then decide (c = 110) else if f = 3 then decide (c ∈ ([112, 98] : List Int)) else if f = 4 then decide (c = 105) else false
def vow (c : Int) : Bool := decide (c = 97 ∨ c = 105)
def form (l : List Int) : Bool := l.all snd && decide (l.length ≤ 8)
def voi (c : Int) : Bool := decide (c = 98 ∨ c = 100)
theorem byte_ind {P : Int → Prop} (h : ∀ n : Fin 256, P (n.val : Int)) (c : Int) (h0 : 0 ≤ c) (h1 : c < 256) : P c := by
 obtain ⟨n, rfl⟩ := Int.eq_ofNat_of_zero_le h0
 exact h ⟨n, by omega⟩

abbrev ILink := S109
def okB (x : ILink) : Prop := (0 ≤ x.f0 ∧ x.f0 < 256) ∧ (0 ≤ x.f1 ∧ x.f1 < 256)
theorem rdK (l : List ILink) (i : Nat) (h : i < l.length) : rd_T109 l (i : Int) = l[i] := by simp [rd_T109, h]
def swp (c : Int) : Int := if c = 112 then 98 else if c = 98 then 112 else if c = 116 then 100 else if c = 100 then 116 else c
def lk (a b : Int) : Bool := if a = 0 then snd b else snd a && (decide (b = 0) || (decide (a = b) || (obs a && decide (swp a = b))))
def inL (l : List ILink) : List Int := (l.filter fun x => !decide (x.f0 = 0)).map (·.f0)
def outL (l : List ILink) : List Int := (l.filter fun x => !decide (x.f1 = 0)).map (·.f1)
def cand (l : List ILink) : Bool := l.all (fun x => lk x.f0 x.f1) && (decide (l.length ≤ 16) && (form (inL l) && form (outL l)))
theorem B_nums (l : List Int) (h : ∀ c ∈ l, 0 ≤ c ∧ c < 256) : B (strOfNums l) = l := by
 simp only [B, bytesOf, strOfNums, List.map_map]
 conv => rhs; rw [← List.map_id l]
 apply List.map_congr_left
 intro c hc
 obtain ⟨h0, h1⟩ := h c hc
 obtain ⟨n, rfl⟩ := Int.eq_ofNat_of_zero_le h0
 simp
 omega
theorem size_nums (l : List Int) : (strOfNums l).size = l.length := by simp [strOfNums, ByteArray.size]
theorem inL_length (l : List ILink) : (inL l).length ≤ l.length := by
 unfold inL
 rw [List.length_map]
 exact List.length_filter_le _ _
theorem outL_length (l : List ILink) : (outL l).length ≤ l.length := by
 unfold outL
 rw [List.length_map]
 exact List.length_filter_le _ _
theorem inL_range (l : List ILink) (hb : ∀ x ∈ l, okB x) : ∀ c ∈ inL l, 0 ≤ c ∧ c < 256 := by
 intro c hc
 simp only [inL, List.mem_map, List.mem_filter] at hc
 obtain ⟨x, ⟨hx, _⟩, rfl⟩ := hc
 exact (hb x hx).1
theorem outL_range (l : List ILink) (hb : ∀ x ∈ l, okB x) : ∀ c ∈ outL l, 0 ≤ c ∧ c < 256 := by
 intro c hc
 simp only [outL, List.mem_map, List.mem_filter] at hc
 obtain ⟨x, ⟨hx, _⟩, rfl⟩ := hc
 exact (hb x hx).2
theorem inL_cons (x : ILink) (l : List ILink) : inL (x :: l) = if x.f0 = 0 then inL l else x.f0 :: inL l := by
 by_cases h : x.f0 = 0 <;> simp [inL, h]
theorem outL_cons (x : ILink) (l : List ILink) : outL (x :: l) = if x.f1 = 0 then outL l else x.f1 :: outL l := by
 by_cases h : x.f1 = 0 <;> simp [outL, h]
theorem snd_swp (c : Int) (h0 : 0 ≤ c) (h1 : c < 256) (h : obs c = true) : snd (swp c) = true := byte_ind (P := fun c => obs c = true → snd (swp c) = true) (by decide +kernel) c h0 h1 h

abbrev GC := S60

theorem spec_SwapVoice_eq (c : Int) (h0 : 0 ≤ c) (h1 : c < 256) : spec_SwapVoice.f c = some (swp c, obs c) := byte_ind (P := fun c => spec_SwapVoice.f c = some (swp c, obs c)) (by decide +kernel) c h0 h1

theorem impl_SwapVoice_eq (c : Int) (h0 : 0 ≤ c) (h1 : c < 256) : impl_SwapVoice.f c = some (swp c, obs c) := byte_ind (P := fun c => impl_SwapVoice.f c = some (swp c, obs c)) (by decide +kernel) c h0 h1

theorem impl_IsSound_eq (c : Int) (h0 : 0 ≤ c) (h1 : c < 256) : impl_IsSound.f c = some (snd c) := byte_ind (P := fun c => impl_IsSound.f c = some (snd c)) (by decide +kernel) c h0 h1
theorem spec_IsSound_ev (c : Int) (h0 : 0 ≤ c) (h1 : c < 256) : Ev (fun k => spec_IsSound.f k c) (snd c) :=
 Ev.at_ (spec_IsSound.mono c) 9 (byte_ind (P := fun c => spec_IsSound.f 9 c = some (snd c)) (by decide +kernel) c h0 h1)

theorem impl_within_eq (a b c : Int) : impl_within.f a b c = some (decide (b ≤ a ∧ a ≤ c)) := by
 unfold impl_within.f
 split
 · simp [*]
 · simp [*]

theorem spec_l2Sounds_ev (s : ByteArray) (hn : s.size ≤ 140737488351232) : Ev (fun k => spec_l2Sounds.f k s) ((B s).all snd && decide (s.size ≤ 20)) := by
 have key : ∀ i, i ≤ s.size → Ev (fun k => spec_l2Sounds.l0 k s (i : Int)) (((B s).drop i).all snd && decide (s.size ≤ 20)) := by
  refine down_ind ?_ ?_
  · refine Ev.succ ?_
    simp only [spec_l2Sounds.l0, Int.lt_irrefl, if_false]
    refine Ev.const ?_
    rw [List.drop_of_length_le (by rw [B_length]; exact Nat.le_refl _)]
    simp
    omega
  · intro i hi ih
    have hB : i < (B s).length := by rw [B_length]; exact hi
    have hr := B_get_range s i hB
    refine Ev.succ ?_
    simp only [spec_l2Sounds.l0, if_pos (show (i : Int) < (s.size : Int) by omega), if_pos (show (0 : Int) ≤ i by omega), bt_nat s i hB]
    refine Ev.bind (spec_IsSound_ev _ hr.1 hr.2) ?_
    rw [drop_cons _ _ hB, List.all_cons]
    cases snd (B s)[i]
    · simp only [Bool.false_eq_true, if_false]
      exact Ev.const rfl
    · simp only [if_true, wrap_succ (show i ≤ 4611686018427387903 by omega), Bool.true_and]
      exact ih
 exact key 0 (by omega)
theorem spec_IsForm_ev (s : ByteArray) (hn : s.size ≤ 140737488351232) : Ev (fun k => spec_IsForm.f k s) (form (B s)) := by
 unfold spec_IsForm.f
 refine Ev.bind (spec_l2Sounds_ev s hn) ?_
 refine Ev.const ?_
 unfold form
 rw [B_length]
 cases (B s).all snd
 · simp
 · by_cases h : s.size ≤ 8
   · have h2 : s.size ≤ 20 := by omega
     simp [h, h2]
     omega
   · by_cases h2 : s.size ≤ 20
     · simp [h, h2]
       omega
     · simp [h, h2]
theorem impl_areSounds_ev (s : ByteArray) (hn : s.size ≤ 140737488351232) : Ev (fun k => impl_areSounds.f k s) ((B s).all snd && decide (1 ≤ s.size ∧ s.size ≤ 20)) := by
 have key : ∀ i, i ≤ s.size → Ev (fun k => impl_areSounds.l0 k s (s.size : Int) (i : Int)) (((B s).drop i).all snd && decide (1 ≤ s.size ∧ s.size ≤ 20)) := by
  refine down_ind ?_ ?_
  · refine Ev.succ ?_
    simp only [impl_areSounds.l0, Int.lt_irrefl, if_false, impl_within_eq, Option.bind_some]
    refine Ev.const ?_
    rw [List.drop_of_length_le (by rw [B_length]; exact Nat.le_refl _)]
    simp only [List.all_nil, Bool.true_and]
    exact congrArg some (decide_eq_decide.2 (by omega))
  · intro i hi ih
    have hB : i < (B s).length := by rw [B_length]; exact hi
    have hr := B_get_range s i hB
    refine Ev.succ ?_
    simp only [impl_areSounds.l0, if_pos (show (i : Int) < (s.size : Int) by omega), if_pos (show (0 : Int) ≤ i by omega), bt_nat s i hB, impl_IsSound_eq _ hr.1 hr.2, Option.bind_some]
    rw [drop_cons _ _ hB, List.all_cons]
    cases snd (B s)[i]
    · simp only [Bool.false_eq_true, if_false]
      exact Ev.const rfl
    · simp only [if_true, wrap_succ (show i ≤ 4611686018427387903 by omega), Bool.true_and]
      exact ih
 exact key 0 (by omega)
theorem impl_IsForm_ev (s : ByteArray) (hn : s.size ≤ 140737488351232) : Ev (fun k => impl_IsForm.f k s) (form (B s)) := by
 unfold impl_IsForm.f
 by_cases h0 : s.toList = []
 · simp only [if_pos h0]
   rw [toList_nil] at h0
   exact Ev.const (by rw [h0]; rfl)
 · simp only [if_neg h0]
   rw [toList_nil] at h0
   have h1 : 1 ≤ s.size := by
    rw [← B_length]
    exact List.length_pos_iff.2 h0
   by_cases h8 : s.size ≤ 8
   · simp only [if_pos (show (s.size : Int) ≤ 8 by omega)]
     refine Ev.bind (impl_areSounds_ev s hn) ?_
     refine Ev.const ?_
     unfold form
     rw [B_length]
     have h2 : s.size ≤ 20 := by omega
     simp [h1, h2, h8]
   · simp only [if_neg (show ¬ (s.size : Int) ≤ 8 by omega)]
     refine Ev.const ?_
     unfold form
     rw [B_length]
     simp [h8]

def mkC (c : List ILink) : GC := ⟨c⟩
theorem rdGC (l : List GC) (i : Nat) (h : i < l.length) : rd_T60 l (i : Int) = l[i] := by simp [rd_T60, h]
theorem btr (s : ByteArray) (i : Int) : 0 ≤ bt s i ∧ bt s i < 256 := Go.Proofs.YtlmfpkiaikjlbaaGreatB.bt_range s i
theorem bt_B (s : ByteArray) (i : Nat) (h : i < s.size) : bt s (i : Int) = (B s)[i]'(by rw [B_length]; exact h) := bt_nat s i (by rw [B_length]; exact h)
theorem genF_step (s : ByteArray) (m i l : Nat) : genF s (m + 1) i l =
 (if i < s.size then (genF s m (i + 1) l).map ((⟨bt s i, bt s i⟩ : ILink) :: ·) ++
  (if 0 < l then (genF s m (i + 1) (l - 1)).map ((⟨bt s i, 0⟩ : ILink) :: ·) ++
   (if obs (bt s i) = true then (genF s m (i + 1) (l - 1)).map ((⟨bt s i, swp (bt s i)⟩ : ILink) :: ·) else []) else []) else [[]]) ++
  (if 0 < l then (genF s m i (l - 1)).map ((⟨0, 116⟩ : ILink) :: ·) ++ (genF s m i (l - 1)).map ((⟨0, 105⟩ : ILink) :: ·) else []) := by
 rw [genF, impl_SwapVoice_eq (bt s i) (btr s i).1 (btr s i).2]
 cases obs (bt s i) <;> simp
theorem genF_len (s : ByteArray) : ∀ m i l, ∀ c ∈ genF s m i l, c.length ≤ m
 | 0, _, _, c, h => by simp [genF] at h
 | m + 1, i, l, c, h => by
  have key : ∀ i l x c, c ∈ (genF s m i l).map (x :: ·) → c.length ≤ m + 1 := by
   intro i l x c hc
   rw [List.mem_map] at hc
   obtain ⟨d, hd, rfl⟩ := hc
   have := genF_len s m i l d hd
   simp only [List.length_cons]
   omega
  rw [genF_step] at h
  rcases List.mem_append.1 h with h | h
  · split at h
    · rcases List.mem_append.1 h with h | h
      · exact key _ _ _ _ h
      · split at h
        · rcases List.mem_append.1 h with h | h
          · exact key _ _ _ _ h
          · split at h
            · exact key _ _ _ _ h
            · cases h
        · cases h
    · rw [List.mem_singleton] at h
      subst h
      exact Nat.zero_le _
  · split at h
    · rcases List.mem_append.1 h with h | h
      · exact key _ _ _ _ h
      · exact key _ _ _ _ h
    · cases h
theorem genF_small (s : ByteArray) (hn : s.size ≤ 16) (m i l : Nat) (hl : l ≤ 2) : (genF s m i l).length ≤ 7225 :=
 Nat.le_trans (genF_length s m i l) (Nat.le_trans (Nat.pow_le_pow_left (show 5 * (s.size - i + 1) ≤ 85 by omega) l) (Nat.le_trans (Nat.pow_le_pow_right (by omega) hl) (by decide)))

theorem Ev.congr_acc {α β : Type} {g : Nat → β → Option α} {r : α} {x y : β} (h : Ev (fun k => g k x) r) (e : x = y) : Ev (fun k => g k y) r := e ▸ h
theorem spec_l7Before_ev (a b : Int) (L : List GC) (hL : L.length ≤ 1000000) (hl : ∀ c ∈ L, c.f0.length ≤ 1000000) : Ev (fun k => spec_l7Before.f k a b L) (L.map fun c => mkC (⟨a, b⟩ :: c.f0)) := by
 unfold spec_l7Before.f
 have key : ∀ i, i ≤ L.length → ∀ acc : List GC, acc.length ≤ i → Ev (fun k => spec_l7Before.l0 k L acc (i : Int) a b) (acc ++ (L.drop i).map fun c => mkC (⟨a, b⟩ :: c.f0)) := by
  refine down_ind ?_ ?_
  · intro acc _
    refine Ev.succ ?_
    simp only [spec_l7Before.l0, Int.lt_irrefl, if_false]
    exact Ev.const (by simp)
  · intro i hi ih acc ha
    have h1 := hl L[i] (List.getElem_mem hi)
    refine Ev.succ ?_
    simp only [spec_l7Before.l0, if_pos (show (i : Int) < (L.length : Int) by omega), if_pos (show (0 : Int) ≤ i by omega), rdGC L i hi, Option.bind_some, List.length_cons, List.length_nil, if_pos (show 0 + 1 + L[i].f0.length < 70368744177664 by omega), if_pos (show acc.length < 5864062014805 by omega), wrap_succ (show i ≤ 4611686018427387903 by omega)]
    refine Ev.cast (ih (acc ++ [mkC (⟨a, b⟩ :: L[i].f0)]) (by simp; omega)) ?_
    rw [drop_cons L i hi]
    simp only [List.map_cons, List.append_assoc, List.cons_append, List.nil_append]
 refine Ev.cast (key 0 (by omega) [] (by simp)) ?_
 simp
theorem before_map (x : ILink) (G : List (List ILink)) : ((G.map mkC).map fun c => mkC (x :: c.f0)) = (G.map (x :: ·)).map mkC := by simp [List.map_map, Function.comp_def, mkC]
theorem l7Before_gen (s : ByteArray) (hn : s.size ≤ 16) (m i l : Nat) (hl : l ≤ 2) (hm : m ≤ 1000) (a b : Int) : Ev (fun k => spec_l7Before.f k a b ((genF s m i l).map mkC)) (((genF s m i l).map ((⟨a, b⟩ : ILink) :: ·)).map mkC) := by
 refine Ev.cast (spec_l7Before_ev a b _ ?_ ?_) (before_map _ _)
 · rw [List.length_map]
   have := genF_small s hn m i l hl
   omega
 · intro c hc
   rw [List.mem_map] at hc
   obtain ⟨d, hd, rfl⟩ := hc
   have := genF_len s m i l d hd
   simp only [mkC]
   omega
theorem spec_l7From_j1_ev (s : ByteArray) (hn : s.size ≤ 16) (m i l : Nat) (hl : l ≤ 1) (hm : m ≤ 1000) (ih : Ev (fun k => spec_l7From.f k s (i : Int) (l : Int)) ((genF s m i l).map mkC)) (acc : List (List ILink)) (ha : acc.length ≤ 100000) :
 Ev (fun k => spec_l7From.j1 k s (i : Int) ((l + 1 : Nat) : Int) (acc.map mkC)) ((acc ++ ((genF s m i l).map ((⟨0, 116⟩ : ILink) :: ·) ++ (genF s m i l).map ((⟨0, 105⟩ : ILink) :: ·))).map mkC) := by
 have hg := genF_small s hn m i l (by omega)
 refine Ev.succ ?_
 simp only [spec_l7From.j1, show wrap64 (((l + 1 : Nat) : Int) - 1) = (l : Int) by unfold wrap64; omega]
 refine Ev.bind ih ?_
 refine Ev.succ ?_
 simp only [spec_l7From.l0, if_pos (show (0 : Int) < 2 by decide), Int.le_refl, if_true, show bt (⟨#[116, 105]⟩ : ByteArray) 0 = 116 by decide +kernel]
 refine Ev.bind (l7Before_gen s hn m i l (by omega) hm _ _) ?_
 simp only [List.length_map, if_pos (show acc.length + (genF s m i l).length < 5864062014805 by omega), show wrap64 (0 + 1) = 1 by unfold wrap64; omega]
 refine Ev.succ ?_
 simp only [spec_l7From.l0, if_pos (show (1 : Int) < 2 by decide), if_pos (show (0 : Int) ≤ 1 by decide), show bt (⟨#[116, 105]⟩ : ByteArray) 1 = 105 by decide +kernel]
 refine Ev.bind (l7Before_gen s hn m i l (by omega) hm _ _) ?_
 simp only [List.length_append, List.length_map, if_pos (show acc.length + (genF s m i l).length + (genF s m i l).length < 5864062014805 by omega), show wrap64 (1 + 1) = 2 by unfold wrap64; omega]
 refine Ev.succ ?_
 simp only [spec_l7From.l0, Int.lt_irrefl, if_false]
 refine Ev.const ?_
 simp [List.map_append, List.append_assoc]
theorem spec_l7From_ev (s : ByteArray) (hn : s.size ≤ 16) : ∀ m i l, l ≤ 2 → m ≤ 1000 → i ≤ s.size → (s.size - i) + l < m → Ev (fun k => spec_l7From.f k s (i : Int) (l : Int)) ((genF s m i l).map mkC)
 | 0, _, _, _, _, _, h => by omega
 | m + 1, i, l, hl, hm, hi, h => by
  have ih := spec_l7From_ev s hn m
  -- behind the first part
  have hj : ∀ acc : List (List ILink), acc.length ≤ 7225 → Ev (fun k => spec_l7From.j0 k s (i : Int) (l : Int) (acc.map mkC))
   ((acc ++ ((if 0 < l then (if i < s.size then (genF s m (i + 1) (l - 1)).map ((⟨bt s i, 0⟩ : ILink) :: ·) ++ (if obs (bt s i) = true then (genF s m (i + 1) (l - 1)).map ((⟨bt s i, swp (bt s i)⟩ : ILink) :: ·) else []) else []) else []) ++
    (if 0 < l then (genF s m i (l - 1)).map ((⟨0, 116⟩ : ILink) :: ·) ++ (genF s m i (l - 1)).map ((⟨0, 105⟩ : ILink) :: ·) else []))).map mkC) := by
   intro acc ha
   refine Ev.succ ?_
   cases l with
   | zero =>
    simp only [spec_l7From.j0, Int.ofNat_eq_natCast, Int.natCast_zero, if_true, Nat.lt_irrefl, if_false, List.append_nil]
    exact Ev.const rfl
   | succ l =>
    have hg := genF_small s hn m (i + 1) l (by omega)
    simp only [spec_l7From.j0, if_neg (show ¬ ((l + 1 : Nat) : Int) = 0 by omega), Nat.zero_lt_succ, if_true, Nat.add_sub_cancel]
    by_cases h1 : i < s.size
    · simp only [if_pos h1, if_pos (show (i : Int) < (s.size : Int) by omega), if_pos (show (0 : Int) ≤ i by omega), wrap_succ (show i ≤ 4611686018427387903 by omega), show wrap64 (((l + 1 : Nat) : Int) - 1) = (l : Int) by unfold wrap64; omega]
      refine Ev.bind (ih (i + 1) l (by omega) (by omega) (by omega) (by omega)) ?_
      refine Ev.bind (l7Before_gen s hn m (i + 1) l (by omega) (by omega) _ _) ?_
      simp only [List.length_map, if_pos (show acc.length + (genF s m (i + 1) l).length < 5864062014805 by omega), Option.bind_some, spec_SwapVoice_eq (bt s i) (btr s i).1 (btr s i).2]
      cases ho : obs (bt s i) with
      | true =>
       simp only [if_true]
       refine Ev.bind (l7Before_gen s hn m (i + 1) l (by omega) (by omega) _ _) ?_
       simp only [List.length_append, List.length_map, if_pos (show acc.length + (genF s m (i + 1) l).length + (genF s m (i + 1) l).length < 5864062014805 by omega)]
       refine Ev.cast (Ev.congr_acc (spec_l7From_j1_ev s hn m i l (by omega) (by omega) (ih i l (by omega) (by omega) hi (by omega)) (acc ++ (genF s m (i + 1) l).map ((⟨bt s i, 0⟩ : ILink) :: ·) ++ (genF s m (i + 1) l).map ((⟨bt s i, swp (bt s i)⟩ : ILink) :: ·)) (by simp only [List.length_append, List.length_map]; omega)) (by simp [List.map_append, List.append_assoc])) ?_
       simp [List.append_assoc]
      | false =>
       simp only [Bool.false_eq_true, if_false, List.append_nil]
       refine Ev.cast (Ev.congr_acc (spec_l7From_j1_ev s hn m i l (by omega) (by omega) (ih i l (by omega) (by omega) hi (by omega)) (acc ++ (genF s m (i + 1) l).map ((⟨bt s i, 0⟩ : ILink) :: ·)) (by simp only [List.length_append, List.length_map]; omega)) (by simp [List.map_append])) ?_
       simp [List.append_assoc]
    · simp only [if_neg h1, if_neg (show ¬ (i : Int) < (s.size : Int) by omega), List.nil_append]
      exact spec_l7From_j1_ev s hn m i l (by omega) (by omega) (ih i l (by omega) (by omega) hi (by omega)) acc (by omega)
  refine Ev.succ ?_
  rw [genF_step]
  by_cases h1 : i < s.size
  · have hg := genF_small s hn m (i + 1) l (by omega)
    simp only [spec_l7From.f, Option.bind_some, if_neg (show ¬ (i : Int) = (s.size : Int) by omega), if_pos (show (0 : Int) ≤ i by omega), if_pos (show (i : Int) < (s.size : Int) by omega), wrap_succ (show i ≤ 4611686018427387903 by omega)]
    refine Ev.bind (ih (i + 1) l hl (by omega) (by omega) (by omega)) ?_
    refine Ev.bind (l7Before_gen s hn m (i + 1) l (by omega) (by omega) _ _) ?_
    simp only [List.length_nil, List.length_map, if_pos (show 0 + (genF s m (i + 1) l).length < 5864062014805 by omega), List.nil_append]
    refine Ev.cast (hj _ (by rw [List.length_map]; exact hg)) ?_
    simp only [if_pos h1, List.append_assoc]
  · have e : (i : Int) = (s.size : Int) := by omega
    simp only [spec_l7From.f, Option.bind_some, if_pos e, List.length_nil, if_pos (show 0 < 5864062014805 by omega), List.nil_append]
    refine Ev.cast (hj [[]] (by simp)) ?_
    simp only [if_neg h1, List.nil_append]
    split <;> simp

def gens (s : ByteArray) (l : Nat) : List GC := (genF s (s.size + l + 1) 0 l).map mkC
theorem spec_Generate_ev (s : ByteArray) (hs : s.size ≤ 140737488351232) : Ev (fun k => spec_Generate.f k s) (if form (B s) = true ∧ s.size ≤ 4 then gens s 2 else []) := by
 unfold spec_Generate.f
 refine Ev.bind (spec_IsForm_ev s hs) ?_
 cases form (B s)
 · simp only [Bool.false_eq_true, if_false, false_and]
   exact Ev.const rfl
 · simp only [if_true, true_and]
   by_cases h : s.size ≤ 4
   · simp only [if_neg (show ¬ (s.size : Int) > 4 by omega), if_pos h]
     refine Ev.bind ?_ (Ev.const rfl)
     exact spec_l7From_ev s (by omega) (s.size + 2 + 1) 0 2 (by omega) (by omega) (by omega) (by omega)
   · simp only [if_pos (show (s.size : Int) > 4 by omega), if_neg h]
     exact Ev.const rfl
theorem impl_Generate_ev (s : ByteArray) (hs : s.size ≤ 140737488351232) : Ev (fun k => impl_Generate.f k s) (if form (B s) = true ∧ s.size ≤ 4 then gens s 2 else []) := by
 unfold impl_Generate.f
 refine Ev.bind (impl_IsForm_ev s hs) ?_
 cases form (B s)
 · simp only [Bool.false_eq_true, if_false, false_and]
   exact Ev.const rfl
 · simp only [if_true, true_and]
   by_cases h : s.size ≤ 4
   · simp only [if_neg (show ¬ (s.size : Int) > 4 by omega), if_pos h]
     refine Ev.const ?_
     unfold impl_generate.f
     rw [if_pos ⟨by omega, by decide, by decide⟩]
     rfl
   · simp only [if_pos (show (s.size : Int) > 4 by omega), if_neg h]
     exact Ev.const rfl

def edits (l : List ILink) : Nat := l.countP fun x => !decide (x.f0 = x.f1)

def okl (x : ILink) : Prop := lk x.f0 x.f1 = true ∧ (x.f0 = 0 → x.f1 = 116 ∨ x.f1 = 105)
theorem edits_cons (x : ILink) (c : List ILink) : edits (x :: c) = (if x.f0 = x.f1 then 0 else 1) + edits c := by
 unfold edits
 rw [List.countP_cons]
 by_cases h : x.f0 = x.f1 <;> simp [h]
 omega
theorem snd_ne0 (c : Int) (h : snd c = true) : c ≠ 0 := by
 rintro rfl
 revert h
 decide
theorem lk_same (c : Int) (h : snd c = true) : lk c c = true := by
 unfold lk
 rw [if_neg (snd_ne0 c h)]
 simp [h]
theorem lk_del (c : Int) (h : snd c = true) : lk c 0 = true := by
 unfold lk
 rw [if_neg (snd_ne0 c h)]
 simp [h]
theorem lk_swp (c : Int) (h : snd c = true) (ho : obs c = true) : lk c (swp c) = true := by
 unfold lk
 rw [if_neg (snd_ne0 c h)]
 simp [h, ho]
theorem gen_sound (s : ByteArray) (hf : (B s).all snd = true) : ∀ m i l, i ≤ s.size → ∀ c ∈ genF s m i l, inL c = (B s).drop i ∧ (∀ x ∈ c, okl x) ∧ edits c ≤ l
 | 0, _, _, _, c, h => by simp [genF] at h
 | m + 1, i, l, hi, c, h => by
  have ih := gen_sound s hf m
  have hsnd : ∀ h : i < s.size, snd (bt s i) = true := fun h => by rw [bt_B s i h]; exact List.all_eq_true.1 hf _ (List.getElem_mem _)
  have hdrop : ∀ h : i < s.size, (B s).drop i = bt s i :: (B s).drop (i + 1) := fun h => by rw [bt_B s i h]; exact drop_cons _ _ _
  -- a link of the input's own
  have own : ∀ (h1 : i < s.size) (y : Int) (l' : Nat) (hy : lk (bt s i) y = true) (he : (if bt s i = y then 0 else 1) + l' ≤ l), c ∈ (genF s m (i + 1) l').map ((⟨bt s i, y⟩ : ILink) :: ·) → inL c = (B s).drop i ∧ (∀ x ∈ c, okl x) ∧ edits c ≤ l := by
   intro h1 y l' hy he hc
   rw [List.mem_map] at hc
   obtain ⟨d, hd, rfl⟩ := hc
   obtain ⟨g1, g2, g3⟩ := ih (i + 1) l' (by omega) d hd
   have h0 := snd_ne0 _ (hsnd h1)
   refine ⟨?_, ?_, ?_⟩
   · rw [inL_cons, if_neg h0, g1, hdrop h1]
   · intro x hx
     rcases List.mem_cons.1 hx with rfl | hx
     · exact ⟨hy, fun e => absurd e h0⟩
     · exact g2 x hx
   · rw [edits_cons]
     simp only
     omega
  have ins : ∀ (y : Int) (hy : y = 116 ∨ y = 105) (l' : Nat) (he : l' + 1 ≤ l), c ∈ (genF s m i l').map ((⟨0, y⟩ : ILink) :: ·) → inL c = (B s).drop i ∧ (∀ x ∈ c, okl x) ∧ edits c ≤ l := by
   intro y hy l' he hc
   rw [List.mem_map] at hc
   obtain ⟨d, hd, rfl⟩ := hc
   obtain ⟨g1, g2, g3⟩ := ih i l' hi d hd
   refine ⟨?_, ?_, ?_⟩
   · rw [inL_cons, if_pos rfl, g1]
   · intro x hx
     rcases List.mem_cons.1 hx with rfl | hx
     · exact ⟨by rcases hy with rfl | rfl <;> decide, fun _ => hy⟩
     · exact g2 x hx
   · rw [edits_cons]
     rcases hy with rfl | rfl
     · rw [if_neg (by decide)]; omega
     · rw [if_neg (by decide)]; omega
  rw [genF_step] at h
  rcases List.mem_append.1 h with h | h
  · by_cases h1 : i < s.size
    · rw [if_pos h1] at h
      rcases List.mem_append.1 h with h | h
      · exact own h1 _ l (lk_same _ (hsnd h1)) (by rw [if_pos rfl]; omega) h
      · by_cases h2 : 0 < l
        · rw [if_pos h2] at h
          rcases List.mem_append.1 h with h | h
          · exact own h1 _ (l - 1) (lk_del _ (hsnd h1)) (by split <;> omega) h
          · by_cases h3 : obs (bt s i) = true
            · rw [if_pos h3] at h
              exact own h1 _ (l - 1) (lk_swp _ (hsnd h1) h3) (by split <;> omega) h
            · rw [if_neg h3] at h
              cases h
        · rw [if_neg h2] at h
          cases h
    · rw [if_neg h1, List.mem_singleton] at h
      subst h
      refine ⟨?_, fun x hx => (by cases hx), Nat.zero_le _⟩
      rw [List.drop_of_length_le (by rw [B_length]; omega)]
      rfl
  · by_cases h2 : 0 < l
    · rw [if_pos h2] at h
      rcases List.mem_append.1 h with h | h
      · exact ins 116 (.inl rfl) (l - 1) (by omega) h
      · exact ins 105 (.inr rfl) (l - 1) (by omega) h
    · rw [if_neg h2] at h
      cases h
theorem impl_isLink_eq (a b : Int) (ha : 0 ≤ a ∧ a < 256) (hb : 0 ≤ b ∧ b < 256) : impl_isLink.f a b = some (lk a b) := by
 unfold impl_isLink.f lk
 rw [impl_IsSound_eq a ha.1 ha.2, impl_IsSound_eq b hb.1 hb.2, impl_SwapVoice_eq a ha.1 ha.2]
 by_cases h : a = 0
 · simp [h]
 · simp only [if_neg h, Option.bind_some]
   cases snd a
   · simp
   · by_cases h2 : b = 0
     · simp [h2]
     · by_cases h3 : b = a
       · simp [h3]
       · cases obs a
         · simp [h2, h3, show ¬ a = b from fun e => h3 e.symm]
         · simp only [h2, h3, if_true, if_false, show ¬ a = b from fun e => h3 e.symm, decide_false, Bool.false_or, Bool.true_and]
           rfl

theorem spec_l6In_ev (l : List ILink) (hl : l.length ≤ 1048576) : Ev (fun k => spec_l6In.f k l) (strOfNums (inL l)) := by
 have key : ∀ i, i ≤ l.length → ∀ acc : List Int, acc.length ≤ i → Ev (fun k => spec_l6In.l0 k acc (i : Int) l) (strOfNums (acc ++ inL (l.drop i))) := by
  refine down_ind ?_ ?_
  · intro acc _
    refine Ev.succ ?_
    simp only [spec_l6In.l0, Int.lt_irrefl, if_false]
    exact Ev.const (by simp [inL])
  · intro i hi ih acc hacc
    refine Ev.succ ?_
    simp only [spec_l6In.l0, if_pos (show (i : Int) < (l.length : Int) by omega), if_pos (show (0 : Int) ≤ i by omega), rdK l i hi, wrap_succ (show i ≤ 4611686018427387903 by omega), if_pos (show acc.length < 140737488355328 by omega)]
    rw [drop_cons l i hi, inL_cons]
    by_cases h : l[i].f0 = 0
    · simp only [if_pos h]
      exact ih acc (by omega)
    · simp only [if_neg h]
      refine Ev.cast (ih (acc ++ [l[i].f0]) (by simp; omega)) ?_
      simp
 refine Ev.cast (key 0 (by omega) [] (by simp)) ?_
 simp
theorem spec_l6Out_ev (l : List ILink) (hl : l.length ≤ 1048576) : Ev (fun k => spec_l6Out.f k l) (strOfNums (outL l)) := by
 have key : ∀ i, i ≤ l.length → ∀ acc : List Int, acc.length ≤ i → Ev (fun k => spec_l6Out.l0 k acc (i : Int) l) (strOfNums (acc ++ outL (l.drop i))) := by
  refine down_ind ?_ ?_
  · intro acc _
    refine Ev.succ ?_
    simp only [spec_l6Out.l0, Int.lt_irrefl, if_false]
    exact Ev.const (by simp [outL])
  · intro i hi ih acc hacc
    refine Ev.succ ?_
    simp only [spec_l6Out.l0, if_pos (show (i : Int) < (l.length : Int) by omega), if_pos (show (0 : Int) ≤ i by omega), rdK l i hi, wrap_succ (show i ≤ 4611686018427387903 by omega), if_pos (show acc.length < 140737488355328 by omega)]
    rw [drop_cons l i hi, outL_cons]
    by_cases h : l[i].f1 = 0
    · simp only [if_pos h]
      exact ih acc (by omega)
    · simp only [if_neg h]
      refine Ev.cast (ih (acc ++ [l[i].f1]) (by simp; omega)) ?_
      simp
 refine Ev.cast (key 0 (by omega) [] (by simp)) ?_
 simp

theorem impl_sounds_ev (l : List ILink) (hl : l.length ≤ 1048576) (o : Bool) : Ev (fun k => impl_sounds.f k l o) (strOfNums (if o then outL l else inL l)) := by
 have key : ∀ i, i ≤ l.length → ∀ acc : List Int, acc.length ≤ i → Ev (fun k => impl_sounds.l0 k o acc l (l.length : Int) (i : Int)) (strOfNums (acc ++ (if o then outL (l.drop i) else inL (l.drop i)))) := by
  refine down_ind ?_ ?_
  · intro acc _
    refine Ev.succ ?_
    simp only [impl_sounds.l0, Int.lt_irrefl, if_false]
    exact Ev.const (by simp [outL, inL])
  · intro i hi ih acc hacc
    refine Ev.succ ?_
    simp only [impl_sounds.l0, if_pos (show (i : Int) < (l.length : Int) by omega), if_pos (show (0 : Int) ≤ i by omega), rdK l i hi, wrap_succ (show i ≤ 4611686018427387903 by omega), if_pos (show acc.length < 140737488355328 by omega)]
    rw [drop_cons l i hi, outL_cons, inL_cons]
    cases o
    · simp only [Bool.false_eq_true, if_false] at ih ⊢
      by_cases h : l[i].f0 = 0
      · simp only [if_pos h]
        exact ih acc (by omega)
      · simp only [if_neg h]
        refine Ev.cast (ih (acc ++ [l[i].f0]) (by simp; omega)) ?_
        simp
    · simp only [if_true] at ih ⊢
      by_cases h : l[i].f1 = 0
      · simp only [if_pos h]
        exact ih acc (by omega)
      · simp only [if_neg h]
        refine Ev.cast (ih (acc ++ [l[i].f1]) (by simp; omega)) ?_
        simp
 refine Ev.cast (key 0 (by omega) [] (by simp)) ?_
 simp

theorem spec_formNums (l : List Int) (hl : l.length ≤ 1048576) (h : ∀ c ∈ l, 0 ≤ c ∧ c < 256) : Ev (fun k => spec_IsForm.f k (strOfNums l)) (form l) := by
 have := spec_IsForm_ev (strOfNums l) (by rw [size_nums]; omega)
 rwa [B_nums l h] at this
theorem impl_formNums (l : List Int) (hl : l.length ≤ 1048576) (h : ∀ c ∈ l, 0 ≤ c ∧ c < 256) : Ev (fun k => impl_IsForm.f k (strOfNums l)) (form l) := by
 have := impl_IsForm_ev (strOfNums l) (by rw [size_nums]; omega)
 rwa [B_nums l h] at this

theorem impl_IsCandidate_ev (l : List ILink) (hl : l.length ≤ 1048576) (hb : ∀ x ∈ l, okB x) : Ev (fun k => impl_IsCandidate.f k l) (cand l) := by
 unfold impl_IsCandidate.f cand
 have h1 := inL_length l
 have h2 := outL_length l
 have key : ∀ i, i ≤ l.length → Ev (fun k => impl_IsCandidate.l0 k l (l.length : Int) (i : Int) l) ((l.drop i).all (fun x => lk x.f0 x.f1) && (decide (l.length ≤ 16) && (form (inL l) && form (outL l)))) := by
  refine down_ind ?_ ?_
  · refine Ev.succ ?_
    simp only [impl_IsCandidate.l0, Int.lt_irrefl, if_false]
    rw [List.drop_of_length_le (Nat.le_refl _), List.all_nil, Bool.true_and]
    by_cases h : l.length ≤ 16
    · simp only [if_pos (show (l.length : Int) ≤ 16 by omega), h, decide_true, Bool.true_and]
      refine Ev.bind (impl_sounds_ev l hl false) (Ev.bind (impl_formNums (inL l) (by omega) (inL_range l hb)) ?_)
      cases form (inL l)
      · simp only [Bool.false_eq_true, if_false, Bool.false_and]
        exact Ev.const rfl
      · simp only [if_true, Bool.true_and]
        refine Ev.bind (impl_sounds_ev l hl true) (Ev.bind (impl_formNums (outL l) (by omega) (outL_range l hb)) (Ev.const rfl))
    · simp only [if_neg (show ¬ (l.length : Int) ≤ 16 by omega), h, decide_false, Bool.false_and]
      exact Ev.const rfl
  · intro i hi ih
    have hx := hb l[i] (List.getElem_mem hi)
    refine Ev.succ ?_
    simp only [impl_IsCandidate.l0, if_pos (show (i : Int) < (l.length : Int) by omega), if_pos (show (0 : Int) ≤ i by omega), rdK l i hi, wrap_succ (show i ≤ 4611686018427387903 by omega), impl_isLink_eq _ _ hx.1 hx.2, Option.bind_some]
    rw [drop_cons l i hi, List.all_cons]
    cases lk l[i].f0 l[i].f1
    · simp only [Bool.false_eq_true, if_false, Bool.false_and]
      exact Ev.const rfl
    · simp only [if_true, Bool.true_and]
      exact ih
 exact key 0 (by omega)
theorem spec_IsCandidate_ev (l : List ILink) (hl : l.length ≤ 1048576) (hb : ∀ x ∈ l, okB x) : Ev (fun k => spec_IsCandidate.f k l) (cand l) := by
 unfold spec_IsCandidate.f cand
 have h1 := inL_length l
 have h2 := outL_length l
 have key : ∀ i, i ≤ l.length → Ev (fun k => spec_IsCandidate.l0 k (i : Int) l) ((l.drop i).all (fun x => lk x.f0 x.f1) && (decide (l.length ≤ 16) && (form (inL l) && form (outL l)))) := by
  refine down_ind ?_ ?_
  · refine Ev.succ ?_
    simp only [spec_IsCandidate.l0, Int.lt_irrefl, if_false]
    rw [List.drop_of_length_le (Nat.le_refl _), List.all_nil, Bool.true_and]
    by_cases h : l.length ≤ 16
    · simp only [if_pos (show (l.length : Int) ≤ 16 by omega), h, decide_true, Bool.true_and]
      refine Ev.bind (spec_l6In_ev l hl) (Ev.bind (spec_formNums (inL l) (by omega) (inL_range l hb)) ?_)
      cases form (inL l)
      · simp only [Bool.false_eq_true, if_false, Bool.false_and]
        exact Ev.const rfl
      · simp only [if_true, Bool.true_and]
        refine Ev.bind (spec_l6Out_ev l hl) (Ev.bind (spec_formNums (outL l) (by omega) (outL_range l hb)) (Ev.const rfl))
    · simp only [if_neg (show ¬ (l.length : Int) ≤ 16 by omega), h, decide_false, Bool.false_and]
      exact Ev.const rfl
  · intro i hi ih
    have hx := hb l[i] (List.getElem_mem hi)
    rw [drop_cons l i hi, List.all_cons]
    have hr := rdK l i hi
    revert hx
    generalize hxe : l[i] = x at hr ⊢
    intro hx
    have bad : ∀ (y : Int) (o : Bool), lk x.f0 x.f1 = false → Ev (fun k => spec_IsCandidate.j1 k (i : Int) y o true l x.f0 x.f1) (lk x.f0 x.f1 && (l.drop (i + 1)).all (fun x => lk x.f0 x.f1) && (decide (l.length ≤ 16) && (form (inL l) && form (outL l)))) := by
     intro y o h
     refine Ev.succ ?_
     simp only [spec_IsCandidate.j1, if_true, h, Bool.false_and]
     exact Ev.const rfl
    have good : (x.f0 = 0 → snd x.f1 = true) → (x.f0 ≠ 0 → snd x.f0 = true) → Ev (fun k => spec_IsCandidate.j1 k (i : Int) (swp x.f0) (obs x.f0) false l x.f0 x.f1) (lk x.f0 x.f1 && (l.drop (i + 1)).all (fun x => lk x.f0 x.f1) && (decide (l.length ≤ 16) && (form (inL l) && form (outL l)))) := by
     intro hz hn
     refine Ev.succ ?_
     simp only [spec_IsCandidate.j1, Bool.false_eq_true, if_false, wrap_succ (show i ≤ 4611686018427387903 by omega)]
     by_cases h0 : x.f0 = 0
     · simp only [if_pos h0, lk, hz h0, Bool.true_and]
       exact ih
     · simp only [if_neg h0, lk, hn h0, Bool.true_and]
       by_cases h1 : x.f1 = 0
       · simp only [h1, if_true, decide_true, Bool.true_or, Bool.true_and]
         exact ih
       · by_cases h2 : x.f0 = x.f1
         · simp only [if_neg h1, if_pos h2, h2, decide_true, Bool.true_or, Bool.or_true, Bool.true_and]
           exact ih
         · cases obs x.f0
           · simp only [if_neg h1, if_neg h2, h1, h2, decide_false, Bool.false_or, Bool.false_and, Bool.false_eq_true, if_false]
             exact Ev.const rfl
           · by_cases h3 : swp x.f0 = x.f1
             · simp only [if_neg h1, if_neg h2, h1, h2, if_pos h3, h3, decide_false, decide_true, Bool.false_or, Bool.true_and, if_true]
               exact ih
             · simp only [if_neg h1, if_neg h2, h1, h2, if_neg h3, h3, decide_false, Bool.false_or, Bool.true_and, if_true, Bool.false_and]
               exact Ev.const rfl
    have hno : x.f0 ≠ 0 → snd x.f1 = false → x.f1 ≠ 0 → lk x.f0 x.f1 = false := by
     intro h0 hs h1
     simp only [lk, if_neg h0, h1, decide_false, Bool.false_or]
     cases hs0 : snd x.f0
     · rfl
     · simp only [Bool.true_and]
       have e1 : ¬ x.f0 = x.f1 := fun e => by rw [e, hs] at hs0; exact absurd hs0 (by simp)
       simp only [e1, decide_false, Bool.false_or]
       cases ho : obs x.f0
       · rfl
       · have := snd_swp x.f0 hx.1.1 hx.1.2 ho
         have e2 : ¬ swp x.f0 = x.f1 := fun e => by rw [e, hs] at this; exact absurd this (by simp)
         simp [e2]
    refine Ev.succ ?_
    simp only [spec_IsCandidate.l0, if_pos (show (i : Int) < (l.length : Int) by omega), if_pos (show (0 : Int) ≤ i by omega), hr, spec_SwapVoice_eq _ hx.1.1 hx.1.2, Option.bind_some]
    by_cases h0 : x.f0 = 0
    · have hz : snd 0 = false := by decide
      by_cases h1 : x.f1 = 0
      · simp only [if_pos h0, if_pos h1, show (x.f1 == 0) = true by rw [h1]; rfl]
        exact bad _ _ (by simp [lk, h0, h1, hz])
      · simp only [if_pos h0, if_neg h1, show (x.f1 == 0) = false from beq_eq_false_iff_ne.2 h1]
        refine Ev.bind (spec_IsSound_ev _ hx.2.1 hx.2.2) ?_
        cases hs : snd x.f1
        · simp only [Bool.false_eq_true, if_false]
          exact bad _ _ (by simp [lk, h0, hs])
        · simp only [if_true]
          exact good (fun _ => hs) (fun h => absurd h0 h)
    · simp only [if_neg h0]
      refine Ev.bind (spec_IsSound_ev _ hx.1.1 hx.1.2) ?_
      cases hs0 : snd x.f0
      · simp only [Bool.false_eq_true, if_false]
        exact bad _ _ (by simp [lk, h0, hs0])
      · simp only [if_true]
        by_cases h1 : x.f1 = 0
        · simp only [if_pos h1]
          exact good (fun h => absurd h h0) (fun _ => hs0)
        · simp only [if_neg h1]
          refine Ev.bind (spec_IsSound_ev _ hx.2.1 hx.2.2) ?_
          cases hs : snd x.f1
          · simp only [Bool.false_eq_true, if_false]
            exact bad _ _ (hno h0 hs h1)
          · simp only [if_true]
            exact good (fun h => absurd h h0) (fun _ => hs0)
 exact key 0 (by omega)

theorem snd_range (c : Int) (h : snd c = true) : 0 ≤ c ∧ c < 256 := by
 unfold snd at h
 simp only [List.mem_cons, List.not_mem_nil, or_false, decide_eq_true_eq] at h
 omega
theorem lk_bytes {x : ILink} (h : lk x.f0 x.f1 = true) : okB x ∧ (x.f1 ≠ 0 → snd x.f1 = true) := by
 unfold lk at h
 by_cases h0 : x.f0 = 0
 · rw [if_pos h0] at h
   exact ⟨⟨by rw [h0]; decide, snd_range _ h⟩, fun _ => h⟩
 · rw [if_neg h0] at h
   simp only [Bool.and_eq_true, Bool.or_eq_true, decide_eq_true_eq] at h
   have hr := snd_range _ h.1
   have hs : x.f1 ≠ 0 → snd x.f1 = true := by
    intro h1
    rcases h.2 with e | e | ⟨e, e'⟩
    · exact absurd e h1
    · rw [← e]; exact h.1
    · rw [← e']; exact snd_swp _ hr.1 hr.2 e
   refine ⟨⟨hr, ?_⟩, hs⟩
   by_cases h1 : x.f1 = 0
   · rw [h1]; decide
   · exact snd_range _ (hs h1)
theorem cand_of {s : ByteArray} (hf : form (B s) = true) {c : List ILink} (hl : c.length ≤ 8) (h1 : inL c = B s) (h2 : ∀ x ∈ c, okl x) : cand c = true ∧ ∀ x ∈ c, okB x := by
 refine ⟨?_, fun x hx => (lk_bytes (h2 x hx).1).1⟩
 unfold cand
 rw [h1, hf]
 have e1 : (c.all fun x => lk x.f0 x.f1) = true := List.all_eq_true.2 fun x hx => (h2 x hx).1
 have e2 : form (outL c) = true := by
  unfold form
  rw [Bool.and_eq_true, decide_eq_true_eq]
  refine ⟨List.all_eq_true.2 fun y hy => ?_, Nat.le_trans (outL_length c) hl⟩
  unfold outL at hy
  rw [List.mem_map] at hy
  obtain ⟨x, hx, rfl⟩ := hy
  rw [List.mem_filter] at hx
  exact (lk_bytes (h2 x hx.1).1).2 (by simpa using hx.2)
 rw [e1, e2]
 simp
 omega
theorem gens_cand (s : ByteArray) (hf : form (B s) = true) (h4 : s.size ≤ 4) : ∀ c ∈ gens s 2, cand c.f0 = true ∧ (∀ x ∈ c.f0, okB x) ∧ c.f0.length ≤ 8 := by
 intro c hc
 unfold gens at hc
 rw [List.mem_map] at hc
 obtain ⟨d, hd, rfl⟩ := hc
 have h1 := genF_len s _ 0 2 d hd
 obtain ⟨g1, g2, g3⟩ := gen_sound s (Bool.and_eq_true_iff.1 hf).1 _ 0 2 (Nat.zero_le _) d hd
 have hl : d.length ≤ 8 := by omega
 exact ⟨(cand_of hf hl (by simpa using g1) g2).1, (cand_of hf hl (by simpa using g1) g2).2, hl⟩
theorem gens_length (s : ByteArray) (h4 : s.size ≤ 4) : (gens s 2).length ≤ 7225 := by
 unfold gens
 rw [List.length_map]
 exact genF_small s (by omega) _ 0 2 (by omega)
def genR (s : ByteArray) : List GC := if form (B s) = true ∧ s.size ≤ 4 then gens s 2 else []
theorem genR_good (s : ByteArray) : (∀ c ∈ genR s, cand c.f0 = true ∧ (∀ x ∈ c.f0, okB x) ∧ c.f0.length ≤ 8) ∧ (genR s).length ≤ 7225 := by
 unfold genR
 split
 · rename_i h
   exact ⟨gens_cand s h.1 h.2, gens_length s h.2⟩
 · exact ⟨fun c hc => (by cases hc), by simp⟩

def outS (l : List ILink) : ByteArray := if cand l = true then strOfNums (outL l) else ⟨#[]⟩
theorem spec_OutputOf_ev (l : List ILink) (hl : l.length ≤ 1048576) (hb : ∀ x ∈ l, okB x) : Ev (fun k => spec_OutputOf.f k l) (outS l) := by
 unfold spec_OutputOf.f outS
 refine Ev.bind (spec_IsCandidate_ev l hl hb) ?_
 cases cand l
 · simp only [Bool.false_eq_true, if_false]
   exact Ev.const rfl
 · simp only [if_true]
   exact Ev.bind (spec_l6Out_ev l hl) (Ev.const rfl)
theorem impl_OutputOf_ev (l : List ILink) (hl : l.length ≤ 1048576) (hb : ∀ x ∈ l, okB x) : Ev (fun k => impl_OutputOf.f k l) (outS l) := by
 unfold impl_OutputOf.f outS
 refine Ev.bind (impl_IsCandidate_ev l hl hb) ?_
 cases cand l
 · simp only [Bool.false_eq_true, if_false]
   exact Ev.const rfl
 · simp only [if_true]
   exact Ev.bind (impl_sounds_ev l hl true) (Ev.const rfl)
theorem outS_size (l : List ILink) (hl : l.length ≤ 1048576) : (outS l).size ≤ 1048576 := by
 unfold outS
 split
 · rw [size_nums]
   have := outL_length l
   omega
 · exact Nat.zero_le _

def cns (c : Int) : Bool := snd c && !vow c
def vls (c : Int) : Bool := decide (c = 112 ∨ c = 116)
def pOnsetless (b x h : Int) : Bool := vow x && !cns b
def pCodas (b x h : Int) : Bool := cns x && !vow h
def pClusters (b x h : Int) : Bool := cns b && cns x
def pVoiced (b x h : Int) : Bool := voi x
def pFinalVoiced (b x h : Int) : Bool := voi x && (h == 0)
def pNasalVoiceless (b x h : Int) : Bool := decide (b = 110) && vls x
def cntP (p : Int → Int → Int → Bool) (l : List Int) : Nat := if form l then plc p l 0 else 0

theorem places_G_ev (PF : Int → Int → Int → Option Bool) (s : ByteArray) (hn : s.size ≤ 140737488351232) (p : Int → Int → Int → Bool) (hp : ∀ a b c, 0 ≤ a ∧ a < 256 → 0 ≤ b ∧ b < 256 → 0 ≤ c ∧ c < 256 → PF a b c = some (p a b c)) :
 Ev (fun k => impl_places_G.f PF k s ()) ((cntP p (B s) : Nat) : Int) := by
 unfold impl_places_G.f cntP
 have key : ∀ i, i ≤ s.size → ∀ n : Nat, n ≤ i → Ev (fun k => impl_places_G.l0 PF k s (n : Int) (s.size : Int) (i : Int)) ((n + (if form (B s) then plc p (B s) i else 0) : Nat) : Int) := by
  refine down_ind ?_ ?_
  · intro n hn'
    refine Ev.succ ?_
    simp only [impl_places_G.l0, Int.lt_irrefl, if_false]
    exact Ev.const (by rw [plc_end _ _ (by rw [B_length]; exact Nat.le_refl _)]; simp)
  · intro i hi ih n hn'
    have hB : i < (B s).length := by rw [B_length]; exact hi
    have J2 : ∀ b h, (0 ≤ b ∧ b < 256) → (0 ≤ h ∧ h < 256) → b = befA (B s) i → h = behA (B s) i → Ev (fun k => impl_places_G.j2 PF k s (n : Int) (i : Int) b h (s.size : Int) (i : Int)) ((n + (if form (B s) then plc p (B s) i else 0) : Nat) : Int) := by
     intro b h hb hh eb eh
     refine Ev.succ ?_
     simp only [impl_places_G.j2]
     refine Ev.bind (impl_IsForm_ev s hn) ?_
     cases hf : form (B s)
     · simp only [Bool.false_eq_true, if_false, wrap_succ (show i ≤ 4611686018427387903 by omega)]
       refine Ev.cast (ih n (by omega)) ?_
       simp [hf]
     · simp only [if_true, if_pos (show (0 : Int) ≤ i by omega), if_pos (show (i : Int) < (s.size : Int) by omega), bt_nat s i hB, hp b _ h hb (B_get_range s i hB) hh, Option.bind_some, wrap_succ (show i ≤ 4611686018427387903 by omega)]
       rw [plc_step p (B s) i hB, ← eb, ← eh]
       cases p b (B s)[i] h
       · simp only [Bool.false_eq_true, if_false]
         refine Ev.cast (ih n (by omega)) ?_
         simp [hf]
       · simp only [if_true, wrap_succ (show n ≤ 4611686018427387903 by omega)]
         refine Ev.cast (ih (n + 1) (by omega)) ?_
         simp [hf]
         omega
    have J1 : ∀ b, (0 ≤ b ∧ b < 256) → b = befA (B s) i → Ev (fun k => impl_places_G.j1 PF k s (n : Int) (i : Int) b 0 (s.size : Int) (i : Int)) ((n + (if form (B s) then plc p (B s) i else 0) : Nat) : Int) := by
     intro b hb eb
     refine Ev.succ ?_
     simp only [impl_places_G.j1, wrap_succ (show i ≤ 4611686018427387903 by omega)]
     by_cases h1 : i + 1 < s.size
     · have hB1 : i + 1 < (B s).length := by rw [B_length]; exact h1
       simp only [if_pos (show (((i + 1 : Nat)) : Int) < (s.size : Int) by omega), if_pos (show (0 : Int) ≤ ((i + 1 : Nat) : Int) by omega), bt_nat s (i + 1) hB1]
       exact J2 b _ hb (B_get_range s (i + 1) hB1) eb (behA_in _ _ hB1).symm
     · simp only [if_neg (show ¬ (((i + 1 : Nat)) : Int) < (s.size : Int) by omega)]
       exact J2 b 0 hb (by omega) eb (behA_out _ _ (by rw [B_length]; exact h1)).symm
    refine Ev.succ ?_
    simp only [impl_places_G.l0, if_pos (show (i : Int) < (s.size : Int) by omega)]
    by_cases h0 : i = 0
    · simp only [if_neg (show ¬ (i : Int) > 0 by omega)]
      exact J1 0 (by omega) (by simp [befA, h0])
    · have hBm : i - 1 < (B s).length := by omega
      simp only [if_pos (show (i : Int) > 0 by omega), show wrap64 ((i : Int) - 1) = ((i - 1 : Nat) : Int) by unfold wrap64; omega, if_pos (show (0 : Int) ≤ ((i - 1 : Nat) : Int) by omega), if_pos (show ((i - 1 : Nat) : Int) < (s.size : Int) by omega), bt_nat s (i - 1) hBm]
      exact J1 _ (B_get_range s (i - 1) hBm) (befA_pos _ _ h0 hB).symm
 have := key 0 (by omega) 0 (by omega)
 simpa using this

theorem places_at_CountOnsetless_ev (s : ByteArray) (hn : s.size ≤ 140737488351232) (p : Int → Int → Int → Bool) (hp : ∀ a b c, 0 ≤ a ∧ a < 256 → 0 ≤ b ∧ b < 256 → 0 ≤ c ∧ c < 256 → impl_CountOnsetless_1.f a b c = some (p a b c)) :
 Ev (fun k => impl_places_at_CountOnsetless_1.f k s ()) ((cntP p (B s) : Nat) : Int) := places_G_ev impl_CountOnsetless_1.f s hn p hp

theorem impl_isVowel_eq (c : Int) (h0 : 0 ≤ c) (h1 : c < 256) : impl_isVowel.f c = some (vow c) := byte_ind (P := fun c => impl_isVowel.f c = some (vow c)) (by decide +kernel) c h0 h1

theorem impl_isConsonant_eq (c : Int) (h0 : 0 ≤ c) (h1 : c < 256) : impl_isConsonant.f c = some (cns c) := byte_ind (P := fun c => impl_isConsonant.f c = some (cns c)) (by decide +kernel) c h0 h1

theorem getD_in (l : List Int) (i : Nat) (h : i < l.length) : l.getD i 0 = l[i] := by simp [h]

theorem form_snd {l : List Int} (hf : form l = true) (i : Nat) (h : i < l.length) : snd l[i] = true := List.all_eq_true.1 (Bool.and_eq_true_iff.1 hf).1 _ (List.getElem_mem h)
theorem cns_of_snd {c : Int} (h : snd c = true) : cns c = !vow c := by simp [cns, h]
theorem behA_getD (l : List Int) (i : Nat) : behA l i = l.getD (i + 1) 0 := rfl
theorem spec_CountOnsetless_gen (s : ByteArray) (hn : s.size ≤ 140737488351232) (p : Int → Int → Int → Bool) (st : Nat)
 (step : ∀ i (hi : i < (B s).length) (n : Nat), n ≤ i → st ≤ i → form (B s) = true → ∀ r, Ev (fun k => spec_CountOnsetless.l0 k s ((n + (if p (befA (B s) i) (B s)[i] (behA (B s) i) then 1 else 0) : Nat) : Int) ((i + 1 : Nat) : Int)) r → Ev (fun k => spec_CountOnsetless.j1 k s (n : Int) (i : Int) true) r) :
 ∀ i, i ≤ s.size → st ≤ i → ∀ n : Nat, n ≤ i → Ev (fun k => spec_CountOnsetless.l0 k s (n : Int) (i : Int)) ((n + (if form (B s) then plc p (B s) i else 0) : Nat) : Int) := by
 refine down_ind ?_ ?_
 · intro _ n hn'
   refine Ev.succ ?_
   simp only [spec_CountOnsetless.l0, Int.lt_irrefl, if_false]
   refine Ev.succ ?_
   simp only [spec_CountOnsetless.j1, Bool.false_eq_true, if_false]
   exact Ev.const (by rw [plc_end _ _ (by rw [B_length]; exact Nat.le_refl _)]; simp)
 · intro i hi ih hst n hn'
   have hB : i < (B s).length := by rw [B_length]; exact hi
   refine Ev.succ ?_
   simp only [spec_CountOnsetless.l0, if_pos (show (i : Int) < (s.size : Int) by omega)]
   refine Ev.bind (spec_IsForm_ev s hn) ?_
   cases hf : form (B s)
   · refine Ev.succ ?_
     simp only [spec_CountOnsetless.j1, Bool.false_eq_true, if_false]
     exact Ev.const rfl
   · refine step i hB n hn' hst hf _ ?_
     rw [plc_step p (B s) i hB]
     by_cases hp : p (befA (B s) i) (B s)[i] (behA (B s) i) = true
     · simp only [if_pos hp]
       refine Ev.cast (ih (by omega) (n + 1) (by omega)) ?_
       simp [hf]
       omega
     · simp only [if_neg hp]
       refine Ev.cast (ih (by omega) n (by omega)) ?_
       simp [hf]

theorem spec_HasFeature_eq (c : Int) (h0 : 0 ≤ c) (h1 : c < 256) (f : Int) (hf : f ∈ ([0, 1, 2, 3, 4] : List Int)) : spec_HasFeature.f c f = some (feat c f) := byte_ind (P := fun c => ∀ f ∈ ([0, 1, 2, 3, 4] : List Int), spec_HasFeature.f c f = some (feat c f)) (by decide +kernel) c h0 h1 f hf

theorem spec_IsVowelAt_eq (s : ByteArray) (i : Nat) : spec_IsVowelAt.f s (i : Int) = some (vow ((B s).getD i 0)) := by
 unfold spec_IsVowelAt.f
 rw [if_pos (show (i : Int) ≥ 0 by omega)]
 by_cases h : i < s.size
 · have hB : i < (B s).length := by rw [B_length]; exact h
   rw [if_pos (by omega), if_pos (by omega), bt_nat s i hB, spec_HasFeature_eq _ (B_get_range s i hB).1 (B_get_range s i hB).2 0 (by decide)]
   simp only [Option.bind_some, feat, if_true, List.getD_eq_getElem?_getD, List.getElem?_eq_getElem hB, Option.getD_some, vow]
   simp
 · rw [if_neg (by omega)]
   simp only [List.getD_eq_getElem?_getD, List.getElem?_eq_none (show (B s).length ≤ i by rw [B_length]; omega)]
   rfl

theorem impl_CountOnsetless_ev (s : ByteArray) (hn : s.size ≤ 140737488351232) : Ev (fun k => impl_CountOnsetless.f k s) ((cntP pOnsetless (B s) : Nat) : Int) := by
 unfold impl_CountOnsetless.f
 refine Ev.bind (places_at_CountOnsetless_ev s hn pOnsetless ?_) (Ev.const rfl)
 intro a b c ha hb _
 unfold impl_CountOnsetless_1.f pOnsetless
 rw [impl_isVowel_eq b hb.1 hb.2, impl_isConsonant_eq a ha.1 ha.2]
 cases vow b <;> rfl
theorem spec_CountOnsetless_ev (s : ByteArray) (hn : s.size ≤ 140737488351232) : Ev (fun k => spec_CountOnsetless.f k s) ((cntP pOnsetless (B s) : Nat) : Int) := by
 unfold spec_CountOnsetless.f
 refine Ev.cast (spec_CountOnsetless_gen s hn pOnsetless 0 ?_ 0 (by omega) (by omega) 0 (by omega)) (by simp [cntP])
 intro i hi n hn' _ hf r ih
 have hb := B_length s
 refine Ev.succ ?_
 simp only [spec_CountOnsetless.j1, if_true, spec_IsVowelAt_eq, Option.bind_some, getD_in _ i hi, wrap_succ (show i ≤ 4611686018427387903 by omega), wrap_succ (show n ≤ 4611686018427387903 by omega)]
 unfold pOnsetless at ih
 cases hx : vow (B s)[i]
 · simp only [hx, Bool.false_and, Bool.false_eq_true, if_false, Nat.add_zero] at ih ⊢
   exact ih
 · by_cases h0 : i = 0
   · simp only [if_true, if_pos (show (i : Int) = 0 by omega)]
     simp only [hx, befA, if_pos h0, show cns 0 = false by decide, Bool.not_false, Bool.and_self, if_true] at ih
     exact ih
   · have hm : i - 1 < (B s).length := by omega
     simp only [if_true, if_neg (show ¬ (i : Int) = 0 by omega), show wrap64 ((i : Int) - 1) = ((i - 1 : Nat) : Int) by unfold wrap64; omega, spec_IsVowelAt_eq, Option.bind_some, getD_in _ (i - 1) hm]
     simp only [hx, befA_pos _ i h0 hi, cns_of_snd (form_snd hf (i - 1) hm), Bool.not_not, Bool.true_and] at ih
     cases hy : vow (B s)[i - 1]
     · simp only [hy, Bool.false_eq_true, if_false, Nat.add_zero] at ih ⊢
       exact ih
     · simp only [hy, if_true] at ih ⊢
       exact ih

theorem places_at_CountCodas_ev (s : ByteArray) (hn : s.size ≤ 140737488351232) (p : Int → Int → Int → Bool) (hp : ∀ a b c, 0 ≤ a ∧ a < 256 → 0 ≤ b ∧ b < 256 → 0 ≤ c ∧ c < 256 → impl_CountCodas_1.f a b c = some (p a b c)) :
 Ev (fun k => impl_places_at_CountCodas_1.f k s ()) ((cntP p (B s) : Nat) : Int) := places_G_ev impl_CountCodas_1.f s hn p hp

theorem spec_CountCodas_gen (s : ByteArray) (hn : s.size ≤ 140737488351232) (p : Int → Int → Int → Bool) (st : Nat)
 (step : ∀ i (hi : i < (B s).length) (n : Nat), n ≤ i → st ≤ i → form (B s) = true → ∀ r, Ev (fun k => spec_CountCodas.l0 k s ((n + (if p (befA (B s) i) (B s)[i] (behA (B s) i) then 1 else 0) : Nat) : Int) ((i + 1 : Nat) : Int)) r → Ev (fun k => spec_CountCodas.j1 k s (n : Int) (i : Int) true) r) :
 ∀ i, i ≤ s.size → st ≤ i → ∀ n : Nat, n ≤ i → Ev (fun k => spec_CountCodas.l0 k s (n : Int) (i : Int)) ((n + (if form (B s) then plc p (B s) i else 0) : Nat) : Int) := by
 refine down_ind ?_ ?_
 · intro _ n hn'
   refine Ev.succ ?_
   simp only [spec_CountCodas.l0, Int.lt_irrefl, if_false]
   refine Ev.succ ?_
   simp only [spec_CountCodas.j1, Bool.false_eq_true, if_false]
   exact Ev.const (by rw [plc_end _ _ (by rw [B_length]; exact Nat.le_refl _)]; simp)
 · intro i hi ih hst n hn'
   have hB : i < (B s).length := by rw [B_length]; exact hi
   refine Ev.succ ?_
   simp only [spec_CountCodas.l0, if_pos (show (i : Int) < (s.size : Int) by omega)]
   refine Ev.bind (spec_IsForm_ev s hn) ?_
   cases hf : form (B s)
   · refine Ev.succ ?_
     simp only [spec_CountCodas.j1, Bool.false_eq_true, if_false]
     exact Ev.const rfl
   · refine step i hB n hn' hst hf _ ?_
     rw [plc_step p (B s) i hB]
     by_cases hp : p (befA (B s) i) (B s)[i] (behA (B s) i) = true
     · simp only [if_pos hp]
       refine Ev.cast (ih (by omega) (n + 1) (by omega)) ?_
       simp [hf]
       omega
     · simp only [if_neg hp]
       refine Ev.cast (ih (by omega) n (by omega)) ?_
       simp [hf]

theorem impl_CountCodas_ev (s : ByteArray) (hn : s.size ≤ 140737488351232) : Ev (fun k => impl_CountCodas.f k s) ((cntP pCodas (B s) : Nat) : Int) := by
 unfold impl_CountCodas.f
 refine Ev.bind (places_at_CountCodas_ev s hn pCodas ?_) (Ev.const rfl)
 intro a b c _ hb hc
 unfold impl_CountCodas_1.f pCodas
 rw [impl_isConsonant_eq b hb.1 hb.2, impl_isVowel_eq c hc.1 hc.2]
 cases cns b <;> rfl
theorem spec_CountCodas_ev (s : ByteArray) (hn : s.size ≤ 140737488351232) : Ev (fun k => spec_CountCodas.f k s) ((cntP pCodas (B s) : Nat) : Int) := by
 unfold spec_CountCodas.f
 refine Ev.cast (spec_CountCodas_gen s hn pCodas 0 ?_ 0 (by omega) (by omega) 0 (by omega)) (by simp [cntP])
 intro i hi n hn' _ hf r ih
 have hb := B_length s
 refine Ev.succ ?_
 simp only [spec_CountCodas.j1, if_true, spec_IsVowelAt_eq, Option.bind_some, getD_in _ i hi, wrap_succ (show i ≤ 4611686018427387903 by omega), wrap_succ (show n ≤ 4611686018427387903 by omega)]
 unfold pCodas at ih
 simp only [cns_of_snd (form_snd hf i hi), behA_getD] at ih
 cases hx : vow (B s)[i]
 · simp only [hx, Bool.not_false, Bool.true_and, Bool.false_eq_true, if_false] at ih ⊢
   cases hy : vow ((B s).getD (i + 1) 0)
   · simp only [hy, Bool.not_false, if_true, Bool.false_eq_true, if_false] at ih ⊢
     exact ih
   · simp only [hy, Bool.not_true, if_true, Bool.false_eq_true, if_false, Nat.add_zero] at ih ⊢
     exact ih
 · simp only [hx, Bool.not_true, Bool.false_and, Bool.false_eq_true, if_false, Nat.add_zero, if_true] at ih ⊢
   exact ih

theorem plc_from1 (p : Int → Int → Int → Bool) (l : List Int) (h : ∀ x y, p 0 x y = false) : plc p l 0 = plc p l 1 := by
 by_cases hl : 0 < l.length
 · rw [plc_step p l 0 hl]
   simp [befA, h]
 · rw [plc_end _ _ (by omega), plc_end _ _ (by omega)]

theorem places_at_CountClusters_ev (s : ByteArray) (hn : s.size ≤ 140737488351232) (p : Int → Int → Int → Bool) (hp : ∀ a b c, 0 ≤ a ∧ a < 256 → 0 ≤ b ∧ b < 256 → 0 ≤ c ∧ c < 256 → impl_CountClusters_1.f a b c = some (p a b c)) :
 Ev (fun k => impl_places_at_CountClusters_1.f k s ()) ((cntP p (B s) : Nat) : Int) := places_G_ev impl_CountClusters_1.f s hn p hp

theorem spec_CountClusters_gen (s : ByteArray) (hn : s.size ≤ 140737488351232) (p : Int → Int → Int → Bool) (st : Nat)
 (step : ∀ i (hi : i < (B s).length) (n : Nat), n ≤ i → st ≤ i → form (B s) = true → ∀ r, Ev (fun k => spec_CountClusters.l0 k s ((n + (if p (befA (B s) i) (B s)[i] (behA (B s) i) then 1 else 0) : Nat) : Int) ((i + 1 : Nat) : Int)) r → Ev (fun k => spec_CountClusters.j1 k s (n : Int) (i : Int) true) r) :
 ∀ i, i ≤ s.size → st ≤ i → ∀ n : Nat, n ≤ i → Ev (fun k => spec_CountClusters.l0 k s (n : Int) (i : Int)) ((n + (if form (B s) then plc p (B s) i else 0) : Nat) : Int) := by
 refine down_ind ?_ ?_
 · intro _ n hn'
   refine Ev.succ ?_
   simp only [spec_CountClusters.l0, Int.lt_irrefl, if_false]
   refine Ev.succ ?_
   simp only [spec_CountClusters.j1, Bool.false_eq_true, if_false]
   exact Ev.const (by rw [plc_end _ _ (by rw [B_length]; exact Nat.le_refl _)]; simp)
 · intro i hi ih hst n hn'
   have hB : i < (B s).length := by rw [B_length]; exact hi
   refine Ev.succ ?_
   simp only [spec_CountClusters.l0, if_pos (show (i : Int) < (s.size : Int) by omega)]
   refine Ev.bind (spec_IsForm_ev s hn) ?_
   cases hf : form (B s)
   · refine Ev.succ ?_
     simp only [spec_CountClusters.j1, Bool.false_eq_true, if_false]
     exact Ev.const rfl
   · refine step i hB n hn' hst hf _ ?_
     rw [plc_step p (B s) i hB]
     by_cases hp : p (befA (B s) i) (B s)[i] (behA (B s) i) = true
     · simp only [if_pos hp]
       refine Ev.cast (ih (by omega) (n + 1) (by omega)) ?_
       simp [hf]
       omega
     · simp only [if_neg hp]
       refine Ev.cast (ih (by omega) n (by omega)) ?_
       simp [hf]

end Go.Proofs.YtlmfpkiaikjlbaaGreat.Pure
