/- The pure statement of the law FnExactFormatRow: for all arguments within bounds its printed function answers true. -/
import Derived.Test.YtlmfpkiaikjlbaaGreatDoorPFnExactFormatRowx
import Derived.Test.YtlmfpkiaikjlbaaGreatDoorUFnExactFormatRow
import Derived.Test.YtlmfpkiaikjlbaaGreatDoorPureFnExactFormatRowb
namespace Go.Proofs.YtlmfpkiaikjlbaaGreatDoor.Pure
open Go.RowKit Go.Proofs.YtlmfpkiaikjlbaaGreatDoorB Go.Proofs.YtlmfpkiaikjlbaaGreatDoor.PFnExactFormatRow Go.Proofs.YtlmfpkiaikjlbaaGreatDoorW.PrintWords Go.Proofs.YtlmfpkiaikjlbaaGreatDoorW.PrintLast Go.Proofs.YtlmfpkiaikjlbaaGreatDoorW.PrintMore
set_option linter.unusedVariables false
set_option linter.unusedSimpArgs false

def dgx (n : Nat) : ByteArray := if n < 10 then ⟨#[UInt8.ofNat (48 + n)]⟩ else ⟨#[UInt8.ofNat (48 + n / 10), UInt8.ofNat (48 + n % 10)]⟩
def dg (n : Int) : ByteArray := dgx n.toNat
theorem dgx_digits (n : Nat) (h : n < 100) : (⟨(Lib.decDigits n).toArray⟩ : ByteArray) = dgx n := by
 unfold dgx
 rw [Lib.decDigits]
 by_cases h1 : n < 10
 · rw [dif_pos h1, if_pos h1]
 · rw [dif_neg h1, if_neg h1, Lib.decDigits, dif_pos (by omega)]
   rfl
theorem dgx_size (n : Nat) : 1 ≤ (dgx n).size ∧ (dgx n).size ≤ 2 := by
 unfold dgx
 split
 · exact ⟨Nat.le_refl _, by show 1 ≤ 2; omega⟩
 · exact ⟨by show 1 ≤ 2; omega, Nat.le_refl _⟩
theorem spec_FormatInt_ev (n : Int) (h : 0 ≤ n ∧ n < 100) : Ev (fun k => spec_FormatInt.f k n) (dg n) := by
 obtain ⟨m, rfl⟩ := Int.eq_ofNat_of_zero_le h.1
 have hm : m < 100 := by omega
 have key : ∀ m : Fin 100, spec_FormatInt.f 4 ((m.val : Nat) : Int) = some (dgx m.val) := by decide +kernel
 exact Ev.at_ (fun k => spec_FormatInt.mono _ k) 4 (key ⟨m, hm⟩)
theorem impl_FormatInt_eq (n : Int) (h : 0 ≤ n ∧ n < 100) : impl_FormatInt.f n = some (dg n) := by
 unfold impl_FormatInt.f strconv_Itoa.f
 rw [if_pos h, Option.bind_some]
 congr 1
 exact dgx_digits _ (by omega)
theorem sizes_dg : ∀ (m : List Int), sizes (m.map dg) ≤ 2 * m.length
 | [] => Nat.zero_le _
 | a :: t => by
  have h1 := (dgx_size a.toNat).2
  have h2 := sizes_dg t
  have e : sizes ((a :: t).map dg) = (dg a).size + sizes (t.map dg) := by simp [sizes]
  have e2 : (dg a).size = (dgx a.toNat).size := rfl
  rw [e, List.length_cons]
  omega
def numS (m : List Int) : ByteArray := if m = [] then ⟨#[110, 111, 110, 101]⟩ else jn44 (m.map dg)
theorem numS_size (m : List Int) (h : m.length ≤ 1000) : (numS m).size ≤ 4000 := by
 unfold numS
 split
 · exact (by decide : (⟨#[110, 111, 110, 101]⟩ : ByteArray).size ≤ 4000)
 · have h1 := jn44_size (m.map dg)
   have h2 := sizes_dg m
   rw [List.length_map] at h1
   omega
theorem jn_ne (m : List Int) (h : m ≠ []) : ¬ (jn44 (m.map dg)).toList = [] := by
 cases m with
 | nil => exact absurd rfl h
 | cons a t =>
  intro e
  rw [Go.Lib.toList_data] at e
  have h1 := (dgx_size a.toNat).1
  have e2 : (jn44 ((a :: t).map dg)).data.toList = (dg a).data.toList ++ Lib.joinTail [44] ((t.map dg).map (·.data.toList)) := by
   unfold jn44
   simp only [List.map_cons, List.toList_toArray]
   rw [Lib.join_cons]
  rw [e2] at e
  have e3 := (List.append_eq_nil_iff.1 e).1
  have e4 : (dg a).size = 0 := by
   show (dg a).data.size = 0
   rw [← Array.length_toList, e3]
   rfl
  have e5 : (dg a).size = (dgx a.toNat).size := rfl
  omega
theorem spec_l11Numbers_ev (m : List Int) (hm : ∀ x ∈ m, 0 ≤ x ∧ x < 100) (hl : m.length ≤ 1000) : Ev (fun k => spec_l11Numbers.f k m) (numS m) := by
 unfold spec_l11Numbers.f
 have hz := sizes_dg m
 have key : ∀ i, i ≤ m.length → Ev (fun k => spec_l11Numbers.l0 k m (jn44 ((m.map dg).take i)) (i : Int)) (numS m) := by
  refine down_ind ?_ ?_
  · refine Ev.succ ?_
    simp only [spec_l11Numbers.l0, Int.lt_irrefl, if_false]
    rw [List.take_of_length_le (by rw [List.length_map]; omega)]
    unfold numS
    by_cases h0 : m = []
    · subst h0
      simp only [if_true]
      exact Ev.const (if_pos (toList_nil.2 rfl))
    · simp only [if_neg (jn_ne m h0), if_neg h0]
      exact Ev.const rfl
  · intro i hi ih
    have h1 := jn44_take (m.map dg) i
    have hx := hm m[i] (List.getElem_mem hi)
    have h2 := (dgx_size m[i].toNat).2
    have h3 : (dg m[i]).size = (dgx m[i].toNat).size := rfl
    rw [List.length_map] at h1
    rw [jn44_snoc (m.map dg) i (by rw [List.length_map]; exact hi), List.getElem_map] at ih
    refine Ev.succ ?_
    simp only [spec_l11Numbers.l0, if_pos (show (i : Int) < (m.length : Int) by omega), if_pos (show (0 : Int) ≤ i by omega), rd_nat m i hi, wrap_succ (show i ≤ 4611686018427387903 by omega)]
    by_cases h0 : i = 0
    · simp only [if_neg (show ¬ (i : Int) > 0 by omega)]
      refine Ev.bind (spec_FormatInt_ev _ hx) ?_
      simp only [if_pos (show (jn44 ((m.map dg).take i)).size + (dg m[i]).size ≤ 9223372036854775807 by omega)]
      rw [if_pos h0] at ih
      exact ih
    · have h4 : (jn44 ((m.map dg).take i) ++ (⟨#[44]⟩ : ByteArray)).size = (jn44 ((m.map dg).take i)).size + 1 := by rw [ByteArray.size_append]; rfl
      simp only [if_pos (show (i : Int) > 0 by omega), if_pos (show (jn44 ((m.map dg).take i)).size + 1 ≤ 9223372036854775807 by omega)]
      refine Ev.bind (spec_FormatInt_ev _ hx) ?_
      simp only [if_pos (show (jn44 ((m.map dg).take i) ++ (⟨#[44]⟩ : ByteArray)).size + (dg m[i]).size ≤ 9223372036854775807 by omega)]
      rw [if_neg h0] at ih
      exact ih
 exact key 0 (Nat.zero_le _)
theorem impl_joined_ev (m : List Int) (hm : ∀ x ∈ m, 0 ≤ x ∧ x < 100) (hl : m.length ≤ 1000) : Ev (fun k => impl_joined.f k m) (numS m) := by
 unfold impl_joined.f numS
 by_cases h0 : m = []
 · subst h0
   simp only [List.length_nil, if_true]
   exact Ev.const rfl
 · have hp : 0 < m.length := List.length_pos_iff.2 h0
   simp only [if_neg (show ¬ (m.length : Int) = 0 by omega), if_neg h0]
   have key : ∀ i, i ≤ m.length → ∀ acc : List ByteArray, acc = (m.map dg).take i → Ev (fun k => impl_joined.l0 k acc m (m.length : Int) (i : Int)) (jn44 (m.map dg)) := by
    refine down_ind ?_ ?_
    · intro acc ha
      refine Ev.succ ?_
      simp only [impl_joined.l0, Int.lt_irrefl, if_false]
      rw [ha, List.take_of_length_le (by rw [List.length_map]; omega)]
      have hz := sizes_dg m
      rw [strings_Join44_eq _ (by rw [List.length_map]; omega)]
      exact Ev.const rfl
    · intro i hi ih acc ha
      have hx := hm m[i] (List.getElem_mem hi)
      have hal : acc.length ≤ m.length := by rw [ha, List.length_take, List.length_map]; omega
      refine Ev.succ ?_
      simp only [impl_joined.l0, if_pos (show (i : Int) < (m.length : Int) by omega), if_pos (show (0 : Int) ≤ i by omega), rd_nat m i hi, wrap_succ (show i ≤ 4611686018427387903 by omega), impl_FormatInt_eq _ hx, Option.bind_some, if_pos (show acc.length < 8796093022208 by omega)]
      refine ih _ ?_
      rw [ha, take_snoc (m.map dg) i (by rw [List.length_map]; exact hi), List.getElem_map]
   exact key 0 (Nat.zero_le _) [] rfl

theorem cntK_le (p : Int → Int → Bool) (l : List ILink) : cntK p l ≤ l.length := by
 unfold cntK
 split
 · exact List.countP_le_length
 · exact Nat.zero_le _
theorem B_outS_len (l : List ILink) : (B (outS l)).length ≤ l.length := by
 rw [B_length]
 unfold outS
 split
 · rw [size_nums]
   exact outL_length l
 · exact Nat.zero_le _
theorem brk_le : ∀ (l : List ILink) (b : Bool) (n : Nat), brk l b n ≤ n + l.length
 | [], b, n => by unfold brk; omega
 | x :: l, b, n => by
  have h1 := brk_le l true 0
  have h2 := brk_le l b (n + 1)
  have h3 := brk_le l b n
  unfold brk
  simp only [List.length_cons]
  split
  · omega
  · split <;> omega
theorem cntP_le2 (p : Int → Int → Int → Bool) (l : List Int) : cntP p l ≤ l.length := by
 unfold cntP
 split
 · have := plc_le p l 0
   omega
 · omega
theorem viol_small (s : ByteArray) (l : List ILink) (hs : s ∈ cnames) (hc : cand l = true) : 0 ≤ viol s l ∧ viol s l < 100 := by
 have h16 := cand_len hc
 have hB := B_outS_len l
 have c1 := fun p => cntP_le2 p (B (outS l))
 have c2 := fun p => cntK_le p l
 have c3 : brks l ≤ l.length := by
  unfold brks
  rw [if_pos hc]
  have := brk_le l false 0
  omega
 unfold viol
 rw [if_pos hc]
 split
 · have := c1 pOnsetless; omega
 split
 · have := c1 pCodas; omega
 split
 · have := c1 pClusters; omega
 split
 · have := c1 pVoiced; omega
 split
 · have := c1 pFinalVoiced; omega
 split
 · have := c1 pNasalVoiceless; omega
 split
 · have := c2 kDel; omega
 split
 · have := c2 kIns; omega
 split
 · have := c2 kVoi; omega
 split
 · omega
 · rename_i g1 g2 g3 g4 g5 g6 g7 g8 g9 g10
   exfalso
   simp only [cnames, List.mem_cons, List.not_mem_nil, or_false] at hs
   rcases hs with rfl | rfl | rfl | rfl | rfl | rfl | rfl | rfl | rfl | rfl
   · exact g1 (by decide +kernel)
   · exact g2 (by decide +kernel)
   · exact g3 (by decide +kernel)
   · exact g4 (by decide +kernel)
   · exact g5 (by decide +kernel)
   · exact g6 (by decide +kernel)
   · exact g7 (by decide +kernel)
   · exact g8 (by decide +kernel)
   · exact g9 (by decide +kernel)
   · exact g10 (by decide +kernel)
theorem areC_cn (l : List ByteArray) (h : areC l = true) : ∀ x ∈ l, x ∈ cnames := by
 unfold areC at h
 rw [Bool.and_eq_true] at h
 intro x hx
 obtain ⟨j, hj, rfl⟩ := List.getElem_of_mem hx
 have := (allFrom_iff _ _ _).1 h.1 j (Nat.zero_le _) hj
 unfold areC1 at this
 rw [getS l j hj, Bool.and_eq_true, decide_eq_true_eq] at this
 exact this.1
theorem isTab_row {s : ByteArray} {n : List ByteArray} {r : List ICand} {m : List (List Int)} (h : isTab s n r m = true) : ∀ i (hi : i < m.length), (∀ v ∈ m[i], 0 ≤ v ∧ v < 100) ∧ m[i].length ≤ 5 := by
 have hT := h
 unfold isTab at h
 simp only [Bool.and_eq_true, decide_eq_true_eq] at h
 obtain ⟨ha, _, h1, h2, h3⟩ := h
 intro i hi
 have hz : i < (r.zip m).length := by rw [List.length_zip]; omega
 have hq := List.all_eq_true.1 h3 _ (List.getElem_mem hz)
 rw [List.getElem_zip] at hq
 unfold rowAt at hq
 simp only [Bool.and_eq_true, decide_eq_true_eq] at hq
 obtain ⟨_, hc, he⟩ := hq
 have h5 : n.length ≤ 5 := by
  have ha' := ha
  unfold areC at ha'
  rw [Bool.and_eq_true, decide_eq_true_eq] at ha'
  exact ha'.2.2
 refine ⟨?_, by rw [he]; exact Nat.le_trans (prof_len _ _) h5⟩
 intro v hv
 rw [he] at hv
 unfold prof at hv
 rw [if_pos ⟨ha, hc⟩] at hv
 obtain ⟨q, hq, rfl⟩ := List.mem_map.1 hv
 exact viol_small q _ (areC_cn n ha q hq) hc
def rowS (s : ByteArray) (n : List ByteArray) (r : List ICand) (m : List (List Int)) (i : Int) : ByteArray := if isTab s n r m = true ∧ 0 ≤ i ∧ i < (r.length : Int) then ((fmtC (rd_T42 r i).f0) ++ (⟨#[32]⟩ : ByteArray)) ++ numS (m.getD i.toNat []) else ⟨#[]⟩
theorem impl_isRowOf_ev (s : ByteArray) (n : List ByteArray) (r : List ICand) (m : List (List Int)) (w : Int) (hs : s.size ≤ 1048576) (hn : n.length ≤ 1048576) (hr : okR r) (hrl : r.length ≤ 1048576) (hm : m.length + lensII m ≤ 1048576) : Ev (fun k => impl_isRowOf.f k s n r m w) (decide (0 ≤ w ∧ w < (r.length : Int)) && isTab s n r m) := by
 unfold impl_isRowOf.f
 have e : wrap64 ((r.length : Int) - 1) = (r.length : Int) - 1 := by unfold wrap64; omega
 simp only [e, impl_within_eq, Option.bind_some]
 by_cases h : 0 ≤ w ∧ w < (r.length : Int)
 · simp only [decide_eq_true (show 0 ≤ w ∧ w ≤ (r.length : Int) - 1 by omega), decide_eq_true h, if_true, Bool.true_and]
   exact Ev.bind (impl_IsTableau_ev s n r m hs hn hr hrl hm) (Ev.const rfl)
 · simp only [decide_eq_false (show ¬ (0 ≤ w ∧ w ≤ (r.length : Int) - 1) by omega), decide_eq_false h, Bool.false_eq_true, if_false, Bool.false_and]
   exact Ev.const rfl
theorem impl_FormatRow_ev (s : ByteArray) (n : List ByteArray) (r : List ICand) (m : List (List Int)) (w : Int) (hs : s.size ≤ 1048576) (hn : n.length ≤ 1048576) (hr : okR r) (hrl : r.length ≤ 1048576) (hm : m.length + lensII m ≤ 1048576) : Ev (fun k => impl_FormatRow.f k s n r m w) (rowS s n r m w) := by
 unfold impl_FormatRow.f rowS
 refine Ev.bind (impl_isRowOf_ev s n r m w hs hn hr hrl hm) ?_
 by_cases hT : isTab s n r m = true
 · by_cases hw : 0 ≤ w ∧ w < (r.length : Int)
   · have hL := isTab_len hT
     obtain ⟨j, rfl⟩ := Int.eq_ofNat_of_zero_le hw.1
     have hj : j < m.length := by omega
     have hjr : j < r.length := by omega
     have ho := hr r[j] (List.getElem_mem hjr)
     have hrow := isTab_row hT j hj
     have eg : m.getD (j : Int).toNat [] = m[j] := by simp [hj]
     have f1 := fmtC_size r[j].f0
     have f2 := numS_size m[j] (by omega)
     have f3 : (fmtC r[j].f0 ++ (⟨#[32]⟩ : ByteArray)).size = (fmtC r[j].f0).size + 1 := by rw [ByteArray.size_append]; rfl
     simp only [hT, hw, decide_true, Bool.and_self, if_true, and_self, if_pos (show (0 : Int) ≤ (j : Int) by omega), if_pos (show (j : Int) < (m.length : Int) by omega), rdIC r j hjr, rdII m j hj, eg]
     refine Ev.bind (impl_FormatCandidate_ev _ ho.2 ho.1) ?_
     simp only [if_pos (show (fmtC r[j].f0).size + 1 ≤ 9223372036854775807 by omega)]
     refine Ev.bind (impl_joined_ev _ hrow.1 (by omega)) ?_
     simp only [if_pos (show (fmtC r[j].f0 ++ (⟨#[32]⟩ : ByteArray)).size + (numS m[j]).size ≤ 9223372036854775807 by omega)]
     exact Ev.const rfl
   · simp only [hT, hw, decide_false, Bool.false_and, Bool.false_eq_true, if_false, and_false]
     exact Ev.const rfl
 · simp only [hT, Bool.and_false, Bool.false_eq_true, if_false, false_and]
   exact Ev.const rfl
theorem spec_FormatRow_ev (s : ByteArray) (n : List ByteArray) (r : List ICand) (m : List (List Int)) (w : Int) (hs : s.size ≤ 1048576) (hn : n.length ≤ 1048576) (hr : okR r) (hrl : r.length ≤ 1048576) (hm : m.length + lensII m ≤ 1048576) : Ev (fun k => spec_FormatRow.f k s n r m w) (rowS s n r m w) := by
 unfold spec_FormatRow.f rowS
 refine Ev.bind (spec_IsTableau_ev s n r m hs hn hr hrl hm) ?_
 have bad : ∀ x, x = (⟨#[]⟩ : ByteArray) → Ev (fun k => spec_FormatRow.j0 k w true s n r m) x := by
  rintro x rfl
  refine Ev.succ ?_
  simp only [spec_FormatRow.j0, if_true]
  exact Ev.const rfl
 by_cases hT : isTab s n r m = true
 · simp only [hT, if_true, true_and]
   by_cases h0 : w < 0
   · simp only [if_pos h0]
     exact bad _ (if_neg (by omega))
   · simp only [if_neg h0]
     by_cases h1 : w ≥ (r.length : Int)
     · simp only [decide_eq_true h1]
       exact bad _ (if_neg (by omega))
     · simp only [decide_eq_false h1]
       have hL := isTab_len hT
       obtain ⟨j, rfl⟩ := Int.eq_ofNat_of_zero_le (show 0 ≤ w by omega)
       have hj : j < m.length := by omega
       have hjr : j < r.length := by omega
       have ho := hr r[j] (List.getElem_mem hjr)
       have hrow := isTab_row hT j hj
       have eg : m.getD (j : Int).toNat [] = m[j] := by simp [hj]
       have f1 := fmtC_size r[j].f0
       have f2 := numS_size m[j] (by omega)
       have f3 : (fmtC r[j].f0 ++ (⟨#[32]⟩ : ByteArray)).size = (fmtC r[j].f0).size + 1 := by rw [ByteArray.size_append]; rfl
       rw [if_pos (show (0 : Int) ≤ (j : Int) ∧ (j : Int) < (r.length : Int) by omega), eg, rdIC r j hjr]
       refine Ev.succ ?_
       simp only [spec_FormatRow.j0, Bool.false_eq_true, if_false, if_pos (show (0 : Int) ≤ (j : Int) by omega), if_pos (show (j : Int) < (r.length : Int) by omega), if_pos (show (j : Int) < (m.length : Int) by omega), rdIC r j hjr, rdII m j hj]
       refine Ev.bind (spec_FormatCandidate_ev _ ho.2 ho.1) ?_
       simp only [if_pos (show (fmtC r[j].f0).size + 1 ≤ 9223372036854775807 by omega)]
       refine Ev.bind (spec_l11Numbers_ev _ hrow.1 (by omega)) ?_
       simp only [if_pos (show (fmtC r[j].f0 ++ (⟨#[32]⟩ : ByteArray)).size + (numS m[j]).size ≤ 9223372036854775807 by omega)]
       exact Ev.const rfl
 · simp only [hT, Bool.false_eq_true, if_false, false_and]
   exact bad _ rfl

theorem laws_toStringS_ev (l : List ByteArray) (hl : l.length ≤ 1048576) : Ev (fun k => laws_toStringS.f k l) l := by
 unfold laws_toStringS.f
 simp only [if_pos (show (0 : Int) ≤ (l.length : Int) by omega), Int.toNat_natCast, if_pos (show l.length ≤ 17592186044416 by omega)]
 have key : ∀ i, i ≤ l.length → Ev (fun k => laws_toStringS.l0 k l (l.take i ++ List.replicate (l.length - i) (⟨#[]⟩ : ByteArray)) (i : Int)) l := by
  refine down_ind ?_ ?_
  · refine Ev.succ ?_
    simp only [laws_toStringS.l0, Int.lt_irrefl, if_false]
    exact Ev.const (by simp)
  · intro i hi ih
    refine Ev.succ ?_
    have hlen : (l.take i ++ List.replicate (l.length - i) (⟨#[]⟩ : ByteArray)).length = l.length := by simp; omega
    simp only [laws_toStringS.l0, hlen, if_pos (show (i : Int) < (l.length : Int) by omega), if_pos (show (0 : Int) ≤ i by omega), rdOf_nat _ l i hi, Int.toNat_natCast, set_fill l _ i hi, wrap_succ (show i ≤ 4611686018427387903 by omega)]
    exact ih
 have := key 0 (by omega)
 simpa using this

theorem laws_toCandidate_ev (l : List LLink) (hl : l.length ≤ 1048576) : Ev (fun k => laws_toCandidate.f k l) (l.map toK) := by
 unfold laws_toCandidate.f
 refine Ev.bind ?_ (Ev.const rfl)
 unfold laws_toLinkS.f
 simp only [if_pos (show (0 : Int) ≤ (l.length : Int) by omega), Int.toNat_natCast, if_pos (show l.length ≤ 140737488355328 by omega)]
 have key : ∀ i, i ≤ l.length → Ev (fun k => laws_toLinkS.l0 k l ((l.take i).map toK ++ List.replicate (l.length - i) z90) (i : Int)) (l.map toK) := by
  refine down_ind ?_ ?_
  · refine Ev.succ ?_
    simp only [laws_toLinkS.l0, Int.lt_irrefl, if_false]
    exact Ev.const (by simp)
  · intro i hi ih
    refine Ev.succ ?_
    have hlen : ((l.take i).map toK ++ List.replicate (l.length - i) z90).length = l.length := by simp; omega
    simp only [laws_toLinkS.l0, laws_toLink.f, Option.bind_some, hlen, if_pos (show (i : Int) < (l.length : Int) by omega), if_pos (show (0 : Int) ≤ i by omega), rdLK l i hi, Int.toNat_natCast, show (⟨l[i].f0, l[i].f1⟩ : ILink) = toK l[i] from rfl, set_fill2 l toK _ i hi, wrap_succ (show i ≤ 4611686018427387903 by omega)]
    exact ih
 have := key 0 (by omega)
 simpa using this

theorem laws_toIntS_ev (l : List Int) (hl : l.length ≤ 1048576) : Ev (fun k => laws_toIntS.f k l) l := by
 unfold laws_toIntS.f
 simp only [if_pos (show (0 : Int) ≤ (l.length : Int) by omega), Int.toNat_natCast, if_pos (show l.length ≤ 35184372088832 by omega)]
 have key : ∀ i, i ≤ l.length → Ev (fun k => laws_toIntS.l0 k l (l.take i ++ List.replicate (l.length - i) 0) (i : Int)) l := by
  refine down_ind ?_ ?_
  · refine Ev.succ ?_
    simp only [laws_toIntS.l0, Int.lt_irrefl, if_false]
    exact Ev.const (by simp)
  · intro i hi ih
    refine Ev.succ ?_
    have hlen : (l.take i ++ List.replicate (l.length - i) 0).length = l.length := by simp; omega
    simp only [laws_toIntS.l0, hlen, if_pos (show (i : Int) < (l.length : Int) by omega), if_pos (show (0 : Int) ≤ i by omega), rd_nat l i hi, Int.toNat_natCast, set_fill l 0 i hi, wrap_succ (show i ≤ 4611686018427387903 by omega)]
    exact ih
 have := key 0 (by omega)
 simpa using this

theorem laws_szCandidate_eq (l : List LLink) (n : Nat) (hn : n ≤ 1048576) (hl : l.length ≤ 140737488355328) : laws_szCandidate.f l n = some (if l.length ≤ n then ((n - l.length : Nat) : Int) else -1) := by
 unfold laws_szCandidate.f laws_szLinkS.f
 rw [wrap_in (by omega) (by omega)]
 by_cases h : l.length ≤ n
 · rw [if_neg (show ¬ ((n : Int) - (l.length : Int) < 0) by omega), if_pos h]
   simp only [Option.bind_some]
   rw [if_neg (by omega)]
   congr 1
   omega
 · rw [if_pos (show ((n : Int) - (l.length : Int) < 0) by omega), if_neg h]
   simp only [Option.bind_some]
   rfl

theorem laws_szIntS_eq (l : List Int) (n : Nat) (hn : n ≤ 1048576) (hl : l.length ≤ 140737488351232) : laws_szIntS.f l n = some (if l.length ≤ n then ((n - l.length : Nat) : Int) else -1) := by
 unfold laws_szIntS.f
 rw [wrap_in (by omega) (by omega)]
 by_cases h : l.length ≤ n
 · rw [if_neg (by omega), if_pos h]
   congr 1
   omega
 · rw [if_pos (by omega), if_neg h]

theorem laws_szCandidateS_ev (l : List LCand) (n : Nat) (hn : n ≤ 1048576) (hl : BdSlice 24 Bd106 l) : ∃ z, Ev (fun k => laws_szCandidateS.f k l n) z ∧ (z < 0 ∨ ∃ m : Nat, z = m ∧ m + l.length + lensC l = n) := by
 have hl' : l.length ≤ 140737488351232 := by have := hl.1; omega
 unfold laws_szCandidateS.f
 rw [wrap_in (by omega) (by omega)]
 by_cases h : l.length ≤ n
 · rw [show ((n : Int) - (l.length : Int)) = ((n - l.length : Nat) : Int) by omega]
   simp only [if_neg (show ¬ ((n - l.length : Nat) : Int) < 0 by omega)]
   have key : ∀ i, i ≤ l.length → ∀ m : Nat, m ≤ n → ∃ z, Ev (fun k => laws_szCandidateS.l0 k l (m : Int) (i : Int)) z ∧ (z < 0 ∨ ∃ m' : Nat, z = m' ∧ m' + lensC (l.drop i) = m) := by
    refine down_ind ?_ ?_
    · intro m hm
      refine ⟨m, Ev.succ ?_, .inr ⟨m, rfl, by simp [lensC]⟩⟩
      simp only [laws_szCandidateS.l0, Int.lt_irrefl, if_false]
      exact Ev.const rfl
    · intro i hi ih m hm
      have hb := (hl.2 l[i] (List.getElem_mem hi)).1
      have hd : lensC (l.drop i) = l[i].f0.length + lensC (l.drop (i + 1)) := by rw [drop_cons l i hi]; rfl
      by_cases hs : l[i].f0.length ≤ m
      · obtain ⟨z, hz, hz'⟩ := ih (m - l[i].f0.length) (by omega)
        refine ⟨z, Ev.succ ?_, ?_⟩
        · simp only [laws_szCandidateS.l0, if_pos (show (i : Int) < (l.length : Int) by omega), if_pos (show (0 : Int) ≤ i by omega), rdLC l i hi, laws_szCandidate_eq l[i].f0 m (by omega) (by omega), Option.bind_some, if_pos hs, if_neg (show ¬ ((m - l[i].f0.length : Nat) : Int) < 0 by omega), wrap_succ (show i ≤ 4611686018427387903 by omega)]
          exact hz
        · rcases hz' with h' | ⟨m', rfl, h'⟩
          · exact .inl h'
          · exact .inr ⟨m', rfl, by omega⟩
      · refine ⟨-1, Ev.succ ?_, .inl (by omega)⟩
        simp only [laws_szCandidateS.l0, if_pos (show (i : Int) < (l.length : Int) by omega), if_pos (show (0 : Int) ≤ i by omega), rdLC l i hi, laws_szCandidate_eq l[i].f0 m (by omega) (by omega), Option.bind_some, if_neg hs]
        exact Ev.const rfl
   obtain ⟨z, hz, hz'⟩ := key 0 (by omega) (n - l.length) (by omega)
   refine ⟨z, hz, ?_⟩
   rcases hz' with h' | ⟨m', rfl, h'⟩
   · exact .inl h'
   · rw [List.drop_zero] at h'
     exact .inr ⟨m', rfl, by omega⟩
 · simp only [if_pos (show ((n : Int) - (l.length : Int)) < 0 by omega)]
   exact ⟨-1, Ev.const rfl, .inl (by omega)⟩
theorem laws_szIntSS_ev (l : List (List Int)) (n : Nat) (hn : n ≤ 1048576) (hl : BdSlice 24 (BdSlice 8 (BdInt .i64)) l) : ∃ z, Ev (fun k => laws_szIntSS.f k l n) z ∧ (z < 0 ∨ ∃ m : Nat, z = m ∧ m + l.length + lensII l = n) := by
 have hl' : l.length ≤ 140737488351232 := by have := hl.1; omega
 unfold laws_szIntSS.f
 rw [wrap_in (by omega) (by omega)]
 by_cases h : l.length ≤ n
 · rw [show ((n : Int) - (l.length : Int)) = ((n - l.length : Nat) : Int) by omega]
   simp only [if_neg (show ¬ ((n - l.length : Nat) : Int) < 0 by omega)]
   have key : ∀ i, i ≤ l.length → ∀ m : Nat, m ≤ n → ∃ z, Ev (fun k => laws_szIntSS.l0 k l (m : Int) (i : Int)) z ∧ (z < 0 ∨ ∃ m' : Nat, z = m' ∧ m' + lensII (l.drop i) = m) := by
    refine down_ind ?_ ?_
    · intro m hm
      refine ⟨m, Ev.succ ?_, .inr ⟨m, rfl, by simp [lensII]⟩⟩
      simp only [laws_szIntSS.l0, Int.lt_irrefl, if_false]
      exact Ev.const rfl
    · intro i hi ih m hm
      have hb := (hl.2 l[i] (List.getElem_mem hi)).1
      have hd : lensII (l.drop i) = l[i].length + lensII (l.drop (i + 1)) := by rw [drop_cons l i hi]; rfl
      have he : laws_szIntS.f l[i] m = some (if l[i].length ≤ m then ((m - l[i].length : Nat) : Int) else -1) := laws_szIntS_eq l[i] m (by omega) (by omega)
      by_cases hs : l[i].length ≤ m
      · obtain ⟨z, hz, hz'⟩ := ih (m - l[i].length) (by omega)
        refine ⟨z, Ev.succ ?_, ?_⟩
        · simp only [laws_szIntSS.l0, if_pos (show (i : Int) < (l.length : Int) by omega), if_pos (show (0 : Int) ≤ i by omega), rdII l i hi, he, Option.bind_some, if_pos hs, if_neg (show ¬ ((m - l[i].length : Nat) : Int) < 0 by omega), wrap_succ (show i ≤ 4611686018427387903 by omega)]
          exact hz
        · rcases hz' with h' | ⟨m', rfl, h'⟩
          · exact .inl h'
          · exact .inr ⟨m', rfl, by omega⟩
      · refine ⟨-1, Ev.succ ?_, .inl (by omega)⟩
        simp only [laws_szIntSS.l0, if_pos (show (i : Int) < (l.length : Int) by omega), if_pos (show (0 : Int) ≤ i by omega), rdII l i hi, he, Option.bind_some, if_neg hs]
        exact Ev.const rfl
   obtain ⟨z, hz, hz'⟩ := key 0 (by omega) (n - l.length) (by omega)
   refine ⟨z, hz, ?_⟩
   rcases hz' with h' | ⟨m', rfl, h'⟩
   · exact .inl h'
   · rw [List.drop_zero] at h'
     exact .inr ⟨m', rfl, by omega⟩
 · simp only [if_pos (show ((n : Int) - (l.length : Int)) < 0 by omega)]
   exact ⟨-1, Ev.const rfl, .inl (by omega)⟩
def fits (s : ByteArray) (n : List ByteArray) (r : List LCand) (m : List (List Int)) : Prop := s.size ≤ 1048576 ∧ n.length + sizes n ≤ 1048576 ∧ r.length + lensC r ≤ 1048576 ∧ m.length + lensII m ≤ 1048576
theorem laws_szTableau_ev (s : ByteArray) (n : List ByteArray) (r : List LCand) (m : List (List Int)) (hs : BdStr s) (hn : BdSlice 16 BdStr n) (hr : BdSlice 24 Bd106 r) (hm : BdSlice 24 (BdSlice 8 (BdInt .i64)) m) :
 ∃ z, Ev (fun k => laws_szTableau.f k s n r m 1048576) z ∧ (z < 0 ∨ (∃ q : Nat, z = q ∧ q ≤ 1048576) ∧ fits s n r m) := by
 have hs' : s.size ≤ 140737488351232 := hs
 unfold laws_szTableau.f
 rw [wrap_in (by omega) (by omega)]
 by_cases h1 : s.size ≤ 1048576
 · rw [show ((1048576 : Int) - (s.size : Int)) = ((1048576 - s.size : Nat) : Int) by omega]
   simp only [if_neg (show ¬ ((1048576 - s.size : Nat) : Int) < 0 by omega)]
   have e1 := laws_szStringS_ev n (1048576 - s.size) (by omega) hn
   by_cases h2 : n.length + sizes n ≤ 1048576 - s.size
   · rw [if_pos h2] at e1
     obtain ⟨z2, e2, h3⟩ := laws_szCandidateS_ev r (1048576 - s.size - (n.length + sizes n)) (by omega) hr
     rcases h3 with h3 | ⟨m2, rfl, h3⟩
     · refine ⟨-1, Ev.bind e1 ?_, .inl (by omega)⟩
       simp only [if_neg (show ¬ ((1048576 - s.size - (n.length + sizes n) : Nat) : Int) < 0 by omega)]
       refine Ev.bind e2 ?_
       simp only [if_pos h3]
       exact Ev.const rfl
     · obtain ⟨z4, e4, h5⟩ := laws_szIntSS_ev m m2 (by omega) hm
       rcases h5 with h5 | ⟨m4, rfl, h5⟩
       · refine ⟨-1, Ev.bind e1 ?_, .inl (by omega)⟩
         simp only [if_neg (show ¬ ((1048576 - s.size - (n.length + sizes n) : Nat) : Int) < 0 by omega)]
         refine Ev.bind e2 ?_
         simp only [if_neg (show ¬ (m2 : Int) < 0 by omega)]
         refine Ev.bind e4 ?_
         simp only [if_pos h5]
         exact Ev.const rfl
       · refine ⟨m4, Ev.bind e1 ?_, .inr ⟨⟨m4, rfl, by omega⟩, by omega, by omega, by omega, by omega⟩⟩
         simp only [if_neg (show ¬ ((1048576 - s.size - (n.length + sizes n) : Nat) : Int) < 0 by omega)]
         refine Ev.bind e2 ?_
         simp only [if_neg (show ¬ (m2 : Int) < 0 by omega)]
         refine Ev.bind e4 ?_
         simp only [if_neg (show ¬ (m4 : Int) < 0 by omega)]
         exact Ev.const rfl
   · rw [if_neg h2] at e1
     refine ⟨-1, Ev.bind e1 ?_, .inl (by omega)⟩
     simp only [show (-1 : Int) < 0 by decide, if_true]
     exact Ev.const rfl
 · simp only [if_pos (show ((1048576 : Int) - (s.size : Int)) < 0 by omega)]
   exact ⟨-1, Ev.const rfl, .inl (by omega)⟩

theorem laws_toCandidateS_ev (l : List LCand) (hl : l.length + lensC l ≤ 1048576) : Ev (fun k => laws_toCandidateS.f k l) (l.map toC) := by
 unfold laws_toCandidateS.f
 simp only [if_pos (show (0 : Int) ≤ (l.length : Int) by omega), Int.toNat_natCast, if_pos (show l.length ≤ 11728124029610 by omega)]
 have key : ∀ i, i ≤ l.length → Ev (fun k => laws_toCandidateS.l0 k l ((l.take i).map toC ++ List.replicate (l.length - i) z42) (i : Int)) (l.map toC) := by
  refine down_ind ?_ ?_
  · refine Ev.succ ?_
    simp only [laws_toCandidateS.l0, Int.lt_irrefl, if_false]
    exact Ev.const (by simp)
  · intro i hi ih
    have := lensC_get l i hi
    refine Ev.succ ?_
    have hlen : ((l.take i).map toC ++ List.replicate (l.length - i) z42).length = l.length := by simp; omega
    simp only [laws_toCandidateS.l0, hlen, if_pos (show (i : Int) < (l.length : Int) by omega), if_pos (show (0 : Int) ≤ i by omega), rdLC l i hi]
    refine Ev.bind (laws_toCandidate_ev l[i].f0 (by omega)) ?_
    simp only [Int.toNat_natCast, show (⟨l[i].f0.map toK⟩ : ICand) = toC l[i] from rfl, set_fill2 l toC _ i hi, wrap_succ (show i ≤ 4611686018427387903 by omega)]
    exact ih
 have := key 0 (by omega)
 simpa using this
theorem laws_toIntSS_ev (l : List (List Int)) (hl : l.length + lensII l ≤ 1048576) : Ev (fun k => laws_toIntSS.f k l) l := by
 unfold laws_toIntSS.f
 simp only [if_pos (show (0 : Int) ≤ (l.length : Int) by omega), Int.toNat_natCast, if_pos (show l.length ≤ 11728124029610 by omega)]
 have key : ∀ i, i ≤ l.length → Ev (fun k => laws_toIntSS.l0 k l (l.take i ++ List.replicate (l.length - i) []) (i : Int)) l := by
  refine down_ind ?_ ?_
  · refine Ev.succ ?_
    simp only [laws_toIntSS.l0, Int.lt_irrefl, if_false]
    exact Ev.const (by simp)
  · intro i hi ih
    have := lensII_get l i hi
    refine Ev.succ ?_
    have hlen : (l.take i ++ List.replicate (l.length - i) ([] : List Int)).length = l.length := by simp; omega
    simp only [laws_toIntSS.l0, hlen, if_pos (show (i : Int) < (l.length : Int) by omega), if_pos (show (0 : Int) ≤ i by omega), rdII l i hi]
    refine Ev.bind (laws_toIntS_ev l[i] (by omega)) ?_
    simp only [Int.toNat_natCast, set_fill l _ i hi, wrap_succ (show i ≤ 4611686018427387903 by omega)]
    exact ih
 have := key 0 (by omega)
 simpa using this
theorem laws_toTableau_ev (s : ByteArray) (n : List ByteArray) (r : List LCand) (m : List (List Int)) (h : fits s n r m) : Ev (fun k => laws_toTableau.f k s n r m) (s, n, r.map toC, m) := by
 unfold laws_toTableau.f
 exact Ev.bind (laws_toStringS_ev n (by have := h.2.1; omega)) (Ev.bind (laws_toCandidateS_ev r h.2.2.1) (Ev.bind (laws_toIntSS_ev m h.2.2.2) (Ev.const rfl)))

theorem laws_eqStringS_ev (a : List ByteArray) (hl : a.length ≤ 1048576) : Ev (fun k => laws_eqStringS.f k a a) true := by
 unfold laws_eqStringS.f
 simp only [if_true]
 have key : ∀ i, i ≤ a.length → Ev (fun k => laws_eqStringS.l0 k a a (i : Int)) true := by
  refine down_ind ?_ ?_
  · refine Ev.succ ?_
    simp only [laws_eqStringS.l0, Int.lt_irrefl, if_false]
    exact Ev.const rfl
  · intro i hi ih
    refine Ev.succ ?_
    simp only [laws_eqStringS.l0, if_pos (show (i : Int) < (a.length : Int) by omega), if_pos (show (0 : Int) ≤ i by omega), if_true, wrap_succ (show i ≤ 4611686018427387903 by omega)]
    exact ih
 exact key 0 (by omega)

theorem laws_eqCandidate_ev (a : List ILink) (hl : a.length ≤ 1048576) : Ev (fun k => laws_eqCandidate.f k a a) true := by
 unfold laws_eqCandidate.f
 refine Ev.bind ?_ (Ev.const (if_pos rfl))
 unfold laws_eqLinkS.f
 simp only [if_true]
 have key : ∀ i, i ≤ a.length → Ev (fun k => laws_eqLinkS.l0 k a a (i : Int)) true := by
  refine down_ind ?_ ?_
  · refine Ev.succ ?_
    simp only [laws_eqLinkS.l0, Int.lt_irrefl, if_false]
    exact Ev.const rfl
  · intro i hi ih
    refine Ev.succ ?_
    simp only [laws_eqLinkS.l0, laws_eqLink.f, Option.bind_some, if_pos (show (i : Int) < (a.length : Int) by omega), if_pos (show (0 : Int) ≤ i by omega), if_true, wrap_succ (show i ≤ 4611686018427387903 by omega)]
    exact ih
 exact key 0 (by omega)

theorem laws_eqIntS_ev (a b : List Int) (hl : a.length ≤ 1048576) : Ev (fun k => laws_eqIntS.f k a b) (decide (a = b)) := by
 unfold laws_eqIntS.f
 by_cases hab : a.length = b.length
 · simp only [if_pos (show (a.length : Int) = (b.length : Int) by omega)]
   have key : ∀ i, i ≤ a.length → Ev (fun k => laws_eqIntS.l0 k a b (i : Int)) (decide (a.drop i = b.drop i)) := by
    refine down_ind ?_ ?_
    · refine Ev.succ ?_
      simp only [laws_eqIntS.l0, Int.lt_irrefl, if_false]
      refine Ev.const ?_
      rw [List.drop_of_length_le (Nat.le_refl _), List.drop_of_length_le (by omega)]
      rfl
    · intro i hi ih
      have hb : i < b.length := by omega
      refine Ev.succ ?_
      simp only [laws_eqIntS.l0, if_pos (show (i : Int) < (a.length : Int) by omega), if_pos (show (0 : Int) ≤ i by omega), if_pos (show (i : Int) < (b.length : Int) by omega), rd_nat a i hi, rd_nat b i hb, wrap_succ (show i ≤ 4611686018427387903 by omega)]
      rw [drop_cons a i hi, drop_cons b i hb]
      by_cases he : a[i] = b[i]
      · simp only [if_pos he]
        exact Ev.cast ih (by simp only [List.cons.injEq, he, true_and])
      · simp only [if_neg he]
        exact Ev.const (by simp only [List.cons.injEq, he, false_and, decide_false])
   exact key 0 (by omega)
 · simp only [if_neg (show ¬ (a.length : Int) = (b.length : Int) by omega)]
   exact Ev.const (by
    have : a ≠ b := fun h => hab (by rw [h])
    simp [this])

theorem laws_eqCandidateS_ev (a : List ICand) (hl : a.length ≤ 1048576) (hr : ∀ x ∈ a, x.f0.length ≤ 1048576) : Ev (fun k => laws_eqCandidateS.f k a a) true := by
 unfold laws_eqCandidateS.f
 simp only [if_true]
 have key : ∀ i, i ≤ a.length → Ev (fun k => laws_eqCandidateS.l0 k a a (i : Int)) true := by
  refine down_ind ?_ ?_
  · refine Ev.succ ?_
    simp only [laws_eqCandidateS.l0, Int.lt_irrefl, if_false]
    exact Ev.const rfl
  · intro i hi ih
    refine Ev.succ ?_
    simp only [laws_eqCandidateS.l0, if_pos (show (i : Int) < (a.length : Int) by omega), if_pos (show (0 : Int) ≤ i by omega), rdIC a i hi]
    refine Ev.bind (laws_eqCandidate_ev _ (hr _ (List.getElem_mem hi))) ?_
    simp only [if_true, wrap_succ (show i ≤ 4611686018427387903 by omega)]
    exact ih
 exact key 0 (by omega)
theorem laws_eqIntSS_ev (a : List (List Int)) (hl : a.length + lensII a ≤ 1048576) : Ev (fun k => laws_eqIntSS.f k a a) true := by
 unfold laws_eqIntSS.f
 simp only [if_true]
 have key : ∀ i, i ≤ a.length → Ev (fun k => laws_eqIntSS.l0 k a a (i : Int)) true := by
  refine down_ind ?_ ?_
  · refine Ev.succ ?_
    simp only [laws_eqIntSS.l0, Int.lt_irrefl, if_false]
    exact Ev.const rfl
  · intro i hi ih
    have := lensII_get a i hi
    refine Ev.succ ?_
    simp only [laws_eqIntSS.l0, if_pos (show (i : Int) < (a.length : Int) by omega), if_pos (show (0 : Int) ≤ i by omega), rdII a i hi]
    refine Ev.bind (laws_eqIntS_ev _ _ (by omega)) ?_
    simp only [decide_true, if_true, wrap_succ (show i ≤ 4611686018427387903 by omega)]
    exact ih
 exact key 0 (by omega)

theorem laws_eqTableau_ev (s : ByteArray) (n : List ByteArray) (r : List LCand) (m : List (List Int)) (h : fits s n r m) (hr : okR (r.map toC)) : Ev (fun k => laws_eqTableau.f k s n (r.map toC) m s n (r.map toC) m) true := by
 unfold laws_eqTableau.f
 simp only [if_true]
 refine Ev.bind (laws_eqStringS_ev n (by have := h.2.1; omega)) ?_
 simp only [if_true]
 refine Ev.bind (laws_eqCandidateS_ev (r.map toC) (by rw [List.length_map]; have := h.2.2.1; omega) (fun x hx => (hr x hx).2)) ?_
 simp only [if_true]
 refine Ev.bind (laws_eqIntSS_ev m h.2.2.2) ?_
 simp only [if_true]
 exact Ev.const rfl

theorem FnExactFormatRow : laws_FnExactFormatRow.Pure := by
 intro s n r m a hs hn hr hm ha
 refine Ev.rounds ?_
 unfold laws_FnExactFormatRow.f
 obtain ⟨z, hz, h⟩ := laws_szTableau_ev s n r m hs hn hr hm
 refine Ev.bind hz ?_
 rcases h with h | ⟨⟨q, rfl, hq⟩, h⟩
 · simp only [if_pos h]
   exact Ev.const rfl
 · have ho := bdR hr (by have := h.2.2.1; omega)
   have hl : (r.map toC).length ≤ 1048576 := by rw [List.length_map]; have := h.2.2.1; omega
   have hn' : n.length ≤ 1048576 := by have := h.2.1; omega
   simp only [if_neg (show ¬ (q : Int) < 0 by omega)]
   have ht := laws_toTableau_ev s n r m h
   refine Ev.bind ht (Ev.bind (spec_FormatRow_ev s n (r.map toC) m a h.1 hn' ho hl h.2.2.2) (Ev.bind ht (Ev.bind (impl_FormatRow_ev s n (r.map toC) m a h.1 hn' ho hl h.2.2.2) ?_)))
   simp only [if_true]
   refine Ev.bind ht (Ev.bind (laws_eqTableau_ev s n r m h ho) ?_)
   simp only [if_true]
   exact Ev.const rfl

end Go.Proofs.YtlmfpkiaikjlbaaGreatDoor.Pure
