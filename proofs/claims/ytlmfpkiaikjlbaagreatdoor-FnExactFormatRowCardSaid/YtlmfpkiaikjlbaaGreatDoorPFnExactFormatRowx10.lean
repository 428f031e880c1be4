-- Made by gen.py (a program of this session) out of the translation; Lean checks it.
import Derived.Test.YtlmfpkiaikjlbaaGreatDoorPFnExactFormatRowx0
import Derived.Test.YtlmfpkiaikjlbaaGreatDoorPFnExactFormatRowx9
namespace Go.Proofs.YtlmfpkiaikjlbaaGreatDoor.PFnExactFormatRow
open Go.RowKit Go.Proofs.YtlmfpkiaikjlbaaGreatDoorB Go.Proofs.YtlmfpkiaikjlbaaGreatDoorW.PrintWords Go.Proofs.YtlmfpkiaikjlbaaGreatDoorW.PrintLast Go.Proofs.YtlmfpkiaikjlbaaGreatDoorW.PrintMore
attribute [local go_sem] max2_int min2_int max_two min_two max_three min_three max_four min_four   -- for this text's walks alone
set_option linter.unusedVariables false
set_option maxHeartbeats 8000000
set_option maxRecDepth 100000
set_option linter.unusedSimpArgs false
def impl_joined.l0 : Nat → List ByteArray → List Int → Int → Int → Option (ByteArray)
 | 0, _, _, _, _ => none
 | k + 1, x3, x10, x11, x12 => if x12 < x11 then (if 0 ≤ x12 then (if x12 < (x10.length : Int) then ((impl_FormatInt.f (rd x10 x12)).bind fun t493 => (if x3.length < 8796093022208 then (impl_joined.l0 k (x3 ++ [t493]) x10 x11 (wrap64 (x12 + 1))) else (none))) else (none)) else (none)) else ((strings_Join.f x3 (⟨#[44]⟩ : ByteArray)).bind fun t497 => (some t497))
def impl_joined.f (k : Nat) (l0 : List Int) : Option (ByteArray) := if (l0.length : Int) = 0 then (some (⟨#[110, 111, 110, 101]⟩ : ByteArray)) else (impl_joined.l0 k (([] : List ByteArray)) l0 (l0.length : Int) 0)
theorem impl_joined.mono_l : ∀ k, (∀ y0 y1 y2 y3, LeO (impl_joined.l0 k y0 y1 y2 y3) (impl_joined.l0 (k + 1) y0 y1 y2 y3))
 | 0 => fun _ _ _ _ r h => by simp [impl_joined.l0] at h
 | k + 1 => by
  have ih0 := impl_joined.mono_l k
  ·intro y0 y1 y2 y3; unfold impl_joined.l0
   with_reducible repeat' first | exact ih0 _ _ _ _ | exact LeO.refl _ | exact LeO.none _ | refine LeO.ite ?_ ?_ | refine LeO.bind ?_ (fun _ => ?_)
theorem impl_joined.mono : ∀ a0 k, LeO (impl_joined.f k a0) (impl_joined.f (k + 1) a0) := by
 intro a0 k; have ih0 := impl_joined.mono_l k; unfold impl_joined.f
 with_reducible repeat' first | exact ih0 _ _ _ _ | exact LeO.refl _ | exact LeO.none _ | refine LeO.ite ?_ ?_ | refine LeO.bind ?_ (fun _ => ?_)
theorem impl_joined.calls (k : Nat) (A0 : Option Addr) (c0 : Nat) (l0 : List Int) (r : ByteArray) (w : World) (hr0 : Kd.C (Kd.int .i64) w A0 l0.length l0) (hc0 : l0.length ≤ c0) (h : impl_joined.f k l0 = some r) :
  Calls Tryz.prog 78 #[.slice A0 l0.length c0] w fun e w' => e = .returned (.string r) ∧ Below w.heap.size w w' := by
 have HR0 := asT hr0; have HC0 := asT hc0; clear hr0 hc0; have HB := asT (Below.refl w.heap.size w); have H := h; unfold impl_joined.f at H; clear h; by_cases c2 : (l0.length : Int) = 0
 ·rw [if_pos c2] at H; have c2b0 : ((l0.length : Int) == 0) = true := eC c2; have c2b1 : ((l0.length : Int) != 0) = false := eA c2; clear c2; obtain rfl := oI H; go_enter Tryz.func78, Tryz.ntmps78
  go_wp2
  go_ret; exact ⟨rlT, hbT HB.out⟩
 ·rw [if_neg c2] at H; have c2b0 : ((l0.length : Int) == 0) = false := eB c2; have c2b1 : ((l0.length : Int) != 0) = true := eD c2
  have c2b2 : ¬ (l0 = []) := fun h_ => c2 (by rw [h_]; rfl)
  obtain ⟨y489, hy489⟩ : ∃ y_ : List ByteArray, y_ = (([] : List ByteArray)) := ⟨_, rfl⟩
  replace H : (impl_joined.l0 k y489 l0 (l0.length : Int) 0) = some r := by first | (rw [hy489]; with_reducible exact H) | (have H2_ := (Option.bind_some _ _).symm.trans H; rw [hy489]; with_reducible exact H2_) | (have H2_ := (Option.bind_some _ _).symm.trans H; with_reducible exact H2_) | with_reducible exact H | (rw [hy489]; exact H) | exact H
  have Ny489 := asT hy489; clear hy489; have H' := asT H; clear H; go_enter Tryz.func78, Tryz.ntmps78
  go_wp2_with (first | ((with_reducible refine gate_dst (N := 9) rfl ?_); refine Kd.R_lit Kd.string _ 9 ?hg (N := 9) ?hd (xs := ([] : List ByteArray)) (inner := []) (ok := fun _ => True) (okp := fun _ => True) ?hr ?hp (fun _ hk => hk) trivial (Below.refl _ _) (Nat.le_refl _) (by simp) ?_; (case hd => rfl); (case hg => rfl); (case hr => first | (go_simp; done) | (go_simp; rfl)); (case hp => exact (Reps.none _ _)); intro v490 w3 ho4 hb hg_ hnew_; clear hg_ hnew_; (first | rw [← Ny489.out] at ho4 | (simp only [Int.reduceToNat] at ho4; rw [← Ny489.out] at ho4)); have HO491 := asT (Kd.R_lower ho4 (below_size (hbT HB.out))); replace HB := hS HB hb; clear hb ho4))
  go_loopg [3, 12] k (fun kq v3 v12 w' => ∃ (x3_1 : List ByteArray) (x12_1 : Int), v12 = .int .i64 x12_1 ∧ Aside0 (impl_joined.l0 kq x3_1 l0 (l0.length : Int) x12_1 = some r) ∧ Aside0 (kq ≤ k) ∧ Aside0 (Kd.R Kd.string 9 w' w.heap.size (fun _ => True) v3 x3_1) ∧ Aside0 (Below w.heap.size w w'))
  case atStart => exact ⟨(y489), (0), rdT, H', ⟨Nat.le_refl _⟩, ⟨roT HO491.out⟩, ⟨hbT HB.out⟩⟩
  case round =>
   clear H'; (try clear c2 c2b0 c2b1 c2b2 p2); obtain ⟨x3_1, x12_1, rfl, HA, HK1, HO_3, HB⟩ := hrel
   cases gk with
   | zero => exact absurd HA.out (by simp [impl_joined.l0])
   | succ k1 =>
    have H := HA.out; clear HA
    simp only [impl_joined.l0] at H
    by_cases c5 : x12_1 < (l0.length : Int)
    ·rw [if_pos c5] at H; have c5b0 := dt c5; clear c5; by_cases c6 : 0 ≤ x12_1
     ·rw [if_pos c6] at H; have c6b0 := dt c6; clear c6; by_cases c7 : x12_1 < (l0.length : Int)
      ·rw [if_pos c7] at H; have c7b0 := dt c7; clear c7; obtain ⟨t493, A8, H⟩ := be H; by_cases c9 : x3_1.length < 8796093022208
       ·rw [if_pos c9] at H; have LMc9 := asT c9; clear c9; obtain ⟨y494, hy494⟩ : ∃ y_ : List ByteArray, y_ = (x3_1 ++ [t493]) := ⟨_, rfl⟩
        replace H : (impl_joined.l0 k1 y494 l0 (l0.length : Int) (wrap64 (x12_1 + 1))) = some r := by first | (rw [hy494]; with_reducible exact H) | (have H2_ := (Option.bind_some _ _).symm.trans H; rw [hy494]; with_reducible exact H2_) | (have H2_ := (Option.bind_some _ _).symm.trans H; with_reducible exact H2_) | with_reducible exact H | (rw [hy494]; exact H) | exact H
        have Ny494 := asT hy494; clear hy494; have H' := asT H; clear H; have p492 : 0 ≤ (x12_1 : Int) := dT asmT; have q492 : x12_1 < (l0.length : Int) := dT asmT; obtain ⟨ad492, e492, hx492_0⟩ := Kd.at_int HR0.out x12_1 p492 q492
        cases e492
        replace hx492_0 := hbc HB.out hx492_0; replace p492 := eq_true p492; replace q492 := eq_true q492
        go_wp2_with (first | ((with_reducible refine gate_callee (f := 136) rfl ?_); refine goesL_ (some 18) rfl rfl Tryz.func136 (by kernel_rfl) rfl #[.int .i64 (rd l0 x12_1)] rfl eqT ?_; (with_reducible refine (impl_FormatInt.calls (rd l0 x12_1) t493 _ A8.out).mono ?_); rintro e w' ⟨rfl, ⟨nd, rfl⟩⟩; refine ⟨_, rfl, ?_⟩) | ((with_reducible refine gate_builtin (b := .append) (xs := #[.tmp 16, .tmp 19]) rfl ?_); at_builtin; refine Kd.R_append Kd.string (w0 := w) w.heap.size rfl (.tmp 16) (.tmp 19) 22 9 (.string ⟨#[]⟩) 16 rfl Tryz.underlying22 info9 rfl (by decide) (by omega) u3 x3_1 t493 [.string t493] (fun _ => True) (fun _ => False) rfl rfl ?aP (fun _ hk => hk.elim) ?aF ?aO ?aB ?aS ?aL ?_; (case aP => exact rfl); (case aB => exact (hbT HB.out)); (case aF => exact (fun _ _ => trivial)); (case aO => exact (roT HO_3.out)); (case aS => exact (below_size (hbT HB.out))); (case aL => have := LMc9.out; omega); intro v495 w10 ho hb hg hat; rw [← Ny494.out] at ho; replace HB := asT (hb); have HO496 := asT (ho); clear HO_3 ho hb hg hat))
        go_roundg k1
        case measure => have := HK1.out; omega
        case rel => exact ⟨(y494), (wrap64 (x12_1 + 1)), rdT, H', ⟨by have := HK1.out; omega⟩, ⟨roT HO496.out⟩, ⟨hbT HB.out⟩⟩
       ·rw [if_neg c9] at H; exact absurd H (by simp)
      ·rw [if_neg c7] at H; exact absurd H (by simp)
     ·rw [if_neg c6] at H; exact absurd H (by simp)
    ·rw [if_neg c5] at H; have c5b0 := df c5; clear c5; obtain ⟨t497, A11, H⟩ := be H; obtain rfl := oI H; obtain ⟨Ao12, co12, eo12⟩ := Kd.R_slice HO_3.out; subst eo12
     go_wp2_with (first | ((with_reducible refine gate_callee (f := 123) rfl ?_); refine goesL_ (some 23) rfl rfl Tryz.func123 (by kernel_rfl) rfl #[.slice Ao12 x3_1.length co12, .string (⟨#[44]⟩ : ByteArray)] rfl eqT ?_; (with_reducible refine (strings_Join.calls _ _ x3_1 (⟨#[44]⟩ : ByteArray) t497 _ ?side1 ?side2 A11.out).mono ?_); (case side1 => exact caT (Kd.R_reads' HO_3.out).2.2); (case side2 => exact (Kd.R_reads' HO_3.out).2.1); rintro e w13 ⟨rfl, hb⟩; refine ⟨_, rfl, ?_⟩; replace HO_3 := asT (Kd.R_below (roT HO_3.out) hb); replace HB := hS HB hb; (try clear hb hb2 hk hi)))
     go_ret; exact ⟨rlT, hbT HB.out⟩
def impl_FormatRow.f (k : Nat) (a0_0 : ByteArray) (l0_1 : List ByteArray) (l0_2 : List (S42)) (l0_3 : List (List Int)) (a1 : Int) : Option (ByteArray) := (impl_isRowOf.f k a0_0 l0_1 l0_2 l0_3 a1).bind fun t499 => (if t499 = true then (if 0 ≤ a1 then (if a1 < (l0_2.length : Int) then ((impl_FormatCandidate.f k ((rd_T42 l0_2 a1).f0)).bind fun t501 => (if t501.size + 1 ≤ 9223372036854775807 then (if a1 < (l0_3.length : Int) then ((impl_joined.f k (rd_L6 l0_3 a1)).bind fun t503 => (if (t501 ++ (⟨#[32]⟩ : ByteArray)).size + t503.size ≤ 9223372036854775807 then (some ((t501 ++ (⟨#[32]⟩ : ByteArray)) ++ t503)) else (none))) else (none)) else (none))) else (none)) else (none)) else (some (⟨#[]⟩ : ByteArray)))
theorem impl_FormatRow.mono : ∀ a0 a1 a2 a3 a4 k, LeO (impl_FormatRow.f k a0 a1 a2 a3 a4) (impl_FormatRow.f (k + 1) a0 a1 a2 a3 a4) := by
 intro a0 a1 a2 a3 a4 k; unfold impl_FormatRow.f
 with_reducible repeat' first | exact impl_FormatCandidate.mono _ _ | exact impl_isRowOf.mono _ _ _ _ _ _ | exact impl_joined.mono _ _ | exact LeO.refl _ | exact LeO.none _ | refine LeO.ite ?_ ?_ | refine LeO.bind ?_ (fun _ => ?_)
def impl_FormatRow.T3 : Bool × List (List Nat × List Nat) := (true, [([], []), ([0], [0]), ([], []), ([1, 2], [1, 2]), ([3], [3]), ([4], [4]), ([5], [5]), ([], []), ([7], [7]), ([], []), ([8, 9], [8, 9]), ([10], [10]), ([11, 5], [11]), ([6, 12], [6, 12]), ([13, 12, 0, 1, 2, 3, 4, 5, 6, 7, 8, 9, 10, 11, 12, 13], [13])])
def impl_FormatRow.B3 : List Nat := [0, 1, 0, 7, 15, 31, 63, 0, 128, 0, 896, 1920, 4031, 8191, 16383]
theorem impl_FormatRow.tab3 : rtab .any (opsOf Tryz.f8 3) = impl_FormatRow.T3 := by kernel_rfl
theorem impl_FormatRow.bits3 : waitsOk impl_FormatRow.T3.2 impl_FormatRow.B3 = true := by kernel_rfl
theorem impl_FormatRow.calls (k : Nat) (a0_0 : ByteArray) (A0_1 : Option Addr) (c0_1 : Nat) (l0_1 : List ByteArray) (A0_2 : Option Addr) (c0_2 : Nat) (l0_2 : List (S42)) (A0_3 : Option Addr) (c0_3 : Nat) (l0_3 : List (List Int)) (a1 : Int) (r : ByteArray) (w : World) (hr0_1 : Kd.C Kd.string w A0_1 l0_1.length l0_1) (hc0_1 : l0_1.length ≤ c0_1) (hr0_2 : Kd.C k42 w A0_2 l0_2.length l0_2) (hc0_2 : l0_2.length ≤ c0_2) (hr0_3 : Kd.C (Kd.slice 3 (Kd.int .i64)) w A0_3 l0_3.length l0_3) (hc0_3 : l0_3.length ≤ c0_3) (h : impl_FormatRow.f k a0_0 l0_1 l0_2 l0_3 a1 = some r) :
  Calls Tryz.prog 8 #[.agg #[.string a0_0, .slice A0_1 l0_1.length c0_1, .slice A0_2 l0_2.length c0_2, .slice A0_3 l0_3.length c0_3], .int .i64 a1] w fun e w' => e = .returned (.string r) ∧ Below w.heap.size w w' := by
 have hu31 := Tryz.underlying31; have hu42 := Tryz.underlying42; have HR0_1 := asT hr0_1; have HC0_1 := asT hc0_1; clear hr0_1 hc0_1; have HR0_2 := asT hr0_2; have HC0_2 := asT hc0_2; clear hr0_2 hc0_2; have HR0_3 := asT hr0_3; have HC0_3 := asT hc0_3; clear hr0_3 hc0_3; have HB := asT (Below.refl w.heap.size w); have H := h; unfold impl_FormatRow.f at H; clear h; obtain ⟨t499, A3, H⟩ := be H; by_cases c4 : t499 = true
 ·subst c4; rw [if_pos rfl] at H; have H1 := H; clear H; have H := H1; clear H1; by_cases c5 : 0 ≤ a1
  ·rw [if_pos c5] at H; have c5b0 := dt c5; clear c5; by_cases c6 : a1 < (l0_2.length : Int)
   ·rw [if_pos c6] at H; have c6b0 := dt c6; clear c6; obtain ⟨t501, A7, H⟩ := be H; by_cases c8 : t501.size + 1 ≤ 9223372036854775807
    ·rw [if_pos c8] at H; have c8b0 := eq_true c8; have c8b1 : decide (t501.size + 1 ≤ 9223372036854775807) = true := dt c8
     try have c8b2 : (9223372036854775807 < t501.size + 1) = False := eq_false (Nat.not_lt.2 c8)
     by_cases c9 : a1 < (l0_3.length : Int)
     ·rw [if_pos c9] at H; have c9b0 := dt c9; clear c9; obtain ⟨t503, A10, H⟩ := be H; by_cases c11 : (t501 ++ (⟨#[32]⟩ : ByteArray)).size + t503.size ≤ 9223372036854775807
      ·rw [if_pos c11] at H; have c11b0 := eq_true c11; have c11b1 : decide ((t501 ++ (⟨#[32]⟩ : ByteArray)).size + t503.size ≤ 9223372036854775807) = true := dt c11
       try have c11b2 : (9223372036854775807 < (t501 ++ (⟨#[32]⟩ : ByteArray)).size + t503.size) = False := eq_false (Nat.not_lt.2 c11); try have c11b3 : (9223372036854775807 < t501.size + 1 + t503.size) = False := eq_false (fun h_ => Nat.not_lt.2 c11 (by rw [ByteArray.size_append]; exact h_))
       obtain rfl := oI H; go_enter Tryz.func8, Tryz.ntmps8
       try go_wp2_with (first | ((with_reducible refine gate_dst (N := 2) rfl ?_); refine boxT (N := 2) (cs := #[.string a0_0, .slice A0_1 l0_1.length c0_1, .slice A0_2 l0_2.length c0_2, .slice A0_3 l0_3.length c0_3]) (t := 31) ?_; intro gb498 hg w12 hbox hb; have BK498 := asT hbox; have GW498 := asT (geT hg HB.out); have GE498 := GW498; replace HB := hS HB hb; clear hb hbox hg; obtain ⟨hcz13_0, hcz13_1, hcz13_2, hcz13_3, hfz13_0, hfz13_1, hfz13_2, hfz13_3⟩ := bx4 BK498.out) | ((with_reducible refine gate_callee (f := 76) rfl ?_); refine goesL_ (some 7) rfl rfl Tryz.func76 (by kernel_rfl) rfl #[.agg #[.string a0_0, .slice A0_1 l0_1.length c0_1, .slice A0_2 l0_2.length c0_2, .slice A0_3 l0_3.length c0_3], .int .i64 a1] rfl eqT ?_; (with_reducible refine (impl_isRowOf.calls k a0_0 _ _ l0_1 _ _ l0_2 _ _ l0_3 a1 true _ ?side1 ?side2 ?side3 ?side4 ?side5 ?side6 A3.out).mono ?_); (case side1 => exact crT HR0_1.out HB.out); (case side2 => exact HC0_1.out); (case side3 => exact crT HR0_2.out HB.out); (case side4 => exact HC0_2.out); (case side5 => exact crT HR0_3.out HB.out); (case side6 => exact HC0_3.out); rintro e w14 ⟨rfl, hb⟩; refine ⟨_, rfl, ?_⟩; replace BK498 := bS BK498 hb; replace HB := hS HB hb; (try clear hb hb2 hk hi)))
       replace BK498 := asT (blk_drew BK498.out); replace HB := asT (below_drew1 HB.out); have p500 : 0 ≤ (a1 : Int) := dT asmT; have q500 : a1 < (l0_2.length : Int) := dT asmT; obtain ⟨ad500, A500_0, c500_0, e500, hx500_0, hl500_0, hi500_0⟩ := at_T42 HR0_2.out a1 p500 q500; have hw500_0 := hx500_0
       cases e500
       replace hx500_0 := hbc HB.out hx500_0; have HR500_0 := asT hi500_0; have HC500_0 := asT hl500_0; clear hi500_0 hl500_0; replace p500 := eq_true p500; replace q500 := eq_true q500; have p502 : 0 ≤ (a1 : Int) := dT asmT; have q502 : a1 < (l0_3.length : Int) := dT asmT; obtain ⟨ad502, A502_0, c502_0, e502, hx502_0, hl502_0, hi502_0⟩ := at_L6 HR0_3.out a1 p502 q502; have hw502_0 := hx502_0
       cases e502
       replace hx502_0 := hbc HB.out hx502_0; have HR502_0 := asT hi502_0; have HC502_0 := asT hl502_0; clear hi502_0 hl502_0; replace p502 := eq_true p502; replace q502 := eq_true q502; refine start_ (n := 15) (S := fun w' => w'.cell? ⟨gb498, 0, none⟩ = some (.string a0_0) ∧ w'.cell? ⟨gb498, 1, none⟩ = some (.slice A0_1 l0_1.length c0_1) ∧ w'.cell? ⟨gb498, 2, none⟩ = some (.slice (some ad500) l0_2.length c0_2) ∧ w'.cell? ⟨gb498, 3, none⟩ = some (.slice (some ad502) l0_3.length c0_3) ∧ w'.cell? (ad500.add (a1).toNat) = some (.slice A500_0 ((rd_T42 l0_2 a1).f0).length c500_0) ∧ w'.cell? (ad502.add (a1).toNat) = some (.slice A502_0 (rd_L6 l0_3 a1).length c502_0)) (ds := []) (bA 15 0) (by kernel_rfl) rfl rfl ⟨bc0 BK498.out, bc1 BK498.out, bc2 BK498.out, bc3 BK498.out, (hbc HB.out hw500_0 :), (hbc HB.out hw502_0 :)⟩ (fun hHeld => ?_); refine with_tabW impl_FormatRow.tab3 impl_FormatRow.bits3 (fun HT_ HW_ => ?_); generalize w14.drew = w15 at BK498 HB HR500_0 HR502_0 hx500_0 hx502_0 hHeld ⊢; refine pA 0 9 15 1 HT_.out ?_ rfl rfl; refine pA 2 11 15 5 HT_.out ?_ rfl rfl; refine pA 7 16 15 133 HT_.out ?_ rfl rfl; refine pA 9 18 15 645 HT_.out ?_ rfl rfl; refine tA 1 10 15 647 HT_.out HW_.out hHeld ?_ rfl rfl; refine pA 3 12 15 655 HT_.out ?_ rfl rfl; refine tA 4 13 15 671 HT_.out HW_.out hHeld ?_ rfl rfl; refine tA 8 17 15 927 HT_.out HW_.out hHeld ?_ rfl rfl; refine pA 10 19 15 1951 HT_.out ?_ rfl rfl; refine tA 11 20 15 3999 HT_.out HW_.out hHeld ?_ rfl rfl; refine oA 5 14 15 4031 HT_.out (fun K hK => ?_) rfl rfl; refine goes_ Tryz.func77 (by kernel_rfl) rfl #[.agg #[.slice A500_0 ((rd_T42 l0_2 a1).f0).length c500_0]] (by rfl) rfl rfl eqT ?_
       (with_reducible refine (impl_FormatCandidate.calls k _ _ ((rd_T42 l0_2 a1).f0) t501 _ ?side1 ?side2 A7.out).mono ?_); (case side1 => exact crT HR500_0.out HB.out); (case side2 => exact HC500_0.out); rintro e w16 ⟨rfl, hb⟩; refine ⟨_, rfl, ?_⟩; replace BK498 := bS BK498 hb; replace HB := hS HB hb; (try clear hb hb2 hk hi)
       refine hK.out _ _ ⟨bc0 BK498.out, bc1 BK498.out, bc2 BK498.out, bc3 BK498.out, (hbc HB.out hw500_0 :), (hbc HB.out hw502_0 :)⟩ (fun hHeld => ?_); clear hK K; refine nB 14 ?_ rfl; refine pA 6 15 15 4095 HT_.out ?_ rfl rfl; refine oA 12 21 15 8191 HT_.out (fun K hK => ?_) rfl rfl; refine goes_ Tryz.func78 (by kernel_rfl) rfl #[.slice A502_0 (rd_L6 l0_3 a1).length c502_0] (by rfl) rfl rfl eqT ?_
       (with_reducible refine (impl_joined.calls k _ _ (rd_L6 l0_3 a1) t503 _ ?side1 ?side2 A10.out).mono ?_); (case side1 => exact crT HR502_0.out HB.out); (case side2 => exact HC502_0.out); rintro e w17 ⟨rfl, hb⟩; refine ⟨_, rfl, ?_⟩; replace BK498 := bS BK498 hb; replace HB := hS HB hb; (try clear hb hb2 hk hi)
       refine hK.out _ _ ⟨bc0 BK498.out, bc1 BK498.out, bc2 BK498.out, bc3 BK498.out, (hbc HB.out hw500_0 :), (hbc HB.out hw502_0 :)⟩ (fun hHeld => ?_); clear hK K; refine nB 21 ?_ rfl; refine pA 13 22 15 16383 HT_.out ?_ rfl rfl; refine pA 14 4 15 32767 HT_.out ?_ rfl rfl; refine done_ (done_of HT_.out (by kernel_rfl)) ?_
       try go_wp2
       go_ret; exact ⟨rlT, hbT HB.out⟩
      ·rw [if_neg c11] at H; exact absurd H (by simp)
     ·rw [if_neg c9] at H; exact absurd H (by simp)
    ·rw [if_neg c8] at H; exact absurd H (by simp)
   ·rw [if_neg c6] at H; exact absurd H (by simp)
  ·rw [if_neg c5] at H; exact absurd H (by simp)
 ·replace c4 := eE c4; subst c4; rw [if_neg nF] at H; have H1 := H; clear H; have H := H1; clear H1; obtain rfl := oI H; go_enter Tryz.func8, Tryz.ntmps8
  go_wp2_with (first | ((with_reducible refine gate_dst (N := 2) rfl ?_); refine boxT (N := 2) (cs := #[.string a0_0, .slice A0_1 l0_1.length c0_1, .slice A0_2 l0_2.length c0_2, .slice A0_3 l0_3.length c0_3]) (t := 31) ?_; intro gb498 hg w18 hbox hb; have BK498 := asT hbox; have GW498 := asT (geT hg HB.out); have GE498 := GW498; replace HB := hS HB hb; clear hb hbox hg; obtain ⟨hcz19_0, hcz19_1, hcz19_2, hcz19_3, hfz19_0, hfz19_1, hfz19_2, hfz19_3⟩ := bx4 BK498.out) | ((with_reducible refine gate_callee (f := 76) rfl ?_); refine goesL_ (some 7) rfl rfl Tryz.func76 (by kernel_rfl) rfl #[.agg #[.string a0_0, .slice A0_1 l0_1.length c0_1, .slice A0_2 l0_2.length c0_2, .slice A0_3 l0_3.length c0_3], .int .i64 a1] rfl eqT ?_; (with_reducible refine (impl_isRowOf.calls k a0_0 _ _ l0_1 _ _ l0_2 _ _ l0_3 a1 false _ ?side1 ?side2 ?side3 ?side4 ?side5 ?side6 A3.out).mono ?_); (case side1 => exact crT HR0_1.out HB.out); (case side2 => exact HC0_1.out); (case side3 => exact crT HR0_2.out HB.out); (case side4 => exact HC0_2.out); (case side5 => exact crT HR0_3.out HB.out); (case side6 => exact HC0_3.out); rintro e w20 ⟨rfl, hb⟩; refine ⟨_, rfl, ?_⟩; replace BK498 := bS BK498 hb; replace HB := hS HB hb; (try clear hb hb2 hk hi)))
  go_ret; exact ⟨rlT, hbT HB.out⟩
def laws_eqStringS.l0 : Nat → List ByteArray → List ByteArray → Int → Option (Bool)
 | 0, _, _, _ => none
 | k + 1, x0, x1, x5 => if x5 < (x0.length : Int) then (if 0 ≤ x5 then (if x5 < (x1.length : Int) then (if (rdOf ByteArray.empty x0 x5).toList = (rdOf ByteArray.empty x1 x5).toList then (laws_eqStringS.l0 k x0 x1 (wrap64 (x5 + 1))) else (some false)) else (none)) else (none)) else (some true)
def laws_eqStringS.f (k : Nat) (l0 : List ByteArray) (l1 : List ByteArray) : Option (Bool) := if (l0.length : Int) = (l1.length : Int) then (laws_eqStringS.l0 k l0 l1 0) else (some false)
theorem laws_eqStringS.mono_l : ∀ k, (∀ y0 y1 y2, LeO (laws_eqStringS.l0 k y0 y1 y2) (laws_eqStringS.l0 (k + 1) y0 y1 y2))
 | 0 => fun _ _ _ r h => by simp [laws_eqStringS.l0] at h
 | k + 1 => by
  have ih0 := laws_eqStringS.mono_l k
  ·intro y0 y1 y2; unfold laws_eqStringS.l0
   with_reducible repeat' first | exact ih0 _ _ _ | exact LeO.refl _ | exact LeO.none _ | refine LeO.ite ?_ ?_ | refine LeO.bind ?_ (fun _ => ?_)
theorem laws_eqStringS.mono : ∀ a0 a1 k, LeO (laws_eqStringS.f k a0 a1) (laws_eqStringS.f (k + 1) a0 a1) := by
 intro a0 a1 k; have ih0 := laws_eqStringS.mono_l k; unfold laws_eqStringS.f
 with_reducible repeat' first | exact ih0 _ _ _ | exact LeO.refl _ | exact LeO.none _ | refine LeO.ite ?_ ?_ | refine LeO.bind ?_ (fun _ => ?_)
theorem laws_eqStringS.calls (k : Nat) (A0 : Option Addr) (c0 : Nat) (l0 : List ByteArray) (A1 : Option Addr) (c1 : Nat) (l1 : List ByteArray) (r : Bool) (w : World) (hr0 : Kd.C Kd.string w A0 l0.length l0) (hc0 : l0.length ≤ c0) (hr1 : Kd.C Kd.string w A1 l1.length l1) (hc1 : l1.length ≤ c1) (h : laws_eqStringS.f k l0 l1 = some r) :
  Calls Tryz.prog 79 #[.slice A0 l0.length c0, .slice A1 l1.length c1] w fun e w' => e = .returned (.bool r) ∧ Drawn0 w w' := by
 have HR0 := asT hr0; have HC0 := asT hc0; clear hr0 hc0; have HR1 := asT hr1; have HC1 := asT hc1; clear hr1 hc1; have H := h; unfold laws_eqStringS.f at H; clear h; by_cases c3 : (l0.length : Int) = (l1.length : Int)
 ·rw [if_pos c3] at H; have c3b0 : ((l0.length : Int) == (l1.length : Int)) = true := eC c3; have c3b1 : ((l0.length : Int) != (l1.length : Int)) = false := eA c3
  have c3b2 : (l0.length == l1.length) = true := by first | simpa using c3 | (simp at c3 ⊢; omega)
  clear c3; have H' := asT H; clear H; go_enter Tryz.func79, Tryz.ntmps79
  go_wp2
  repeat (go_quiet (fail); try go_wp2)
  go_loopg [5] k (fun kq v5 w' => ∃ (x5_1 : Int), v5 = .int .i64 x5_1 ∧ Aside0 (laws_eqStringS.l0 kq l0 l1 x5_1 = some r) ∧ Aside0 (kq ≤ k) ∧ Drawn0 w w')
  case atStart => exact ⟨(0), rdT, H', ⟨Nat.le_refl _⟩, drT⟩
  case round =>
   clear H'; (try clear c1 p2 c3 c3b0 c3b1 c3b2); obtain ⟨x5_1, rfl, HA, HK1, ⟨m1, rfl⟩⟩ := hrel
   cases gk with
   | zero => exact absurd HA.out (by simp [laws_eqStringS.l0])
   | succ k1 =>
    have H := HA.out; clear HA
    simp only [laws_eqStringS.l0] at H
    by_cases c4 : x5_1 < (l0.length : Int)
    ·rw [if_pos c4] at H; have c4b0 := dt c4; clear c4; by_cases c5 : 0 ≤ x5_1
     ·rw [if_pos c5] at H; have c5b0 := dt c5; clear c5; by_cases c6 : x5_1 < (l1.length : Int)
      ·rw [if_pos c6] at H; have c6b0 := dt c6; clear c6; by_cases c7 : (rdOf ByteArray.empty l0 x5_1).toList = (rdOf ByteArray.empty l1 x5_1).toList
       ·rw [if_pos c7] at H; have c7b0 : ((rdOf ByteArray.empty l0 x5_1).toList == (rdOf ByteArray.empty l1 x5_1).toList) = true := eC c7; have c7b1 : ((rdOf ByteArray.empty l0 x5_1).toList != (rdOf ByteArray.empty l1 x5_1).toList) = false := eA c7; clear c7; have H' := asT H; clear H; have p504 : 0 ≤ (x5_1 : Int) := dT asmT; have q504 : x5_1 < (l0.length : Int) := dT asmT; obtain ⟨ad504, e504, hx504_0⟩ := Kd.at_string HR0.out x5_1 p504 q504
        cases e504
        replace p504 := eq_true p504; replace q504 := eq_true q504; have p505 : 0 ≤ (x5_1 : Int) := dT asmT; have q505 : x5_1 < (l1.length : Int) := dT asmT; obtain ⟨ad505, e505, hx505_0⟩ := Kd.at_string HR1.out x5_1 p505 q505
        cases e505
        replace p505 := eq_true p505; replace q505 := eq_true q505
        go_wp2
        repeat (go_quiet (fail); try go_wp2)
        go_roundg k1
        case measure => have := HK1.out; omega
        case rel => exact ⟨(wrap64 (x5_1 + 1)), rdT, H', ⟨by have := HK1.out; omega⟩, drT⟩
       ·rw [if_neg c7] at H; have c7b0 : ((rdOf ByteArray.empty l0 x5_1).toList == (rdOf ByteArray.empty l1 x5_1).toList) = false := eB c7; have c7b1 : ((rdOf ByteArray.empty l0 x5_1).toList != (rdOf ByteArray.empty l1 x5_1).toList) = true := eD c7; obtain rfl := oI H; have p504 : 0 ≤ (x5_1 : Int) := dT asmT; have q504 : x5_1 < (l0.length : Int) := dT asmT; obtain ⟨ad504, e504, hx504_0⟩ := Kd.at_string HR0.out x5_1 p504 q504
        cases e504
        replace p504 := eq_true p504; replace q504 := eq_true q504; have p505 : 0 ≤ (x5_1 : Int) := dT asmT; have q505 : x5_1 < (l1.length : Int) := dT asmT; obtain ⟨ad505, e505, hx505_0⟩ := Kd.at_string HR1.out x5_1 p505 q505
        cases e505
        replace p505 := eq_true p505; replace q505 := eq_true q505
        go_wp2
        repeat (go_quiet (fail); try go_wp2)
        go_ret; exact ⟨rdT, drT⟩
      ·rw [if_neg c6] at H; exact absurd H (by simp)
     ·rw [if_neg c5] at H; exact absurd H (by simp)
    ·rw [if_neg c4] at H; have c4b0 := df c4; clear c4; obtain rfl := oI H
     go_wp2
     repeat (go_quiet (fail); try go_wp2)
     go_ret; exact ⟨rdT, drT⟩
 ·rw [if_neg c3] at H; have c3b0 : ((l0.length : Int) == (l1.length : Int)) = false := eB c3; have c3b1 : ((l0.length : Int) != (l1.length : Int)) = true := eD c3
  have c3b2 : (l0.length == l1.length) = false := by first | simpa using c3 | (simp at c3 ⊢; omega)
  obtain rfl := oI H; go_enter Tryz.func79, Tryz.ntmps79
  go_wp2
  repeat (go_quiet (fail); try go_wp2)
  go_ret; exact ⟨rdT, drT⟩
def laws_eqLink.f (a0_0 : Int) (a0_1 : Int) (a1_0 : Int) (a1_1 : Int) : Option (Bool) := if a0_0 = a1_0 then (if a0_1 = a1_1 then (some true) else (some false)) else (some false)
theorem laws_eqLink.calls (a0_0 : Int) (a0_1 : Int) (a1_0 : Int) (a1_1 : Int) (r : Bool) (w : World) (h : laws_eqLink.f a0_0 a0_1 a1_0 a1_1 = some r) :
  Calls Tryz.prog 173 #[.agg #[.int .u8 a0_0, .int .u8 a0_1], .agg #[.int .u8 a1_0, .int .u8 a1_1]] w fun e w' => e = .returned (.bool r) ∧ Below w.heap.size w w' := by
 have hu90 := Tryz.underlying90; have HB := asT (Below.refl w.heap.size w); have H := h; unfold laws_eqLink.f at H; clear h; by_cases c3 : a0_0 = a1_0
 ·rw [if_pos c3] at H; have c3b0 : (a0_0 == a1_0) = true := eC c3; have c3b1 : (a0_0 != a1_0) = false := eA c3; clear c3; by_cases c4 : a0_1 = a1_1
  ·rw [if_pos c4] at H; have c4b0 : (a0_1 == a1_1) = true := eC c4; have c4b1 : (a0_1 != a1_1) = false := eA c4; clear c4; obtain rfl := oI H; go_enter Tryz.func173, Tryz.ntmps173
   go_wp2_with (first | ((with_reducible refine gate_dst (N := 2) rfl ?_); refine boxT (N := 2) (cs := #[.int .u8 a0_0, .int .u8 a0_1]) (t := 90) ?_; intro gb506 hg w5 hbox hb; have BK506 := asT hbox; have GW506 := asT (geT hg HB.out); have GE506 := GW506; replace HB := hS HB hb; clear hb hbox hg) | ((with_reducible refine gate_dst (N := 3) rfl ?_); refine boxT (N := 3) (cs := #[.int .u8 a1_0, .int .u8 a1_1]) (t := 90) ?_; intro gb507 hg w6 hbox hb; have BK507 := asT (hbox); have GW507 := asT (geT hg HB.out); have GE507 := asT (geT hg HB.out); replace HB := hS HB hb; have NB506_507 := asT ((by rw [hg]; exact Nat.ne_of_lt (blk_lt (bkT BK506.out)) : gb506 ≠ gb507)); have NB507_506 := asT ((by rw [hg]; exact Nat.ne_of_gt (blk_lt (bkT BK506.out)) : gb507 ≠ gb506)); replace BK506 := bS BK506 hb; clear hb hbox hg; have hnb7 := NB506_507.out; have hnc7 := NB507_506.out; obtain ⟨hcz8_0, hcz8_1, hfz8_0, hfz8_1⟩ := bx2 BK506.out; obtain ⟨hcz9_0, hcz9_1, hfz9_0, hfz9_1⟩ := bx2 BK507.out))
   go_ret; exact ⟨rlT, hbT HB.out⟩
  ·rw [if_neg c4] at H; have c4b0 : (a0_1 == a1_1) = false := eB c4; have c4b1 : (a0_1 != a1_1) = true := eD c4; obtain rfl := oI H; go_enter Tryz.func173, Tryz.ntmps173
   go_wp2_with (first | ((with_reducible refine gate_dst (N := 2) rfl ?_); refine boxT (N := 2) (cs := #[.int .u8 a0_0, .int .u8 a0_1]) (t := 90) ?_; intro gb506 hg w10 hbox hb; have BK506 := asT hbox; have GW506 := asT (geT hg HB.out); have GE506 := GW506; replace HB := hS HB hb; clear hb hbox hg) | ((with_reducible refine gate_dst (N := 3) rfl ?_); refine boxT (N := 3) (cs := #[.int .u8 a1_0, .int .u8 a1_1]) (t := 90) ?_; intro gb507 hg w11 hbox hb; have BK507 := asT (hbox); have GW507 := asT (geT hg HB.out); have GE507 := asT (geT hg HB.out); replace HB := hS HB hb; have NB506_507 := asT ((by rw [hg]; exact Nat.ne_of_lt (blk_lt (bkT BK506.out)) : gb506 ≠ gb507)); have NB507_506 := asT ((by rw [hg]; exact Nat.ne_of_gt (blk_lt (bkT BK506.out)) : gb507 ≠ gb506)); replace BK506 := bS BK506 hb; clear hb hbox hg; have hnb12 := NB506_507.out; have hnc12 := NB507_506.out; obtain ⟨hcz13_0, hcz13_1, hfz13_0, hfz13_1⟩ := bx2 BK506.out; obtain ⟨hcz14_0, hcz14_1, hfz14_0, hfz14_1⟩ := bx2 BK507.out))
   go_ret; exact ⟨rlT, hbT HB.out⟩
 ·rw [if_neg c3] at H; have c3b0 : (a0_0 == a1_0) = false := eB c3; have c3b1 : (a0_0 != a1_0) = true := eD c3; obtain rfl := oI H; go_enter Tryz.func173, Tryz.ntmps173
  go_wp2_with (first | ((with_reducible refine gate_dst (N := 2) rfl ?_); refine boxT (N := 2) (cs := #[.int .u8 a0_0, .int .u8 a0_1]) (t := 90) ?_; intro gb506 hg w15 hbox hb; have BK506 := asT hbox; have GW506 := asT (geT hg HB.out); have GE506 := GW506; replace HB := hS HB hb; clear hb hbox hg) | ((with_reducible refine gate_dst (N := 3) rfl ?_); refine boxT (N := 3) (cs := #[.int .u8 a1_0, .int .u8 a1_1]) (t := 90) ?_; intro gb507 hg w16 hbox hb; have BK507 := asT (hbox); have GW507 := asT (geT hg HB.out); have GE507 := asT (geT hg HB.out); replace HB := hS HB hb; have NB506_507 := asT ((by rw [hg]; exact Nat.ne_of_lt (blk_lt (bkT BK506.out)) : gb506 ≠ gb507)); have NB507_506 := asT ((by rw [hg]; exact Nat.ne_of_gt (blk_lt (bkT BK506.out)) : gb507 ≠ gb506)); replace BK506 := bS BK506 hb; clear hb hbox hg; have hnb17 := NB506_507.out; have hnc17 := NB507_506.out; obtain ⟨hcz18_0, hcz18_1, hfz18_0, hfz18_1⟩ := bx2 BK506.out; obtain ⟨hcz19_0, hcz19_1, hfz19_0, hfz19_1⟩ := bx2 BK507.out))
  go_ret; exact ⟨rlT, hbT HB.out⟩
def laws_eqLinkS.l0 : Nat → List (S90) → List (S90) → Int → Option (Bool)
 | 0, _, _, _ => none
 | k + 1, x0, x1, x5 => if x5 < (x0.length : Int) then (if 0 ≤ x5 then (if x5 < (x1.length : Int) then ((laws_eqLink.f ((rd_T90 x0 x5).f0) ((rd_T90 x0 x5).f1) ((rd_T90 x1 x5).f0) ((rd_T90 x1 x5).f1)).bind fun t510 => (if t510 = true then (laws_eqLinkS.l0 k x0 x1 (wrap64 (x5 + 1))) else (some false))) else (none)) else (none)) else (some true)
def laws_eqLinkS.f (k : Nat) (l0 : List (S90)) (l1 : List (S90)) : Option (Bool) := if (l0.length : Int) = (l1.length : Int) then (laws_eqLinkS.l0 k l0 l1 0) else (some false)
theorem laws_eqLinkS.mono_l : ∀ k, (∀ y0 y1 y2, LeO (laws_eqLinkS.l0 k y0 y1 y2) (laws_eqLinkS.l0 (k + 1) y0 y1 y2))
 | 0 => fun _ _ _ r h => by simp [laws_eqLinkS.l0] at h
 | k + 1 => by
  have ih0 := laws_eqLinkS.mono_l k
  ·intro y0 y1 y2; unfold laws_eqLinkS.l0
   with_reducible repeat' first | exact ih0 _ _ _ | exact LeO.refl _ | exact LeO.none _ | refine LeO.ite ?_ ?_ | refine LeO.bind ?_ (fun _ => ?_)
theorem laws_eqLinkS.mono : ∀ a0 a1 k, LeO (laws_eqLinkS.f k a0 a1) (laws_eqLinkS.f (k + 1) a0 a1) := by
 intro a0 a1 k; have ih0 := laws_eqLinkS.mono_l k; unfold laws_eqLinkS.f
 with_reducible repeat' first | exact ih0 _ _ _ | exact LeO.refl _ | exact LeO.none _ | refine LeO.ite ?_ ?_ | refine LeO.bind ?_ (fun _ => ?_)
def laws_eqLinkS.T6 : Bool × List (List Nat × List Nat) := (true, [([], []), ([], []), ([0, 1], [0, 1]), ([2], [2]), ([], []), ([], []), ([4, 5], [4, 5]), ([6], [6]), ([3, 7], [3, 7]), ([8], [8])])
def laws_eqLinkS.B6 : List Nat := [0, 0, 3, 7, 0, 0, 48, 112, 255, 511]
theorem laws_eqLinkS.tab6 : rtab .any (opsOf Tryz.f162 6) = laws_eqLinkS.T6 := by kernel_rfl
theorem laws_eqLinkS.bits6 : waitsOk laws_eqLinkS.T6.2 laws_eqLinkS.B6 = true := by kernel_rfl
theorem laws_eqLinkS.calls (k : Nat) (A0 : Option Addr) (c0 : Nat) (l0 : List (S90)) (A1 : Option Addr) (c1 : Nat) (l1 : List (S90)) (r : Bool) (w : World) (hr0 : Kd.C k90 w A0 l0.length l0) (hc0 : l0.length ≤ c0) (hr1 : Kd.C k90 w A1 l1.length l1) (hc1 : l1.length ≤ c1) (h : laws_eqLinkS.f k l0 l1 = some r) :
  Calls Tryz.prog 162 #[.slice A0 l0.length c0, .slice A1 l1.length c1] w fun e w' => e = .returned (.bool r) ∧ Below w.heap.size w w' := by
 have hu90 := Tryz.underlying90; have HR0 := asT hr0; have HC0 := asT hc0; clear hr0 hc0; have HR1 := asT hr1; have HC1 := asT hc1; clear hr1 hc1; have HB := asT (Below.refl w.heap.size w); have H := h; unfold laws_eqLinkS.f at H; clear h; by_cases c3 : (l0.length : Int) = (l1.length : Int)
 ·rw [if_pos c3] at H; have c3b0 : ((l0.length : Int) == (l1.length : Int)) = true := eC c3; have c3b1 : ((l0.length : Int) != (l1.length : Int)) = false := eA c3
  have c3b2 : (l0.length == l1.length) = true := by first | simpa using c3 | (simp at c3 ⊢; omega)
  clear c3; have H' := asT H; clear H; go_enter Tryz.func162, Tryz.ntmps162
  go_wp2
  go_loopg [5] k (fun kq v5 w' => ∃ (x5_1 : Int), v5 = .int .i64 x5_1 ∧ Aside0 (laws_eqLinkS.l0 kq l0 l1 x5_1 = some r) ∧ Aside0 (kq ≤ k) ∧ Aside0 (Below w.heap.size w w'))
  case atStart => exact ⟨(0), rdT, H', ⟨Nat.le_refl _⟩, ⟨hbT HB.out⟩⟩
  case round =>
   clear H'; (try clear c1 p2 c3 c3b0 c3b1 c3b2); obtain ⟨x5_1, rfl, HA, HK1, HB⟩ := hrel
   cases gk with
   | zero => exact absurd HA.out (by simp [laws_eqLinkS.l0])
   | succ k1 =>
    have H := HA.out; clear HA
    simp only [laws_eqLinkS.l0] at H
    by_cases c4 : x5_1 < (l0.length : Int)
    ·rw [if_pos c4] at H; have c4b0 := dt c4; clear c4; by_cases c5 : 0 ≤ x5_1
     ·rw [if_pos c5] at H; have c5b0 := dt c5; clear c5; by_cases c6 : x5_1 < (l1.length : Int)
      ·rw [if_pos c6] at H; have c6b0 := dt c6; clear c6; obtain ⟨t510, A7, H⟩ := be H; by_cases c8 : t510 = true
       ·subst c8; rw [if_pos rfl] at H; have H' := asT H; clear H
        try go_wp2
        replace HB := asT (below_drew1 HB.out); have p508 : 0 ≤ (x5_1 : Int) := dT asmT; have q508 : x5_1 < (l0.length : Int) := dT asmT; obtain ⟨ad508, e508, hx508_0, hx508_1⟩ := at_T90 HR0.out x5_1 p508 q508; have hw508_1 := hx508_1; have hw508_0 := hx508_0
        cases e508
        replace hx508_0 := hbc HB.out hx508_0; replace hx508_1 := hbc HB.out hx508_1; replace p508 := eq_true p508; replace q508 := eq_true q508; have p509 : 0 ≤ (x5_1 : Int) := dT asmT; have q509 : x5_1 < (l1.length : Int) := dT asmT; obtain ⟨ad509, e509, hx509_0, hx509_1⟩ := at_T90 HR1.out x5_1 p509 q509; have hw509_1 := hx509_1; have hw509_0 := hx509_0
        cases e509
        replace hx509_0 := hbc HB.out hx509_0; replace hx509_1 := hbc HB.out hx509_1; replace p509 := eq_true p509; replace q509 := eq_true q509; refine start_ (n := 10) (S := fun w' => w'.cell? (ad508.add ((x5_1).toNat * 2)) = some (.int .u8 ((rd_T90 l0 x5_1).f0)) ∧ w'.cell? ⟨(ad508.add ((x5_1).toNat * 2)).block, (ad508.add ((x5_1).toNat * 2)).off + 1, none⟩ = some (.int .u8 ((rd_T90 l0 x5_1).f1)) ∧ w'.cell? (ad509.add ((x5_1).toNat * 2)) = some (.int .u8 ((rd_T90 l1 x5_1).f0)) ∧ w'.cell? ⟨(ad509.add ((x5_1).toNat * 2)).block, (ad509.add ((x5_1).toNat * 2)).off + 1, none⟩ = some (.int .u8 ((rd_T90 l1 x5_1).f1))) (ds := []) (bA 10 0) (by kernel_rfl) rfl rfl ⟨(hbc HB.out hw508_0 :), (hbc HB.out hw508_1 :), (hbc HB.out hw509_0 :), (hbc HB.out hw509_1 :)⟩ (fun hHeld => ?_); refine with_tabW laws_eqLinkS.tab6 laws_eqLinkS.bits6 (fun HT_ HW_ => ?_); generalize wr.drew = w9 at HB hx508_0 hx508_1 hx509_0 hx509_1 hHeld ⊢; refine pA 0 17 10 1 HT_.out ?_ rfl rfl; refine pA 1 18 10 3 HT_.out ?_ rfl rfl; refine pA 2 19 10 7 HT_.out ?_ rfl rfl; refine pA 4 21 10 23 HT_.out ?_ rfl rfl; refine pA 5 22 10 55 HT_.out ?_ rfl rfl; refine pA 6 23 10 119 HT_.out ?_ rfl rfl; refine tA 3 20 10 127 HT_.out HW_.out hHeld ?_ rfl rfl; refine tA 7 24 10 255 HT_.out HW_.out hHeld ?_ rfl rfl; refine oA 8 25 10 511 HT_.out (fun K hK => ?_) rfl rfl; refine goes_ Tryz.func173 (by kernel_rfl) rfl #[.agg #[.int .u8 ((rd_T90 l0 x5_1).f0), .int .u8 ((rd_T90 l0 x5_1).f1)], .agg #[.int .u8 ((rd_T90 l1 x5_1).f0), .int .u8 ((rd_T90 l1 x5_1).f1)]] (by rfl) rfl rfl eqT ?_
        (with_reducible refine (laws_eqLink.calls ((rd_T90 l0 x5_1).f0) ((rd_T90 l0 x5_1).f1) ((rd_T90 l1 x5_1).f0) ((rd_T90 l1 x5_1).f1) true _ A7.out).mono ?_); rintro e w10 ⟨rfl, hb⟩; refine ⟨_, rfl, ?_⟩; replace HB := hS HB hb; (try clear hb hb2 hk hi)
        refine hK.out _ _ ⟨(hbc HB.out hw508_0 :), (hbc HB.out hw508_1 :), (hbc HB.out hw509_0 :), (hbc HB.out hw509_1 :)⟩ (fun hHeld => ?_); clear hK K; refine nB 25 ?_ rfl; refine pA 9 26 10 1023 HT_.out ?_ rfl rfl; refine done_ (done_of HT_.out (by kernel_rfl)) ?_
        try go_wp2
        go_roundg k1
        case measure => have := HK1.out; omega
        case rel => exact ⟨(wrap64 (x5_1 + 1)), rdT, H', ⟨by have := HK1.out; omega⟩, ⟨hbT HB.out⟩⟩
       ·replace c8 := eE c8; subst c8; rw [if_neg nF] at H; have H1 := H; clear H; have H := H1; clear H1; obtain rfl := oI H
        try go_wp2
        replace HB := asT (below_drew1 HB.out); have p508 : 0 ≤ (x5_1 : Int) := dT asmT; have q508 : x5_1 < (l0.length : Int) := dT asmT; obtain ⟨ad508, e508, hx508_0, hx508_1⟩ := at_T90 HR0.out x5_1 p508 q508; have hw508_1 := hx508_1; have hw508_0 := hx508_0
        cases e508
        replace hx508_0 := hbc HB.out hx508_0; replace hx508_1 := hbc HB.out hx508_1; replace p508 := eq_true p508; replace q508 := eq_true q508; have p509 : 0 ≤ (x5_1 : Int) := dT asmT; have q509 : x5_1 < (l1.length : Int) := dT asmT; obtain ⟨ad509, e509, hx509_0, hx509_1⟩ := at_T90 HR1.out x5_1 p509 q509; have hw509_1 := hx509_1; have hw509_0 := hx509_0
        cases e509
        replace hx509_0 := hbc HB.out hx509_0; replace hx509_1 := hbc HB.out hx509_1; replace p509 := eq_true p509; replace q509 := eq_true q509; refine start_ (n := 10) (S := fun w' => w'.cell? (ad508.add ((x5_1).toNat * 2)) = some (.int .u8 ((rd_T90 l0 x5_1).f0)) ∧ w'.cell? ⟨(ad508.add ((x5_1).toNat * 2)).block, (ad508.add ((x5_1).toNat * 2)).off + 1, none⟩ = some (.int .u8 ((rd_T90 l0 x5_1).f1)) ∧ w'.cell? (ad509.add ((x5_1).toNat * 2)) = some (.int .u8 ((rd_T90 l1 x5_1).f0)) ∧ w'.cell? ⟨(ad509.add ((x5_1).toNat * 2)).block, (ad509.add ((x5_1).toNat * 2)).off + 1, none⟩ = some (.int .u8 ((rd_T90 l1 x5_1).f1))) (ds := []) (bA 10 0) (by kernel_rfl) rfl rfl ⟨(hbc HB.out hw508_0 :), (hbc HB.out hw508_1 :), (hbc HB.out hw509_0 :), (hbc HB.out hw509_1 :)⟩ (fun hHeld => ?_); refine with_tabW laws_eqLinkS.tab6 laws_eqLinkS.bits6 (fun HT_ HW_ => ?_); generalize wr.drew = w11 at HB hx508_0 hx508_1 hx509_0 hx509_1 hHeld ⊢; refine pA 0 17 10 1 HT_.out ?_ rfl rfl; refine pA 1 18 10 3 HT_.out ?_ rfl rfl; refine pA 2 19 10 7 HT_.out ?_ rfl rfl; refine pA 4 21 10 23 HT_.out ?_ rfl rfl; refine pA 5 22 10 55 HT_.out ?_ rfl rfl; refine pA 6 23 10 119 HT_.out ?_ rfl rfl; refine tA 3 20 10 127 HT_.out HW_.out hHeld ?_ rfl rfl; refine tA 7 24 10 255 HT_.out HW_.out hHeld ?_ rfl rfl; refine oA 8 25 10 511 HT_.out (fun K hK => ?_) rfl rfl; refine goes_ Tryz.func173 (by kernel_rfl) rfl #[.agg #[.int .u8 ((rd_T90 l0 x5_1).f0), .int .u8 ((rd_T90 l0 x5_1).f1)], .agg #[.int .u8 ((rd_T90 l1 x5_1).f0), .int .u8 ((rd_T90 l1 x5_1).f1)]] (by rfl) rfl rfl eqT ?_
        (with_reducible refine (laws_eqLink.calls ((rd_T90 l0 x5_1).f0) ((rd_T90 l0 x5_1).f1) ((rd_T90 l1 x5_1).f0) ((rd_T90 l1 x5_1).f1) false _ A7.out).mono ?_); rintro e w12 ⟨rfl, hb⟩; refine ⟨_, rfl, ?_⟩; replace HB := hS HB hb; (try clear hb hb2 hk hi)
        refine hK.out _ _ ⟨(hbc HB.out hw508_0 :), (hbc HB.out hw508_1 :), (hbc HB.out hw509_0 :), (hbc HB.out hw509_1 :)⟩ (fun hHeld => ?_); clear hK K; refine nB 25 ?_ rfl; refine pA 9 26 10 1023 HT_.out ?_ rfl rfl; refine done_ (done_of HT_.out (by kernel_rfl)) ?_
        try go_wp2
        go_ret; exact ⟨rlT, hbT HB.out⟩
      ·rw [if_neg c6] at H; exact absurd H (by simp)
     ·rw [if_neg c5] at H; exact absurd H (by simp)
    ·rw [if_neg c4] at H; have c4b0 := df c4; clear c4; obtain rfl := oI H
     go_wp2
     go_ret; exact ⟨rlT, hbT HB.out⟩
 ·rw [if_neg c3] at H; have c3b0 : ((l0.length : Int) == (l1.length : Int)) = false := eB c3; have c3b1 : ((l0.length : Int) != (l1.length : Int)) = true := eD c3
  have c3b2 : (l0.length == l1.length) = false := by first | simpa using c3 | (simp at c3 ⊢; omega)
  obtain rfl := oI H; go_enter Tryz.func162, Tryz.ntmps162
  go_wp2
  go_ret; exact ⟨rlT, hbT HB.out⟩
def laws_eqCandidate.f (k : Nat) (l0_0 : List (S90)) (l1_0 : List (S90)) : Option (Bool) := (laws_eqLinkS.f k l0_0 l1_0).bind fun t513 => (if t513 = true then (some true) else (some false))
theorem laws_eqCandidate.mono : ∀ a0 a1 k, LeO (laws_eqCandidate.f k a0 a1) (laws_eqCandidate.f (k + 1) a0 a1) := by
 intro a0 a1 k; unfold laws_eqCandidate.f
 with_reducible repeat' first | exact laws_eqLinkS.mono _ _ _ | exact LeO.refl _ | exact LeO.none _ | refine LeO.ite ?_ ?_ | refine LeO.bind ?_ (fun _ => ?_)
theorem laws_eqCandidate.calls (k : Nat) (A0_0 : Option Addr) (c0_0 : Nat) (l0_0 : List (S90)) (A1_0 : Option Addr) (c1_0 : Nat) (l1_0 : List (S90)) (r : Bool) (w : World) (hr0_0 : Kd.C k90 w A0_0 l0_0.length l0_0) (hc0_0 : l0_0.length ≤ c0_0) (hr1_0 : Kd.C k90 w A1_0 l1_0.length l1_0) (hc1_0 : l1_0.length ≤ c1_0) (h : laws_eqCandidate.f k l0_0 l1_0 = some r) :
  Calls Tryz.prog 137 #[.agg #[.slice A0_0 l0_0.length c0_0], .agg #[.slice A1_0 l1_0.length c1_0]] w fun e w' => e = .returned (.bool r) ∧ Below w.heap.size w w' := by
 have hu42 := Tryz.underlying42; have HR0_0 := asT hr0_0; have HC0_0 := asT hc0_0; clear hr0_0 hc0_0; have HR1_0 := asT hr1_0; have HC1_0 := asT hc1_0; clear hr1_0 hc1_0; have HB := asT (Below.refl w.heap.size w); have H := h; unfold laws_eqCandidate.f at H; clear h; obtain ⟨t513, A3, H⟩ := be H; by_cases c4 : t513 = true
 ·subst c4; rw [if_pos rfl] at H; have H1 := H; clear H; have H := H1; clear H1; obtain rfl := oI H; go_enter Tryz.func137, Tryz.ntmps137
  go_wp2_with (first | ((with_reducible refine gate_dst (N := 2) rfl ?_); refine boxT (N := 2) (cs := #[.slice A0_0 l0_0.length c0_0]) (t := 42) ?_; intro gb511 hg w5 hbox hb; have BK511 := asT hbox; have GW511 := asT (geT hg HB.out); have GE511 := GW511; replace HB := hS HB hb; clear hb hbox hg) | ((with_reducible refine gate_dst (N := 3) rfl ?_); refine boxT (N := 3) (cs := #[.slice A1_0 l1_0.length c1_0]) (t := 42) ?_; intro gb512 hg w6 hbox hb; have BK512 := asT (hbox); have GW512 := asT (geT hg HB.out); have GE512 := asT (geT hg HB.out); replace HB := hS HB hb; have NB511_512 := asT ((by rw [hg]; exact Nat.ne_of_lt (blk_lt (bkT BK511.out)) : gb511 ≠ gb512)); have NB512_511 := asT ((by rw [hg]; exact Nat.ne_of_gt (blk_lt (bkT BK511.out)) : gb512 ≠ gb511)); replace BK511 := bS BK511 hb; clear hb hbox hg; have hnb7 := NB511_512.out; have hnc7 := NB512_511.out; obtain ⟨hcz8_0, hfz8_0⟩ := bx1 BK511.out; obtain ⟨hcz9_0, hfz9_0⟩ := bx1 BK512.out) | ((with_reducible refine gate_callee (f := 162) rfl ?_); refine goesL_ (some 9) rfl rfl Tryz.func162 (by kernel_rfl) rfl #[.slice A0_0 l0_0.length c0_0, .slice A1_0 l1_0.length c1_0] rfl eqT ?_; (with_reducible refine (laws_eqLinkS.calls k _ _ l0_0 _ _ l1_0 true _ ?side1 ?side2 ?side3 ?side4 A3.out).mono ?_); (case side1 => exact crT HR0_0.out HB.out); (case side2 => exact HC0_0.out); (case side3 => exact crT HR1_0.out HB.out); (case side4 => exact HC1_0.out); rintro e w10 ⟨rfl, hb⟩; refine ⟨_, rfl, ?_⟩; replace BK511 := bS BK511 hb; replace BK512 := bS BK512 hb; replace HB := hS HB hb; (try clear hb hb2 hk hi)))
  go_ret; exact ⟨rlT, hbT HB.out⟩
 ·replace c4 := eE c4; subst c4; rw [if_neg nF] at H; have H1 := H; clear H; have H := H1; clear H1; obtain rfl := oI H; go_enter Tryz.func137, Tryz.ntmps137
  go_wp2_with (first | ((with_reducible refine gate_dst (N := 2) rfl ?_); refine boxT (N := 2) (cs := #[.slice A0_0 l0_0.length c0_0]) (t := 42) ?_; intro gb511 hg w11 hbox hb; have BK511 := asT hbox; have GW511 := asT (geT hg HB.out); have GE511 := GW511; replace HB := hS HB hb; clear hb hbox hg) | ((with_reducible refine gate_dst (N := 3) rfl ?_); refine boxT (N := 3) (cs := #[.slice A1_0 l1_0.length c1_0]) (t := 42) ?_; intro gb512 hg w12 hbox hb; have BK512 := asT (hbox); have GW512 := asT (geT hg HB.out); have GE512 := asT (geT hg HB.out); replace HB := hS HB hb; have NB511_512 := asT ((by rw [hg]; exact Nat.ne_of_lt (blk_lt (bkT BK511.out)) : gb511 ≠ gb512)); have NB512_511 := asT ((by rw [hg]; exact Nat.ne_of_gt (blk_lt (bkT BK511.out)) : gb512 ≠ gb511)); replace BK511 := bS BK511 hb; clear hb hbox hg; have hnb13 := NB511_512.out; have hnc13 := NB512_511.out; obtain ⟨hcz14_0, hfz14_0⟩ := bx1 BK511.out; obtain ⟨hcz15_0, hfz15_0⟩ := bx1 BK512.out) | ((with_reducible refine gate_callee (f := 162) rfl ?_); refine goesL_ (some 9) rfl rfl Tryz.func162 (by kernel_rfl) rfl #[.slice A0_0 l0_0.length c0_0, .slice A1_0 l1_0.length c1_0] rfl eqT ?_; (with_reducible refine (laws_eqLinkS.calls k _ _ l0_0 _ _ l1_0 false _ ?side1 ?side2 ?side3 ?side4 A3.out).mono ?_); (case side1 => exact crT HR0_0.out HB.out); (case side2 => exact HC0_0.out); (case side3 => exact crT HR1_0.out HB.out); (case side4 => exact HC1_0.out); rintro e w16 ⟨rfl, hb⟩; refine ⟨_, rfl, ?_⟩; replace BK511 := bS BK511 hb; replace BK512 := bS BK512 hb; replace HB := hS HB hb; (try clear hb hb2 hk hi)))
  go_ret; exact ⟨rlT, hbT HB.out⟩
def laws_eqCandidateS.l0 : Nat → List (S42) → List (S42) → Int → Option (Bool)
 | 0, _, _, _ => none
 | k + 1, x0, x1, x5 => if x5 < (x0.length : Int) then (if 0 ≤ x5 then (if x5 < (x1.length : Int) then ((laws_eqCandidate.f k ((rd_T42 x0 x5).f0) ((rd_T42 x1 x5).f0)).bind fun t516 => (if t516 = true then (laws_eqCandidateS.l0 k x0 x1 (wrap64 (x5 + 1))) else (some false))) else (none)) else (none)) else (some true)
def laws_eqCandidateS.f (k : Nat) (l0 : List (S42)) (l1 : List (S42)) : Option (Bool) := if (l0.length : Int) = (l1.length : Int) then (laws_eqCandidateS.l0 k l0 l1 0) else (some false)
theorem laws_eqCandidateS.mono_l : ∀ k, (∀ y0 y1 y2, LeO (laws_eqCandidateS.l0 k y0 y1 y2) (laws_eqCandidateS.l0 (k + 1) y0 y1 y2))
 | 0 => fun _ _ _ r h => by simp [laws_eqCandidateS.l0] at h
 | k + 1 => by
  have ih0 := laws_eqCandidateS.mono_l k
  ·intro y0 y1 y2; unfold laws_eqCandidateS.l0
   with_reducible repeat' first | exact ih0 _ _ _ | exact laws_eqCandidate.mono _ _ _ | exact LeO.refl _ | exact LeO.none _ | refine LeO.ite ?_ ?_ | refine LeO.bind ?_ (fun _ => ?_)
theorem laws_eqCandidateS.mono : ∀ a0 a1 k, LeO (laws_eqCandidateS.f k a0 a1) (laws_eqCandidateS.f (k + 1) a0 a1) := by
 intro a0 a1 k; have ih0 := laws_eqCandidateS.mono_l k; unfold laws_eqCandidateS.f
 with_reducible repeat' first | exact ih0 _ _ _ | exact laws_eqCandidate.mono _ _ _ | exact LeO.refl _ | exact LeO.none _ | refine LeO.ite ?_ ?_ | refine LeO.bind ?_ (fun _ => ?_)
def laws_eqCandidateS.T6 : Bool × List (List Nat × List Nat) := (true, [([], []), ([], []), ([0, 1], [0, 1]), ([2], [2]), ([], []), ([], []), ([4, 5], [4, 5]), ([6], [6]), ([3, 7], [3, 7]), ([8], [8])])
def laws_eqCandidateS.B6 : List Nat := [0, 0, 3, 7, 0, 0, 48, 112, 255, 511]
theorem laws_eqCandidateS.tab6 : rtab .any (opsOf Tryz.f80 6) = laws_eqCandidateS.T6 := by kernel_rfl
theorem laws_eqCandidateS.bits6 : waitsOk laws_eqCandidateS.T6.2 laws_eqCandidateS.B6 = true := by kernel_rfl
theorem laws_eqCandidateS.calls (k : Nat) (A0 : Option Addr) (c0 : Nat) (l0 : List (S42)) (A1 : Option Addr) (c1 : Nat) (l1 : List (S42)) (r : Bool) (w : World) (hr0 : Kd.C k42 w A0 l0.length l0) (hc0 : l0.length ≤ c0) (hr1 : Kd.C k42 w A1 l1.length l1) (hc1 : l1.length ≤ c1) (h : laws_eqCandidateS.f k l0 l1 = some r) :
  Calls Tryz.prog 80 #[.slice A0 l0.length c0, .slice A1 l1.length c1] w fun e w' => e = .returned (.bool r) ∧ Below w.heap.size w w' := by
 have hu42 := Tryz.underlying42; have HR0 := asT hr0; have HC0 := asT hc0; clear hr0 hc0; have HR1 := asT hr1; have HC1 := asT hc1; clear hr1 hc1; have HB := asT (Below.refl w.heap.size w); have H := h; unfold laws_eqCandidateS.f at H; clear h; by_cases c3 : (l0.length : Int) = (l1.length : Int)
 ·rw [if_pos c3] at H; have c3b0 : ((l0.length : Int) == (l1.length : Int)) = true := eC c3; have c3b1 : ((l0.length : Int) != (l1.length : Int)) = false := eA c3
  have c3b2 : (l0.length == l1.length) = true := by first | simpa using c3 | (simp at c3 ⊢; omega)
  clear c3; have H' := asT H; clear H; go_enter Tryz.func80, Tryz.ntmps80
  go_wp2
  go_loopg [5] k (fun kq v5 w' => ∃ (x5_1 : Int), v5 = .int .i64 x5_1 ∧ Aside0 (laws_eqCandidateS.l0 kq l0 l1 x5_1 = some r) ∧ Aside0 (kq ≤ k) ∧ Aside0 (Below w.heap.size w w'))
  case atStart => exact ⟨(0), rdT, H', ⟨Nat.le_refl _⟩, ⟨hbT HB.out⟩⟩
  case round =>
   clear H'; (try clear c1 p2 c3 c3b0 c3b1 c3b2); obtain ⟨x5_1, rfl, HA, HK1, HB⟩ := hrel
   cases gk with
   | zero => exact absurd HA.out (by simp [laws_eqCandidateS.l0])
   | succ k1 =>
    have H := HA.out; clear HA
    simp only [laws_eqCandidateS.l0] at H
    by_cases c4 : x5_1 < (l0.length : Int)
    ·rw [if_pos c4] at H; have c4b0 := dt c4; clear c4; by_cases c5 : 0 ≤ x5_1
     ·rw [if_pos c5] at H; have c5b0 := dt c5; clear c5; by_cases c6 : x5_1 < (l1.length : Int)
      ·rw [if_pos c6] at H; have c6b0 := dt c6; clear c6; obtain ⟨t516, A7, H⟩ := be H; by_cases c8 : t516 = true
       ·subst c8; rw [if_pos rfl] at H; have H' := asT H; clear H
        try go_wp2
        replace HB := asT (below_drew1 HB.out); have p514 : 0 ≤ (x5_1 : Int) := dT asmT; have q514 : x5_1 < (l0.length : Int) := dT asmT; obtain ⟨ad514, A514_0, c514_0, e514, hx514_0, hl514_0, hi514_0⟩ := at_T42 HR0.out x5_1 p514 q514; have hw514_0 := hx514_0
        cases e514
        replace hx514_0 := hbc HB.out hx514_0; have HR514_0 := asT hi514_0; have HC514_0 := asT hl514_0; clear hi514_0 hl514_0; replace p514 := eq_true p514; replace q514 := eq_true q514; have p515 : 0 ≤ (x5_1 : Int) := dT asmT; have q515 : x5_1 < (l1.length : Int) := dT asmT; obtain ⟨ad515, A515_0, c515_0, e515, hx515_0, hl515_0, hi515_0⟩ := at_T42 HR1.out x5_1 p515 q515; have hw515_0 := hx515_0
        cases e515
        replace hx515_0 := hbc HB.out hx515_0; have HR515_0 := asT hi515_0; have HC515_0 := asT hl515_0; clear hi515_0 hl515_0; replace p515 := eq_true p515; replace q515 := eq_true q515; refine start_ (n := 10) (S := fun w' => w'.cell? (ad514.add (x5_1).toNat) = some (.slice A514_0 ((rd_T42 l0 x5_1).f0).length c514_0) ∧ w'.cell? (ad515.add (x5_1).toNat) = some (.slice A515_0 ((rd_T42 l1 x5_1).f0).length c515_0)) (ds := []) (bA 10 0) (by kernel_rfl) rfl rfl ⟨(hbc HB.out hw514_0 :), (hbc HB.out hw515_0 :)⟩ (fun hHeld => ?_); refine with_tabW laws_eqCandidateS.tab6 laws_eqCandidateS.bits6 (fun HT_ HW_ => ?_); generalize wr.drew = w9 at HB HR514_0 HR515_0 hx514_0 hx515_0 hHeld ⊢; refine pA 0 17 10 1 HT_.out ?_ rfl rfl; refine pA 1 18 10 3 HT_.out ?_ rfl rfl; refine pA 2 19 10 7 HT_.out ?_ rfl rfl; refine pA 4 21 10 23 HT_.out ?_ rfl rfl; refine pA 5 22 10 55 HT_.out ?_ rfl rfl; refine pA 6 23 10 119 HT_.out ?_ rfl rfl; refine tA 3 20 10 127 HT_.out HW_.out hHeld ?_ rfl rfl; refine tA 7 24 10 255 HT_.out HW_.out hHeld ?_ rfl rfl; refine oA 8 25 10 511 HT_.out (fun K hK => ?_) rfl rfl; refine goes_ Tryz.func137 (by kernel_rfl) rfl #[.agg #[.slice A514_0 ((rd_T42 l0 x5_1).f0).length c514_0], .agg #[.slice A515_0 ((rd_T42 l1 x5_1).f0).length c515_0]] (by rfl) rfl rfl eqT ?_
        (with_reducible refine (laws_eqCandidate.calls k1 _ _ ((rd_T42 l0 x5_1).f0) _ _ ((rd_T42 l1 x5_1).f0) true _ ?side1 ?side2 ?side3 ?side4 A7.out).mono ?_); (case side1 => exact crT HR514_0.out HB.out); (case side2 => exact HC514_0.out); (case side3 => exact crT HR515_0.out HB.out); (case side4 => exact HC515_0.out); rintro e w10 ⟨rfl, hb⟩; refine ⟨_, rfl, ?_⟩; replace HB := hS HB hb; (try clear hb hb2 hk hi)
        refine hK.out _ _ ⟨(hbc HB.out hw514_0 :), (hbc HB.out hw515_0 :)⟩ (fun hHeld => ?_); clear hK K; refine nB 25 ?_ rfl; refine pA 9 26 10 1023 HT_.out ?_ rfl rfl; refine done_ (done_of HT_.out (by kernel_rfl)) ?_
        try go_wp2
        go_roundg k1
        case measure => have := HK1.out; omega
        case rel => exact ⟨(wrap64 (x5_1 + 1)), rdT, H', ⟨by have := HK1.out; omega⟩, ⟨hbT HB.out⟩⟩
       ·replace c8 := eE c8; subst c8; rw [if_neg nF] at H; have H1 := H; clear H; have H := H1; clear H1; obtain rfl := oI H
        try go_wp2
        replace HB := asT (below_drew1 HB.out); have p514 : 0 ≤ (x5_1 : Int) := dT asmT; have q514 : x5_1 < (l0.length : Int) := dT asmT; obtain ⟨ad514, A514_0, c514_0, e514, hx514_0, hl514_0, hi514_0⟩ := at_T42 HR0.out x5_1 p514 q514; have hw514_0 := hx514_0
        cases e514
        replace hx514_0 := hbc HB.out hx514_0; have HR514_0 := asT hi514_0; have HC514_0 := asT hl514_0; clear hi514_0 hl514_0; replace p514 := eq_true p514; replace q514 := eq_true q514; have p515 : 0 ≤ (x5_1 : Int) := dT asmT; have q515 : x5_1 < (l1.length : Int) := dT asmT; obtain ⟨ad515, A515_0, c515_0, e515, hx515_0, hl515_0, hi515_0⟩ := at_T42 HR1.out x5_1 p515 q515; have hw515_0 := hx515_0
        cases e515
        replace hx515_0 := hbc HB.out hx515_0; have HR515_0 := asT hi515_0; have HC515_0 := asT hl515_0; clear hi515_0 hl515_0; replace p515 := eq_true p515; replace q515 := eq_true q515; refine start_ (n := 10) (S := fun w' => w'.cell? (ad514.add (x5_1).toNat) = some (.slice A514_0 ((rd_T42 l0 x5_1).f0).length c514_0) ∧ w'.cell? (ad515.add (x5_1).toNat) = some (.slice A515_0 ((rd_T42 l1 x5_1).f0).length c515_0)) (ds := []) (bA 10 0) (by kernel_rfl) rfl rfl ⟨(hbc HB.out hw514_0 :), (hbc HB.out hw515_0 :)⟩ (fun hHeld => ?_); refine with_tabW laws_eqCandidateS.tab6 laws_eqCandidateS.bits6 (fun HT_ HW_ => ?_); generalize wr.drew = w11 at HB HR514_0 HR515_0 hx514_0 hx515_0 hHeld ⊢; refine pA 0 17 10 1 HT_.out ?_ rfl rfl; refine pA 1 18 10 3 HT_.out ?_ rfl rfl; refine pA 2 19 10 7 HT_.out ?_ rfl rfl; refine pA 4 21 10 23 HT_.out ?_ rfl rfl; refine pA 5 22 10 55 HT_.out ?_ rfl rfl; refine pA 6 23 10 119 HT_.out ?_ rfl rfl; refine tA 3 20 10 127 HT_.out HW_.out hHeld ?_ rfl rfl; refine tA 7 24 10 255 HT_.out HW_.out hHeld ?_ rfl rfl; refine oA 8 25 10 511 HT_.out (fun K hK => ?_) rfl rfl; refine goes_ Tryz.func137 (by kernel_rfl) rfl #[.agg #[.slice A514_0 ((rd_T42 l0 x5_1).f0).length c514_0], .agg #[.slice A515_0 ((rd_T42 l1 x5_1).f0).length c515_0]] (by rfl) rfl rfl eqT ?_
        (with_reducible refine (laws_eqCandidate.calls k1 _ _ ((rd_T42 l0 x5_1).f0) _ _ ((rd_T42 l1 x5_1).f0) false _ ?side1 ?side2 ?side3 ?side4 A7.out).mono ?_); (case side1 => exact crT HR514_0.out HB.out); (case side2 => exact HC514_0.out); (case side3 => exact crT HR515_0.out HB.out); (case side4 => exact HC515_0.out); rintro e w12 ⟨rfl, hb⟩; refine ⟨_, rfl, ?_⟩; replace HB := hS HB hb; (try clear hb hb2 hk hi)
        refine hK.out _ _ ⟨(hbc HB.out hw514_0 :), (hbc HB.out hw515_0 :)⟩ (fun hHeld => ?_); clear hK K; refine nB 25 ?_ rfl; refine pA 9 26 10 1023 HT_.out ?_ rfl rfl; refine done_ (done_of HT_.out (by kernel_rfl)) ?_
        try go_wp2
        go_ret; exact ⟨rlT, hbT HB.out⟩
      ·rw [if_neg c6] at H; exact absurd H (by simp)
     ·rw [if_neg c5] at H; exact absurd H (by simp)
    ·rw [if_neg c4] at H; have c4b0 := df c4; clear c4; obtain rfl := oI H
     go_wp2
     go_ret; exact ⟨rlT, hbT HB.out⟩
 ·rw [if_neg c3] at H; have c3b0 : ((l0.length : Int) == (l1.length : Int)) = false := eB c3; have c3b1 : ((l0.length : Int) != (l1.length : Int)) = true := eD c3
  have c3b2 : (l0.length == l1.length) = false := by first | simpa using c3 | (simp at c3 ⊢; omega)
  obtain rfl := oI H; go_enter Tryz.func80, Tryz.ntmps80
  go_wp2
  go_ret; exact ⟨rlT, hbT HB.out⟩
def laws_eqIntS.l0 : Nat → List Int → List Int → Int → Option (Bool)
 | 0, _, _, _ => none
 | k + 1, x0, x1, x5 => if x5 < (x0.length : Int) then (if 0 ≤ x5 then (if x5 < (x1.length : Int) then (if (rd x0 x5) = (rd x1 x5) then (laws_eqIntS.l0 k x0 x1 (wrap64 (x5 + 1))) else (some false)) else (none)) else (none)) else (some true)
def laws_eqIntS.f (k : Nat) (l0 : List Int) (l1 : List Int) : Option (Bool) := if (l0.length : Int) = (l1.length : Int) then (laws_eqIntS.l0 k l0 l1 0) else (some false)
theorem laws_eqIntS.mono_l : ∀ k, (∀ y0 y1 y2, LeO (laws_eqIntS.l0 k y0 y1 y2) (laws_eqIntS.l0 (k + 1) y0 y1 y2))
 | 0 => fun _ _ _ r h => by simp [laws_eqIntS.l0] at h
 | k + 1 => by
  have ih0 := laws_eqIntS.mono_l k
  ·intro y0 y1 y2; unfold laws_eqIntS.l0
   with_reducible repeat' first | exact ih0 _ _ _ | exact LeO.refl _ | exact LeO.none _ | refine LeO.ite ?_ ?_ | refine LeO.bind ?_ (fun _ => ?_)
theorem laws_eqIntS.mono : ∀ a0 a1 k, LeO (laws_eqIntS.f k a0 a1) (laws_eqIntS.f (k + 1) a0 a1) := by
 intro a0 a1 k; have ih0 := laws_eqIntS.mono_l k; unfold laws_eqIntS.f
 with_reducible repeat' first | exact ih0 _ _ _ | exact LeO.refl _ | exact LeO.none _ | refine LeO.ite ?_ ?_ | refine LeO.bind ?_ (fun _ => ?_)
theorem laws_eqIntS.calls (k : Nat) (A0 : Option Addr) (c0 : Nat) (l0 : List Int) (A1 : Option Addr) (c1 : Nat) (l1 : List Int) (r : Bool) (w : World) (hr0 : Kd.C (Kd.int .i64) w A0 l0.length l0) (hc0 : l0.length ≤ c0) (hr1 : Kd.C (Kd.int .i64) w A1 l1.length l1) (hc1 : l1.length ≤ c1) (h : laws_eqIntS.f k l0 l1 = some r) :
  Calls Tryz.prog 138 #[.slice A0 l0.length c0, .slice A1 l1.length c1] w fun e w' => e = .returned (.bool r) ∧ Drawn0 w w' := by
 have HR0 := asT hr0; have HC0 := asT hc0; clear hr0 hc0; have HR1 := asT hr1; have HC1 := asT hc1; clear hr1 hc1; have H := h; unfold laws_eqIntS.f at H; clear h; by_cases c3 : (l0.length : Int) = (l1.length : Int)
 ·rw [if_pos c3] at H; have c3b0 : ((l0.length : Int) == (l1.length : Int)) = true := eC c3; have c3b1 : ((l0.length : Int) != (l1.length : Int)) = false := eA c3
  have c3b2 : (l0.length == l1.length) = true := by first | simpa using c3 | (simp at c3 ⊢; omega)
  clear c3; have H' := asT H; clear H; go_enter Tryz.func138, Tryz.ntmps138
  go_wp2
  repeat (go_quiet (fail); try go_wp2)
  go_loopg [5] k (fun kq v5 w' => ∃ (x5_1 : Int), v5 = .int .i64 x5_1 ∧ Aside0 (laws_eqIntS.l0 kq l0 l1 x5_1 = some r) ∧ Aside0 (kq ≤ k) ∧ Drawn0 w w')
  case atStart => exact ⟨(0), rdT, H', ⟨Nat.le_refl _⟩, drT⟩
  case round =>
   clear H'; (try clear c1 p2 c3 c3b0 c3b1 c3b2); obtain ⟨x5_1, rfl, HA, HK1, ⟨m1, rfl⟩⟩ := hrel
   cases gk with
   | zero => exact absurd HA.out (by simp [laws_eqIntS.l0])
   | succ k1 =>
    have H := HA.out; clear HA
    simp only [laws_eqIntS.l0] at H
    by_cases c4 : x5_1 < (l0.length : Int)
    ·rw [if_pos c4] at H; have c4b0 := dt c4; clear c4; by_cases c5 : 0 ≤ x5_1
     ·rw [if_pos c5] at H; have c5b0 := dt c5; clear c5; by_cases c6 : x5_1 < (l1.length : Int)
      ·rw [if_pos c6] at H; have c6b0 := dt c6; clear c6; by_cases c7 : (rd l0 x5_1) = (rd l1 x5_1)
       ·rw [if_pos c7] at H; have c7b0 : ((rd l0 x5_1) == (rd l1 x5_1)) = true := eC c7; have c7b1 : ((rd l0 x5_1) != (rd l1 x5_1)) = false := eA c7; clear c7; have H' := asT H; clear H; have p517 : 0 ≤ (x5_1 : Int) := dT asmT; have q517 : x5_1 < (l0.length : Int) := dT asmT; obtain ⟨ad517, e517, hx517_0⟩ := Kd.at_int HR0.out x5_1 p517 q517
        cases e517
        replace p517 := eq_true p517; replace q517 := eq_true q517; have p518 : 0 ≤ (x5_1 : Int) := dT asmT; have q518 : x5_1 < (l1.length : Int) := dT asmT; obtain ⟨ad518, e518, hx518_0⟩ := Kd.at_int HR1.out x5_1 p518 q518
        cases e518
        replace p518 := eq_true p518; replace q518 := eq_true q518
        go_wp2
        repeat (go_quiet (fail); try go_wp2)
        go_roundg k1
        case measure => have := HK1.out; omega
        case rel => exact ⟨(wrap64 (x5_1 + 1)), rdT, H', ⟨by have := HK1.out; omega⟩, drT⟩
       ·rw [if_neg c7] at H; have c7b0 : ((rd l0 x5_1) == (rd l1 x5_1)) = false := eB c7; have c7b1 : ((rd l0 x5_1) != (rd l1 x5_1)) = true := eD c7; obtain rfl := oI H; have p517 : 0 ≤ (x5_1 : Int) := dT asmT; have q517 : x5_1 < (l0.length : Int) := dT asmT; obtain ⟨ad517, e517, hx517_0⟩ := Kd.at_int HR0.out x5_1 p517 q517
        cases e517
        replace p517 := eq_true p517; replace q517 := eq_true q517; have p518 : 0 ≤ (x5_1 : Int) := dT asmT; have q518 : x5_1 < (l1.length : Int) := dT asmT; obtain ⟨ad518, e518, hx518_0⟩ := Kd.at_int HR1.out x5_1 p518 q518
        cases e518
        replace p518 := eq_true p518; replace q518 := eq_true q518
        go_wp2
        repeat (go_quiet (fail); try go_wp2)
        go_ret; exact ⟨rdT, drT⟩
      ·rw [if_neg c6] at H; exact absurd H (by simp)
     ·rw [if_neg c5] at H; exact absurd H (by simp)
    ·rw [if_neg c4] at H; have c4b0 := df c4; clear c4; obtain rfl := oI H
     go_wp2
     repeat (go_quiet (fail); try go_wp2)
     go_ret; exact ⟨rdT, drT⟩
 ·rw [if_neg c3] at H; have c3b0 : ((l0.length : Int) == (l1.length : Int)) = false := eB c3; have c3b1 : ((l0.length : Int) != (l1.length : Int)) = true := eD c3
  have c3b2 : (l0.length == l1.length) = false := by first | simpa using c3 | (simp at c3 ⊢; omega)
  obtain rfl := oI H; go_enter Tryz.func138, Tryz.ntmps138
  go_wp2
  repeat (go_quiet (fail); try go_wp2)
  go_ret; exact ⟨rdT, drT⟩
def laws_eqIntSS.l0 : Nat → List (List Int) → List (List Int) → Int → Option (Bool)
 | 0, _, _, _ => none
 | k + 1, x0, x1, x5 => if x5 < (x0.length : Int) then (if 0 ≤ x5 then (if x5 < (x1.length : Int) then ((laws_eqIntS.f k (rd_L6 x0 x5) (rd_L6 x1 x5)).bind fun t521 => (if t521 = true then (laws_eqIntSS.l0 k x0 x1 (wrap64 (x5 + 1))) else (some false))) else (none)) else (none)) else (some true)
def laws_eqIntSS.f (k : Nat) (l0 : List (List Int)) (l1 : List (List Int)) : Option (Bool) := if (l0.length : Int) = (l1.length : Int) then (laws_eqIntSS.l0 k l0 l1 0) else (some false)
theorem laws_eqIntSS.mono_l : ∀ k, (∀ y0 y1 y2, LeO (laws_eqIntSS.l0 k y0 y1 y2) (laws_eqIntSS.l0 (k + 1) y0 y1 y2))
 | 0 => fun _ _ _ r h => by simp [laws_eqIntSS.l0] at h
 | k + 1 => by
  have ih0 := laws_eqIntSS.mono_l k
  ·intro y0 y1 y2; unfold laws_eqIntSS.l0
   with_reducible repeat' first | exact ih0 _ _ _ | exact laws_eqIntS.mono _ _ _ | exact LeO.refl _ | exact LeO.none _ | refine LeO.ite ?_ ?_ | refine LeO.bind ?_ (fun _ => ?_)
theorem laws_eqIntSS.mono : ∀ a0 a1 k, LeO (laws_eqIntSS.f k a0 a1) (laws_eqIntSS.f (k + 1) a0 a1) := by
 intro a0 a1 k; have ih0 := laws_eqIntSS.mono_l k; unfold laws_eqIntSS.f
 with_reducible repeat' first | exact ih0 _ _ _ | exact laws_eqIntS.mono _ _ _ | exact LeO.refl _ | exact LeO.none _ | refine LeO.ite ?_ ?_ | refine LeO.bind ?_ (fun _ => ?_)
theorem laws_eqIntSS.calls (k : Nat) (A0 : Option Addr) (c0 : Nat) (l0 : List (List Int)) (A1 : Option Addr) (c1 : Nat) (l1 : List (List Int)) (r : Bool) (w : World) (hr0 : Kd.C (Kd.slice 3 (Kd.int .i64)) w A0 l0.length l0) (hc0 : l0.length ≤ c0) (hr1 : Kd.C (Kd.slice 3 (Kd.int .i64)) w A1 l1.length l1) (hc1 : l1.length ≤ c1) (h : laws_eqIntSS.f k l0 l1 = some r) :
  Calls Tryz.prog 81 #[.slice A0 l0.length c0, .slice A1 l1.length c1] w fun e w' => e = .returned (.bool r) ∧ Drawn0 w w' := by
 have HR0 := asT hr0; have HC0 := asT hc0; clear hr0 hc0; have HR1 := asT hr1; have HC1 := asT hc1; clear hr1 hc1; have H := h; unfold laws_eqIntSS.f at H; clear h; by_cases c3 : (l0.length : Int) = (l1.length : Int)
 ·rw [if_pos c3] at H; have c3b0 : ((l0.length : Int) == (l1.length : Int)) = true := eC c3; have c3b1 : ((l0.length : Int) != (l1.length : Int)) = false := eA c3
  have c3b2 : (l0.length == l1.length) = true := by first | simpa using c3 | (simp at c3 ⊢; omega)
  clear c3; have H' := asT H; clear H; go_enter Tryz.func81, Tryz.ntmps81
  go_wp2
  repeat (go_quiet (fail); try go_wp2)
  go_loopg [5] k (fun kq v5 w' => ∃ (x5_1 : Int), v5 = .int .i64 x5_1 ∧ Aside0 (laws_eqIntSS.l0 kq l0 l1 x5_1 = some r) ∧ Aside0 (kq ≤ k) ∧ Drawn0 w w')
  case atStart => exact ⟨(0), rdT, H', ⟨Nat.le_refl _⟩, drT⟩
  case round =>
   clear H'; (try clear c1 p2 c3 c3b0 c3b1 c3b2); obtain ⟨x5_1, rfl, HA, HK1, ⟨m1, rfl⟩⟩ := hrel
   cases gk with
   | zero => exact absurd HA.out (by simp [laws_eqIntSS.l0])
   | succ k1 =>
    have H := HA.out; clear HA
    simp only [laws_eqIntSS.l0] at H
    by_cases c4 : x5_1 < (l0.length : Int)
    ·rw [if_pos c4] at H; have c4b0 := dt c4; clear c4; by_cases c5 : 0 ≤ x5_1
     ·rw [if_pos c5] at H; have c5b0 := dt c5; clear c5; by_cases c6 : x5_1 < (l1.length : Int)
      ·rw [if_pos c6] at H; have c6b0 := dt c6; clear c6; obtain ⟨t521, A7, H⟩ := be H; by_cases c8 : t521 = true
       ·subst c8; rw [if_pos rfl] at H; have H' := asT H; clear H; have p519 : 0 ≤ (x5_1 : Int) := dT asmT; have q519 : x5_1 < (l0.length : Int) := dT asmT; obtain ⟨ad519, A519_0, c519_0, e519, hx519_0, hl519_0, hi519_0⟩ := at_L6 HR0.out x5_1 p519 q519
        cases e519
        have HR519_0 := asT hi519_0; have HC519_0 := asT hl519_0; clear hi519_0 hl519_0; replace p519 := eq_true p519; replace q519 := eq_true q519; have p520 : 0 ≤ (x5_1 : Int) := dT asmT; have q520 : x5_1 < (l1.length : Int) := dT asmT; obtain ⟨ad520, A520_0, c520_0, e520, hx520_0, hl520_0, hi520_0⟩ := at_L6 HR1.out x5_1 p520 q520
        cases e520
        have HR520_0 := asT hi520_0; have HC520_0 := asT hl520_0; clear hi520_0 hl520_0; replace p520 := eq_true p520; replace q520 := eq_true q520
        go_wp2_with (first | (go_at_call 138; (with_reducible refine (laws_eqIntS.calls k1 _ _ (rd_L6 l0 x5_1) _ _ (rd_L6 l1 x5_1) true _ ?side1 ?side2 ?side3 ?side4 A7.out).mono ?_); (case side1 => exact caT HR519_0.out); (case side2 => exact HC519_0.out); (case side3 => exact caT HR520_0.out); (case side4 => exact HC520_0.out); rintro e w' ⟨rfl, ⟨nd, rfl⟩⟩; (try first | exact ⟨rfl, _, World.drewN_drewN _ _ _⟩ | exact ⟨rfl, _, Eq.trans (World.drewN_drewN _ _ _) (congrArg (World.drewN _) (Nat.add_assoc _ _ _))⟩)))
        repeat (go_quiet (first | (go_at_call 138; (with_reducible refine (laws_eqIntS.calls k1 _ _ (rd_L6 l0 x5_1) _ _ (rd_L6 l1 x5_1) true _ ?side1 ?side2 ?side3 ?side4 A7.out).mono ?_); (case side1 => exact caT HR519_0.out); (case side2 => exact HC519_0.out); (case side3 => exact caT HR520_0.out); (case side4 => exact HC520_0.out); rintro e w' ⟨rfl, ⟨nd, rfl⟩⟩; (try first | exact ⟨rfl, _, World.drewN_drewN _ _ _⟩ | exact ⟨rfl, _, Eq.trans (World.drewN_drewN _ _ _) (congrArg (World.drewN _) (Nat.add_assoc _ _ _))⟩))); try go_wp2_with (first | (go_at_call 138; (with_reducible refine (laws_eqIntS.calls k1 _ _ (rd_L6 l0 x5_1) _ _ (rd_L6 l1 x5_1) true _ ?side1 ?side2 ?side3 ?side4 A7.out).mono ?_); (case side1 => exact caT HR519_0.out); (case side2 => exact HC519_0.out); (case side3 => exact caT HR520_0.out); (case side4 => exact HC520_0.out); rintro e w' ⟨rfl, ⟨nd, rfl⟩⟩; (try first | exact ⟨rfl, _, World.drewN_drewN _ _ _⟩ | exact ⟨rfl, _, Eq.trans (World.drewN_drewN _ _ _) (congrArg (World.drewN _) (Nat.add_assoc _ _ _))⟩))))
        go_roundg k1
        case measure => have := HK1.out; omega
        case rel => exact ⟨(wrap64 (x5_1 + 1)), rdT, H', ⟨by have := HK1.out; omega⟩, drT⟩
       ·replace c8 := eE c8; subst c8; rw [if_neg nF] at H; have H1 := H; clear H; have H := H1; clear H1; obtain rfl := oI H; have p519 : 0 ≤ (x5_1 : Int) := dT asmT; have q519 : x5_1 < (l0.length : Int) := dT asmT; obtain ⟨ad519, A519_0, c519_0, e519, hx519_0, hl519_0, hi519_0⟩ := at_L6 HR0.out x5_1 p519 q519
        cases e519
        have HR519_0 := asT hi519_0; have HC519_0 := asT hl519_0; clear hi519_0 hl519_0; replace p519 := eq_true p519; replace q519 := eq_true q519; have p520 : 0 ≤ (x5_1 : Int) := dT asmT; have q520 : x5_1 < (l1.length : Int) := dT asmT; obtain ⟨ad520, A520_0, c520_0, e520, hx520_0, hl520_0, hi520_0⟩ := at_L6 HR1.out x5_1 p520 q520
        cases e520
        have HR520_0 := asT hi520_0; have HC520_0 := asT hl520_0; clear hi520_0 hl520_0; replace p520 := eq_true p520; replace q520 := eq_true q520
        go_wp2_with (first | (go_at_call 138; (with_reducible refine (laws_eqIntS.calls k1 _ _ (rd_L6 l0 x5_1) _ _ (rd_L6 l1 x5_1) false _ ?side1 ?side2 ?side3 ?side4 A7.out).mono ?_); (case side1 => exact caT HR519_0.out); (case side2 => exact HC519_0.out); (case side3 => exact caT HR520_0.out); (case side4 => exact HC520_0.out); rintro e w' ⟨rfl, ⟨nd, rfl⟩⟩; (try first | exact ⟨rfl, _, World.drewN_drewN _ _ _⟩ | exact ⟨rfl, _, Eq.trans (World.drewN_drewN _ _ _) (congrArg (World.drewN _) (Nat.add_assoc _ _ _))⟩)))
        repeat (go_quiet (first | (go_at_call 138; (with_reducible refine (laws_eqIntS.calls k1 _ _ (rd_L6 l0 x5_1) _ _ (rd_L6 l1 x5_1) false _ ?side1 ?side2 ?side3 ?side4 A7.out).mono ?_); (case side1 => exact caT HR519_0.out); (case side2 => exact HC519_0.out); (case side3 => exact caT HR520_0.out); (case side4 => exact HC520_0.out); rintro e w' ⟨rfl, ⟨nd, rfl⟩⟩; (try first | exact ⟨rfl, _, World.drewN_drewN _ _ _⟩ | exact ⟨rfl, _, Eq.trans (World.drewN_drewN _ _ _) (congrArg (World.drewN _) (Nat.add_assoc _ _ _))⟩))); try go_wp2_with (first | (go_at_call 138; (with_reducible refine (laws_eqIntS.calls k1 _ _ (rd_L6 l0 x5_1) _ _ (rd_L6 l1 x5_1) false _ ?side1 ?side2 ?side3 ?side4 A7.out).mono ?_); (case side1 => exact caT HR519_0.out); (case side2 => exact HC519_0.out); (case side3 => exact caT HR520_0.out); (case side4 => exact HC520_0.out); rintro e w' ⟨rfl, ⟨nd, rfl⟩⟩; (try first | exact ⟨rfl, _, World.drewN_drewN _ _ _⟩ | exact ⟨rfl, _, Eq.trans (World.drewN_drewN _ _ _) (congrArg (World.drewN _) (Nat.add_assoc _ _ _))⟩))))
        go_ret; exact ⟨rdT, drT⟩
      ·rw [if_neg c6] at H; exact absurd H (by simp)
     ·rw [if_neg c5] at H; exact absurd H (by simp)
    ·rw [if_neg c4] at H; have c4b0 := df c4; clear c4; obtain rfl := oI H
     go_wp2
     repeat (go_quiet (fail); try go_wp2)
     go_ret; exact ⟨rdT, drT⟩
 ·rw [if_neg c3] at H; have c3b0 : ((l0.length : Int) == (l1.length : Int)) = false := eB c3; have c3b1 : ((l0.length : Int) != (l1.length : Int)) = true := eD c3
  have c3b2 : (l0.length == l1.length) = false := by first | simpa using c3 | (simp at c3 ⊢; omega)
  obtain rfl := oI H; go_enter Tryz.func81, Tryz.ntmps81
  go_wp2
  repeat (go_quiet (fail); try go_wp2)
  go_ret; exact ⟨rdT, drT⟩
def laws_eqTableau.f (k : Nat) (a0_0 : ByteArray) (l0_1 : List ByteArray) (l0_2 : List (S42)) (l0_3 : List (List Int)) (a1_0 : ByteArray) (l1_1 : List ByteArray) (l1_2 : List (S42)) (l1_3 : List (List Int)) : Option (Bool) := if a0_0.toList = a1_0.toList then ((laws_eqStringS.f k l0_1 l1_1).bind fun t524 => (if t524 = true then ((laws_eqCandidateS.f k l0_2 l1_2).bind fun t525 => (if t525 = true then ((laws_eqIntSS.f k l0_3 l1_3).bind fun t526 => (if t526 = true then (some true) else (some false))) else (some false))) else (some false))) else (some false)
theorem laws_eqTableau.mono : ∀ a0 a1 a2 a3 a4 a5 a6 a7 k, LeO (laws_eqTableau.f k a0 a1 a2 a3 a4 a5 a6 a7) (laws_eqTableau.f (k + 1) a0 a1 a2 a3 a4 a5 a6 a7) := by
 intro a0 a1 a2 a3 a4 a5 a6 a7 k; unfold laws_eqTableau.f
 with_reducible repeat' first | exact laws_eqCandidateS.mono _ _ _ | exact laws_eqIntSS.mono _ _ _ | exact laws_eqStringS.mono _ _ _ | exact LeO.refl _ | exact LeO.none _ | refine LeO.ite ?_ ?_ | refine LeO.bind ?_ (fun _ => ?_)
theorem laws_eqTableau.calls (k : Nat) (a0_0 : ByteArray) (A0_1 : Option Addr) (c0_1 : Nat) (l0_1 : List ByteArray) (A0_2 : Option Addr) (c0_2 : Nat) (l0_2 : List (S42)) (A0_3 : Option Addr) (c0_3 : Nat) (l0_3 : List (List Int)) (a1_0 : ByteArray) (A1_1 : Option Addr) (c1_1 : Nat) (l1_1 : List ByteArray) (A1_2 : Option Addr) (c1_2 : Nat) (l1_2 : List (S42)) (A1_3 : Option Addr) (c1_3 : Nat) (l1_3 : List (List Int)) (r : Bool) (w : World) (hr0_1 : Kd.C Kd.string w A0_1 l0_1.length l0_1) (hc0_1 : l0_1.length ≤ c0_1) (hr0_2 : Kd.C k42 w A0_2 l0_2.length l0_2) (hc0_2 : l0_2.length ≤ c0_2) (hr0_3 : Kd.C (Kd.slice 3 (Kd.int .i64)) w A0_3 l0_3.length l0_3) (hc0_3 : l0_3.length ≤ c0_3) (hr1_1 : Kd.C Kd.string w A1_1 l1_1.length l1_1) (hc1_1 : l1_1.length ≤ c1_1) (hr1_2 : Kd.C k42 w A1_2 l1_2.length l1_2) (hc1_2 : l1_2.length ≤ c1_2) (hr1_3 : Kd.C (Kd.slice 3 (Kd.int .i64)) w A1_3 l1_3.length l1_3) (hc1_3 : l1_3.length ≤ c1_3) (h : laws_eqTableau.f k a0_0 l0_1 l0_2 l0_3 a1_0 l1_1 l1_2 l1_3 = some r) :
  Calls Tryz.prog 9 #[.agg #[.string a0_0, .slice A0_1 l0_1.length c0_1, .slice A0_2 l0_2.length c0_2, .slice A0_3 l0_3.length c0_3], .agg #[.string a1_0, .slice A1_1 l1_1.length c1_1, .slice A1_2 l1_2.length c1_2, .slice A1_3 l1_3.length c1_3]] w fun e w' => e = .returned (.bool r) ∧ Below w.heap.size w w' := by
 have hu31 := Tryz.underlying31; have HR0_1 := asT hr0_1; have HC0_1 := asT hc0_1; clear hr0_1 hc0_1; have HR0_2 := asT hr0_2; have HC0_2 := asT hc0_2; clear hr0_2 hc0_2; have HR0_3 := asT hr0_3; have HC0_3 := asT hc0_3; clear hr0_3 hc0_3; have HR1_1 := asT hr1_1; have HC1_1 := asT hc1_1; clear hr1_1 hc1_1; have HR1_2 := asT hr1_2; have HC1_2 := asT hc1_2; clear hr1_2 hc1_2; have HR1_3 := asT hr1_3; have HC1_3 := asT hc1_3; clear hr1_3 hc1_3; have HB := asT (Below.refl w.heap.size w); have H := h; unfold laws_eqTableau.f at H; clear h; by_cases c3 : a0_0.toList = a1_0.toList
 ·rw [if_pos c3] at H; have c3b0 : (a0_0.toList == a1_0.toList) = true := eC c3; have c3b1 : (a0_0.toList != a1_0.toList) = false := eA c3; clear c3; obtain ⟨t524, A4, H⟩ := be H; by_cases c5 : t524 = true
  ·subst c5; rw [if_pos rfl] at H; obtain ⟨t525, A6, H⟩ := be H; by_cases c7 : t525 = true
   ·subst c7; rw [if_pos rfl] at H; obtain ⟨t526, A8, H⟩ := be H; by_cases c9 : t526 = true
    ·subst c9; rw [if_pos rfl] at H; have H1 := H; clear H; have H := H1; clear H1; obtain rfl := oI H; go_enter Tryz.func9, Tryz.ntmps9
     go_wp2_with (first | ((with_reducible refine gate_dst (N := 2) rfl ?_); refine boxT (N := 2) (cs := #[.string a0_0, .slice A0_1 l0_1.length c0_1, .slice A0_2 l0_2.length c0_2, .slice A0_3 l0_3.length c0_3]) (t := 31) ?_; intro gb522 hg w10 hbox hb; have BK522 := asT hbox; have GW522 := asT (geT hg HB.out); have GE522 := GW522; replace HB := hS HB hb; clear hb hbox hg) | ((with_reducible refine gate_dst (N := 3) rfl ?_); refine boxT (N := 3) (cs := #[.string a1_0, .slice A1_1 l1_1.length c1_1, .slice A1_2 l1_2.length c1_2, .slice A1_3 l1_3.length c1_3]) (t := 31) ?_; intro gb523 hg w11 hbox hb; have BK523 := asT (hbox); have GW523 := asT (geT hg HB.out); have GE523 := asT (geT hg HB.out); replace HB := hS HB hb; have NB522_523 := asT ((by rw [hg]; exact Nat.ne_of_lt (blk_lt (bkT BK522.out)) : gb522 ≠ gb523)); have NB523_522 := asT ((by rw [hg]; exact Nat.ne_of_gt (blk_lt (bkT BK522.out)) : gb523 ≠ gb522)); replace BK522 := bS BK522 hb; clear hb hbox hg; have hnb12 := NB522_523.out; have hnc12 := NB523_522.out; obtain ⟨hcz13_0, hcz13_1, hcz13_2, hcz13_3, hfz13_0, hfz13_1, hfz13_2, hfz13_3⟩ := bx4 BK522.out; obtain ⟨hcz14_0, hcz14_1, hcz14_2, hcz14_3, hfz14_0, hfz14_1, hfz14_2, hfz14_3⟩ := bx4 BK523.out) | ((with_reducible refine gate_callee (f := 79) rfl ?_); refine goesL_ (some 14) rfl rfl Tryz.func79 (by kernel_rfl) rfl #[.slice A0_1 l0_1.length c0_1, .slice A1_1 l1_1.length c1_1] rfl eqT ?_; (with_reducible refine (laws_eqStringS.calls k _ _ l0_1 _ _ l1_1 true _ ?side1 ?side2 ?side3 ?side4 A4.out).mono ?_); (case side1 => exact crT HR0_1.out HB.out); (case side2 => exact HC0_1.out); (case side3 => exact crT HR1_1.out HB.out); (case side4 => exact HC1_1.out); rintro e w' ⟨rfl, ⟨nd, rfl⟩⟩; refine ⟨_, rfl, ?_⟩) | ((with_reducible refine gate_callee (f := 80) rfl ?_); refine goesL_ (some 20) rfl rfl Tryz.func80 (by kernel_rfl) rfl #[.slice A0_2 l0_2.length c0_2, .slice A1_2 l1_2.length c1_2] rfl eqT ?_; (with_reducible refine (laws_eqCandidateS.calls k _ _ l0_2 _ _ l1_2 true _ ?side1 ?side2 ?side3 ?side4 A6.out).mono ?_); (case side1 => exact crT HR0_2.out (hbT HB.out)); (case side2 => exact HC0_2.out); (case side3 => exact crT HR1_2.out (hbT HB.out)); (case side4 => exact HC1_2.out); rintro e w15 ⟨rfl, hb⟩; refine ⟨_, rfl, ?_⟩; replace BK522 := bS BK522 hb; replace BK523 := bS BK523 hb; replace HB := hS HB hb; (try clear hb hb2 hk hi); obtain ⟨hcz16_0, hcz16_1, hcz16_2, hcz16_3, hfz16_0, hfz16_1, hfz16_2, hfz16_3⟩ := bx4 BK522.out; obtain ⟨hcz17_0, hcz17_1, hcz17_2, hcz17_3, hfz17_0, hfz17_1, hfz17_2, hfz17_3⟩ := bx4 BK523.out) | ((with_reducible refine gate_callee (f := 81) rfl ?_); refine goesL_ (some 26) rfl rfl Tryz.func81 (by kernel_rfl) rfl #[.slice A0_3 l0_3.length c0_3, .slice A1_3 l1_3.length c1_3] rfl eqT ?_; (with_reducible refine (laws_eqIntSS.calls k _ _ l0_3 _ _ l1_3 true _ ?side1 ?side2 ?side3 ?side4 A8.out).mono ?_); (case side1 => exact crT HR0_3.out HB.out); (case side2 => exact HC0_3.out); (case side3 => exact crT HR1_3.out HB.out); (case side4 => exact HC1_3.out); rintro e w' ⟨rfl, ⟨nd, rfl⟩⟩; refine ⟨_, rfl, ?_⟩))
     go_ret; exact ⟨rlT, hbT HB.out⟩
    ·replace c9 := eE c9; subst c9; rw [if_neg nF] at H; have H1 := H; clear H; have H := H1; clear H1; obtain rfl := oI H; go_enter Tryz.func9, Tryz.ntmps9
     go_wp2_with (first | ((with_reducible refine gate_dst (N := 2) rfl ?_); refine boxT (N := 2) (cs := #[.string a0_0, .slice A0_1 l0_1.length c0_1, .slice A0_2 l0_2.length c0_2, .slice A0_3 l0_3.length c0_3]) (t := 31) ?_; intro gb522 hg w18 hbox hb; have BK522 := asT hbox; have GW522 := asT (geT hg HB.out); have GE522 := GW522; replace HB := hS HB hb; clear hb hbox hg) | ((with_reducible refine gate_dst (N := 3) rfl ?_); refine boxT (N := 3) (cs := #[.string a1_0, .slice A1_1 l1_1.length c1_1, .slice A1_2 l1_2.length c1_2, .slice A1_3 l1_3.length c1_3]) (t := 31) ?_; intro gb523 hg w19 hbox hb; have BK523 := asT (hbox); have GW523 := asT (geT hg HB.out); have GE523 := asT (geT hg HB.out); replace HB := hS HB hb; have NB522_523 := asT ((by rw [hg]; exact Nat.ne_of_lt (blk_lt (bkT BK522.out)) : gb522 ≠ gb523)); have NB523_522 := asT ((by rw [hg]; exact Nat.ne_of_gt (blk_lt (bkT BK522.out)) : gb523 ≠ gb522)); replace BK522 := bS BK522 hb; clear hb hbox hg; have hnb20 := NB522_523.out; have hnc20 := NB523_522.out; obtain ⟨hcz21_0, hcz21_1, hcz21_2, hcz21_3, hfz21_0, hfz21_1, hfz21_2, hfz21_3⟩ := bx4 BK522.out; obtain ⟨hcz22_0, hcz22_1, hcz22_2, hcz22_3, hfz22_0, hfz22_1, hfz22_2, hfz22_3⟩ := bx4 BK523.out) | ((with_reducible refine gate_callee (f := 79) rfl ?_); refine goesL_ (some 14) rfl rfl Tryz.func79 (by kernel_rfl) rfl #[.slice A0_1 l0_1.length c0_1, .slice A1_1 l1_1.length c1_1] rfl eqT ?_; (with_reducible refine (laws_eqStringS.calls k _ _ l0_1 _ _ l1_1 true _ ?side1 ?side2 ?side3 ?side4 A4.out).mono ?_); (case side1 => exact crT HR0_1.out HB.out); (case side2 => exact HC0_1.out); (case side3 => exact crT HR1_1.out HB.out); (case side4 => exact HC1_1.out); rintro e w' ⟨rfl, ⟨nd, rfl⟩⟩; refine ⟨_, rfl, ?_⟩) | ((with_reducible refine gate_callee (f := 80) rfl ?_); refine goesL_ (some 20) rfl rfl Tryz.func80 (by kernel_rfl) rfl #[.slice A0_2 l0_2.length c0_2, .slice A1_2 l1_2.length c1_2] rfl eqT ?_; (with_reducible refine (laws_eqCandidateS.calls k _ _ l0_2 _ _ l1_2 true _ ?side1 ?side2 ?side3 ?side4 A6.out).mono ?_); (case side1 => exact crT HR0_2.out (hbT HB.out)); (case side2 => exact HC0_2.out); (case side3 => exact crT HR1_2.out (hbT HB.out)); (case side4 => exact HC1_2.out); rintro e w23 ⟨rfl, hb⟩; refine ⟨_, rfl, ?_⟩; replace BK522 := bS BK522 hb; replace BK523 := bS BK523 hb; replace HB := hS HB hb; (try clear hb hb2 hk hi); obtain ⟨hcz24_0, hcz24_1, hcz24_2, hcz24_3, hfz24_0, hfz24_1, hfz24_2, hfz24_3⟩ := bx4 BK522.out; obtain ⟨hcz25_0, hcz25_1, hcz25_2, hcz25_3, hfz25_0, hfz25_1, hfz25_2, hfz25_3⟩ := bx4 BK523.out) | ((with_reducible refine gate_callee (f := 81) rfl ?_); refine goesL_ (some 26) rfl rfl Tryz.func81 (by kernel_rfl) rfl #[.slice A0_3 l0_3.length c0_3, .slice A1_3 l1_3.length c1_3] rfl eqT ?_; (with_reducible refine (laws_eqIntSS.calls k _ _ l0_3 _ _ l1_3 false _ ?side1 ?side2 ?side3 ?side4 A8.out).mono ?_); (case side1 => exact crT HR0_3.out HB.out); (case side2 => exact HC0_3.out); (case side3 => exact crT HR1_3.out HB.out); (case side4 => exact HC1_3.out); rintro e w' ⟨rfl, ⟨nd, rfl⟩⟩; refine ⟨_, rfl, ?_⟩))
     go_ret; exact ⟨rlT, hbT HB.out⟩
   ·replace c7 := eE c7; subst c7; rw [if_neg nF] at H; have H1 := H; clear H; have H := H1; clear H1; obtain rfl := oI H; go_enter Tryz.func9, Tryz.ntmps9
    go_wp2_with (first | ((with_reducible refine gate_dst (N := 2) rfl ?_); refine boxT (N := 2) (cs := #[.string a0_0, .slice A0_1 l0_1.length c0_1, .slice A0_2 l0_2.length c0_2, .slice A0_3 l0_3.length c0_3]) (t := 31) ?_; intro gb522 hg w26 hbox hb; have BK522 := asT hbox; have GW522 := asT (geT hg HB.out); have GE522 := GW522; replace HB := hS HB hb; clear hb hbox hg) | ((with_reducible refine gate_dst (N := 3) rfl ?_); refine boxT (N := 3) (cs := #[.string a1_0, .slice A1_1 l1_1.length c1_1, .slice A1_2 l1_2.length c1_2, .slice A1_3 l1_3.length c1_3]) (t := 31) ?_; intro gb523 hg w27 hbox hb; have BK523 := asT (hbox); have GW523 := asT (geT hg HB.out); have GE523 := asT (geT hg HB.out); replace HB := hS HB hb; have NB522_523 := asT ((by rw [hg]; exact Nat.ne_of_lt (blk_lt (bkT BK522.out)) : gb522 ≠ gb523)); have NB523_522 := asT ((by rw [hg]; exact Nat.ne_of_gt (blk_lt (bkT BK522.out)) : gb523 ≠ gb522)); replace BK522 := bS BK522 hb; clear hb hbox hg; have hnb28 := NB522_523.out; have hnc28 := NB523_522.out; obtain ⟨hcz29_0, hcz29_1, hcz29_2, hcz29_3, hfz29_0, hfz29_1, hfz29_2, hfz29_3⟩ := bx4 BK522.out; obtain ⟨hcz30_0, hcz30_1, hcz30_2, hcz30_3, hfz30_0, hfz30_1, hfz30_2, hfz30_3⟩ := bx4 BK523.out) | ((with_reducible refine gate_callee (f := 79) rfl ?_); refine goesL_ (some 14) rfl rfl Tryz.func79 (by kernel_rfl) rfl #[.slice A0_1 l0_1.length c0_1, .slice A1_1 l1_1.length c1_1] rfl eqT ?_; (with_reducible refine (laws_eqStringS.calls k _ _ l0_1 _ _ l1_1 true _ ?side1 ?side2 ?side3 ?side4 A4.out).mono ?_); (case side1 => exact crT HR0_1.out HB.out); (case side2 => exact HC0_1.out); (case side3 => exact crT HR1_1.out HB.out); (case side4 => exact HC1_1.out); rintro e w' ⟨rfl, ⟨nd, rfl⟩⟩; refine ⟨_, rfl, ?_⟩) | ((with_reducible refine gate_callee (f := 80) rfl ?_); refine goesL_ (some 20) rfl rfl Tryz.func80 (by kernel_rfl) rfl #[.slice A0_2 l0_2.length c0_2, .slice A1_2 l1_2.length c1_2] rfl eqT ?_; (with_reducible refine (laws_eqCandidateS.calls k _ _ l0_2 _ _ l1_2 false _ ?side1 ?side2 ?side3 ?side4 A6.out).mono ?_); (case side1 => exact crT HR0_2.out (hbT HB.out)); (case side2 => exact HC0_2.out); (case side3 => exact crT HR1_2.out (hbT HB.out)); (case side4 => exact HC1_2.out); rintro e w31 ⟨rfl, hb⟩; refine ⟨_, rfl, ?_⟩; replace BK522 := bS BK522 hb; replace BK523 := bS BK523 hb; replace HB := hS HB hb; (try clear hb hb2 hk hi)))
    go_ret; exact ⟨rlT, hbT HB.out⟩
  ·replace c5 := eE c5; subst c5; rw [if_neg nF] at H; have H1 := H; clear H; have H := H1; clear H1; obtain rfl := oI H; go_enter Tryz.func9, Tryz.ntmps9
   go_wp2_with (first | ((with_reducible refine gate_dst (N := 2) rfl ?_); refine boxT (N := 2) (cs := #[.string a0_0, .slice A0_1 l0_1.length c0_1, .slice A0_2 l0_2.length c0_2, .slice A0_3 l0_3.length c0_3]) (t := 31) ?_; intro gb522 hg w32 hbox hb; have BK522 := asT hbox; have GW522 := asT (geT hg HB.out); have GE522 := GW522; replace HB := hS HB hb; clear hb hbox hg) | ((with_reducible refine gate_dst (N := 3) rfl ?_); refine boxT (N := 3) (cs := #[.string a1_0, .slice A1_1 l1_1.length c1_1, .slice A1_2 l1_2.length c1_2, .slice A1_3 l1_3.length c1_3]) (t := 31) ?_; intro gb523 hg w33 hbox hb; have BK523 := asT (hbox); have GW523 := asT (geT hg HB.out); have GE523 := asT (geT hg HB.out); replace HB := hS HB hb; have NB522_523 := asT ((by rw [hg]; exact Nat.ne_of_lt (blk_lt (bkT BK522.out)) : gb522 ≠ gb523)); have NB523_522 := asT ((by rw [hg]; exact Nat.ne_of_gt (blk_lt (bkT BK522.out)) : gb523 ≠ gb522)); replace BK522 := bS BK522 hb; clear hb hbox hg; have hnb34 := NB522_523.out; have hnc34 := NB523_522.out; obtain ⟨hcz35_0, hcz35_1, hcz35_2, hcz35_3, hfz35_0, hfz35_1, hfz35_2, hfz35_3⟩ := bx4 BK522.out; obtain ⟨hcz36_0, hcz36_1, hcz36_2, hcz36_3, hfz36_0, hfz36_1, hfz36_2, hfz36_3⟩ := bx4 BK523.out) | ((with_reducible refine gate_callee (f := 79) rfl ?_); refine goesL_ (some 14) rfl rfl Tryz.func79 (by kernel_rfl) rfl #[.slice A0_1 l0_1.length c0_1, .slice A1_1 l1_1.length c1_1] rfl eqT ?_; (with_reducible refine (laws_eqStringS.calls k _ _ l0_1 _ _ l1_1 false _ ?side1 ?side2 ?side3 ?side4 A4.out).mono ?_); (case side1 => exact crT HR0_1.out HB.out); (case side2 => exact HC0_1.out); (case side3 => exact crT HR1_1.out HB.out); (case side4 => exact HC1_1.out); rintro e w' ⟨rfl, ⟨nd, rfl⟩⟩; refine ⟨_, rfl, ?_⟩))
   go_ret; exact ⟨rlT, hbT HB.out⟩
 ·rw [if_neg c3] at H; have c3b0 : (a0_0.toList == a1_0.toList) = false := eB c3; have c3b1 : (a0_0.toList != a1_0.toList) = true := eD c3; obtain rfl := oI H; go_enter Tryz.func9, Tryz.ntmps9
  go_wp2_with (first | ((with_reducible refine gate_dst (N := 2) rfl ?_); refine boxT (N := 2) (cs := #[.string a0_0, .slice A0_1 l0_1.length c0_1, .slice A0_2 l0_2.length c0_2, .slice A0_3 l0_3.length c0_3]) (t := 31) ?_; intro gb522 hg w37 hbox hb; have BK522 := asT hbox; have GW522 := asT (geT hg HB.out); have GE522 := GW522; replace HB := hS HB hb; clear hb hbox hg) | ((with_reducible refine gate_dst (N := 3) rfl ?_); refine boxT (N := 3) (cs := #[.string a1_0, .slice A1_1 l1_1.length c1_1, .slice A1_2 l1_2.length c1_2, .slice A1_3 l1_3.length c1_3]) (t := 31) ?_; intro gb523 hg w38 hbox hb; have BK523 := asT (hbox); have GW523 := asT (geT hg HB.out); have GE523 := asT (geT hg HB.out); replace HB := hS HB hb; have NB522_523 := asT ((by rw [hg]; exact Nat.ne_of_lt (blk_lt (bkT BK522.out)) : gb522 ≠ gb523)); have NB523_522 := asT ((by rw [hg]; exact Nat.ne_of_gt (blk_lt (bkT BK522.out)) : gb523 ≠ gb522)); replace BK522 := bS BK522 hb; clear hb hbox hg; have hnb39 := NB522_523.out; have hnc39 := NB523_522.out; obtain ⟨hcz40_0, hcz40_1, hcz40_2, hcz40_3, hfz40_0, hfz40_1, hfz40_2, hfz40_3⟩ := bx4 BK522.out; obtain ⟨hcz41_0, hcz41_1, hcz41_2, hcz41_3, hfz41_0, hfz41_1, hfz41_2, hfz41_3⟩ := bx4 BK523.out))
  go_ret; exact ⟨rlT, hbT HB.out⟩
end Go.Proofs.YtlmfpkiaikjlbaaGreatDoor.PFnExactFormatRow
