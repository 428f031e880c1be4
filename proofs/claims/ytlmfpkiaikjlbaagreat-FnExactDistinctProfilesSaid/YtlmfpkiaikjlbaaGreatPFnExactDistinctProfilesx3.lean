-- Made by gen.py (a program of this session) out of the translation; Lean checks it.
import Derived.Test.YtlmfpkiaikjlbaaGreatPFnExactDistinctProfilesx0
import Derived.Test.YtlmfpkiaikjlbaaGreatPFnExactDistinctProfilesx2
namespace Go.Proofs.YtlmfpkiaikjlbaaGreat.PFnExactDistinctProfiles
open Go.RowKit Go.Proofs.YtlmfpkiaikjlbaaGreatB Go.Proofs.YtlmfpkiaikjlbaaGreatW.PrintWords Go.Proofs.YtlmfpkiaikjlbaaGreatW.PrintLast Go.Proofs.YtlmfpkiaikjlbaaGreatW.PrintMore
attribute [local go_sem] max2_int min2_int max_two min_two max_three min_three max_four min_four   -- for this text's walks alone
set_option linter.unusedVariables false
set_option maxHeartbeats 8000000
set_option maxRecDepth 100000
set_option linter.unusedSimpArgs false
def spec_AreConstraints.l0 : Nat → List ByteArray → Int → Option (Bool)
 | 0, _, _ => none
 | k + 1, x0, x3 => if x3 < (x0.length : Int) then ((spec_ConstraintNames.f).bind fun t148 => (if 0 ≤ x3 then ((spec_l3Has.f k t148 (rdOf ByteArray.empty x0 x3)).bind fun t152 => (if t152 = true then (if x3 ≤ (x0.length : Int) then ((spec_l3Has.f k (x0.take (x3 : Int).toNat) (rdOf ByteArray.empty x0 x3)).bind fun t155 => (if t155 = true then (some false) else (spec_AreConstraints.l0 k x0 (wrap64 (x3 + 1))))) else (none)) else (some false))) else (none))) else ((spec_l1In.f (x0.length : Int) 1 5).bind fun t147 => (some t147))
def spec_AreConstraints.f (k : Nat) (l0 : List ByteArray) : Option (Bool) := spec_AreConstraints.l0 k l0 0
theorem spec_AreConstraints.mono_l : ∀ k, (∀ y0 y1, LeO (spec_AreConstraints.l0 k y0 y1) (spec_AreConstraints.l0 (k + 1) y0 y1))
 | 0 => fun _ _ r h => by simp [spec_AreConstraints.l0] at h
 | k + 1 => by
  have ih0 := spec_AreConstraints.mono_l k
  ·intro y0 y1; unfold spec_AreConstraints.l0
   with_reducible repeat' first | exact ih0 _ _ | exact spec_l3Has.mono _ _ _ | exact LeO.refl _ | exact LeO.none _ | refine LeO.ite ?_ ?_ | refine LeO.bind ?_ (fun _ => ?_)
theorem spec_AreConstraints.mono : ∀ a0 k, LeO (spec_AreConstraints.f k a0) (spec_AreConstraints.f (k + 1) a0) := by
 intro a0 k; have ih0 := spec_AreConstraints.mono_l k; unfold spec_AreConstraints.f
 with_reducible repeat' first | exact ih0 _ _ | exact spec_l3Has.mono _ _ _ | exact LeO.refl _ | exact LeO.none _ | refine LeO.ite ?_ ?_ | refine LeO.bind ?_ (fun _ => ?_)
def spec_AreConstraints.T4 : Bool × List (List Nat × List Nat) := (true, [([], []), ([], []), ([], []), ([1, 2], [1, 2]), ([3], [3]), ([0, 4, 0], [0, 4]), ([5], [5]), ([6, 5], [6]), ([7], [7]), ([7], [7]), ([8, 9, 7], [7, 8, 9]), ([7], [7]), ([7], [7]), ([11, 12, 7], [7, 11, 12]), ([13, 7], [7, 13]), ([10, 14, 7, 7], [7, 10, 14]), ([7, 15], [7, 15])])
def spec_AreConstraints.B4 : List Nat := [0, 0, 0, 6, 14, 31, 63, 127, 255, 255, 1023, 255, 255, 6399, 14591, 32767, 65535]
theorem spec_AreConstraints.tab4 : rtab .any (opsOf Tryz.f35 4) = spec_AreConstraints.T4 := by kernel_rfl
theorem spec_AreConstraints.bits4 : waitsOk spec_AreConstraints.T4.2 spec_AreConstraints.B4 = true := by kernel_rfl
theorem spec_AreConstraints.calls (k : Nat) (A0 : Option Addr) (c0 : Nat) (l0 : List ByteArray) (r : Bool) (w : World) (hr0 : Kd.C Kd.string w A0 l0.length l0) (hc0 : l0.length ≤ c0) (h : spec_AreConstraints.f k l0 = some r) :
  Calls Tryz.prog 35 #[.slice A0 l0.length c0] w fun e w' => e = .returned (.bool r) ∧ Below w.heap.size w w' := by
 have HR0 := asT hr0; have HC0 := asT hc0; clear hr0 hc0; have HB := asT (Below.refl w.heap.size w); have H := h; unfold spec_AreConstraints.f at H; clear h; have H' := asT H; clear H; go_enter Tryz.func35, Tryz.ntmps35
 go_wp2
 go_loopg [3] k (fun kq v3 w' => ∃ (x3_1 : Int), v3 = .int .i64 x3_1 ∧ Aside0 (spec_AreConstraints.l0 kq l0 x3_1 = some r) ∧ Aside0 (kq ≤ k) ∧ Aside0 (Below w.heap.size w w'))
 case atStart => exact ⟨(0), rdT, H', ⟨Nat.le_refl _⟩, ⟨hbT HB.out⟩⟩
 case round =>
  clear H'; obtain ⟨x3_1, rfl, HA, HK1, HB⟩ := hrel
  cases gk with
  | zero => exact absurd HA.out (by simp [spec_AreConstraints.l0])
  | succ k1 =>
   have H := HA.out; clear HA
   simp only [spec_AreConstraints.l0] at H
   by_cases c2 : x3_1 < (l0.length : Int)
   ·rw [if_pos c2] at H; have c2b0 := dt c2; clear c2; obtain ⟨t148, A3, H⟩ := be H; by_cases c4 : 0 ≤ x3_1
    ·rw [if_pos c4] at H; have c4b0 := dt c4; clear c4; obtain ⟨t152, A5, H⟩ := be H; by_cases c6 : t152 = true
     ·subst c6; rw [if_pos rfl] at H; have c7b0 := eq_true (dT asmT : 0 ≤ x3_1); by_cases c8 : x3_1 ≤ (l0.length : Int)
      ·rw [if_pos c8] at H; have c8b0 := eq_true c8; have c8b1 : decide (x3_1 ≤ (l0.length : Int)) = true := dt c8; clear c8; obtain ⟨t155, A9, H⟩ := be H; by_cases c10 : t155 = true
       ·subst c10; rw [if_pos rfl] at H; have H1 := H; clear H; have H := H1; clear H1; obtain rfl := oI H
        try go_wp2
        replace HB := asT (below_drew1 HB.out); have p151 : 0 ≤ (x3_1 : Int) := dT asmT; have q151 : x3_1 < (l0.length : Int) := dT asmT; obtain ⟨ad151, e151, hx151_0⟩ := Kd.at_string HR0.out x3_1 p151 q151; have hw151_0 := hx151_0
        cases e151
        replace hx151_0 := hbc HB.out hx151_0; replace p151 := eq_true p151; replace q151 := eq_true q151; have p154 : 0 ≤ (x3_1 : Int) := dT asmT; have q154 : x3_1 < (l0.length : Int) := dT asmT; obtain ⟨ad154, e154, hx154_0⟩ := Kd.at_string HR0.out x3_1 p154 q154; have hw154_0 := hx154_0; obtain rfl : ad151 = ad154 := (by injection e154); replace hx154_0 := hbc HB.out hx154_0; replace p154 := eq_true p154; replace q154 := eq_true q154; refine start_ (n := 17) (S := fun w' => w'.cell? (ad151.add (x3_1).toNat) = some (.string (rdOf ByteArray.empty l0 x3_1)) ∧ w'.cell? (ad151.add (x3_1).toNat) = some (.string (rdOf ByteArray.empty l0 x3_1))) (ds := []) (bA 17 0) (by kernel_rfl) rfl rfl ⟨(hbc HB.out hw151_0 :), (hbc HB.out hw154_0 :)⟩ (fun hHeld => ?_); refine with_tabW spec_AreConstraints.tab4 spec_AreConstraints.bits4 (fun HT_ HW_ => ?_); generalize wr.drew = w11 at HB hx151_0 hx154_0 hHeld ⊢; refine pA 1 11 17 2 HT_.out ?_ rfl rfl; refine pA 2 12 17 6 HT_.out ?_ rfl rfl; refine pA 3 13 17 14 HT_.out ?_ rfl rfl; refine tA 4 14 17 30 HT_.out HW_.out hHeld ?_ rfl rfl; refine oA 0 10 17 31 HT_.out (fun K hK => ?_) rfl rfl; refine goes_ Tryz.func74 (by kernel_rfl) rfl #[] (by rfl) rfl rfl eqT ?_
        (with_reducible refine (spec_ConstraintNames.calls  t148 _ A3.out).mono ?_); rintro e w12 ⟨v149, rfl, ho0, hb⟩; refine ⟨_, rfl, ?_⟩; have HO150 := asT (Kd.R_lower ho0 (below_size (hbT HB.out))); replace HB := hS HB hb; (try clear hb hb2 hk hi ho0); obtain ⟨Ao13, co13, eo13⟩ := Kd.R_slice HO150.out; (first | subst eo13 | (injection eo13 with f1_ f2_ f3_; have f4_ := f1_.symm; have f5_ := f3_.symm; clear f1_ f2_ f3_; subst f4_; subst f5_))
        refine hK.out _ _ ⟨(hbc HB.out hw151_0 :), (hbc HB.out hw154_0 :)⟩ (fun hHeld => ?_); clear hK K; refine nB 10 ?_ rfl; refine oA 5 15 17 63 HT_.out (fun K hK => ?_) rfl rfl; refine goes_ Tryz.func72 (by kernel_rfl) rfl #[.slice Ao13 t148.length co13, .string (rdOf ByteArray.empty l0 x3_1)] (by rfl) rfl rfl eqT ?_
        (with_reducible refine (spec_l3Has.calls k1 _ _ t148 (rdOf ByteArray.empty l0 x3_1) true _ ?side1 ?side2 A5.out).mono ?_); (case side1 => exact caT (Kd.R_reads' HO150.out).2.2); (case side2 => exact (Kd.R_reads' HO150.out).2.1); rintro e w' ⟨rfl, ⟨nd, rfl⟩⟩; refine ⟨_, rfl, ?_⟩; obtain ⟨i014, hi014, _, hsz14, _⟩ := info_parts info9; obtain ⟨hcut14, hA14, hC14⟩ := print_take_of (P := Tryz.prog) Value.string (⟨#[]⟩ : ByteArray) 22 9 .i64 Tryz.underlying22 hi014 hsz14 (some ad151) c0 l0 x3_1 (dT asmT) (dT asmT) HC0.out; have HR153 := asT (Kd.C_of_reads (h1 := fun _ => rfl) (hA14 _ (Kd.reads_of_C HR0.out))); have HC153 := asT hC14; clear hA14 hC14 hi014 hsz14
        refine hK.out _ _ ⟨(hbc HB.out hw151_0 :), (hbc HB.out hw154_0 :)⟩ (fun hHeld => ?_); clear hK K; refine nB 15 ?_ rfl; refine pA 6 16 17 127 HT_.out ?_ rfl rfl; refine pA 7 17 17 255 HT_.out ?_ rfl rfl; refine pA 8 18 17 511 HT_.out ?_ rfl rfl; refine pA 9 19 17 1023 HT_.out ?_ rfl rfl; refine pA 10 20 17 2047 HT_.out ?_ rfl rfl; refine pA 11 21 17 4095 HT_.out ?_ rfl rfl; refine pA 12 22 17 8191 HT_.out ?_ rfl rfl; refine pA 13 23 17 16383 HT_.out ?_ rfl rfl; refine tA 14 24 17 32767 HT_.out HW_.out hHeld ?_ rfl rfl; refine oA 15 25 17 65535 HT_.out (fun K hK => ?_) rfl rfl; refine goes_ Tryz.func72 (by kernel_rfl) rfl #[.slice (some ad151) (l0.take (x3_1 : Int).toNat).length c0, .string (rdOf ByteArray.empty l0 x3_1)] (by rfl) rfl rfl (by (try simp only [List.map_toArray, List.map_cons, List.map_nil]); first | done | (rw [show (l0.take (x3_1 : Int).toNat).length = x3_1.toNat from (by rw [List.length_take]; have h_ : (x3_1 : Int) ≤ (l0.length : Int) := dT asmT; omega)] <;> rfl) | rfl | (simp only [List.length_drop, List.length_take]; rfl)) ?_
        (with_reducible refine (spec_l3Has.calls k1 _ _ (l0.take (x3_1 : Int).toNat) (rdOf ByteArray.empty l0 x3_1) true _ ?side1 ?side2 A9.out).mono ?_); (case side1 => exact crT HR153.out (hbT HB.out)); (case side2 => exact HC153.out); rintro e w' ⟨rfl, ⟨nd, rfl⟩⟩; refine ⟨_, rfl, ?_⟩
        refine hK.out _ _ ⟨(hbc HB.out hw151_0 :), (hbc HB.out hw154_0 :)⟩ (fun hHeld => ?_); clear hK K; refine nB 25 ?_ rfl; refine pA 16 26 17 131071 HT_.out ?_ rfl rfl; refine done_ (done_of HT_.out (by kernel_rfl)) ?_
        try go_wp2
        go_ret; exact ⟨rlT, hbT HB.out⟩
       ·replace c10 := eE c10; subst c10; rw [if_neg nF] at H; have H' := asT H; clear H
        try go_wp2
        replace HB := asT (below_drew1 HB.out); have p151 : 0 ≤ (x3_1 : Int) := dT asmT; have q151 : x3_1 < (l0.length : Int) := dT asmT; obtain ⟨ad151, e151, hx151_0⟩ := Kd.at_string HR0.out x3_1 p151 q151; have hw151_0 := hx151_0
        cases e151
        replace hx151_0 := hbc HB.out hx151_0; replace p151 := eq_true p151; replace q151 := eq_true q151; have p154 : 0 ≤ (x3_1 : Int) := dT asmT; have q154 : x3_1 < (l0.length : Int) := dT asmT; obtain ⟨ad154, e154, hx154_0⟩ := Kd.at_string HR0.out x3_1 p154 q154; have hw154_0 := hx154_0; obtain rfl : ad151 = ad154 := (by injection e154); replace hx154_0 := hbc HB.out hx154_0; replace p154 := eq_true p154; replace q154 := eq_true q154; refine start_ (n := 17) (S := fun w' => w'.cell? (ad151.add (x3_1).toNat) = some (.string (rdOf ByteArray.empty l0 x3_1)) ∧ w'.cell? (ad151.add (x3_1).toNat) = some (.string (rdOf ByteArray.empty l0 x3_1))) (ds := []) (bA 17 0) (by kernel_rfl) rfl rfl ⟨(hbc HB.out hw151_0 :), (hbc HB.out hw154_0 :)⟩ (fun hHeld => ?_); refine with_tabW spec_AreConstraints.tab4 spec_AreConstraints.bits4 (fun HT_ HW_ => ?_); generalize wr.drew = w15 at HB hx151_0 hx154_0 hHeld ⊢; refine pA 1 11 17 2 HT_.out ?_ rfl rfl; refine pA 2 12 17 6 HT_.out ?_ rfl rfl; refine pA 3 13 17 14 HT_.out ?_ rfl rfl; refine tA 4 14 17 30 HT_.out HW_.out hHeld ?_ rfl rfl; refine oA 0 10 17 31 HT_.out (fun K hK => ?_) rfl rfl; refine goes_ Tryz.func74 (by kernel_rfl) rfl #[] (by rfl) rfl rfl eqT ?_
        (with_reducible refine (spec_ConstraintNames.calls  t148 _ A3.out).mono ?_); rintro e w16 ⟨v149, rfl, ho0, hb⟩; refine ⟨_, rfl, ?_⟩; have HO150 := asT (Kd.R_lower ho0 (below_size (hbT HB.out))); replace HB := hS HB hb; (try clear hb hb2 hk hi ho0); obtain ⟨Ao17, co17, eo17⟩ := Kd.R_slice HO150.out; (first | subst eo17 | (injection eo17 with f1_ f2_ f3_; have f4_ := f1_.symm; have f5_ := f3_.symm; clear f1_ f2_ f3_; subst f4_; subst f5_))
        refine hK.out _ _ ⟨(hbc HB.out hw151_0 :), (hbc HB.out hw154_0 :)⟩ (fun hHeld => ?_); clear hK K; refine nB 10 ?_ rfl; refine oA 5 15 17 63 HT_.out (fun K hK => ?_) rfl rfl; refine goes_ Tryz.func72 (by kernel_rfl) rfl #[.slice Ao17 t148.length co17, .string (rdOf ByteArray.empty l0 x3_1)] (by rfl) rfl rfl eqT ?_
        (with_reducible refine (spec_l3Has.calls k1 _ _ t148 (rdOf ByteArray.empty l0 x3_1) true _ ?side1 ?side2 A5.out).mono ?_); (case side1 => exact caT (Kd.R_reads' HO150.out).2.2); (case side2 => exact (Kd.R_reads' HO150.out).2.1); rintro e w' ⟨rfl, ⟨nd, rfl⟩⟩; refine ⟨_, rfl, ?_⟩; obtain ⟨i018, hi018, _, hsz18, _⟩ := info_parts info9; obtain ⟨hcut18, hA18, hC18⟩ := print_take_of (P := Tryz.prog) Value.string (⟨#[]⟩ : ByteArray) 22 9 .i64 Tryz.underlying22 hi018 hsz18 (some ad151) c0 l0 x3_1 (dT asmT) (dT asmT) HC0.out; have HR153 := asT (Kd.C_of_reads (h1 := fun _ => rfl) (hA18 _ (Kd.reads_of_C HR0.out))); have HC153 := asT hC18; clear hA18 hC18 hi018 hsz18
        refine hK.out _ _ ⟨(hbc HB.out hw151_0 :), (hbc HB.out hw154_0 :)⟩ (fun hHeld => ?_); clear hK K; refine nB 15 ?_ rfl; refine pA 6 16 17 127 HT_.out ?_ rfl rfl; refine pA 7 17 17 255 HT_.out ?_ rfl rfl; refine pA 8 18 17 511 HT_.out ?_ rfl rfl; refine pA 9 19 17 1023 HT_.out ?_ rfl rfl; refine pA 10 20 17 2047 HT_.out ?_ rfl rfl; refine pA 11 21 17 4095 HT_.out ?_ rfl rfl; refine pA 12 22 17 8191 HT_.out ?_ rfl rfl; refine pA 13 23 17 16383 HT_.out ?_ rfl rfl; refine tA 14 24 17 32767 HT_.out HW_.out hHeld ?_ rfl rfl; refine oA 15 25 17 65535 HT_.out (fun K hK => ?_) rfl rfl; refine goes_ Tryz.func72 (by kernel_rfl) rfl #[.slice (some ad151) (l0.take (x3_1 : Int).toNat).length c0, .string (rdOf ByteArray.empty l0 x3_1)] (by rfl) rfl rfl (by (try simp only [List.map_toArray, List.map_cons, List.map_nil]); first | done | (rw [show (l0.take (x3_1 : Int).toNat).length = x3_1.toNat from (by rw [List.length_take]; have h_ : (x3_1 : Int) ≤ (l0.length : Int) := dT asmT; omega)] <;> rfl) | rfl | (simp only [List.length_drop, List.length_take]; rfl)) ?_
        (with_reducible refine (spec_l3Has.calls k1 _ _ (l0.take (x3_1 : Int).toNat) (rdOf ByteArray.empty l0 x3_1) false _ ?side1 ?side2 A9.out).mono ?_); (case side1 => exact crT HR153.out (hbT HB.out)); (case side2 => exact HC153.out); rintro e w' ⟨rfl, ⟨nd, rfl⟩⟩; refine ⟨_, rfl, ?_⟩
        refine hK.out _ _ ⟨(hbc HB.out hw151_0 :), (hbc HB.out hw154_0 :)⟩ (fun hHeld => ?_); clear hK K; refine nB 25 ?_ rfl; refine pA 16 26 17 131071 HT_.out ?_ rfl rfl; refine done_ (done_of HT_.out (by kernel_rfl)) ?_
        try go_wp2
        go_roundg k1
        case measure => have := HK1.out; omega
        case rel => exact ⟨(wrap64 (x3_1 + 1)), rdT, H', ⟨by have := HK1.out; omega⟩, ⟨hbT HB.out⟩⟩
      ·rw [if_neg c8] at H; exact absurd H (by simp)
     ·replace c6 := eE c6; subst c6; rw [if_neg nF] at H; have H1 := H; clear H; have H := H1; clear H1; obtain rfl := oI H
      try go_wp2
      replace HB := asT (below_drew1 HB.out); have p151 : 0 ≤ (x3_1 : Int) := dT asmT; have q151 : x3_1 < (l0.length : Int) := dT asmT; obtain ⟨ad151, e151, hx151_0⟩ := Kd.at_string HR0.out x3_1 p151 q151; have hw151_0 := hx151_0
      cases e151
      replace hx151_0 := hbc HB.out hx151_0; replace p151 := eq_true p151; replace q151 := eq_true q151; refine start_ (n := 17) (S := fun w' => w'.cell? (ad151.add (x3_1).toNat) = some (.string (rdOf ByteArray.empty l0 x3_1))) (ds := []) (bA 17 0) (by kernel_rfl) rfl rfl (((HB.out.cell (World.block_lt_of_cell? w _ hw151_0)).trans hw151_0)) (fun hHeld => ?_); refine with_tabW spec_AreConstraints.tab4 spec_AreConstraints.bits4 (fun HT_ HW_ => ?_); generalize wr.drew = w19 at HB hx151_0 hHeld ⊢; refine pA 1 11 17 2 HT_.out ?_ rfl rfl; refine pA 2 12 17 6 HT_.out ?_ rfl rfl; refine pA 3 13 17 14 HT_.out ?_ rfl rfl; refine tA 4 14 17 30 HT_.out HW_.out hHeld ?_ rfl rfl; refine oA 0 10 17 31 HT_.out (fun K hK => ?_) rfl rfl; refine goes_ Tryz.func74 (by kernel_rfl) rfl #[] (by rfl) rfl rfl eqT ?_
      (with_reducible refine (spec_ConstraintNames.calls  t148 _ A3.out).mono ?_); rintro e w20 ⟨v149, rfl, ho0, hb⟩; refine ⟨_, rfl, ?_⟩; have HO150 := asT (Kd.R_lower ho0 (below_size (hbT HB.out))); replace HB := hS HB hb; (try clear hb hb2 hk hi ho0); obtain ⟨Ao21, co21, eo21⟩ := Kd.R_slice HO150.out; (first | subst eo21 | (injection eo21 with f1_ f2_ f3_; have f4_ := f1_.symm; have f5_ := f3_.symm; clear f1_ f2_ f3_; subst f4_; subst f5_))
      refine hK.out _ _ (((HB.out.cell (World.block_lt_of_cell? w _ hw151_0)).trans hw151_0)) (fun hHeld => ?_); clear hK K; refine nB 10 ?_ rfl; refine oA 5 15 17 63 HT_.out (fun K hK => ?_) rfl rfl; refine goes_ Tryz.func72 (by kernel_rfl) rfl #[.slice Ao21 t148.length co21, .string (rdOf ByteArray.empty l0 x3_1)] (by rfl) rfl rfl eqT ?_
      (with_reducible refine (spec_l3Has.calls k1 _ _ t148 (rdOf ByteArray.empty l0 x3_1) false _ ?side1 ?side2 A5.out).mono ?_); (case side1 => exact caT (Kd.R_reads' HO150.out).2.2); (case side2 => exact (Kd.R_reads' HO150.out).2.1); rintro e w' ⟨rfl, ⟨nd, rfl⟩⟩; refine ⟨_, rfl, ?_⟩
      refine hK.out _ _ (((HB.out.cell (World.block_lt_of_cell? w _ hw151_0)).trans hw151_0)) (fun hHeld => ?_); clear hK K; refine nB 15 ?_ rfl; refine pA 6 16 17 127 HT_.out ?_ rfl rfl; refine pA 7 17 17 255 HT_.out ?_ rfl rfl; refine uA 8 18 17 511 HT_.out ?_ rfl rfl; refine uA 9 19 17 1023 HT_.out ?_ rfl rfl; refine uA 10 20 17 2047 HT_.out ?_ rfl rfl; refine uA 11 21 17 4095 HT_.out ?_ rfl rfl; refine uA 12 22 17 8191 HT_.out ?_ rfl rfl; refine uA 13 23 17 16383 HT_.out ?_ rfl rfl; refine uA 14 24 17 32767 HT_.out ?_ rfl rfl; refine uA 15 25 17 65535 HT_.out ?_ rfl rfl; refine pA 16 26 17 131071 HT_.out ?_ rfl rfl; refine done_ (done_of HT_.out (by kernel_rfl)) ?_
      try go_wp2
      go_ret; exact ⟨rlT, hbT HB.out⟩
    ·rw [if_neg c4] at H; exact absurd H (by simp)
   ·rw [if_neg c2] at H; have c2b0 := df c2; clear c2; obtain ⟨t147, A22, H⟩ := be H; obtain rfl := oI H
    go_wp2_with (first | ((with_reducible refine gate_callee (f := 75) rfl ?_); refine goesL_ (some 29) rfl rfl Tryz.func75 (by kernel_rfl) rfl #[.int .i64 (l0.length : Int), .int .i64 1, .int .i64 5] rfl eqT ?_; (with_reducible refine (spec_l1In.calls (l0.length : Int) 1 5 t147 _ A22.out).mono ?_); rintro e w' ⟨rfl, ⟨nd, rfl⟩⟩; refine ⟨_, rfl, ?_⟩))
    go_ret; exact ⟨rlT, hbT HB.out⟩
def spec_IsSound.l0 : Nat → Int → Int → Option (Bool)
 | 0, _, _ => none
 | k + 1, x0, x3 => if x3 < 7 then (if 0 ≤ x3 then (if (bt (⟨#[112, 116, 98, 100, 110, 97, 105]⟩ : ByteArray) x3) = x0 then (some true) else (spec_IsSound.l0 k x0 (wrap64 (x3 + 1)))) else (none)) else (some false)
def spec_IsSound.f (k : Nat) (a0 : Int) : Option (Bool) := spec_IsSound.l0 k a0 0
theorem spec_IsSound.mono_l : ∀ k, (∀ y0 y1, LeO (spec_IsSound.l0 k y0 y1) (spec_IsSound.l0 (k + 1) y0 y1))
 | 0 => fun _ _ r h => by simp [spec_IsSound.l0] at h
 | k + 1 => by
  have ih0 := spec_IsSound.mono_l k
  ·intro y0 y1; unfold spec_IsSound.l0
   with_reducible repeat' first | exact ih0 _ _ | exact LeO.refl _ | exact LeO.none _ | refine LeO.ite ?_ ?_ | refine LeO.bind ?_ (fun _ => ?_)
theorem spec_IsSound.mono : ∀ a0 k, LeO (spec_IsSound.f k a0) (spec_IsSound.f (k + 1) a0) := by
 intro a0 k; have ih0 := spec_IsSound.mono_l k; unfold spec_IsSound.f
 with_reducible repeat' first | exact ih0 _ _ | exact LeO.refl _ | exact LeO.none _ | refine LeO.ite ?_ ?_ | refine LeO.bind ?_ (fun _ => ?_)
theorem spec_IsSound.calls (k : Nat) (a0 : Int) (r : Bool) (w : World) (h : spec_IsSound.f k a0 = some r) :
  Calls Tryz.prog 108 #[.int .u8 a0] w fun e w' => e = .returned (.bool r) ∧ Drawn0 w w' := by
 have H := h; unfold spec_IsSound.f at H; clear h; have H' := asT H; clear H; go_enter Tryz.func108, Tryz.ntmps108
 go_wp2
 go_loopg [3] k (fun kq v3 w' => ∃ (x3_1 : Int), v3 = .int .i64 x3_1 ∧ Aside0 (spec_IsSound.l0 kq a0 x3_1 = some r) ∧ Aside0 (kq ≤ k) ∧ Drawn0 w w')
 case atStart => exact ⟨(0), rdT, H', ⟨Nat.le_refl _⟩, drT⟩
 case round =>
  clear H'; (try clear c1); obtain ⟨x3_1, rfl, HA, HK1, ⟨m1, rfl⟩⟩ := hrel
  cases gk with
  | zero => exact absurd HA.out (by simp [spec_IsSound.l0])
  | succ k1 =>
   have H := HA.out; clear HA
   simp only [spec_IsSound.l0] at H
   by_cases c2 : x3_1 < 7
   ·rw [if_pos c2] at H; have c2b0 := dt c2; clear c2; by_cases c3 : 0 ≤ x3_1
    ·rw [if_pos c3] at H; have c3b0 := dt c3; clear c3; by_cases c5 : (bt (⟨#[112, 116, 98, 100, 110, 97, 105]⟩ : ByteArray) x3_1) = a0
     ·rw [if_pos c5] at H; have c5b0 : ((bt (⟨#[112, 116, 98, 100, 110, 97, 105]⟩ : ByteArray) x3_1) == a0) = true := eC c5; have c5b1 : ((bt (⟨#[112, 116, 98, 100, 110, 97, 105]⟩ : ByteArray) x3_1) != a0) = false := eA c5; clear c5; obtain rfl := oI H; have p4 : 0 ≤ (x3_1 : Int) := dT asmT; have q4 : x3_1 < (7 : Int) := dT asmT; have hx4 := bt_at (⟨#[112, 116, 98, 100, 110, 97, 105]⟩ : ByteArray) x3_1; replace p4 := eq_true p4; replace q4 := eq_true q4
      go_wp2
      go_ret; exact ⟨rdT, drT⟩
     ·rw [if_neg c5] at H; have c5b0 : ((bt (⟨#[112, 116, 98, 100, 110, 97, 105]⟩ : ByteArray) x3_1) == a0) = false := eB c5; have c5b1 : ((bt (⟨#[112, 116, 98, 100, 110, 97, 105]⟩ : ByteArray) x3_1) != a0) = true := eD c5; have H' := asT H; clear H; have p4 : 0 ≤ (x3_1 : Int) := dT asmT; have q4 : x3_1 < (7 : Int) := dT asmT; have hx4 := bt_at (⟨#[112, 116, 98, 100, 110, 97, 105]⟩ : ByteArray) x3_1; replace p4 := eq_true p4; replace q4 := eq_true q4
      go_wp2
      go_roundg k1
      case measure => have := HK1.out; omega
      case rel => exact ⟨(wrap64 (x3_1 + 1)), rdT, H', ⟨by have := HK1.out; omega⟩, drT⟩
    ·rw [if_neg c3] at H; exact absurd H (by simp)
   ·rw [if_neg c2] at H; have c2b0 := df c2; clear c2; obtain rfl := oI H
    go_wp2
    go_ret; exact ⟨rdT, drT⟩
def spec_l2Sounds.l0 : Nat → ByteArray → Int → Option (Bool)
 | 0, _, _ => none
 | k + 1, x0, x3 => if x3 < (x0.size : Int) then (if 0 ≤ x3 then ((spec_IsSound.f k (bt x0 x3)).bind fun t156 => (if t156 = true then (spec_l2Sounds.l0 k x0 (wrap64 (x3 + 1))) else (some false))) else (none)) else (some (decide ((x0.size : Int) ≤ 20)))
def spec_l2Sounds.f (k : Nat) (a0 : ByteArray) : Option (Bool) := spec_l2Sounds.l0 k a0 0
theorem spec_l2Sounds.mono_l : ∀ k, (∀ y0 y1, LeO (spec_l2Sounds.l0 k y0 y1) (spec_l2Sounds.l0 (k + 1) y0 y1))
 | 0 => fun _ _ r h => by simp [spec_l2Sounds.l0] at h
 | k + 1 => by
  have ih0 := spec_l2Sounds.mono_l k
  ·intro y0 y1; unfold spec_l2Sounds.l0
   with_reducible repeat' first | exact ih0 _ _ | exact spec_IsSound.mono _ _ | exact LeO.refl _ | exact LeO.none _ | refine LeO.ite ?_ ?_ | refine LeO.bind ?_ (fun _ => ?_)
theorem spec_l2Sounds.mono : ∀ a0 k, LeO (spec_l2Sounds.f k a0) (spec_l2Sounds.f (k + 1) a0) := by
 intro a0 k; have ih0 := spec_l2Sounds.mono_l k; unfold spec_l2Sounds.f
 with_reducible repeat' first | exact ih0 _ _ | exact spec_IsSound.mono _ _ | exact LeO.refl _ | exact LeO.none _ | refine LeO.ite ?_ ?_ | refine LeO.bind ?_ (fun _ => ?_)
theorem spec_l2Sounds.calls (k : Nat) (a0 : ByteArray) (r : Bool) (w : World) (h : spec_l2Sounds.f k a0 = some r) :
  Calls Tryz.prog 76 #[.string a0] w fun e w' => e = .returned (.bool r) ∧ Drawn0 w w' := by
 have H := h; unfold spec_l2Sounds.f at H; clear h; have H' := asT H; clear H; go_enter Tryz.func76, Tryz.ntmps76
 go_wp2
 go_loopg [3] k (fun kq v3 w' => ∃ (x3_1 : Int), v3 = .int .i64 x3_1 ∧ Aside0 (spec_l2Sounds.l0 kq a0 x3_1 = some r) ∧ Aside0 (kq ≤ k) ∧ Drawn0 w w')
 case atStart => exact ⟨(0), rdT, H', ⟨Nat.le_refl _⟩, drT⟩
 case round =>
  clear H'; obtain ⟨x3_1, rfl, HA, HK1, ⟨m1, rfl⟩⟩ := hrel
  cases gk with
  | zero => exact absurd HA.out (by simp [spec_l2Sounds.l0])
  | succ k1 =>
   have H := HA.out; clear HA
   simp only [spec_l2Sounds.l0] at H
   by_cases c2 : x3_1 < (a0.size : Int)
   ·rw [if_pos c2] at H; have c2b0 := dt c2; clear c2; by_cases c3 : 0 ≤ x3_1
    ·rw [if_pos c3] at H; have c3b0 := dt c3; clear c3; obtain ⟨t156, A5, H⟩ := be H; by_cases c6 : t156 = true
     ·subst c6; rw [if_pos rfl] at H; have H' := asT H; clear H; have p4 : 0 ≤ (x3_1 : Int) := dT asmT; have q4 : x3_1 < (a0.size : Int) := dT asmT; have hx4 := bt_at a0 x3_1; replace p4 := eq_true p4; replace q4 := eq_true q4
      go_wp2_with (first | ((with_reducible refine gate_callee (f := 108) rfl ?_); refine goesL_ (some 13) rfl rfl Tryz.func108 (by kernel_rfl) rfl #[.int .u8 (bt a0 x3_1)] rfl eqT ?_; (with_reducible refine (spec_IsSound.calls k1 (bt a0 x3_1) true _ A5.out).mono ?_); rintro e w' ⟨rfl, ⟨nd, rfl⟩⟩; refine ⟨_, rfl, ?_⟩))
      go_roundg k1
      case measure => have := HK1.out; omega
      case rel => exact ⟨(wrap64 (x3_1 + 1)), rdT, H', ⟨by have := HK1.out; omega⟩, drT⟩
     ·replace c6 := eE c6; subst c6; rw [if_neg nF] at H; have H1 := H; clear H; have H := H1; clear H1; obtain rfl := oI H; have p4 : 0 ≤ (x3_1 : Int) := dT asmT; have q4 : x3_1 < (a0.size : Int) := dT asmT; have hx4 := bt_at a0 x3_1; replace p4 := eq_true p4; replace q4 := eq_true q4
      go_wp2_with (first | ((with_reducible refine gate_callee (f := 108) rfl ?_); refine goesL_ (some 13) rfl rfl Tryz.func108 (by kernel_rfl) rfl #[.int .u8 (bt a0 x3_1)] rfl eqT ?_; (with_reducible refine (spec_IsSound.calls k1 (bt a0 x3_1) false _ A5.out).mono ?_); rintro e w' ⟨rfl, ⟨nd, rfl⟩⟩; refine ⟨_, rfl, ?_⟩))
      go_ret; exact ⟨rdT, drT⟩
    ·rw [if_neg c3] at H; exact absurd H (by simp)
   ·rw [if_neg c2] at H; have c2b0 := df c2; clear c2; obtain rfl := oI H
    go_wp2
    go_ret; exact ⟨rdT, drT⟩
def spec_IsForm.f (k : Nat) (a0 : ByteArray) : Option (Bool) := (spec_l2Sounds.f k a0).bind fun t157 => (if t157 = true then (some (decide ((a0.size : Int) ≤ 8))) else (some false))
theorem spec_IsForm.mono : ∀ a0 k, LeO (spec_IsForm.f k a0) (spec_IsForm.f (k + 1) a0) := by
 intro a0 k; unfold spec_IsForm.f
 with_reducible repeat' first | exact spec_l2Sounds.mono _ _ | exact LeO.refl _ | exact LeO.none _ | refine LeO.ite ?_ ?_ | refine LeO.bind ?_ (fun _ => ?_)
theorem spec_IsForm.calls (k : Nat) (a0 : ByteArray) (r : Bool) (w : World) (h : spec_IsForm.f k a0 = some r) :
  Calls Tryz.prog 36 #[.string a0] w fun e w' => e = .returned (.bool r) ∧ Drawn0 w w' := by
 have H := h; unfold spec_IsForm.f at H; clear h; obtain ⟨t157, A2, H⟩ := be H; by_cases c3 : t157 = true
 ·subst c3; rw [if_pos rfl] at H; have H1 := H; clear H; have H := H1; clear H1; obtain rfl := oI H; go_enter Tryz.func36, Tryz.ntmps36
  go_wp2_with (first | ((with_reducible refine gate_callee (f := 76) rfl ?_); refine goesL_ (some 4) rfl rfl Tryz.func76 (by kernel_rfl) rfl #[.string a0] rfl eqT ?_; (with_reducible refine (spec_l2Sounds.calls k a0 true _ A2.out).mono ?_); rintro e w' ⟨rfl, ⟨nd, rfl⟩⟩; refine ⟨_, rfl, ?_⟩))
  go_ret; exact ⟨rdT, drT⟩
 ·replace c3 := eE c3; subst c3; rw [if_neg nF] at H; have H1 := H; clear H; have H := H1; clear H1; obtain rfl := oI H; go_enter Tryz.func36, Tryz.ntmps36
  go_wp2_with (first | ((with_reducible refine gate_callee (f := 76) rfl ?_); refine goesL_ (some 4) rfl rfl Tryz.func76 (by kernel_rfl) rfl #[.string a0] rfl eqT ?_; (with_reducible refine (spec_l2Sounds.calls k a0 false _ A2.out).mono ?_); rintro e w' ⟨rfl, ⟨nd, rfl⟩⟩; refine ⟨_, rfl, ?_⟩))
  go_ret; exact ⟨rdT, drT⟩
def spec_l6Out.l0 : Nat → List Int → Int → List (S109) → Option (ByteArray)
 | 0, _, _, _ => none
 | k + 1, x3, x4, x159000 => if x4 < (x159000.length : Int) then (if 0 ≤ x4 then (if ((rd_T109 x159000 x4).f1) = 0 then (spec_l6Out.l0 k x3 (wrap64 (x4 + 1)) x159000) else (if x3.length < 140737488355328 then (spec_l6Out.l0 k (x3 ++ [(rd_T109 x159000 x4).f1]) (wrap64 (x4 + 1)) x159000) else (none))) else (none)) else (some (strOfNums x3))
def spec_l6Out.f (k : Nat) (l0_0 : List (S109)) : Option (ByteArray) := spec_l6Out.l0 k (([] : List Int)) 0 l0_0
theorem spec_l6Out.mono_l : ∀ k, (∀ y0 y1 y2, LeO (spec_l6Out.l0 k y0 y1 y2) (spec_l6Out.l0 (k + 1) y0 y1 y2))
 | 0 => fun _ _ _ r h => by simp [spec_l6Out.l0] at h
 | k + 1 => by
  have ih0 := spec_l6Out.mono_l k
  ·intro y0 y1 y2; unfold spec_l6Out.l0
   with_reducible repeat' first | exact ih0 _ _ _ | exact LeO.refl _ | exact LeO.none _ | refine LeO.ite ?_ ?_ | refine LeO.bind ?_ (fun _ => ?_)
theorem spec_l6Out.mono : ∀ a0 k, LeO (spec_l6Out.f k a0) (spec_l6Out.f (k + 1) a0) := by
 intro a0 k; have ih0 := spec_l6Out.mono_l k; unfold spec_l6Out.f
 with_reducible repeat' first | exact ih0 _ _ _ | exact LeO.refl _ | exact LeO.none _ | refine LeO.ite ?_ ?_ | refine LeO.bind ?_ (fun _ => ?_)
theorem spec_l6Out.calls (k : Nat) (A0_0 : Option Addr) (c0_0 : Nat) (l0_0 : List (S109)) (r : ByteArray) (w : World) (hr0_0 : Kd.C k109 w A0_0 l0_0.length l0_0) (hc0_0 : l0_0.length ≤ c0_0) (h : spec_l6Out.f k l0_0 = some r) :
  Calls Tryz.prog 105 #[.agg #[.slice A0_0 l0_0.length c0_0]] w fun e w' => e = .returned (.string r) ∧ Below w.heap.size w w' := by
 have hu60 := Tryz.underlying60; have HR0_0 := asT hr0_0; have HC0_0 := asT hc0_0; clear hr0_0 hc0_0; have HB := asT (Below.refl w.heap.size w); have H := h; unfold spec_l6Out.f at H; clear h; obtain ⟨y159, hy159⟩ : ∃ y_ : List Int, y_ = (([] : List Int)) := ⟨_, rfl⟩
 replace H : (spec_l6Out.l0 k y159 0 l0_0) = some r := by first | (rw [hy159]; with_reducible exact H) | (have H2_ := (Option.bind_some _ _).symm.trans H; rw [hy159]; with_reducible exact H2_) | (have H2_ := (Option.bind_some _ _).symm.trans H; with_reducible exact H2_) | with_reducible exact H | (rw [hy159]; exact H) | exact H
 have Ny159 := asT hy159; clear hy159; have H' := asT H; clear H; go_enter Tryz.func105, Tryz.ntmps105
 go_wp2_with (first | ((with_reducible refine gate_dst (N := 1) rfl ?_); refine boxT (N := 1) (cs := #[.slice A0_0 l0_0.length c0_0]) (t := 60) ?_; intro gb158 hg w2 hbox hb; have BK158 := asT hbox; have GW158 := asT (geT hg HB.out); have GE158 := GW158; replace HB := hS HB hb; clear hb hbox hg) | ((with_reducible refine gate_dst (N := 5) rfl ?_); refine Kd.R_lit (Kd.int .u8) _ 5 ?hg (N := 5) ?hd (xs := ([] : List Int)) (inner := []) (ok := fun _ => True) (okp := fun _ => True) ?hr ?hp (fun _ hk => hk) trivial (Below.refl _ _) (Nat.le_refl _) (by simp) ?_; (case hd => rfl); (case hg => rfl); (case hr => first | (go_simp; done) | (go_simp; rfl)); (case hp => exact (Reps.none _ _)); intro v160 w3 ho4 hb hg_ hnew_; clear hg_ hnew_; (first | rw [← Ny159.out] at ho4 | (simp only [Int.reduceToNat] at ho4; rw [← Ny159.out] at ho4)); have HO161 := asT (Kd.R_lower ho4 (below_size (hbT HB.out))); replace BK158 := bS BK158 hb; replace HB := hS HB hb; clear hb ho4))
 go_loopg [3, 4] k (fun kq v3 v4 w' => ∃ (x3_1 : List Int) (x4_1 : Int), v4 = .int .i64 x4_1 ∧ Aside0 (spec_l6Out.l0 kq x3_1 x4_1 l0_0 = some r) ∧ Aside0 (kq ≤ k) ∧ Aside0 (Kd.R (Kd.int .u8) 5 w' w.heap.size (fun _ => True) v3 x3_1) ∧ Aside0 (w'.heap[gb158]? = some (.cells #[(.slice A0_0 l0_0.length c0_0)] 60 (0, 0))) ∧ Aside0 (Below w.heap.size w w'))
 case atStart => exact ⟨(y159), (0), rdT, H', ⟨Nat.le_refl _⟩, ⟨roT HO161.out⟩, kpT BK158.out, ⟨hbT HB.out⟩⟩
 case round =>
  clear H'; (try clear c1 p2); obtain ⟨x3_1, x4_1, rfl, HA, HK1, HO_3, BK158, HB⟩ := hrel
  cases gk with
  | zero => exact absurd HA.out (by simp [spec_l6Out.l0])
  | succ k1 =>
   have H := HA.out; clear HA
   simp only [spec_l6Out.l0] at H
   by_cases c5 : x4_1 < (l0_0.length : Int)
   ·rw [if_pos c5] at H; have c5b0 := dt c5; clear c5; by_cases c6 : 0 ≤ x4_1
    ·rw [if_pos c6] at H; have c6b0 := dt c6; clear c6; by_cases c7 : ((rd_T109 l0_0 x4_1).f1) = 0
     ·rw [if_pos c7] at H; have c7b0 : (((rd_T109 l0_0 x4_1).f1) == 0) = true := eC c7; have c7b1 : (((rd_T109 l0_0 x4_1).f1) != 0) = false := eA c7; clear c7; have H' := asT H; clear H; obtain ⟨hcz8_0, hfz8_0⟩ := bx1 BK158.out; have p162 : 0 ≤ (x4_1 : Int) := dT asmT; have q162 : x4_1 < (l0_0.length : Int) := dT asmT; obtain ⟨ad162, e162, hx162_0, hx162_1⟩ := at_T109 HR0_0.out x4_1 p162 q162
      cases e162
      replace hx162_0 := hbc HB.out hx162_0; replace hx162_1 := hbc HB.out hx162_1; replace p162 := eq_true p162; replace q162 := eq_true q162
      go_wp2
      go_roundg k1
      case measure => have := HK1.out; omega
      case rel => exact ⟨(x3_1), (wrap64 (x4_1 + 1)), rdT, H', ⟨by have := HK1.out; omega⟩, ⟨roT HO_3.out⟩, kpT BK158.out, ⟨hbT HB.out⟩⟩
     ·rw [if_neg c7] at H; have c7b0 : (((rd_T109 l0_0 x4_1).f1) == 0) = false := eB c7; have c7b1 : (((rd_T109 l0_0 x4_1).f1) != 0) = true := eD c7; by_cases c9 : x3_1.length < 140737488355328
      ·rw [if_pos c9] at H; have LMc9 := asT c9; clear c9; obtain ⟨y164, hy164⟩ : ∃ y_ : List Int, y_ = (x3_1 ++ [(rd_T109 l0_0 x4_1).f1]) := ⟨_, rfl⟩
       replace H : (spec_l6Out.l0 k1 y164 (wrap64 (x4_1 + 1)) l0_0) = some r := by first | (rw [hy164]; with_reducible exact H) | (have H2_ := (Option.bind_some _ _).symm.trans H; rw [hy164]; with_reducible exact H2_) | (have H2_ := (Option.bind_some _ _).symm.trans H; with_reducible exact H2_) | with_reducible exact H | (rw [hy164]; exact H) | exact H
       have Ny164 := asT hy164; clear hy164; have H' := asT H; clear H; obtain ⟨hcz10_0, hfz10_0⟩ := bx1 BK158.out; have p162 : 0 ≤ (x4_1 : Int) := dT asmT; have q162 : x4_1 < (l0_0.length : Int) := dT asmT; obtain ⟨ad162, e162, hx162_0, hx162_1⟩ := at_T109 HR0_0.out x4_1 p162 q162
       cases e162
       replace hx162_0 := hbc HB.out hx162_0; replace hx162_1 := hbc HB.out hx162_1; replace p162 := eq_true p162; replace q162 := eq_true q162; have p163 : 0 ≤ (x4_1 : Int) := dT asmT; have q163 : x4_1 < (l0_0.length : Int) := dT asmT; obtain ⟨ad163, e163, hx163_0, hx163_1⟩ := at_T109 HR0_0.out x4_1 p163 q163; obtain rfl : ad162 = ad163 := (by injection e163); replace hx163_0 := hbc HB.out hx163_0; replace hx163_1 := hbc HB.out hx163_1; replace p163 := eq_true p163; replace q163 := eq_true q163
       go_wp2_with (first | ((with_reducible refine gate_builtin (b := .append) (xs := #[.tmp 20, .tmp 27]) rfl ?_); at_builtin; refine Kd.R_append (Kd.int .u8) (w0 := w) w.heap.size rfl (.tmp 20) (.tmp 27) 91 5 (.int .u8 0) 1 rfl Tryz.underlying91 info5 rfl (by decide) (by omega) u3 x3_1 ((rd_T109 l0_0 x4_1).f1) [.int .u8 ((rd_T109 l0_0 x4_1).f1)] (fun _ => True) (fun _ => False) rfl rfl ?aP (fun _ hk => hk.elim) ?aF ?aO ?aB ?aS ?aL ?_; (case aP => exact rfl); (case aB => exact (hbT HB.out)); (case aF => exact (fun _ _ => trivial)); (case aO => exact (roT HO_3.out)); (case aS => exact (below_size (hbT HB.out))); (case aL => have := LMc9.out; omega); intro v165 w11 ho hb hg hat; rw [← Ny164.out] at ho; replace BK158 := asT (blk_grown (g := gb158) (o := .cells #[.slice (some ad162) l0_0.length c0_0] 60 (0, 0)) (bkT BK158.out) hg (Kd.R_ne HO_3.out BK158.out (by decide))); replace HB := asT (hb); have HO166 := asT (ho); clear HO_3 ho hb hg hat))
       go_roundg k1
       case measure => have := HK1.out; omega
       case rel => exact ⟨(y164), (wrap64 (x4_1 + 1)), rdT, H', ⟨by have := HK1.out; omega⟩, ⟨roT HO166.out⟩, kpT BK158.out, ⟨hbT HB.out⟩⟩
      ·rw [if_neg c9] at H; exact absurd H (by simp)
    ·rw [if_neg c6] at H; exact absurd H (by simp)
   ·rw [if_neg c5] at H; have c5b0 := df c5; clear c5; obtain rfl := oI H; obtain ⟨hcz12_0, hfz12_0⟩ := bx1 BK158.out; have hcv13 := own_string (P := Tryz.prog) Tryz.underlying91 Tryz.underlying5 Tryz.underlying9 (Kd.own_of_R HO_3.out)
    go_wp2
    go_ret; exact ⟨rlT, hbT HB.out⟩
def spec_SwapVoice.f (a0 : Int) : Option (Int × Bool) := if a0 = 112 then (some (98, true)) else (if a0 = 98 then (some (112, true)) else (if a0 = 116 then (some (100, true)) else (if a0 = 100 then (some (116, true)) else (some (a0, false)))))
theorem spec_SwapVoice.calls (a0 : Int) (r1 : Int) (r2 : Bool) (w : World) (h : spec_SwapVoice.f a0 = some (r1, r2)) :
  Calls Tryz.prog 110 #[.int .u8 a0] w fun e w' => e = .returned (.tuple #[.int .u8 r1, .bool r2]) ∧ Drawn0 w w' := by
 have H := h; unfold spec_SwapVoice.f at H; clear h; by_cases c2 : a0 = 112
 ·rw [if_pos c2] at H; have c2b0 : (a0 == 112) = true := eC c2; have c2b1 : (a0 != 112) = false := eA c2; clear c2
  simp only [Option.some.injEq, Prod.mk.injEq] at H
  obtain ⟨rfl, rfl⟩ := H; go_enter Tryz.func110, Tryz.ntmps110
  go_wp2
  go_ret2
  exact ⟨rdT, drT⟩
 ·rw [if_neg c2] at H; have c2b0 : (a0 == 112) = false := eB c2; have c2b1 : (a0 != 112) = true := eD c2; by_cases c3 : a0 = 98
  ·rw [if_pos c3] at H; have c3b0 : (a0 == 98) = true := eC c3; have c3b1 : (a0 != 98) = false := eA c3; clear c3
   simp only [Option.some.injEq, Prod.mk.injEq] at H
   obtain ⟨rfl, rfl⟩ := H; go_enter Tryz.func110, Tryz.ntmps110
   go_wp2
   go_ret2
   exact ⟨rdT, drT⟩
  ·rw [if_neg c3] at H; have c3b0 : (a0 == 98) = false := eB c3; have c3b1 : (a0 != 98) = true := eD c3; by_cases c4 : a0 = 116
   ·rw [if_pos c4] at H; have c4b0 : (a0 == 116) = true := eC c4; have c4b1 : (a0 != 116) = false := eA c4; clear c4
    simp only [Option.some.injEq, Prod.mk.injEq] at H
    obtain ⟨rfl, rfl⟩ := H; go_enter Tryz.func110, Tryz.ntmps110
    go_wp2
    go_ret2
    exact ⟨rdT, drT⟩
   ·rw [if_neg c4] at H; have c4b0 : (a0 == 116) = false := eB c4; have c4b1 : (a0 != 116) = true := eD c4; by_cases c5 : a0 = 100
    ·rw [if_pos c5] at H; have c5b0 : (a0 == 100) = true := eC c5; have c5b1 : (a0 != 100) = false := eA c5; clear c5
     simp only [Option.some.injEq, Prod.mk.injEq] at H
     obtain ⟨rfl, rfl⟩ := H; go_enter Tryz.func110, Tryz.ntmps110
     go_wp2
     go_ret2
     exact ⟨rdT, drT⟩
    ·rw [if_neg c5] at H; have c5b0 : (a0 == 100) = false := eB c5; have c5b1 : (a0 != 100) = true := eD c5
     simp only [Option.some.injEq, Prod.mk.injEq] at H
     obtain ⟨rfl, rfl⟩ := H; go_enter Tryz.func110, Tryz.ntmps110
     go_wp2
     go_ret2
     exact ⟨rdT, drT⟩
def spec_l6In.l0 : Nat → List Int → Int → List (S109) → Option (ByteArray)
 | 0, _, _, _ => none
 | k + 1, x3, x4, x168000 => if x4 < (x168000.length : Int) then (if 0 ≤ x4 then (if ((rd_T109 x168000 x4).f0) = 0 then (spec_l6In.l0 k x3 (wrap64 (x4 + 1)) x168000) else (if x3.length < 140737488355328 then (spec_l6In.l0 k (x3 ++ [(rd_T109 x168000 x4).f0]) (wrap64 (x4 + 1)) x168000) else (none))) else (none)) else (some (strOfNums x3))
def spec_l6In.f (k : Nat) (l0_0 : List (S109)) : Option (ByteArray) := spec_l6In.l0 k (([] : List Int)) 0 l0_0
theorem spec_l6In.mono_l : ∀ k, (∀ y0 y1 y2, LeO (spec_l6In.l0 k y0 y1 y2) (spec_l6In.l0 (k + 1) y0 y1 y2))
 | 0 => fun _ _ _ r h => by simp [spec_l6In.l0] at h
 | k + 1 => by
  have ih0 := spec_l6In.mono_l k
  ·intro y0 y1 y2; unfold spec_l6In.l0
   with_reducible repeat' first | exact ih0 _ _ _ | exact LeO.refl _ | exact LeO.none _ | refine LeO.ite ?_ ?_ | refine LeO.bind ?_ (fun _ => ?_)
theorem spec_l6In.mono : ∀ a0 k, LeO (spec_l6In.f k a0) (spec_l6In.f (k + 1) a0) := by
 intro a0 k; have ih0 := spec_l6In.mono_l k; unfold spec_l6In.f
 with_reducible repeat' first | exact ih0 _ _ _ | exact LeO.refl _ | exact LeO.none _ | refine LeO.ite ?_ ?_ | refine LeO.bind ?_ (fun _ => ?_)
theorem spec_l6In.calls (k : Nat) (A0_0 : Option Addr) (c0_0 : Nat) (l0_0 : List (S109)) (r : ByteArray) (w : World) (hr0_0 : Kd.C k109 w A0_0 l0_0.length l0_0) (hc0_0 : l0_0.length ≤ c0_0) (h : spec_l6In.f k l0_0 = some r) :
  Calls Tryz.prog 111 #[.agg #[.slice A0_0 l0_0.length c0_0]] w fun e w' => e = .returned (.string r) ∧ Below w.heap.size w w' := by
 have hu60 := Tryz.underlying60; have HR0_0 := asT hr0_0; have HC0_0 := asT hc0_0; clear hr0_0 hc0_0; have HB := asT (Below.refl w.heap.size w); have H := h; unfold spec_l6In.f at H; clear h; obtain ⟨y168, hy168⟩ : ∃ y_ : List Int, y_ = (([] : List Int)) := ⟨_, rfl⟩
 replace H : (spec_l6In.l0 k y168 0 l0_0) = some r := by first | (rw [hy168]; with_reducible exact H) | (have H2_ := (Option.bind_some _ _).symm.trans H; rw [hy168]; with_reducible exact H2_) | (have H2_ := (Option.bind_some _ _).symm.trans H; with_reducible exact H2_) | with_reducible exact H | (rw [hy168]; exact H) | exact H
 have Ny168 := asT hy168; clear hy168; have H' := asT H; clear H; go_enter Tryz.func111, Tryz.ntmps111
 go_wp2_with (first | ((with_reducible refine gate_dst (N := 1) rfl ?_); refine boxT (N := 1) (cs := #[.slice A0_0 l0_0.length c0_0]) (t := 60) ?_; intro gb167 hg w2 hbox hb; have BK167 := asT hbox; have GW167 := asT (geT hg HB.out); have GE167 := GW167; replace HB := hS HB hb; clear hb hbox hg) | ((with_reducible refine gate_dst (N := 5) rfl ?_); refine Kd.R_lit (Kd.int .u8) _ 5 ?hg (N := 5) ?hd (xs := ([] : List Int)) (inner := []) (ok := fun _ => True) (okp := fun _ => True) ?hr ?hp (fun _ hk => hk) trivial (Below.refl _ _) (Nat.le_refl _) (by simp) ?_; (case hd => rfl); (case hg => rfl); (case hr => first | (go_simp; done) | (go_simp; rfl)); (case hp => exact (Reps.none _ _)); intro v169 w3 ho4 hb hg_ hnew_; clear hg_ hnew_; (first | rw [← Ny168.out] at ho4 | (simp only [Int.reduceToNat] at ho4; rw [← Ny168.out] at ho4)); have HO170 := asT (Kd.R_lower ho4 (below_size (hbT HB.out))); replace BK167 := bS BK167 hb; replace HB := hS HB hb; clear hb ho4))
 go_loopg [3, 4] k (fun kq v3 v4 w' => ∃ (x3_1 : List Int) (x4_1 : Int), v4 = .int .i64 x4_1 ∧ Aside0 (spec_l6In.l0 kq x3_1 x4_1 l0_0 = some r) ∧ Aside0 (kq ≤ k) ∧ Aside0 (Kd.R (Kd.int .u8) 5 w' w.heap.size (fun _ => True) v3 x3_1) ∧ Aside0 (w'.heap[gb167]? = some (.cells #[(.slice A0_0 l0_0.length c0_0)] 60 (0, 0))) ∧ Aside0 (Below w.heap.size w w'))
 case atStart => exact ⟨(y168), (0), rdT, H', ⟨Nat.le_refl _⟩, ⟨roT HO170.out⟩, kpT BK167.out, ⟨hbT HB.out⟩⟩
 case round =>
  clear H'; (try clear c1 p2); obtain ⟨x3_1, x4_1, rfl, HA, HK1, HO_3, BK167, HB⟩ := hrel
  cases gk with
  | zero => exact absurd HA.out (by simp [spec_l6In.l0])
  | succ k1 =>
   have H := HA.out; clear HA
   simp only [spec_l6In.l0] at H
   by_cases c5 : x4_1 < (l0_0.length : Int)
   ·rw [if_pos c5] at H; have c5b0 := dt c5; clear c5; by_cases c6 : 0 ≤ x4_1
    ·rw [if_pos c6] at H; have c6b0 := dt c6; clear c6; by_cases c7 : ((rd_T109 l0_0 x4_1).f0) = 0
     ·rw [if_pos c7] at H; have c7b0 : (((rd_T109 l0_0 x4_1).f0) == 0) = true := eC c7; have c7b1 : (((rd_T109 l0_0 x4_1).f0) != 0) = false := eA c7; clear c7; have H' := asT H; clear H; obtain ⟨hcz8_0, hfz8_0⟩ := bx1 BK167.out; have p171 : 0 ≤ (x4_1 : Int) := dT asmT; have q171 : x4_1 < (l0_0.length : Int) := dT asmT; obtain ⟨ad171, e171, hx171_0, hx171_1⟩ := at_T109 HR0_0.out x4_1 p171 q171
      cases e171
      replace hx171_0 := hbc HB.out hx171_0; replace hx171_1 := hbc HB.out hx171_1; replace p171 := eq_true p171; replace q171 := eq_true q171
      go_wp2
      go_roundg k1
      case measure => have := HK1.out; omega
      case rel => exact ⟨(x3_1), (wrap64 (x4_1 + 1)), rdT, H', ⟨by have := HK1.out; omega⟩, ⟨roT HO_3.out⟩, kpT BK167.out, ⟨hbT HB.out⟩⟩
     ·rw [if_neg c7] at H; have c7b0 : (((rd_T109 l0_0 x4_1).f0) == 0) = false := eB c7; have c7b1 : (((rd_T109 l0_0 x4_1).f0) != 0) = true := eD c7; by_cases c9 : x3_1.length < 140737488355328
      ·rw [if_pos c9] at H; have LMc9 := asT c9; clear c9; obtain ⟨y173, hy173⟩ : ∃ y_ : List Int, y_ = (x3_1 ++ [(rd_T109 l0_0 x4_1).f0]) := ⟨_, rfl⟩
       replace H : (spec_l6In.l0 k1 y173 (wrap64 (x4_1 + 1)) l0_0) = some r := by first | (rw [hy173]; with_reducible exact H) | (have H2_ := (Option.bind_some _ _).symm.trans H; rw [hy173]; with_reducible exact H2_) | (have H2_ := (Option.bind_some _ _).symm.trans H; with_reducible exact H2_) | with_reducible exact H | (rw [hy173]; exact H) | exact H
       have Ny173 := asT hy173; clear hy173; have H' := asT H; clear H; obtain ⟨hcz10_0, hfz10_0⟩ := bx1 BK167.out; have p171 : 0 ≤ (x4_1 : Int) := dT asmT; have q171 : x4_1 < (l0_0.length : Int) := dT asmT; obtain ⟨ad171, e171, hx171_0, hx171_1⟩ := at_T109 HR0_0.out x4_1 p171 q171
       cases e171
       replace hx171_0 := hbc HB.out hx171_0; replace hx171_1 := hbc HB.out hx171_1; replace p171 := eq_true p171; replace q171 := eq_true q171; have p172 : 0 ≤ (x4_1 : Int) := dT asmT; have q172 : x4_1 < (l0_0.length : Int) := dT asmT; obtain ⟨ad172, e172, hx172_0, hx172_1⟩ := at_T109 HR0_0.out x4_1 p172 q172; obtain rfl : ad171 = ad172 := (by injection e172); replace hx172_0 := hbc HB.out hx172_0; replace hx172_1 := hbc HB.out hx172_1; replace p172 := eq_true p172; replace q172 := eq_true q172
       go_wp2_with (first | ((with_reducible refine gate_builtin (b := .append) (xs := #[.tmp 20, .tmp 27]) rfl ?_); at_builtin; refine Kd.R_append (Kd.int .u8) (w0 := w) w.heap.size rfl (.tmp 20) (.tmp 27) 91 5 (.int .u8 0) 1 rfl Tryz.underlying91 info5 rfl (by decide) (by omega) u3 x3_1 ((rd_T109 l0_0 x4_1).f0) [.int .u8 ((rd_T109 l0_0 x4_1).f0)] (fun _ => True) (fun _ => False) rfl rfl ?aP (fun _ hk => hk.elim) ?aF ?aO ?aB ?aS ?aL ?_; (case aP => exact rfl); (case aB => exact (hbT HB.out)); (case aF => exact (fun _ _ => trivial)); (case aO => exact (roT HO_3.out)); (case aS => exact (below_size (hbT HB.out))); (case aL => have := LMc9.out; omega); intro v174 w11 ho hb hg hat; rw [← Ny173.out] at ho; replace BK167 := asT (blk_grown (g := gb167) (o := .cells #[.slice (some ad171) l0_0.length c0_0] 60 (0, 0)) (bkT BK167.out) hg (Kd.R_ne HO_3.out BK167.out (by decide))); replace HB := asT (hb); have HO175 := asT (ho); clear HO_3 ho hb hg hat))
       go_roundg k1
       case measure => have := HK1.out; omega
       case rel => exact ⟨(y173), (wrap64 (x4_1 + 1)), rdT, H', ⟨by have := HK1.out; omega⟩, ⟨roT HO175.out⟩, kpT BK167.out, ⟨hbT HB.out⟩⟩
      ·rw [if_neg c9] at H; exact absurd H (by simp)
    ·rw [if_neg c6] at H; exact absurd H (by simp)
   ·rw [if_neg c5] at H; have c5b0 := df c5; clear c5; obtain rfl := oI H; obtain ⟨hcz12_0, hfz12_0⟩ := bx1 BK167.out; have hcv13 := own_string (P := Tryz.prog) Tryz.underlying91 Tryz.underlying5 Tryz.underlying9 (Kd.own_of_R HO_3.out)
    go_wp2
    go_ret; exact ⟨rlT, hbT HB.out⟩
mutual
def spec_IsCandidate.l0 : Nat → Int → List (S109) → Option (Bool)
 | 0, _, _ => none
 | k + 1, x3, x177000 => if x3 < (x177000.length : Int) then (if 0 ≤ x3 then ((spec_SwapVoice.f ((rd_T109 x177000 x3).f0)).bind fun bt179 => (if ((rd_T109 x177000 x3).f0) = 0 then (if ((rd_T109 x177000 x3).f1) = 0 then (spec_IsCandidate.j1 k x3 bt179.1 bt179.2 (((rd_T109 x177000 x3).f1) == 0) x177000 ((rd_T109 x177000 x3).f0) ((rd_T109 x177000 x3).f1)) else ((spec_IsSound.f k ((rd_T109 x177000 x3).f1)).bind fun t181 => (if t181 = true then (spec_IsCandidate.j1 k x3 bt179.1 bt179.2 (((rd_T109 x177000 x3).f1) == 0) x177000 ((rd_T109 x177000 x3).f0) ((rd_T109 x177000 x3).f1)) else (spec_IsCandidate.j1 k x3 bt179.1 bt179.2 true x177000 ((rd_T109 x177000 x3).f0) ((rd_T109 x177000 x3).f1))))) else ((spec_IsSound.f k ((rd_T109 x177000 x3).f0)).bind fun t182 => (if t182 = true then (if ((rd_T109 x177000 x3).f1) = 0 then (spec_IsCandidate.j1 k x3 bt179.1 bt179.2 false x177000 ((rd_T109 x177000 x3).f0) ((rd_T109 x177000 x3).f1)) else ((spec_IsSound.f k ((rd_T109 x177000 x3).f1)).bind fun t183 => (if t183 = true then (spec_IsCandidate.j1 k x3 bt179.1 bt179.2 false x177000 ((rd_T109 x177000 x3).f0) ((rd_T109 x177000 x3).f1)) else (spec_IsCandidate.j1 k x3 bt179.1 bt179.2 true x177000 ((rd_T109 x177000 x3).f0) ((rd_T109 x177000 x3).f1))))) else (spec_IsCandidate.j1 k x3 bt179.1 bt179.2 true x177000 ((rd_T109 x177000 x3).f0) ((rd_T109 x177000 x3).f1)))))) else (none)) else (if (x177000.length : Int) ≤ 16 then ((spec_l6In.f k x177000).bind fun t184 => ((spec_IsForm.f k t184).bind fun t185 => (if t185 = true then ((spec_l6Out.f k x177000).bind fun t186 => ((spec_IsForm.f k t186).bind fun t187 => (some t187))) else (some false)))) else (some false))
def spec_IsCandidate.j1 : Nat → Int → Int → Bool → Bool → List (S109) → Int → Int → Option (Bool)
 | 0, _, _, _, _, _, _, _ => none
 | k + 1, x3, x5, x6, x54, x177000, x179000, x179001 => if x54 = true then (some false) else (if x179000 = 0 then (spec_IsCandidate.l0 k (wrap64 (x3 + 1)) x177000) else (if x179001 = 0 then (spec_IsCandidate.l0 k (wrap64 (x3 + 1)) x177000) else (if x179000 = x179001 then (spec_IsCandidate.l0 k (wrap64 (x3 + 1)) x177000) else (if x6 = true then (if x5 = x179001 then (spec_IsCandidate.l0 k (wrap64 (x3 + 1)) x177000) else (some false)) else (some false)))))
end
def spec_IsCandidate.f (k : Nat) (l0_0 : List (S109)) : Option (Bool) := spec_IsCandidate.l0 k 0 l0_0
theorem spec_IsCandidate.mono_l : ∀ k, (∀ y0 y1, LeO (spec_IsCandidate.l0 k y0 y1) (spec_IsCandidate.l0 (k + 1) y0 y1)) ∧ (∀ y0 y1 y2 y3 y4 y5 y6, LeO (spec_IsCandidate.j1 k y0 y1 y2 y3 y4 y5 y6) (spec_IsCandidate.j1 (k + 1) y0 y1 y2 y3 y4 y5 y6))
 | 0 => ⟨fun _ _ r h => by simp [spec_IsCandidate.l0] at h, fun _ _ _ _ _ _ _ r h => by simp [spec_IsCandidate.j1] at h⟩
 | k + 1 => by
  obtain ⟨ih0, ih1⟩ := spec_IsCandidate.mono_l k; refine ⟨?_, ?_⟩
  ·intro y0 y1; unfold spec_IsCandidate.l0
   with_reducible repeat' first | exact ih0 _ _ | exact ih1 _ _ _ _ _ _ _ | exact spec_IsForm.mono _ _ | exact spec_IsSound.mono _ _ | exact spec_l6In.mono _ _ | exact spec_l6Out.mono _ _ | exact LeO.refl _ | exact LeO.none _ | refine LeO.ite ?_ ?_ | refine LeO.bind ?_ (fun _ => ?_)
  ·intro y0 y1 y2 y3 y4 y5 y6; unfold spec_IsCandidate.j1
   with_reducible repeat' first | exact ih0 _ _ | exact ih1 _ _ _ _ _ _ _ | exact spec_IsForm.mono _ _ | exact spec_IsSound.mono _ _ | exact spec_l6In.mono _ _ | exact spec_l6Out.mono _ _ | exact LeO.refl _ | exact LeO.none _ | refine LeO.ite ?_ ?_ | refine LeO.bind ?_ (fun _ => ?_)
theorem spec_IsCandidate.mono : ∀ a0 k, LeO (spec_IsCandidate.f k a0) (spec_IsCandidate.f (k + 1) a0) := by
 intro a0 k; obtain ⟨ih0, ih1⟩ := spec_IsCandidate.mono_l k; unfold spec_IsCandidate.f
 with_reducible repeat' first | exact ih0 _ _ | exact ih1 _ _ _ _ _ _ _ | exact spec_IsForm.mono _ _ | exact spec_IsSound.mono _ _ | exact spec_l6In.mono _ _ | exact spec_l6Out.mono _ _ | exact LeO.refl _ | exact LeO.none _ | refine LeO.ite ?_ ?_ | refine LeO.bind ?_ (fun _ => ?_)
theorem spec_IsCandidate.calls (k : Nat) (A0_0 : Option Addr) (c0_0 : Nat) (l0_0 : List (S109)) (r : Bool) (w : World) (hr0_0 : Kd.C k109 w A0_0 l0_0.length l0_0) (hc0_0 : l0_0.length ≤ c0_0) (h : spec_IsCandidate.f k l0_0 = some r) :
  Calls Tryz.prog 78 #[.agg #[.slice A0_0 l0_0.length c0_0]] w fun e w' => e = .returned (.bool r) ∧ Below w.heap.size w w' := by
 have hu60 := Tryz.underlying60; have hu109 := Tryz.underlying109; have HR0_0 := asT hr0_0; have HC0_0 := asT hc0_0; clear hr0_0 hc0_0; have HB := asT (Below.refl w.heap.size w); have H := h; unfold spec_IsCandidate.f at H; clear h; have H' := asT H; clear H; go_enter Tryz.func78, Tryz.ntmps78
 go_wp2_with (first | ((with_reducible refine gate_dst (N := 1) rfl ?_); refine boxT (N := 1) (cs := #[.slice A0_0 l0_0.length c0_0]) (t := 60) ?_; intro gb176 hg w2 hbox hb; have BK176 := asT hbox; have GW176 := asT (geT hg HB.out); have GE176 := GW176; replace HB := hS HB hb; clear hb hbox hg))
 go_loopg [3] k (fun kq v3 w' => ∃ (x3_1 : Int), v3 = .int .i64 x3_1 ∧ Aside0 (spec_IsCandidate.l0 kq x3_1 l0_0 = some r) ∧ Aside0 (kq ≤ k) ∧ Aside0 (w'.heap[gb176]? = some (.cells #[(.slice A0_0 l0_0.length c0_0)] 60 (0, 0))) ∧ Aside0 (Below w.heap.size w w'))
 case atStart => exact ⟨(0), rdT, H', ⟨Nat.le_refl _⟩, kpT BK176.out, ⟨hbT HB.out⟩⟩
 case round =>
  clear H'; (try clear p2); obtain ⟨x3_1, rfl, HA, HK1, BK176, HB⟩ := hrel
  cases gk with
  | zero => exact absurd HA.out (by simp [spec_IsCandidate.l0])
  | succ k1 =>
   have H := HA.out; clear HA
   simp only [spec_IsCandidate.l0] at H
   by_cases c3 : x3_1 < (l0_0.length : Int)
   ·rw [if_pos c3] at H; have c3b0 := dt c3; clear c3; by_cases c4 : 0 ≤ x3_1
    ·rw [if_pos c4] at H; have c4b0 := dt c4; clear c4; replace H := Option.bind_eq_some_iff.mp H; obtain ⟨⟨t179, t180⟩, A50, H⟩ := H; replace H : (if ((rd_T109 l0_0 x3_1).f0) = 0 then (if ((rd_T109 l0_0 x3_1).f1) = 0 then (spec_IsCandidate.j1 k1 x3_1 t179 t180 (((rd_T109 l0_0 x3_1).f1) == 0) l0_0 ((rd_T109 l0_0 x3_1).f0) ((rd_T109 l0_0 x3_1).f1)) else ((spec_IsSound.f k1 ((rd_T109 l0_0 x3_1).f1)).bind fun t181 => (if t181 = true then (spec_IsCandidate.j1 k1 x3_1 t179 t180 (((rd_T109 l0_0 x3_1).f1) == 0) l0_0 ((rd_T109 l0_0 x3_1).f0) ((rd_T109 l0_0 x3_1).f1)) else (spec_IsCandidate.j1 k1 x3_1 t179 t180 true l0_0 ((rd_T109 l0_0 x3_1).f0) ((rd_T109 l0_0 x3_1).f1))))) else ((spec_IsSound.f k1 ((rd_T109 l0_0 x3_1).f0)).bind fun t182 => (if t182 = true then (if ((rd_T109 l0_0 x3_1).f1) = 0 then (spec_IsCandidate.j1 k1 x3_1 t179 t180 false l0_0 ((rd_T109 l0_0 x3_1).f0) ((rd_T109 l0_0 x3_1).f1)) else ((spec_IsSound.f k1 ((rd_T109 l0_0 x3_1).f1)).bind fun t183 => (if t183 = true then (spec_IsCandidate.j1 k1 x3_1 t179 t180 false l0_0 ((rd_T109 l0_0 x3_1).f0) ((rd_T109 l0_0 x3_1).f1)) else (spec_IsCandidate.j1 k1 x3_1 t179 t180 true l0_0 ((rd_T109 l0_0 x3_1).f0) ((rd_T109 l0_0 x3_1).f1))))) else (spec_IsCandidate.j1 k1 x3_1 t179 t180 true l0_0 ((rd_T109 l0_0 x3_1).f0) ((rd_T109 l0_0 x3_1).f1))))) = some r := H; have A5 := asT A50; clear A50; have HC6 := asT H; clear H; obtain ⟨hcz7_0, hfz7_0⟩ := bx1 BK176.out; have p177 : 0 ≤ (x3_1 : Int) := dT asmT; have q177 : x3_1 < (l0_0.length : Int) := dT asmT; obtain ⟨ad177, e177, hx177_0, hx177_1⟩ := at_T109 HR0_0.out x3_1 p177 q177
     cases e177
     replace hx177_0 := hbc HB.out hx177_0; replace hx177_1 := hbc HB.out hx177_1; replace p177 := eq_true p177; replace q177 := eq_true q177
     go_upto_region 6 with (first | ((with_reducible refine gate_dst (N := 4) rfl ?_); refine boxT (N := 4) (cs := #[.int .u8 0, .int .u8 0]) (t := 109) ?_; intro gb178 hg w8 hbox hb; have BK178 := asT (hbox); have GW178 := asT (geT hg HB.out); have GE178 := asT (geT hg HB.out); replace HB := hS HB hb; have NB176_178 := asT ((by rw [hg]; exact Nat.ne_of_lt (blk_lt (g := gb176) (o := .cells #[.slice (some ad177) l0_0.length c0_0] 60 (0, 0)) (bkT BK176.out)) : gb176 ≠ gb178)); have NB178_176 := asT ((by rw [hg]; exact Nat.ne_of_gt (blk_lt (g := gb176) (o := .cells #[.slice (some ad177) l0_0.length c0_0] 60 (0, 0)) (bkT BK176.out)) : gb178 ≠ gb176)); replace BK176 := bS BK176 hb; clear hb hbox hg; have hnb9 := NB178_176.out; have hnc9 := NB176_178.out; obtain ⟨hcz10_0, hcz10_1, hfz10_0, hfz10_1⟩ := bx2 BK178.out) | ((with_reducible refine gate_callee (f := 110) rfl ?_); refine goesL_ (some 22) rfl rfl Tryz.func110 (by kernel_rfl) rfl #[.int .u8 ((rd_T109 l0_0 x3_1).f0)] rfl eqT ?_; (with_reducible refine (spec_SwapVoice.calls ((rd_T109 l0_0 x3_1).f0) t179 t180 _ A5.out).mono ?_); rintro e w' ⟨rfl, ⟨nd, rfl⟩⟩; refine ⟨_, rfl, ?_⟩))
     (try simp only [Act.put, sA, sZ, sS])
     go_cut [54] (fun v54 wc => ∃ (kq : Nat) (x54_5 : Bool), v54 = .bool x54_5 ∧ Aside0 (spec_IsCandidate.j1 kq x3_1 t179 t180 x54_5 l0_0 ((rd_T109 l0_0 x3_1).f0) ((rd_T109 l0_0 x3_1).f1) = some r) ∧ Aside0 (kq ≤ k1) ∧ Aside0 (wc.heap[gb176]? = some (.cells #[(.slice (some ad177) l0_0.length c0_0)] 60 (0, 0))) ∧ Aside0 (wc.heap[gb178]? = some (.cells #[.int .u8 ((rd_T109 l0_0 x3_1).f0), .int .u8 ((rd_T109 l0_0 x3_1).f1)] 109 (0, 0))) ∧ Aside0 (Below w.heap.size w wc))
     case first =>
      have H := HC6.out; clear HC6; by_cases c11 : ((rd_T109 l0_0 x3_1).f0) = 0
      ·rw [if_pos c11] at H; have c11b0 : (((rd_T109 l0_0 x3_1).f0) == 0) = true := eC c11; have c11b1 : (((rd_T109 l0_0 x3_1).f0) != 0) = false := eA c11; clear c11
       (first | rw [c11b0] | (simp only [i64_w, i32_w]; rw [c11b0]) | skip)
       by_cases c12 : ((rd_T109 l0_0 x3_1).f1) = 0
       ·rw [if_pos c12] at H; have c12b0 : (((rd_T109 l0_0 x3_1).f1) == 0) = true := eC c12; have c12b1 : (((rd_T109 l0_0 x3_1).f1) != 0) = false := eA c12; clear c12; have H' := asT H; clear H; have hnb13 := NB178_176.out; have hnc13 := NB176_178.out; obtain ⟨hcz14_0, hcz14_1, hfz14_0, hfz14_1⟩ := bx2 BK178.out
        go_wp2
        go_meet
        case rel => exact ⟨_, ((((rd_T109 l0_0 x3_1).f1) == 0)), rdT, H', ⟨by have := HK1.out; first | omega | exact Nat.le_refl _⟩, ⟨by (with_reducible repeat (first | refine blk_drewN ?_ _ | refine blk_drew ?_ | refine blk_alloc ?_ _)); refine blk_far ?_ NB176_178.out _; (with_reducible repeat (first | refine blk_drewN ?_ _ | refine blk_drew ?_ | refine blk_alloc ?_ _)); refine blk_far ?_ NB176_178.out _; (with_reducible repeat (first | refine blk_drewN ?_ _ | refine blk_drew ?_ | refine blk_alloc ?_ _)); exact BK176.out⟩, ⟨by (with_reducible repeat (first | refine blk_drewN ?_ _ | refine blk_drew ?_ | refine blk_alloc ?_ _)); refine blk_put (cs := #[.int .u8 ((rd_T109 l0_0 x3_1).f0), .int .u8 0]) ?_ 1 _ rfl; (with_reducible repeat (first | refine blk_drewN ?_ _ | refine blk_drew ?_ | refine blk_alloc ?_ _)); refine blk_put (cs := #[.int .u8 0, .int .u8 0]) ?_ 0 _ rfl; (with_reducible repeat (first | refine blk_drewN ?_ _ | refine blk_drew ?_ | refine blk_alloc ?_ _)); exact BK178.out⟩, ⟨hbT HB.out⟩⟩
       ·rw [if_neg c12] at H; have c12b0 : (((rd_T109 l0_0 x3_1).f1) == 0) = false := eB c12; have c12b1 : (((rd_T109 l0_0 x3_1).f1) != 0) = true := eD c12; obtain ⟨t181, A15, H⟩ := be H; by_cases c16 : t181 = true
        ·subst c16; rw [if_pos rfl] at H; have H' := asT H; clear H; have hnb17 := NB178_176.out; have hnc17 := NB176_178.out; obtain ⟨hcz18_0, hcz18_1, hfz18_0, hfz18_1⟩ := bx2 BK178.out
         go_wp2_with (first | (go_at_call 108; (with_reducible refine (spec_IsSound.calls k1 ((rd_T109 l0_0 x3_1).f1) true _ A15.out).mono ?_); rintro e w' ⟨rfl, ⟨nd, rfl⟩⟩))
         go_meet
         case rel => exact ⟨_, ((((rd_T109 l0_0 x3_1).f1) == 0)), rdT, H', ⟨by have := HK1.out; first | omega | exact Nat.le_refl _⟩, ⟨by (with_reducible repeat (first | refine blk_drewN ?_ _ | refine blk_drew ?_ | refine blk_alloc ?_ _)); refine blk_far ?_ NB176_178.out _; (with_reducible repeat (first | refine blk_drewN ?_ _ | refine blk_drew ?_ | refine blk_alloc ?_ _)); refine blk_far ?_ NB176_178.out _; (with_reducible repeat (first | refine blk_drewN ?_ _ | refine blk_drew ?_ | refine blk_alloc ?_ _)); exact BK176.out⟩, ⟨by (with_reducible repeat (first | refine blk_drewN ?_ _ | refine blk_drew ?_ | refine blk_alloc ?_ _)); refine blk_put (cs := #[.int .u8 ((rd_T109 l0_0 x3_1).f0), .int .u8 0]) ?_ 1 _ rfl; (with_reducible repeat (first | refine blk_drewN ?_ _ | refine blk_drew ?_ | refine blk_alloc ?_ _)); refine blk_put (cs := #[.int .u8 0, .int .u8 0]) ?_ 0 _ rfl; (with_reducible repeat (first | refine blk_drewN ?_ _ | refine blk_drew ?_ | refine blk_alloc ?_ _)); exact BK178.out⟩, ⟨hbT HB.out⟩⟩
        ·replace c16 := eE c16; subst c16; rw [if_neg nF] at H; have H' := asT H; clear H; have hnb19 := NB178_176.out; have hnc19 := NB176_178.out; obtain ⟨hcz20_0, hcz20_1, hfz20_0, hfz20_1⟩ := bx2 BK178.out
         go_wp2_with (first | (go_at_call 108; (with_reducible refine (spec_IsSound.calls k1 ((rd_T109 l0_0 x3_1).f1) false _ A15.out).mono ?_); rintro e w' ⟨rfl, ⟨nd, rfl⟩⟩))
         go_meet
         case rel => exact ⟨_, (true), rdT, H', ⟨by have := HK1.out; first | omega | exact Nat.le_refl _⟩, ⟨by (with_reducible repeat (first | refine blk_drewN ?_ _ | refine blk_drew ?_ | refine blk_alloc ?_ _)); refine blk_far ?_ NB176_178.out _; (with_reducible repeat (first | refine blk_drewN ?_ _ | refine blk_drew ?_ | refine blk_alloc ?_ _)); refine blk_far ?_ NB176_178.out _; (with_reducible repeat (first | refine blk_drewN ?_ _ | refine blk_drew ?_ | refine blk_alloc ?_ _)); exact BK176.out⟩, ⟨by (with_reducible repeat (first | refine blk_drewN ?_ _ | refine blk_drew ?_ | refine blk_alloc ?_ _)); refine blk_put (cs := #[.int .u8 ((rd_T109 l0_0 x3_1).f0), .int .u8 0]) ?_ 1 _ rfl; (with_reducible repeat (first | refine blk_drewN ?_ _ | refine blk_drew ?_ | refine blk_alloc ?_ _)); refine blk_put (cs := #[.int .u8 0, .int .u8 0]) ?_ 0 _ rfl; (with_reducible repeat (first | refine blk_drewN ?_ _ | refine blk_drew ?_ | refine blk_alloc ?_ _)); exact BK178.out⟩, ⟨hbT HB.out⟩⟩
      ·rw [if_neg c11] at H; have c11b0 : (((rd_T109 l0_0 x3_1).f0) == 0) = false := eB c11; have c11b1 : (((rd_T109 l0_0 x3_1).f0) != 0) = true := eD c11
       (first | rw [c11b0] | (simp only [i64_w, i32_w]; rw [c11b0]) | skip)
       obtain ⟨t182, A21, H⟩ := be H; by_cases c22 : t182 = true
       ·subst c22; rw [if_pos rfl] at H; have H1 := H; clear H; have H := H1; clear H1; by_cases c23 : ((rd_T109 l0_0 x3_1).f1) = 0
        ·rw [if_pos c23] at H; have c23b0 : (((rd_T109 l0_0 x3_1).f1) == 0) = true := eC c23; have c23b1 : (((rd_T109 l0_0 x3_1).f1) != 0) = false := eA c23; clear c23; have H' := asT H; clear H; have hnb24 := NB178_176.out; have hnc24 := NB176_178.out; obtain ⟨hcz25_0, hcz25_1, hfz25_0, hfz25_1⟩ := bx2 BK178.out
         go_wp2_with (first | (go_at_call 108; (with_reducible refine (spec_IsSound.calls k1 ((rd_T109 l0_0 x3_1).f0) true _ A21.out).mono ?_); rintro e w' ⟨rfl, ⟨nd, rfl⟩⟩))
         go_meet
         case rel => exact ⟨_, (false), rdT, H', ⟨by have := HK1.out; first | omega | exact Nat.le_refl _⟩, ⟨by (with_reducible repeat (first | refine blk_drewN ?_ _ | refine blk_drew ?_ | refine blk_alloc ?_ _)); refine blk_far ?_ NB176_178.out _; (with_reducible repeat (first | refine blk_drewN ?_ _ | refine blk_drew ?_ | refine blk_alloc ?_ _)); refine blk_far ?_ NB176_178.out _; (with_reducible repeat (first | refine blk_drewN ?_ _ | refine blk_drew ?_ | refine blk_alloc ?_ _)); exact BK176.out⟩, ⟨by (with_reducible repeat (first | refine blk_drewN ?_ _ | refine blk_drew ?_ | refine blk_alloc ?_ _)); refine blk_put (cs := #[.int .u8 ((rd_T109 l0_0 x3_1).f0), .int .u8 0]) ?_ 1 _ rfl; (with_reducible repeat (first | refine blk_drewN ?_ _ | refine blk_drew ?_ | refine blk_alloc ?_ _)); refine blk_put (cs := #[.int .u8 0, .int .u8 0]) ?_ 0 _ rfl; (with_reducible repeat (first | refine blk_drewN ?_ _ | refine blk_drew ?_ | refine blk_alloc ?_ _)); exact BK178.out⟩, ⟨hbT HB.out⟩⟩
        ·rw [if_neg c23] at H; have c23b0 : (((rd_T109 l0_0 x3_1).f1) == 0) = false := eB c23; have c23b1 : (((rd_T109 l0_0 x3_1).f1) != 0) = true := eD c23; obtain ⟨t183, A26, H⟩ := be H; by_cases c27 : t183 = true
         ·subst c27; rw [if_pos rfl] at H; have H' := asT H; clear H; have hnb28 := NB178_176.out; have hnc28 := NB176_178.out; obtain ⟨hcz29_0, hcz29_1, hfz29_0, hfz29_1⟩ := bx2 BK178.out
          go_wp2_with (first | (go_at_call 108; (with_reducible refine (spec_IsSound.calls k1 ((rd_T109 l0_0 x3_1).f0) true _ A21.out).mono ?_); rintro e w' ⟨rfl, ⟨nd, rfl⟩⟩) | (go_at_call 108; (with_reducible refine (spec_IsSound.calls k1 ((rd_T109 l0_0 x3_1).f1) true _ A26.out).mono ?_); rintro e w' ⟨rfl, ⟨nd, rfl⟩⟩))
          go_meet
          case rel => exact ⟨_, (false), rdT, H', ⟨by have := HK1.out; first | omega | exact Nat.le_refl _⟩, ⟨by (with_reducible repeat (first | refine blk_drewN ?_ _ | refine blk_drew ?_ | refine blk_alloc ?_ _)); refine blk_far ?_ NB176_178.out _; (with_reducible repeat (first | refine blk_drewN ?_ _ | refine blk_drew ?_ | refine blk_alloc ?_ _)); refine blk_far ?_ NB176_178.out _; (with_reducible repeat (first | refine blk_drewN ?_ _ | refine blk_drew ?_ | refine blk_alloc ?_ _)); exact BK176.out⟩, ⟨by (with_reducible repeat (first | refine blk_drewN ?_ _ | refine blk_drew ?_ | refine blk_alloc ?_ _)); refine blk_put (cs := #[.int .u8 ((rd_T109 l0_0 x3_1).f0), .int .u8 0]) ?_ 1 _ rfl; (with_reducible repeat (first | refine blk_drewN ?_ _ | refine blk_drew ?_ | refine blk_alloc ?_ _)); refine blk_put (cs := #[.int .u8 0, .int .u8 0]) ?_ 0 _ rfl; (with_reducible repeat (first | refine blk_drewN ?_ _ | refine blk_drew ?_ | refine blk_alloc ?_ _)); exact BK178.out⟩, ⟨hbT HB.out⟩⟩
         ·replace c27 := eE c27; subst c27; rw [if_neg nF] at H; have H' := asT H; clear H; have hnb30 := NB178_176.out; have hnc30 := NB176_178.out; obtain ⟨hcz31_0, hcz31_1, hfz31_0, hfz31_1⟩ := bx2 BK178.out
          go_wp2_with (first | (go_at_call 108; (with_reducible refine (spec_IsSound.calls k1 ((rd_T109 l0_0 x3_1).f0) true _ A21.out).mono ?_); rintro e w' ⟨rfl, ⟨nd, rfl⟩⟩) | (go_at_call 108; (with_reducible refine (spec_IsSound.calls k1 ((rd_T109 l0_0 x3_1).f1) false _ A26.out).mono ?_); rintro e w' ⟨rfl, ⟨nd, rfl⟩⟩))
          go_meet
          case rel => exact ⟨_, (true), rdT, H', ⟨by have := HK1.out; first | omega | exact Nat.le_refl _⟩, ⟨by (with_reducible repeat (first | refine blk_drewN ?_ _ | refine blk_drew ?_ | refine blk_alloc ?_ _)); refine blk_far ?_ NB176_178.out _; (with_reducible repeat (first | refine blk_drewN ?_ _ | refine blk_drew ?_ | refine blk_alloc ?_ _)); refine blk_far ?_ NB176_178.out _; (with_reducible repeat (first | refine blk_drewN ?_ _ | refine blk_drew ?_ | refine blk_alloc ?_ _)); exact BK176.out⟩, ⟨by (with_reducible repeat (first | refine blk_drewN ?_ _ | refine blk_drew ?_ | refine blk_alloc ?_ _)); refine blk_put (cs := #[.int .u8 ((rd_T109 l0_0 x3_1).f0), .int .u8 0]) ?_ 1 _ rfl; (with_reducible repeat (first | refine blk_drewN ?_ _ | refine blk_drew ?_ | refine blk_alloc ?_ _)); refine blk_put (cs := #[.int .u8 0, .int .u8 0]) ?_ 0 _ rfl; (with_reducible repeat (first | refine blk_drewN ?_ _ | refine blk_drew ?_ | refine blk_alloc ?_ _)); exact BK178.out⟩, ⟨hbT HB.out⟩⟩
       ·replace c22 := eE c22; subst c22; rw [if_neg nF] at H; have H' := asT H; clear H; have hnb32 := NB178_176.out; have hnc32 := NB176_178.out; obtain ⟨hcz33_0, hcz33_1, hfz33_0, hfz33_1⟩ := bx2 BK178.out
        go_wp2_with (first | (go_at_call 108; (with_reducible refine (spec_IsSound.calls k1 ((rd_T109 l0_0 x3_1).f0) false _ A21.out).mono ?_); rintro e w' ⟨rfl, ⟨nd, rfl⟩⟩))
        go_meet
        case rel => exact ⟨_, (true), rdT, H', ⟨by have := HK1.out; first | omega | exact Nat.le_refl _⟩, ⟨by (with_reducible repeat (first | refine blk_drewN ?_ _ | refine blk_drew ?_ | refine blk_alloc ?_ _)); refine blk_far ?_ NB176_178.out _; (with_reducible repeat (first | refine blk_drewN ?_ _ | refine blk_drew ?_ | refine blk_alloc ?_ _)); refine blk_far ?_ NB176_178.out _; (with_reducible repeat (first | refine blk_drewN ?_ _ | refine blk_drew ?_ | refine blk_alloc ?_ _)); exact BK176.out⟩, ⟨by (with_reducible repeat (first | refine blk_drewN ?_ _ | refine blk_drew ?_ | refine blk_alloc ?_ _)); refine blk_put (cs := #[.int .u8 ((rd_T109 l0_0 x3_1).f0), .int .u8 0]) ?_ 1 _ rfl; (with_reducible repeat (first | refine blk_drewN ?_ _ | refine blk_drew ?_ | refine blk_alloc ?_ _)); refine blk_put (cs := #[.int .u8 0, .int .u8 0]) ?_ 0 _ rfl; (with_reducible repeat (first | refine blk_drewN ?_ _ | refine blk_drew ?_ | refine blk_alloc ?_ _)); exact BK178.out⟩, ⟨hbT HB.out⟩⟩
     case rest =>
      clear HC6; (try clear c1 p1 q1 hx1 c2 p2 c3 c3b0 c4 c4b0 c7 c9 c11 c11b0 c11b1 c12 c12b0 c12b1 c13 c16 c17 p17 q17 hx17 c19 c22 c23 c23b0 c23b1 c24 c27 c28 c30 c32 hcz10_0 hcz10_1 hcz14_0 hcz14_1 hcz18_0 hcz18_1 hcz20_0 hcz20_1 hcz25_0 hcz25_1 hcz29_0 hcz29_1 hcz31_0 hcz31_1 hcz33_0 hcz33_1 hcz7_0 hfz10_0 hfz10_1 hfz14_0 hfz14_1 hfz18_0 hfz18_1 hfz20_0 hfz20_1 hfz25_0 hfz25_1 hfz29_0 hfz29_1 hfz31_0 hfz31_1 hfz33_0 hfz33_1 hfz7_0 hx177_0 hx177_1 p177 p2 q177); obtain ⟨kq, x54_5, rfl, HA, HJ5, BK176, BK178, HB⟩ := hcut
      cases kq with
      | zero => exact absurd HA.out (by simp [spec_IsCandidate.j1])
      | succ kj5 =>
       have H := HA.out; clear HA
       simp only [spec_IsCandidate.j1] at H
       by_cases c34 : x54_5 = true
       ·subst c34; rw [if_pos rfl] at H; have H1 := H; clear H; have H := H1; clear H1; obtain rfl := oI H
        go_wp2
        go_ret; exact ⟨rlT, hbT HB.out⟩
       ·replace c34 := eE c34; subst c34; rw [if_neg nF] at H; have H1 := H; clear H; have H := H1; clear H1; by_cases c35 : ((rd_T109 l0_0 x3_1).f0) = 0
        ·rw [if_pos c35] at H; have c35b0 : (((rd_T109 l0_0 x3_1).f0) == 0) = true := eC c35; have c35b1 : (((rd_T109 l0_0 x3_1).f0) != 0) = false := eA c35; clear c35; have H' := asT H; clear H; have hnb36 := NB178_176.out; have hnc36 := NB176_178.out; obtain ⟨hcz37_0, hcz37_1, hfz37_0, hfz37_1⟩ := bx2 BK178.out
         go_wp2
         go_roundg kj5
         case measure => have := HK1.out; have := HJ5.out; omega
         case rel => exact ⟨(wrap64 (x3_1 + 1)), rdT, H', ⟨by have := HK1.out; have := HJ5.out; omega⟩, kpT BK176.out, ⟨hbT HB.out⟩⟩
        ·rw [if_neg c35] at H; have c35b0 : (((rd_T109 l0_0 x3_1).f0) == 0) = false := eB c35; have c35b1 : (((rd_T109 l0_0 x3_1).f0) != 0) = true := eD c35; by_cases c38 : ((rd_T109 l0_0 x3_1).f1) = 0
         ·rw [if_pos c38] at H; have c38b0 : (((rd_T109 l0_0 x3_1).f1) == 0) = true := eC c38; have c38b1 : (((rd_T109 l0_0 x3_1).f1) != 0) = false := eA c38; clear c38; have H' := asT H; clear H; have hnb39 := NB178_176.out; have hnc39 := NB176_178.out; obtain ⟨hcz40_0, hcz40_1, hfz40_0, hfz40_1⟩ := bx2 BK178.out
          go_wp2
          go_roundg kj5
          case measure => have := HK1.out; have := HJ5.out; omega
          case rel => exact ⟨(wrap64 (x3_1 + 1)), rdT, H', ⟨by have := HK1.out; have := HJ5.out; omega⟩, kpT BK176.out, ⟨hbT HB.out⟩⟩
         ·rw [if_neg c38] at H; have c38b0 : (((rd_T109 l0_0 x3_1).f1) == 0) = false := eB c38; have c38b1 : (((rd_T109 l0_0 x3_1).f1) != 0) = true := eD c38; by_cases c41 : ((rd_T109 l0_0 x3_1).f0) = ((rd_T109 l0_0 x3_1).f1)
          ·rw [if_pos c41] at H; have c41b0 : (((rd_T109 l0_0 x3_1).f0) == ((rd_T109 l0_0 x3_1).f1)) = true := eC c41; have c41b1 : (((rd_T109 l0_0 x3_1).f0) != ((rd_T109 l0_0 x3_1).f1)) = false := eA c41; clear c41; have H' := asT H; clear H; have hnb42 := NB178_176.out; have hnc42 := NB176_178.out; obtain ⟨hcz43_0, hcz43_1, hfz43_0, hfz43_1⟩ := bx2 BK178.out
           go_wp2
           go_roundg kj5
           case measure => have := HK1.out; have := HJ5.out; omega
           case rel => exact ⟨(wrap64 (x3_1 + 1)), rdT, H', ⟨by have := HK1.out; have := HJ5.out; omega⟩, kpT BK176.out, ⟨hbT HB.out⟩⟩
          ·rw [if_neg c41] at H; have c41b0 : (((rd_T109 l0_0 x3_1).f0) == ((rd_T109 l0_0 x3_1).f1)) = false := eB c41; have c41b1 : (((rd_T109 l0_0 x3_1).f0) != ((rd_T109 l0_0 x3_1).f1)) = true := eD c41; by_cases c44 : t180 = true
           ·subst c44; rw [if_pos rfl] at H; have H1 := H; clear H; have H := H1; clear H1; by_cases c45 : t179 = ((rd_T109 l0_0 x3_1).f1)
            ·rw [if_pos c45] at H; have c45b0 : (t179 == ((rd_T109 l0_0 x3_1).f1)) = true := eC c45; have c45b1 : (t179 != ((rd_T109 l0_0 x3_1).f1)) = false := eA c45; clear c45; have H' := asT H; clear H; have hnb46 := NB178_176.out; have hnc46 := NB176_178.out; obtain ⟨hcz47_0, hcz47_1, hfz47_0, hfz47_1⟩ := bx2 BK178.out
             go_wp2
             go_roundg kj5
             case measure => have := HK1.out; have := HJ5.out; omega
             case rel => exact ⟨(wrap64 (x3_1 + 1)), rdT, H', ⟨by have := HK1.out; have := HJ5.out; omega⟩, kpT BK176.out, ⟨hbT HB.out⟩⟩
            ·rw [if_neg c45] at H; have c45b0 : (t179 == ((rd_T109 l0_0 x3_1).f1)) = false := eB c45; have c45b1 : (t179 != ((rd_T109 l0_0 x3_1).f1)) = true := eD c45; obtain rfl := oI H; have hnb48 := NB178_176.out; have hnc48 := NB176_178.out; obtain ⟨hcz49_0, hcz49_1, hfz49_0, hfz49_1⟩ := bx2 BK178.out
             go_wp2
             go_ret; exact ⟨rlT, hbT HB.out⟩
           ·replace c44 := eE c44; subst c44; rw [if_neg nF] at H; have H1 := H; clear H; have H := H1; clear H1; obtain rfl := oI H; have hnb50 := NB178_176.out; have hnc50 := NB176_178.out; obtain ⟨hcz51_0, hcz51_1, hfz51_0, hfz51_1⟩ := bx2 BK178.out
            go_wp2
            go_ret; exact ⟨rlT, hbT HB.out⟩
    ·rw [if_neg c4] at H; exact absurd H (by simp)
   ·rw [if_neg c3] at H; have c3b0 := df c3; clear c3; by_cases c52 : (l0_0.length : Int) ≤ 16
    ·rw [if_pos c52] at H; have c52b0 := dt c52; have c52b1 : decide (l0_0.length ≤ 16) = true := dt (by omega); clear c52; obtain ⟨t184, A53, H⟩ := be H; obtain ⟨t185, A54, H⟩ := be H; by_cases c55 : t185 = true
     ·subst c55; rw [if_pos rfl] at H; obtain ⟨t186, A56, H⟩ := be H; obtain ⟨t187, A57, H⟩ := be H; obtain rfl := oI H; obtain ⟨hcz58_0, hfz58_0⟩ := bx1 BK176.out
      go_wp2_with (first | (go_at_call 111; (with_reducible refine (spec_l6In.calls k1 _ _ l0_0 t184 _ ?side1 ?side2 A53.out).mono ?_); (case side1 => exact crT HR0_0.out HB.out); (case side2 => exact HC0_0.out); rintro e w59 ⟨rfl, hb⟩; replace BK176 := bS BK176 hb; replace HB := hS HB hb; (try clear hb hb2 hk hi)) | (go_at_call 36; (with_reducible refine (spec_IsForm.calls k1 t184 true _ A54.out).mono ?_); rintro e w' ⟨rfl, ⟨nd, rfl⟩⟩; obtain ⟨hcz60_0, hfz60_0⟩ := bx1 BK176.out) | (go_at_call 105; (with_reducible refine (spec_l6Out.calls k1 _ _ l0_0 t186 _ ?side1 ?side2 A56.out).mono ?_); (case side1 => exact crT HR0_0.out (hbT HB.out)); (case side2 => exact HC0_0.out); rintro e w61 ⟨rfl, hb⟩; replace BK176 := bS BK176 hb; replace HB := hS HB hb; (try clear hb hb2 hk hi)) | (go_at_call 36; (with_reducible refine (spec_IsForm.calls k1 t186 t187 _ A57.out).mono ?_); rintro e w' ⟨rfl, ⟨nd, rfl⟩⟩))
      go_ret; exact ⟨rlT, hbT HB.out⟩
     ·replace c55 := eE c55; subst c55; rw [if_neg nF] at H; have H1 := H; clear H; have H := H1; clear H1; obtain rfl := oI H; obtain ⟨hcz62_0, hfz62_0⟩ := bx1 BK176.out
      go_wp2_with (first | (go_at_call 111; (with_reducible refine (spec_l6In.calls k1 _ _ l0_0 t184 _ ?side1 ?side2 A53.out).mono ?_); (case side1 => exact crT HR0_0.out HB.out); (case side2 => exact HC0_0.out); rintro e w63 ⟨rfl, hb⟩; replace BK176 := bS BK176 hb; replace HB := hS HB hb; (try clear hb hb2 hk hi)) | (go_at_call 36; (with_reducible refine (spec_IsForm.calls k1 t184 false _ A54.out).mono ?_); rintro e w' ⟨rfl, ⟨nd, rfl⟩⟩))
      go_ret; exact ⟨rlT, hbT HB.out⟩
    ·rw [if_neg c52] at H; have c52b0 := df c52; have c52b1 : decide (l0_0.length ≤ 16) = false := df (by omega); clear c52; obtain rfl := oI H; obtain ⟨hcz64_0, hfz64_0⟩ := bx1 BK176.out
     go_wp2
     go_ret; exact ⟨rlT, hbT HB.out⟩
end Go.Proofs.YtlmfpkiaikjlbaaGreat.PFnExactDistinctProfiles
