-- Made by gen.py (a program of this session) out of the translation; Lean checks it.
import Derived.Test.YtlmfpkiaikjlbaaGreatPFnExactWinnersOfx0
import Derived.Test.YtlmfpkiaikjlbaaGreatPFnExactWinnersOfx3
namespace Go.Proofs.YtlmfpkiaikjlbaaGreat.PFnExactWinnersOf
open Go.RowKit Go.Proofs.YtlmfpkiaikjlbaaGreatB Go.Proofs.YtlmfpkiaikjlbaaGreatW.PrintWords Go.Proofs.YtlmfpkiaikjlbaaGreatW.PrintLast Go.Proofs.YtlmfpkiaikjlbaaGreatW.PrintMore
attribute [local go_sem] max2_int min2_int max_two min_two max_three min_three max_four min_four   -- for this text's walks alone
set_option linter.unusedVariables false
set_option maxHeartbeats 8000000
set_option maxRecDepth 100000
set_option linter.unusedSimpArgs false
def spec_IsForm.f (k : Nat) (a0 : ByteArray) : Option (Bool) := (spec_l2Sounds.f k a0).bind fun t212 => (if t212 = true then (some (decide ((a0.size : Int) ≤ 8))) else (some false))
theorem spec_IsForm.mono : ∀ a0 k, LeO (spec_IsForm.f k a0) (spec_IsForm.f (k + 1) a0) := by
 intro a0 k
 unfold spec_IsForm.f
 with_reducible repeat' first | exact spec_l2Sounds.mono _ _ | exact LeO.refl _ | exact LeO.none _ | refine LeO.ite ?_ ?_ | refine LeO.bind ?_ (fun _ => ?_)
theorem spec_IsForm.calls (k : Nat) (a0 : ByteArray) (r : Bool) (w : World) (h : spec_IsForm.f k a0 = some r) :
  Calls Tryz.prog 36 #[.string a0] w fun e w' => e = .returned (.bool r) ∧ Drawn0 w w' := by
 have H := h; unfold spec_IsForm.f at H; clear h; obtain ⟨t212, A2, H⟩ := be H
 by_cases c3 : t212 = true
 ·subst c3
  rw [if_pos rfl] at H; have H1 := H; clear H; have H := H1; clear H1
  obtain rfl := oI H
  go_enter Tryz.func36, Tryz.ntmps36
  go_wp2_with (first | ((with_reducible refine gate_callee (f := 76) rfl ?_); refine goesL_ (some 4) rfl rfl Tryz.func76 (by kernel_rfl) rfl #[.string a0] rfl eqT ?_; (with_reducible refine (spec_l2Sounds.calls k a0 true _ A2.out).mono ?_); rintro e w' ⟨rfl, ⟨nd, rfl⟩⟩; refine ⟨_, rfl, ?_⟩))
  go_ret
  exact ⟨rdT, drT⟩
 ·replace c3 := eE c3
  subst c3; rw [if_neg nF] at H; have H1 := H; clear H; have H := H1; clear H1
  obtain rfl := oI H
  go_enter Tryz.func36, Tryz.ntmps36
  go_wp2_with (first | ((with_reducible refine gate_callee (f := 76) rfl ?_); refine goesL_ (some 4) rfl rfl Tryz.func76 (by kernel_rfl) rfl #[.string a0] rfl eqT ?_; (with_reducible refine (spec_l2Sounds.calls k a0 false _ A2.out).mono ?_); rintro e w' ⟨rfl, ⟨nd, rfl⟩⟩; refine ⟨_, rfl, ?_⟩))
  go_ret
  exact ⟨rdT, drT⟩
def spec_l6Out.l0 : Nat → List Int → Int → List (S109) → Option (ByteArray)
 | 0, _, _, _ => none
 | k + 1, x3, x4, x214000 => if x4 < (x214000.length : Int) then (if 0 ≤ x4 then (if ((rd_T109 x214000 x4).f1) = 0 then (spec_l6Out.l0 k x3 (wrap64 (x4 + 1)) x214000) else (if x3.length < 140737488355328 then (spec_l6Out.l0 k (x3 ++ [(rd_T109 x214000 x4).f1]) (wrap64 (x4 + 1)) x214000) else (none))) else (none)) else (some (strOfNums x3))
def spec_l6Out.f (k : Nat) (l0_0 : List (S109)) : Option (ByteArray) := spec_l6Out.l0 k (([] : List Int)) 0 l0_0
theorem spec_l6Out.mono_l : ∀ k, (∀ y0 y1 y2, LeO (spec_l6Out.l0 k y0 y1 y2) (spec_l6Out.l0 (k + 1) y0 y1 y2))
 | 0 => fun _ _ _ r h => by simp [spec_l6Out.l0] at h
 | k + 1 => by
  have ih0 := spec_l6Out.mono_l k
  ·intro y0 y1 y2
   unfold spec_l6Out.l0
   with_reducible repeat' first | exact ih0 _ _ _ | exact LeO.refl _ | exact LeO.none _ | refine LeO.ite ?_ ?_ | refine LeO.bind ?_ (fun _ => ?_)
theorem spec_l6Out.mono : ∀ a0 k, LeO (spec_l6Out.f k a0) (spec_l6Out.f (k + 1) a0) := by
 intro a0 k
 have ih0 := spec_l6Out.mono_l k
 unfold spec_l6Out.f
 with_reducible repeat' first | exact ih0 _ _ _ | exact LeO.refl _ | exact LeO.none _ | refine LeO.ite ?_ ?_ | refine LeO.bind ?_ (fun _ => ?_)
theorem spec_l6Out.calls (k : Nat) (A0_0 : Option Addr) (c0_0 : Nat) (l0_0 : List (S109)) (r : ByteArray) (w : World) (hr0_0 : Kd.C k109 w A0_0 l0_0.length l0_0) (hc0_0 : l0_0.length ≤ c0_0) (h : spec_l6Out.f k l0_0 = some r) :
  Calls Tryz.prog 105 #[.agg #[.slice A0_0 l0_0.length c0_0]] w fun e w' => e = .returned (.string r) ∧ Below w.heap.size w w' := by
 have hu60 := Tryz.underlying60; have HR0_0 := asT hr0_0; have HC0_0 := asT hc0_0; clear hr0_0 hc0_0; have HB := asT (Below.refl w.heap.size w); have H := h; unfold spec_l6Out.f at H; clear h; obtain ⟨y214, hy214⟩ : ∃ y_ : List Int, y_ = (([] : List Int)) := ⟨_, rfl⟩
 replace H : (spec_l6Out.l0 k y214 0 l0_0) = some r := by first | (rw [hy214]; with_reducible exact H) | (have H2_ := (Option.bind_some _ _).symm.trans H; rw [hy214]; with_reducible exact H2_) | (have H2_ := (Option.bind_some _ _).symm.trans H; with_reducible exact H2_) | with_reducible exact H | (rw [hy214]; exact H) | exact H
 have Ny214 := asT hy214; clear hy214; have H' := asT H; clear H
 go_enter Tryz.func105, Tryz.ntmps105
 go_wp2_with (first | ((with_reducible refine gate_dst (N := 1) rfl ?_); refine boxT (N := 1) (cs := #[.slice A0_0 l0_0.length c0_0]) (t := 60) ?_; intro gb213 hg w2 hbox hb; have BK213 := asT hbox; have GW213 := asT (geT hg HB.out); have GE213 := GW213; replace HB := hS HB hb; clear hb hbox hg) | ((with_reducible refine gate_dst (N := 5) rfl ?_); refine Kd.R_lit (Kd.int .u8) _ 5 ?hg (N := 5) ?hd (xs := ([] : List Int)) (inner := []) (ok := fun _ => True) (okp := fun _ => True) ?hr ?hp (fun _ hk => hk) trivial (Below.refl _ _) (Nat.le_refl _) (by simp) ?_; (case hd => rfl); (case hg => rfl); (case hr => first | (go_simp; done) | (go_simp; rfl)); (case hp => exact (Reps.none _ _)); intro v215 w3 ho4 hb hg_ hnew_; clear hg_ hnew_; (first | rw [← Ny214.out] at ho4 | (simp only [Int.reduceToNat] at ho4; rw [← Ny214.out] at ho4)); have HO216 := asT (Kd.R_lower ho4 (below_size (hbT HB.out))); replace BK213 := bS BK213 hb; replace HB := hS HB hb; clear hb ho4))
 go_loopg [3, 4] k (fun kq v3 v4 w' => ∃ (x3_1 : List Int) (x4_1 : Int), v4 = .int .i64 x4_1 ∧ Aside0 (spec_l6Out.l0 kq x3_1 x4_1 l0_0 = some r) ∧ Aside0 (kq ≤ k) ∧ Aside0 (Kd.R (Kd.int .u8) 5 w' w.heap.size (fun _ => True) v3 x3_1) ∧ Aside0 (w'.heap[gb213]? = some (.cells #[(.slice A0_0 l0_0.length c0_0)] 60 (0, 0))) ∧ Aside0 (Below w.heap.size w w'))
 case atStart => exact ⟨(y214), (0), rdT, H', ⟨Nat.le_refl _⟩, ⟨by (with_reducible repeat (first | apply Kd.R_alloc | apply Kd.R_drewN | apply Kd.R_drew)); exact HO216.out⟩, kpT BK213.out, ⟨hbT HB.out⟩⟩
 case round =>
  clear H'; (try clear c1 p2); obtain ⟨x3_1, x4_1, rfl, HA, HK1, HO_3, BK213, HB⟩ := hrel
  cases gk with
  | zero => exact absurd HA.out (by simp [spec_l6Out.l0])
  | succ k1 =>
   have H := HA.out; clear HA
   simp only [spec_l6Out.l0] at H
   by_cases c5 : x4_1 < (l0_0.length : Int)
   ·rw [if_pos c5] at H
    have c5b0 : decide (x4_1 < (l0_0.length : Int)) = true := dt c5
    clear c5
    by_cases c6 : 0 ≤ x4_1
    ·rw [if_pos c6] at H
     have c6b0 : decide (0 ≤ x4_1) = true := dt c6
     clear c6
     by_cases c7 : ((rd_T109 l0_0 x4_1).f1) = 0
     ·rw [if_pos c7] at H
      have c7b0 : (((rd_T109 l0_0 x4_1).f1) == 0) = true := eC c7
      have c7b1 : (((rd_T109 l0_0 x4_1).f1) != 0) = false := eA c7
      clear c7; have H' := asT H; clear H
      have hcz8_0 := bc0 BK213.out
      have hfz8_0 := blk_frozen BK213.out 0
      have p217 : 0 ≤ (x4_1 : Int) := dT asmT
      have q217 : x4_1 < (l0_0.length : Int) := dT asmT
      obtain ⟨ad217, e217, hx217_0, hx217_1⟩ := at_T109 HR0_0.out x4_1 p217 q217
      cases e217
      replace hx217_0 := hbc HB.out hx217_0; replace hx217_1 := hbc HB.out hx217_1; replace p217 := eq_true p217; replace q217 := eq_true q217
      go_wp2
      go_roundg k1
      case measure => have := HK1.out; omega
      case rel => exact ⟨(x3_1), (wrap64 (x4_1 + 1)), rdT, H', ⟨by have := HK1.out; omega⟩, ⟨by (with_reducible repeat (first | apply Kd.R_alloc | apply Kd.R_drewN | apply Kd.R_drew)); exact HO_3.out⟩, kpT BK213.out, ⟨hbT HB.out⟩⟩
     ·rw [if_neg c7] at H
      have c7b0 : (((rd_T109 l0_0 x4_1).f1) == 0) = false := eB c7
      have c7b1 : (((rd_T109 l0_0 x4_1).f1) != 0) = true := eD c7
      by_cases c9 : x3_1.length < 140737488355328
      ·rw [if_pos c9] at H
       have LMc9 := asT c9; clear c9; obtain ⟨y219, hy219⟩ : ∃ y_ : List Int, y_ = (x3_1 ++ [(rd_T109 l0_0 x4_1).f1]) := ⟨_, rfl⟩
       replace H : (spec_l6Out.l0 k1 y219 (wrap64 (x4_1 + 1)) l0_0) = some r := by first | (rw [hy219]; with_reducible exact H) | (have H2_ := (Option.bind_some _ _).symm.trans H; rw [hy219]; with_reducible exact H2_) | (have H2_ := (Option.bind_some _ _).symm.trans H; with_reducible exact H2_) | with_reducible exact H | (rw [hy219]; exact H) | exact H
       have Ny219 := asT hy219; clear hy219; have H' := asT H; clear H
       have hcz10_0 := bc0 BK213.out
       have hfz10_0 := blk_frozen BK213.out 0
       have p217 : 0 ≤ (x4_1 : Int) := dT asmT
       have q217 : x4_1 < (l0_0.length : Int) := dT asmT
       obtain ⟨ad217, e217, hx217_0, hx217_1⟩ := at_T109 HR0_0.out x4_1 p217 q217
       cases e217
       replace hx217_0 := hbc HB.out hx217_0; replace hx217_1 := hbc HB.out hx217_1; replace p217 := eq_true p217; replace q217 := eq_true q217
       have p218 : 0 ≤ (x4_1 : Int) := dT asmT
       have q218 : x4_1 < (l0_0.length : Int) := dT asmT
       obtain ⟨ad218, e218, hx218_0, hx218_1⟩ := at_T109 HR0_0.out x4_1 p218 q218
       obtain rfl : ad217 = ad218 := (by injection e218)
       replace hx218_0 := hbc HB.out hx218_0; replace hx218_1 := hbc HB.out hx218_1; replace p218 := eq_true p218; replace q218 := eq_true q218
       go_wp2_with (first | ((with_reducible refine gate_builtin (b := .append) (xs := #[.tmp 20, .tmp 27]) rfl ?_); at_builtin; refine Kd.R_append (Kd.int .u8) (w0 := w) w.heap.size rfl (.tmp 20) (.tmp 27) 91 5 (.int .u8 0) 1 rfl Tryz.underlying91 info5 rfl (by decide) (by omega) u3 x3_1 ((rd_T109 l0_0 x4_1).f1) [.int .u8 ((rd_T109 l0_0 x4_1).f1)] (fun _ => True) (fun _ => False) rfl rfl ?aP (fun _ hk => hk.elim) ?aF ?aO ?aB ?aS ?aL ?_; (case aP => exact rfl); (case aB => exact (hbT HB.out)); (case aF => exact (fun _ _ => trivial)); (case aO => exact (roT HO_3.out)); (case aS => exact (below_size (hbT HB.out))); (case aL => have := LMc9.out; omega); intro v220 w11 ho hb hg hat; rw [← Ny219.out] at ho; replace BK213 := asT (blk_grown (g := gb213) (o := .cells #[.slice (some ad217) l0_0.length c0_0] 60 (0, 0)) (bkT BK213.out) hg (Kd.R_ne HO_3.out BK213.out (by decide))); replace HB := asT (hb); have HO221 := asT (ho); clear HO_3 ho hb hg hat))
       go_roundg k1
       case measure => have := HK1.out; omega
       case rel => exact ⟨(y219), (wrap64 (x4_1 + 1)), rdT, H', ⟨by have := HK1.out; omega⟩, ⟨by (with_reducible repeat (first | apply Kd.R_alloc | apply Kd.R_drewN | apply Kd.R_drew)); exact HO221.out⟩, kpT BK213.out, ⟨hbT HB.out⟩⟩
      ·rw [if_neg c9] at H
       exact absurd H (by simp)
    ·rw [if_neg c6] at H
     exact absurd H (by simp)
   ·rw [if_neg c5] at H
    have c5b0 : decide (x4_1 < (l0_0.length : Int)) = false := df c5
    clear c5
    obtain rfl := oI H
    have hcz12_0 := bc0 BK213.out
    have hfz12_0 := blk_frozen BK213.out 0; have hcv13 := own_string (P := Tryz.prog) Tryz.underlying91 Tryz.underlying5 Tryz.underlying9 (Kd.own_of_R HO_3.out)
    go_wp2
    go_ret
    exact ⟨rlT, hbT HB.out⟩
def spec_SwapVoice.f (a0 : Int) : Option (Int × Bool) := if a0 = 112 then (some (98, true)) else (if a0 = 98 then (some (112, true)) else (if a0 = 116 then (some (100, true)) else (if a0 = 100 then (some (116, true)) else (some (a0, false)))))
theorem spec_SwapVoice.calls (a0 : Int) (r1 : Int) (r2 : Bool) (w : World) (h : spec_SwapVoice.f a0 = some (r1, r2)) :
  Calls Tryz.prog 110 #[.int .u8 a0] w fun e w' => e = .returned (.tuple #[.int .u8 r1, .bool r2]) ∧ Drawn0 w w' := by
 have H := h; unfold spec_SwapVoice.f at H; clear h
 by_cases c2 : a0 = 112
 ·rw [if_pos c2] at H
  have c2b0 : (a0 == 112) = true := eC c2
  have c2b1 : (a0 != 112) = false := eA c2
  clear c2
  simp only [Option.some.injEq, Prod.mk.injEq] at H
  obtain ⟨rfl, rfl⟩ := H
  go_enter Tryz.func110, Tryz.ntmps110
  go_wp2
  go_ret2
  exact ⟨rdT, drT⟩
 ·rw [if_neg c2] at H
  have c2b0 : (a0 == 112) = false := eB c2
  have c2b1 : (a0 != 112) = true := eD c2
  by_cases c3 : a0 = 98
  ·rw [if_pos c3] at H
   have c3b0 : (a0 == 98) = true := eC c3
   have c3b1 : (a0 != 98) = false := eA c3
   clear c3
   simp only [Option.some.injEq, Prod.mk.injEq] at H
   obtain ⟨rfl, rfl⟩ := H
   go_enter Tryz.func110, Tryz.ntmps110
   go_wp2
   go_ret2
   exact ⟨rdT, drT⟩
  ·rw [if_neg c3] at H
   have c3b0 : (a0 == 98) = false := eB c3
   have c3b1 : (a0 != 98) = true := eD c3
   by_cases c4 : a0 = 116
   ·rw [if_pos c4] at H
    have c4b0 : (a0 == 116) = true := eC c4
    have c4b1 : (a0 != 116) = false := eA c4
    clear c4
    simp only [Option.some.injEq, Prod.mk.injEq] at H
    obtain ⟨rfl, rfl⟩ := H
    go_enter Tryz.func110, Tryz.ntmps110
    go_wp2
    go_ret2
    exact ⟨rdT, drT⟩
   ·rw [if_neg c4] at H
    have c4b0 : (a0 == 116) = false := eB c4
    have c4b1 : (a0 != 116) = true := eD c4
    by_cases c5 : a0 = 100
    ·rw [if_pos c5] at H
     have c5b0 : (a0 == 100) = true := eC c5
     have c5b1 : (a0 != 100) = false := eA c5
     clear c5
     simp only [Option.some.injEq, Prod.mk.injEq] at H
     obtain ⟨rfl, rfl⟩ := H
     go_enter Tryz.func110, Tryz.ntmps110
     go_wp2
     go_ret2
     exact ⟨rdT, drT⟩
    ·rw [if_neg c5] at H
     have c5b0 : (a0 == 100) = false := eB c5
     have c5b1 : (a0 != 100) = true := eD c5
     simp only [Option.some.injEq, Prod.mk.injEq] at H
     obtain ⟨rfl, rfl⟩ := H
     go_enter Tryz.func110, Tryz.ntmps110
     go_wp2
     go_ret2
     exact ⟨rdT, drT⟩
def spec_l6In.l0 : Nat → List Int → Int → List (S109) → Option (ByteArray)
 | 0, _, _, _ => none
 | k + 1, x3, x4, x223000 => if x4 < (x223000.length : Int) then (if 0 ≤ x4 then (if ((rd_T109 x223000 x4).f0) = 0 then (spec_l6In.l0 k x3 (wrap64 (x4 + 1)) x223000) else (if x3.length < 140737488355328 then (spec_l6In.l0 k (x3 ++ [(rd_T109 x223000 x4).f0]) (wrap64 (x4 + 1)) x223000) else (none))) else (none)) else (some (strOfNums x3))
def spec_l6In.f (k : Nat) (l0_0 : List (S109)) : Option (ByteArray) := spec_l6In.l0 k (([] : List Int)) 0 l0_0
theorem spec_l6In.mono_l : ∀ k, (∀ y0 y1 y2, LeO (spec_l6In.l0 k y0 y1 y2) (spec_l6In.l0 (k + 1) y0 y1 y2))
 | 0 => fun _ _ _ r h => by simp [spec_l6In.l0] at h
 | k + 1 => by
  have ih0 := spec_l6In.mono_l k
  ·intro y0 y1 y2
   unfold spec_l6In.l0
   with_reducible repeat' first | exact ih0 _ _ _ | exact LeO.refl _ | exact LeO.none _ | refine LeO.ite ?_ ?_ | refine LeO.bind ?_ (fun _ => ?_)
theorem spec_l6In.mono : ∀ a0 k, LeO (spec_l6In.f k a0) (spec_l6In.f (k + 1) a0) := by
 intro a0 k
 have ih0 := spec_l6In.mono_l k
 unfold spec_l6In.f
 with_reducible repeat' first | exact ih0 _ _ _ | exact LeO.refl _ | exact LeO.none _ | refine LeO.ite ?_ ?_ | refine LeO.bind ?_ (fun _ => ?_)
theorem spec_l6In.calls (k : Nat) (A0_0 : Option Addr) (c0_0 : Nat) (l0_0 : List (S109)) (r : ByteArray) (w : World) (hr0_0 : Kd.C k109 w A0_0 l0_0.length l0_0) (hc0_0 : l0_0.length ≤ c0_0) (h : spec_l6In.f k l0_0 = some r) :
  Calls Tryz.prog 111 #[.agg #[.slice A0_0 l0_0.length c0_0]] w fun e w' => e = .returned (.string r) ∧ Below w.heap.size w w' := by
 have hu60 := Tryz.underlying60; have HR0_0 := asT hr0_0; have HC0_0 := asT hc0_0; clear hr0_0 hc0_0; have HB := asT (Below.refl w.heap.size w); have H := h; unfold spec_l6In.f at H; clear h; obtain ⟨y223, hy223⟩ : ∃ y_ : List Int, y_ = (([] : List Int)) := ⟨_, rfl⟩
 replace H : (spec_l6In.l0 k y223 0 l0_0) = some r := by first | (rw [hy223]; with_reducible exact H) | (have H2_ := (Option.bind_some _ _).symm.trans H; rw [hy223]; with_reducible exact H2_) | (have H2_ := (Option.bind_some _ _).symm.trans H; with_reducible exact H2_) | with_reducible exact H | (rw [hy223]; exact H) | exact H
 have Ny223 := asT hy223; clear hy223; have H' := asT H; clear H
 go_enter Tryz.func111, Tryz.ntmps111
 go_wp2_with (first | ((with_reducible refine gate_dst (N := 1) rfl ?_); refine boxT (N := 1) (cs := #[.slice A0_0 l0_0.length c0_0]) (t := 60) ?_; intro gb222 hg w2 hbox hb; have BK222 := asT hbox; have GW222 := asT (geT hg HB.out); have GE222 := GW222; replace HB := hS HB hb; clear hb hbox hg) | ((with_reducible refine gate_dst (N := 5) rfl ?_); refine Kd.R_lit (Kd.int .u8) _ 5 ?hg (N := 5) ?hd (xs := ([] : List Int)) (inner := []) (ok := fun _ => True) (okp := fun _ => True) ?hr ?hp (fun _ hk => hk) trivial (Below.refl _ _) (Nat.le_refl _) (by simp) ?_; (case hd => rfl); (case hg => rfl); (case hr => first | (go_simp; done) | (go_simp; rfl)); (case hp => exact (Reps.none _ _)); intro v224 w3 ho4 hb hg_ hnew_; clear hg_ hnew_; (first | rw [← Ny223.out] at ho4 | (simp only [Int.reduceToNat] at ho4; rw [← Ny223.out] at ho4)); have HO225 := asT (Kd.R_lower ho4 (below_size (hbT HB.out))); replace BK222 := bS BK222 hb; replace HB := hS HB hb; clear hb ho4))
 go_loopg [3, 4] k (fun kq v3 v4 w' => ∃ (x3_1 : List Int) (x4_1 : Int), v4 = .int .i64 x4_1 ∧ Aside0 (spec_l6In.l0 kq x3_1 x4_1 l0_0 = some r) ∧ Aside0 (kq ≤ k) ∧ Aside0 (Kd.R (Kd.int .u8) 5 w' w.heap.size (fun _ => True) v3 x3_1) ∧ Aside0 (w'.heap[gb222]? = some (.cells #[(.slice A0_0 l0_0.length c0_0)] 60 (0, 0))) ∧ Aside0 (Below w.heap.size w w'))
 case atStart => exact ⟨(y223), (0), rdT, H', ⟨Nat.le_refl _⟩, ⟨by (with_reducible repeat (first | apply Kd.R_alloc | apply Kd.R_drewN | apply Kd.R_drew)); exact HO225.out⟩, kpT BK222.out, ⟨hbT HB.out⟩⟩
 case round =>
  clear H'; (try clear c1 p2); obtain ⟨x3_1, x4_1, rfl, HA, HK1, HO_3, BK222, HB⟩ := hrel
  cases gk with
  | zero => exact absurd HA.out (by simp [spec_l6In.l0])
  | succ k1 =>
   have H := HA.out; clear HA
   simp only [spec_l6In.l0] at H
   by_cases c5 : x4_1 < (l0_0.length : Int)
   ·rw [if_pos c5] at H
    have c5b0 : decide (x4_1 < (l0_0.length : Int)) = true := dt c5
    clear c5
    by_cases c6 : 0 ≤ x4_1
    ·rw [if_pos c6] at H
     have c6b0 : decide (0 ≤ x4_1) = true := dt c6
     clear c6
     by_cases c7 : ((rd_T109 l0_0 x4_1).f0) = 0
     ·rw [if_pos c7] at H
      have c7b0 : (((rd_T109 l0_0 x4_1).f0) == 0) = true := eC c7
      have c7b1 : (((rd_T109 l0_0 x4_1).f0) != 0) = false := eA c7
      clear c7; have H' := asT H; clear H
      have hcz8_0 := bc0 BK222.out
      have hfz8_0 := blk_frozen BK222.out 0
      have p226 : 0 ≤ (x4_1 : Int) := dT asmT
      have q226 : x4_1 < (l0_0.length : Int) := dT asmT
      obtain ⟨ad226, e226, hx226_0, hx226_1⟩ := at_T109 HR0_0.out x4_1 p226 q226
      cases e226
      replace hx226_0 := hbc HB.out hx226_0; replace hx226_1 := hbc HB.out hx226_1; replace p226 := eq_true p226; replace q226 := eq_true q226
      go_wp2
      go_roundg k1
      case measure => have := HK1.out; omega
      case rel => exact ⟨(x3_1), (wrap64 (x4_1 + 1)), rdT, H', ⟨by have := HK1.out; omega⟩, ⟨by (with_reducible repeat (first | apply Kd.R_alloc | apply Kd.R_drewN | apply Kd.R_drew)); exact HO_3.out⟩, kpT BK222.out, ⟨hbT HB.out⟩⟩
     ·rw [if_neg c7] at H
      have c7b0 : (((rd_T109 l0_0 x4_1).f0) == 0) = false := eB c7
      have c7b1 : (((rd_T109 l0_0 x4_1).f0) != 0) = true := eD c7
      by_cases c9 : x3_1.length < 140737488355328
      ·rw [if_pos c9] at H
       have LMc9 := asT c9; clear c9; obtain ⟨y228, hy228⟩ : ∃ y_ : List Int, y_ = (x3_1 ++ [(rd_T109 l0_0 x4_1).f0]) := ⟨_, rfl⟩
       replace H : (spec_l6In.l0 k1 y228 (wrap64 (x4_1 + 1)) l0_0) = some r := by first | (rw [hy228]; with_reducible exact H) | (have H2_ := (Option.bind_some _ _).symm.trans H; rw [hy228]; with_reducible exact H2_) | (have H2_ := (Option.bind_some _ _).symm.trans H; with_reducible exact H2_) | with_reducible exact H | (rw [hy228]; exact H) | exact H
       have Ny228 := asT hy228; clear hy228; have H' := asT H; clear H
       have hcz10_0 := bc0 BK222.out
       have hfz10_0 := blk_frozen BK222.out 0
       have p226 : 0 ≤ (x4_1 : Int) := dT asmT
       have q226 : x4_1 < (l0_0.length : Int) := dT asmT
       obtain ⟨ad226, e226, hx226_0, hx226_1⟩ := at_T109 HR0_0.out x4_1 p226 q226
       cases e226
       replace hx226_0 := hbc HB.out hx226_0; replace hx226_1 := hbc HB.out hx226_1; replace p226 := eq_true p226; replace q226 := eq_true q226
       have p227 : 0 ≤ (x4_1 : Int) := dT asmT
       have q227 : x4_1 < (l0_0.length : Int) := dT asmT
       obtain ⟨ad227, e227, hx227_0, hx227_1⟩ := at_T109 HR0_0.out x4_1 p227 q227
       obtain rfl : ad226 = ad227 := (by injection e227)
       replace hx227_0 := hbc HB.out hx227_0; replace hx227_1 := hbc HB.out hx227_1; replace p227 := eq_true p227; replace q227 := eq_true q227
       go_wp2_with (first | ((with_reducible refine gate_builtin (b := .append) (xs := #[.tmp 20, .tmp 27]) rfl ?_); at_builtin; refine Kd.R_append (Kd.int .u8) (w0 := w) w.heap.size rfl (.tmp 20) (.tmp 27) 91 5 (.int .u8 0) 1 rfl Tryz.underlying91 info5 rfl (by decide) (by omega) u3 x3_1 ((rd_T109 l0_0 x4_1).f0) [.int .u8 ((rd_T109 l0_0 x4_1).f0)] (fun _ => True) (fun _ => False) rfl rfl ?aP (fun _ hk => hk.elim) ?aF ?aO ?aB ?aS ?aL ?_; (case aP => exact rfl); (case aB => exact (hbT HB.out)); (case aF => exact (fun _ _ => trivial)); (case aO => exact (roT HO_3.out)); (case aS => exact (below_size (hbT HB.out))); (case aL => have := LMc9.out; omega); intro v229 w11 ho hb hg hat; rw [← Ny228.out] at ho; replace BK222 := asT (blk_grown (g := gb222) (o := .cells #[.slice (some ad226) l0_0.length c0_0] 60 (0, 0)) (bkT BK222.out) hg (Kd.R_ne HO_3.out BK222.out (by decide))); replace HB := asT (hb); have HO230 := asT (ho); clear HO_3 ho hb hg hat))
       go_roundg k1
       case measure => have := HK1.out; omega
       case rel => exact ⟨(y228), (wrap64 (x4_1 + 1)), rdT, H', ⟨by have := HK1.out; omega⟩, ⟨by (with_reducible repeat (first | apply Kd.R_alloc | apply Kd.R_drewN | apply Kd.R_drew)); exact HO230.out⟩, kpT BK222.out, ⟨hbT HB.out⟩⟩
      ·rw [if_neg c9] at H
       exact absurd H (by simp)
    ·rw [if_neg c6] at H
     exact absurd H (by simp)
   ·rw [if_neg c5] at H
    have c5b0 : decide (x4_1 < (l0_0.length : Int)) = false := df c5
    clear c5
    obtain rfl := oI H
    have hcz12_0 := bc0 BK222.out
    have hfz12_0 := blk_frozen BK222.out 0; have hcv13 := own_string (P := Tryz.prog) Tryz.underlying91 Tryz.underlying5 Tryz.underlying9 (Kd.own_of_R HO_3.out)
    go_wp2
    go_ret
    exact ⟨rlT, hbT HB.out⟩
mutual
def spec_IsCandidate.l0 : Nat → Int → List (S109) → Option (Bool)
 | 0, _, _ => none
 | k + 1, x3, x232000 => if x3 < (x232000.length : Int) then (if 0 ≤ x3 then ((spec_SwapVoice.f ((rd_T109 x232000 x3).f0)).bind fun bt234 => (if ((rd_T109 x232000 x3).f0) = 0 then (if ((rd_T109 x232000 x3).f1) = 0 then (spec_IsCandidate.j1 k x3 bt234.1 bt234.2 (((rd_T109 x232000 x3).f1) == 0) x232000 ((rd_T109 x232000 x3).f0) ((rd_T109 x232000 x3).f1)) else ((spec_IsSound.f k ((rd_T109 x232000 x3).f1)).bind fun t236 => (if t236 = true then (spec_IsCandidate.j1 k x3 bt234.1 bt234.2 (((rd_T109 x232000 x3).f1) == 0) x232000 ((rd_T109 x232000 x3).f0) ((rd_T109 x232000 x3).f1)) else (spec_IsCandidate.j1 k x3 bt234.1 bt234.2 true x232000 ((rd_T109 x232000 x3).f0) ((rd_T109 x232000 x3).f1))))) else ((spec_IsSound.f k ((rd_T109 x232000 x3).f0)).bind fun t237 => (if t237 = true then (if ((rd_T109 x232000 x3).f1) = 0 then (spec_IsCandidate.j1 k x3 bt234.1 bt234.2 false x232000 ((rd_T109 x232000 x3).f0) ((rd_T109 x232000 x3).f1)) else ((spec_IsSound.f k ((rd_T109 x232000 x3).f1)).bind fun t238 => (if t238 = true then (spec_IsCandidate.j1 k x3 bt234.1 bt234.2 false x232000 ((rd_T109 x232000 x3).f0) ((rd_T109 x232000 x3).f1)) else (spec_IsCandidate.j1 k x3 bt234.1 bt234.2 true x232000 ((rd_T109 x232000 x3).f0) ((rd_T109 x232000 x3).f1))))) else (spec_IsCandidate.j1 k x3 bt234.1 bt234.2 true x232000 ((rd_T109 x232000 x3).f0) ((rd_T109 x232000 x3).f1)))))) else (none)) else (if (x232000.length : Int) ≤ 16 then ((spec_l6In.f k x232000).bind fun t239 => ((spec_IsForm.f k t239).bind fun t240 => (if t240 = true then ((spec_l6Out.f k x232000).bind fun t241 => ((spec_IsForm.f k t241).bind fun t242 => (some t242))) else (some false)))) else (some false))
def spec_IsCandidate.j1 : Nat → Int → Int → Bool → Bool → List (S109) → Int → Int → Option (Bool)
 | 0, _, _, _, _, _, _, _ => none
 | k + 1, x3, x5, x6, x54, x232000, x234000, x234001 => if x54 = true then (some false) else (if x234000 = 0 then (spec_IsCandidate.l0 k (wrap64 (x3 + 1)) x232000) else (if x234001 = 0 then (spec_IsCandidate.l0 k (wrap64 (x3 + 1)) x232000) else (if x234000 = x234001 then (spec_IsCandidate.l0 k (wrap64 (x3 + 1)) x232000) else (if x6 = true then (if x5 = x234001 then (spec_IsCandidate.l0 k (wrap64 (x3 + 1)) x232000) else (some false)) else (some false)))))
end
def spec_IsCandidate.f (k : Nat) (l0_0 : List (S109)) : Option (Bool) := spec_IsCandidate.l0 k 0 l0_0
theorem spec_IsCandidate.mono_l : ∀ k, (∀ y0 y1, LeO (spec_IsCandidate.l0 k y0 y1) (spec_IsCandidate.l0 (k + 1) y0 y1)) ∧ (∀ y0 y1 y2 y3 y4 y5 y6, LeO (spec_IsCandidate.j1 k y0 y1 y2 y3 y4 y5 y6) (spec_IsCandidate.j1 (k + 1) y0 y1 y2 y3 y4 y5 y6))
 | 0 => ⟨fun _ _ r h => by simp [spec_IsCandidate.l0] at h, fun _ _ _ _ _ _ _ r h => by simp [spec_IsCandidate.j1] at h⟩
 | k + 1 => by
  obtain ⟨ih0, ih1⟩ := spec_IsCandidate.mono_l k; refine ⟨?_, ?_⟩
  ·intro y0 y1
   unfold spec_IsCandidate.l0
   with_reducible repeat' first | exact ih0 _ _ | exact ih1 _ _ _ _ _ _ _ | exact spec_IsForm.mono _ _ | exact spec_IsSound.mono _ _ | exact spec_l6In.mono _ _ | exact spec_l6Out.mono _ _ | exact LeO.refl _ | exact LeO.none _ | refine LeO.ite ?_ ?_ | refine LeO.bind ?_ (fun _ => ?_)
  ·intro y0 y1 y2 y3 y4 y5 y6
   unfold spec_IsCandidate.j1
   with_reducible repeat' first | exact ih0 _ _ | exact ih1 _ _ _ _ _ _ _ | exact spec_IsForm.mono _ _ | exact spec_IsSound.mono _ _ | exact spec_l6In.mono _ _ | exact spec_l6Out.mono _ _ | exact LeO.refl _ | exact LeO.none _ | refine LeO.ite ?_ ?_ | refine LeO.bind ?_ (fun _ => ?_)
theorem spec_IsCandidate.mono : ∀ a0 k, LeO (spec_IsCandidate.f k a0) (spec_IsCandidate.f (k + 1) a0) := by
 intro a0 k
 obtain ⟨ih0, ih1⟩ := spec_IsCandidate.mono_l k
 unfold spec_IsCandidate.f
 with_reducible repeat' first | exact ih0 _ _ | exact ih1 _ _ _ _ _ _ _ | exact spec_IsForm.mono _ _ | exact spec_IsSound.mono _ _ | exact spec_l6In.mono _ _ | exact spec_l6Out.mono _ _ | exact LeO.refl _ | exact LeO.none _ | refine LeO.ite ?_ ?_ | refine LeO.bind ?_ (fun _ => ?_)
theorem spec_IsCandidate.calls (k : Nat) (A0_0 : Option Addr) (c0_0 : Nat) (l0_0 : List (S109)) (r : Bool) (w : World) (hr0_0 : Kd.C k109 w A0_0 l0_0.length l0_0) (hc0_0 : l0_0.length ≤ c0_0) (h : spec_IsCandidate.f k l0_0 = some r) :
  Calls Tryz.prog 78 #[.agg #[.slice A0_0 l0_0.length c0_0]] w fun e w' => e = .returned (.bool r) ∧ Below w.heap.size w w' := by
 have hu60 := Tryz.underlying60; have hu109 := Tryz.underlying109; have HR0_0 := asT hr0_0; have HC0_0 := asT hc0_0; clear hr0_0 hc0_0; have HB := asT (Below.refl w.heap.size w); have H := h; unfold spec_IsCandidate.f at H; clear h; have H' := asT H; clear H
 go_enter Tryz.func78, Tryz.ntmps78
 go_wp2_with (first | ((with_reducible refine gate_dst (N := 1) rfl ?_); refine boxT (N := 1) (cs := #[.slice A0_0 l0_0.length c0_0]) (t := 60) ?_; intro gb231 hg w2 hbox hb; have BK231 := asT hbox; have GW231 := asT (geT hg HB.out); have GE231 := GW231; replace HB := hS HB hb; clear hb hbox hg))
 go_loopg [3] k (fun kq v3 w' => ∃ (x3_1 : Int), v3 = .int .i64 x3_1 ∧ Aside0 (spec_IsCandidate.l0 kq x3_1 l0_0 = some r) ∧ Aside0 (kq ≤ k) ∧ Aside0 (w'.heap[gb231]? = some (.cells #[(.slice A0_0 l0_0.length c0_0)] 60 (0, 0))) ∧ Aside0 (Below w.heap.size w w'))
 case atStart => exact ⟨(0), rdT, H', ⟨Nat.le_refl _⟩, kpT BK231.out, ⟨hbT HB.out⟩⟩
 case round =>
  clear H'; (try clear p2); obtain ⟨x3_1, rfl, HA, HK1, BK231, HB⟩ := hrel
  cases gk with
  | zero => exact absurd HA.out (by simp [spec_IsCandidate.l0])
  | succ k1 =>
   have H := HA.out; clear HA
   simp only [spec_IsCandidate.l0] at H
   by_cases c3 : x3_1 < (l0_0.length : Int)
   ·rw [if_pos c3] at H
    have c3b0 : decide (x3_1 < (l0_0.length : Int)) = true := dt c3
    clear c3
    by_cases c4 : 0 ≤ x3_1
    ·rw [if_pos c4] at H
     have c4b0 : decide (0 ≤ x3_1) = true := dt c4
     clear c4; replace H := Option.bind_eq_some_iff.mp H; obtain ⟨⟨t234, t235⟩, A50, H⟩ := H; replace H : (if ((rd_T109 l0_0 x3_1).f0) = 0 then (if ((rd_T109 l0_0 x3_1).f1) = 0 then (spec_IsCandidate.j1 k1 x3_1 t234 t235 (((rd_T109 l0_0 x3_1).f1) == 0) l0_0 ((rd_T109 l0_0 x3_1).f0) ((rd_T109 l0_0 x3_1).f1)) else ((spec_IsSound.f k1 ((rd_T109 l0_0 x3_1).f1)).bind fun t236 => (if t236 = true then (spec_IsCandidate.j1 k1 x3_1 t234 t235 (((rd_T109 l0_0 x3_1).f1) == 0) l0_0 ((rd_T109 l0_0 x3_1).f0) ((rd_T109 l0_0 x3_1).f1)) else (spec_IsCandidate.j1 k1 x3_1 t234 t235 true l0_0 ((rd_T109 l0_0 x3_1).f0) ((rd_T109 l0_0 x3_1).f1))))) else ((spec_IsSound.f k1 ((rd_T109 l0_0 x3_1).f0)).bind fun t237 => (if t237 = true then (if ((rd_T109 l0_0 x3_1).f1) = 0 then (spec_IsCandidate.j1 k1 x3_1 t234 t235 false l0_0 ((rd_T109 l0_0 x3_1).f0) ((rd_T109 l0_0 x3_1).f1)) else ((spec_IsSound.f k1 ((rd_T109 l0_0 x3_1).f1)).bind fun t238 => (if t238 = true then (spec_IsCandidate.j1 k1 x3_1 t234 t235 false l0_0 ((rd_T109 l0_0 x3_1).f0) ((rd_T109 l0_0 x3_1).f1)) else (spec_IsCandidate.j1 k1 x3_1 t234 t235 true l0_0 ((rd_T109 l0_0 x3_1).f0) ((rd_T109 l0_0 x3_1).f1))))) else (spec_IsCandidate.j1 k1 x3_1 t234 t235 true l0_0 ((rd_T109 l0_0 x3_1).f0) ((rd_T109 l0_0 x3_1).f1))))) = some r := H; have A5 := asT A50; clear A50; have HC6 := asT H; clear H
     have hcz7_0 := bc0 BK231.out
     have hfz7_0 := blk_frozen BK231.out 0
     have p232 : 0 ≤ (x3_1 : Int) := dT asmT
     have q232 : x3_1 < (l0_0.length : Int) := dT asmT
     obtain ⟨ad232, e232, hx232_0, hx232_1⟩ := at_T109 HR0_0.out x3_1 p232 q232
     cases e232
     replace hx232_0 := hbc HB.out hx232_0; replace hx232_1 := hbc HB.out hx232_1; replace p232 := eq_true p232; replace q232 := eq_true q232
     go_upto_region 6 with (first | ((with_reducible refine gate_dst (N := 4) rfl ?_); refine boxT (N := 4) (cs := #[.int .u8 0, .int .u8 0]) (t := 109) ?_; intro gb233 hg w8 hbox hb; have BK233 := asT (hbox); have GW233 := asT (geT hg HB.out); have GE233 := asT (geT hg HB.out); replace HB := hS HB hb; have NB231_233 := asT ((by rw [hg]; exact Nat.ne_of_lt (blk_lt (g := gb231) (o := .cells #[.slice (some ad232) l0_0.length c0_0] 60 (0, 0)) (bkT BK231.out)) : gb231 ≠ gb233)); have NB233_231 := asT ((by rw [hg]; exact Nat.ne_of_gt (blk_lt (g := gb231) (o := .cells #[.slice (some ad232) l0_0.length c0_0] 60 (0, 0)) (bkT BK231.out)) : gb233 ≠ gb231)); replace BK231 := bS BK231 hb; clear hb hbox hg; have hnb9 := NB233_231.out; have hnc9 := NB231_233.out; obtain ⟨hcz10_0, hcz10_1, hfz10_0, hfz10_1⟩ := bx2 BK233.out) | ((with_reducible refine gate_callee (f := 110) rfl ?_); refine goesL_ (some 22) rfl rfl Tryz.func110 (by kernel_rfl) rfl #[.int .u8 ((rd_T109 l0_0 x3_1).f0)] rfl eqT ?_; (with_reducible refine (spec_SwapVoice.calls ((rd_T109 l0_0 x3_1).f0) t234 t235 _ A5.out).mono ?_); rintro e w' ⟨rfl, ⟨nd, rfl⟩⟩; refine ⟨_, rfl, ?_⟩))
     (try simp only [Act.put, sA, sZ, sS])
     go_cut [54] (fun v54 wc => ∃ (kq : Nat) (x54_5 : Bool), v54 = .bool x54_5 ∧ Aside0 (spec_IsCandidate.j1 kq x3_1 t234 t235 x54_5 l0_0 ((rd_T109 l0_0 x3_1).f0) ((rd_T109 l0_0 x3_1).f1) = some r) ∧ Aside0 (kq ≤ k1) ∧ Aside0 (wc.heap[gb231]? = some (.cells #[(.slice (some ad232) l0_0.length c0_0)] 60 (0, 0))) ∧ Aside0 (wc.heap[gb233]? = some (.cells #[.int .u8 ((rd_T109 l0_0 x3_1).f0), .int .u8 ((rd_T109 l0_0 x3_1).f1)] 109 (0, 0))) ∧ Aside0 (Below w.heap.size w wc))
     case first =>
      have H := HC6.out; clear HC6
      by_cases c11 : ((rd_T109 l0_0 x3_1).f0) = 0
      ·rw [if_pos c11] at H
       have c11b0 : (((rd_T109 l0_0 x3_1).f0) == 0) = true := eC c11
       have c11b1 : (((rd_T109 l0_0 x3_1).f0) != 0) = false := eA c11
       clear c11
       (first | rw [c11b0] | (simp only [i64_w, i32_w]; rw [c11b0]) | skip)
       by_cases c12 : ((rd_T109 l0_0 x3_1).f1) = 0
       ·rw [if_pos c12] at H
        have c12b0 : (((rd_T109 l0_0 x3_1).f1) == 0) = true := eC c12
        have c12b1 : (((rd_T109 l0_0 x3_1).f1) != 0) = false := eA c12
        clear c12; have H' := asT H; clear H; have hnb13 := NB233_231.out; have hnc13 := NB231_233.out
        have hcz14_0 := bc0 BK233.out
        have hcz14_1 := bc1 BK233.out
        have hfz14_0 := blk_frozen BK233.out 0; have hfz14_1 := blk_frozen BK233.out 1
        go_wp2
        go_meet
        case rel => exact ⟨_, ((((rd_T109 l0_0 x3_1).f1) == 0)), rdT, H', ⟨by have := HK1.out; first | omega | exact Nat.le_refl _⟩, ⟨by (with_reducible repeat (first | refine blk_drewN ?_ _ | refine blk_drew ?_ | refine blk_alloc ?_ _)); refine blk_far ?_ NB231_233.out _; (with_reducible repeat (first | refine blk_drewN ?_ _ | refine blk_drew ?_ | refine blk_alloc ?_ _)); refine blk_far ?_ NB231_233.out _; (with_reducible repeat (first | refine blk_drewN ?_ _ | refine blk_drew ?_ | refine blk_alloc ?_ _)); exact BK231.out⟩, ⟨by (with_reducible repeat (first | refine blk_drewN ?_ _ | refine blk_drew ?_ | refine blk_alloc ?_ _)); refine blk_put (cs := #[.int .u8 ((rd_T109 l0_0 x3_1).f0), .int .u8 0]) ?_ 1 _ rfl; (with_reducible repeat (first | refine blk_drewN ?_ _ | refine blk_drew ?_ | refine blk_alloc ?_ _)); refine blk_put (cs := #[.int .u8 0, .int .u8 0]) ?_ 0 _ rfl; (with_reducible repeat (first | refine blk_drewN ?_ _ | refine blk_drew ?_ | refine blk_alloc ?_ _)); exact BK233.out⟩, ⟨hbT HB.out⟩⟩
       ·rw [if_neg c12] at H
        have c12b0 : (((rd_T109 l0_0 x3_1).f1) == 0) = false := eB c12
        have c12b1 : (((rd_T109 l0_0 x3_1).f1) != 0) = true := eD c12
        obtain ⟨t236, A15, H⟩ := be H
        by_cases c16 : t236 = true
        ·subst c16
         rw [if_pos rfl] at H; have H' := asT H; clear H; have hnb17 := NB233_231.out; have hnc17 := NB231_233.out
         have hcz18_0 := bc0 BK233.out
         have hcz18_1 := bc1 BK233.out
         have hfz18_0 := blk_frozen BK233.out 0; have hfz18_1 := blk_frozen BK233.out 1
         go_wp2_with (first | (go_at_call 108; (with_reducible refine (spec_IsSound.calls k1 ((rd_T109 l0_0 x3_1).f1) true _ A15.out).mono ?_); rintro e w' ⟨rfl, ⟨nd, rfl⟩⟩))
         go_meet
         case rel => exact ⟨_, ((((rd_T109 l0_0 x3_1).f1) == 0)), rdT, H', ⟨by have := HK1.out; first | omega | exact Nat.le_refl _⟩, ⟨by (with_reducible repeat (first | refine blk_drewN ?_ _ | refine blk_drew ?_ | refine blk_alloc ?_ _)); refine blk_far ?_ NB231_233.out _; (with_reducible repeat (first | refine blk_drewN ?_ _ | refine blk_drew ?_ | refine blk_alloc ?_ _)); refine blk_far ?_ NB231_233.out _; (with_reducible repeat (first | refine blk_drewN ?_ _ | refine blk_drew ?_ | refine blk_alloc ?_ _)); exact BK231.out⟩, ⟨by (with_reducible repeat (first | refine blk_drewN ?_ _ | refine blk_drew ?_ | refine blk_alloc ?_ _)); refine blk_put (cs := #[.int .u8 ((rd_T109 l0_0 x3_1).f0), .int .u8 0]) ?_ 1 _ rfl; (with_reducible repeat (first | refine blk_drewN ?_ _ | refine blk_drew ?_ | refine blk_alloc ?_ _)); refine blk_put (cs := #[.int .u8 0, .int .u8 0]) ?_ 0 _ rfl; (with_reducible repeat (first | refine blk_drewN ?_ _ | refine blk_drew ?_ | refine blk_alloc ?_ _)); exact BK233.out⟩, ⟨hbT HB.out⟩⟩
        ·replace c16 := eE c16
         subst c16; rw [if_neg nF] at H; have H' := asT H; clear H; have hnb19 := NB233_231.out; have hnc19 := NB231_233.out
         have hcz20_0 := bc0 BK233.out
         have hcz20_1 := bc1 BK233.out
         have hfz20_0 := blk_frozen BK233.out 0; have hfz20_1 := blk_frozen BK233.out 1
         go_wp2_with (first | (go_at_call 108; (with_reducible refine (spec_IsSound.calls k1 ((rd_T109 l0_0 x3_1).f1) false _ A15.out).mono ?_); rintro e w' ⟨rfl, ⟨nd, rfl⟩⟩))
         go_meet
         case rel => exact ⟨_, (true), rdT, H', ⟨by have := HK1.out; first | omega | exact Nat.le_refl _⟩, ⟨by (with_reducible repeat (first | refine blk_drewN ?_ _ | refine blk_drew ?_ | refine blk_alloc ?_ _)); refine blk_far ?_ NB231_233.out _; (with_reducible repeat (first | refine blk_drewN ?_ _ | refine blk_drew ?_ | refine blk_alloc ?_ _)); refine blk_far ?_ NB231_233.out _; (with_reducible repeat (first | refine blk_drewN ?_ _ | refine blk_drew ?_ | refine blk_alloc ?_ _)); exact BK231.out⟩, ⟨by (with_reducible repeat (first | refine blk_drewN ?_ _ | refine blk_drew ?_ | refine blk_alloc ?_ _)); refine blk_put (cs := #[.int .u8 ((rd_T109 l0_0 x3_1).f0), .int .u8 0]) ?_ 1 _ rfl; (with_reducible repeat (first | refine blk_drewN ?_ _ | refine blk_drew ?_ | refine blk_alloc ?_ _)); refine blk_put (cs := #[.int .u8 0, .int .u8 0]) ?_ 0 _ rfl; (with_reducible repeat (first | refine blk_drewN ?_ _ | refine blk_drew ?_ | refine blk_alloc ?_ _)); exact BK233.out⟩, ⟨hbT HB.out⟩⟩
      ·rw [if_neg c11] at H
       have c11b0 : (((rd_T109 l0_0 x3_1).f0) == 0) = false := eB c11
       have c11b1 : (((rd_T109 l0_0 x3_1).f0) != 0) = true := eD c11
       (first | rw [c11b0] | (simp only [i64_w, i32_w]; rw [c11b0]) | skip)
       obtain ⟨t237, A21, H⟩ := be H
       by_cases c22 : t237 = true
       ·subst c22
        rw [if_pos rfl] at H; have H1 := H; clear H; have H := H1; clear H1
        by_cases c23 : ((rd_T109 l0_0 x3_1).f1) = 0
        ·rw [if_pos c23] at H
         have c23b0 : (((rd_T109 l0_0 x3_1).f1) == 0) = true := eC c23
         have c23b1 : (((rd_T109 l0_0 x3_1).f1) != 0) = false := eA c23
         clear c23; have H' := asT H; clear H; have hnb24 := NB233_231.out; have hnc24 := NB231_233.out
         have hcz25_0 := bc0 BK233.out
         have hcz25_1 := bc1 BK233.out
         have hfz25_0 := blk_frozen BK233.out 0; have hfz25_1 := blk_frozen BK233.out 1
         go_wp2_with (first | (go_at_call 108; (with_reducible refine (spec_IsSound.calls k1 ((rd_T109 l0_0 x3_1).f0) true _ A21.out).mono ?_); rintro e w' ⟨rfl, ⟨nd, rfl⟩⟩))
         go_meet
         case rel => exact ⟨_, (false), rdT, H', ⟨by have := HK1.out; first | omega | exact Nat.le_refl _⟩, ⟨by (with_reducible repeat (first | refine blk_drewN ?_ _ | refine blk_drew ?_ | refine blk_alloc ?_ _)); refine blk_far ?_ NB231_233.out _; (with_reducible repeat (first | refine blk_drewN ?_ _ | refine blk_drew ?_ | refine blk_alloc ?_ _)); refine blk_far ?_ NB231_233.out _; (with_reducible repeat (first | refine blk_drewN ?_ _ | refine blk_drew ?_ | refine blk_alloc ?_ _)); exact BK231.out⟩, ⟨by (with_reducible repeat (first | refine blk_drewN ?_ _ | refine blk_drew ?_ | refine blk_alloc ?_ _)); refine blk_put (cs := #[.int .u8 ((rd_T109 l0_0 x3_1).f0), .int .u8 0]) ?_ 1 _ rfl; (with_reducible repeat (first | refine blk_drewN ?_ _ | refine blk_drew ?_ | refine blk_alloc ?_ _)); refine blk_put (cs := #[.int .u8 0, .int .u8 0]) ?_ 0 _ rfl; (with_reducible repeat (first | refine blk_drewN ?_ _ | refine blk_drew ?_ | refine blk_alloc ?_ _)); exact BK233.out⟩, ⟨hbT HB.out⟩⟩
        ·rw [if_neg c23] at H
         have c23b0 : (((rd_T109 l0_0 x3_1).f1) == 0) = false := eB c23
         have c23b1 : (((rd_T109 l0_0 x3_1).f1) != 0) = true := eD c23
         obtain ⟨t238, A26, H⟩ := be H
         by_cases c27 : t238 = true
         ·subst c27
          rw [if_pos rfl] at H; have H' := asT H; clear H; have hnb28 := NB233_231.out; have hnc28 := NB231_233.out
          have hcz29_0 := bc0 BK233.out
          have hcz29_1 := bc1 BK233.out
          have hfz29_0 := blk_frozen BK233.out 0; have hfz29_1 := blk_frozen BK233.out 1
          go_wp2_with (first | (go_at_call 108; (with_reducible refine (spec_IsSound.calls k1 ((rd_T109 l0_0 x3_1).f0) true _ A21.out).mono ?_); rintro e w' ⟨rfl, ⟨nd, rfl⟩⟩) | (go_at_call 108; (with_reducible refine (spec_IsSound.calls k1 ((rd_T109 l0_0 x3_1).f1) true _ A26.out).mono ?_); rintro e w' ⟨rfl, ⟨nd, rfl⟩⟩))
          go_meet
          case rel => exact ⟨_, (false), rdT, H', ⟨by have := HK1.out; first | omega | exact Nat.le_refl _⟩, ⟨by (with_reducible repeat (first | refine blk_drewN ?_ _ | refine blk_drew ?_ | refine blk_alloc ?_ _)); refine blk_far ?_ NB231_233.out _; (with_reducible repeat (first | refine blk_drewN ?_ _ | refine blk_drew ?_ | refine blk_alloc ?_ _)); refine blk_far ?_ NB231_233.out _; (with_reducible repeat (first | refine blk_drewN ?_ _ | refine blk_drew ?_ | refine blk_alloc ?_ _)); exact BK231.out⟩, ⟨by (with_reducible repeat (first | refine blk_drewN ?_ _ | refine blk_drew ?_ | refine blk_alloc ?_ _)); refine blk_put (cs := #[.int .u8 ((rd_T109 l0_0 x3_1).f0), .int .u8 0]) ?_ 1 _ rfl; (with_reducible repeat (first | refine blk_drewN ?_ _ | refine blk_drew ?_ | refine blk_alloc ?_ _)); refine blk_put (cs := #[.int .u8 0, .int .u8 0]) ?_ 0 _ rfl; (with_reducible repeat (first | refine blk_drewN ?_ _ | refine blk_drew ?_ | refine blk_alloc ?_ _)); exact BK233.out⟩, ⟨hbT HB.out⟩⟩
         ·replace c27 := eE c27
          subst c27; rw [if_neg nF] at H; have H' := asT H; clear H; have hnb30 := NB233_231.out; have hnc30 := NB231_233.out
          have hcz31_0 := bc0 BK233.out
          have hcz31_1 := bc1 BK233.out
          have hfz31_0 := blk_frozen BK233.out 0; have hfz31_1 := blk_frozen BK233.out 1
          go_wp2_with (first | (go_at_call 108; (with_reducible refine (spec_IsSound.calls k1 ((rd_T109 l0_0 x3_1).f0) true _ A21.out).mono ?_); rintro e w' ⟨rfl, ⟨nd, rfl⟩⟩) | (go_at_call 108; (with_reducible refine (spec_IsSound.calls k1 ((rd_T109 l0_0 x3_1).f1) false _ A26.out).mono ?_); rintro e w' ⟨rfl, ⟨nd, rfl⟩⟩))
          go_meet
          case rel => exact ⟨_, (true), rdT, H', ⟨by have := HK1.out; first | omega | exact Nat.le_refl _⟩, ⟨by (with_reducible repeat (first | refine blk_drewN ?_ _ | refine blk_drew ?_ | refine blk_alloc ?_ _)); refine blk_far ?_ NB231_233.out _; (with_reducible repeat (first | refine blk_drewN ?_ _ | refine blk_drew ?_ | refine blk_alloc ?_ _)); refine blk_far ?_ NB231_233.out _; (with_reducible repeat (first | refine blk_drewN ?_ _ | refine blk_drew ?_ | refine blk_alloc ?_ _)); exact BK231.out⟩, ⟨by (with_reducible repeat (first | refine blk_drewN ?_ _ | refine blk_drew ?_ | refine blk_alloc ?_ _)); refine blk_put (cs := #[.int .u8 ((rd_T109 l0_0 x3_1).f0), .int .u8 0]) ?_ 1 _ rfl; (with_reducible repeat (first | refine blk_drewN ?_ _ | refine blk_drew ?_ | refine blk_alloc ?_ _)); refine blk_put (cs := #[.int .u8 0, .int .u8 0]) ?_ 0 _ rfl; (with_reducible repeat (first | refine blk_drewN ?_ _ | refine blk_drew ?_ | refine blk_alloc ?_ _)); exact BK233.out⟩, ⟨hbT HB.out⟩⟩
       ·replace c22 := eE c22
        subst c22; rw [if_neg nF] at H; have H' := asT H; clear H; have hnb32 := NB233_231.out; have hnc32 := NB231_233.out
        have hcz33_0 := bc0 BK233.out
        have hcz33_1 := bc1 BK233.out
        have hfz33_0 := blk_frozen BK233.out 0; have hfz33_1 := blk_frozen BK233.out 1
        go_wp2_with (first | (go_at_call 108; (with_reducible refine (spec_IsSound.calls k1 ((rd_T109 l0_0 x3_1).f0) false _ A21.out).mono ?_); rintro e w' ⟨rfl, ⟨nd, rfl⟩⟩))
        go_meet
        case rel => exact ⟨_, (true), rdT, H', ⟨by have := HK1.out; first | omega | exact Nat.le_refl _⟩, ⟨by (with_reducible repeat (first | refine blk_drewN ?_ _ | refine blk_drew ?_ | refine blk_alloc ?_ _)); refine blk_far ?_ NB231_233.out _; (with_reducible repeat (first | refine blk_drewN ?_ _ | refine blk_drew ?_ | refine blk_alloc ?_ _)); refine blk_far ?_ NB231_233.out _; (with_reducible repeat (first | refine blk_drewN ?_ _ | refine blk_drew ?_ | refine blk_alloc ?_ _)); exact BK231.out⟩, ⟨by (with_reducible repeat (first | refine blk_drewN ?_ _ | refine blk_drew ?_ | refine blk_alloc ?_ _)); refine blk_put (cs := #[.int .u8 ((rd_T109 l0_0 x3_1).f0), .int .u8 0]) ?_ 1 _ rfl; (with_reducible repeat (first | refine blk_drewN ?_ _ | refine blk_drew ?_ | refine blk_alloc ?_ _)); refine blk_put (cs := #[.int .u8 0, .int .u8 0]) ?_ 0 _ rfl; (with_reducible repeat (first | refine blk_drewN ?_ _ | refine blk_drew ?_ | refine blk_alloc ?_ _)); exact BK233.out⟩, ⟨hbT HB.out⟩⟩
     case rest =>
      clear HC6; (try clear c1 c2 p2 q2 hx2 c3 c3b0 c4 c4b0 c7 c9 c11 c11b0 c11b1 c12 c12b0 c12b1 c13 c16 c17 c19 c22 c23 c23b0 c23b1 p23 q23 hx23 c24 c27 c28 c30 c32 hcz10_0 hcz10_1 hcz14_0 hcz14_1 hcz18_0 hcz18_1 hcz20_0 hcz20_1 hcz25_0 hcz25_1 hcz29_0 hcz29_1 hcz31_0 hcz31_1 hcz33_0 hcz33_1 hcz7_0 hfz10_0 hfz10_1 hfz14_0 hfz14_1 hfz18_0 hfz18_1 hfz20_0 hfz20_1 hfz25_0 hfz25_1 hfz29_0 hfz29_1 hfz31_0 hfz31_1 hfz33_0 hfz33_1 hfz7_0 hx232_0 hx232_1 p2 p232 q232); obtain ⟨kq, x54_5, rfl, HA, HJ5, BK231, BK233, HB⟩ := hcut
      cases kq with
      | zero => exact absurd HA.out (by simp [spec_IsCandidate.j1])
      | succ kj5 =>
       have H := HA.out; clear HA
       simp only [spec_IsCandidate.j1] at H
       by_cases c34 : x54_5 = true
       ·subst c34
        rw [if_pos rfl] at H; have H1 := H; clear H; have H := H1; clear H1
        obtain rfl := oI H
        go_wp2
        go_ret
        exact ⟨rlT, hbT HB.out⟩
       ·replace c34 := eE c34
        subst c34; rw [if_neg nF] at H; have H1 := H; clear H; have H := H1; clear H1
        by_cases c35 : ((rd_T109 l0_0 x3_1).f0) = 0
        ·rw [if_pos c35] at H
         have c35b0 : (((rd_T109 l0_0 x3_1).f0) == 0) = true := eC c35
         have c35b1 : (((rd_T109 l0_0 x3_1).f0) != 0) = false := eA c35
         clear c35; have H' := asT H; clear H; have hnb36 := NB233_231.out; have hnc36 := NB231_233.out
         have hcz37_0 := bc0 BK233.out
         have hcz37_1 := bc1 BK233.out
         have hfz37_0 := blk_frozen BK233.out 0; have hfz37_1 := blk_frozen BK233.out 1
         go_wp2
         go_roundg kj5
         case measure => have := HK1.out; have := HJ5.out; omega
         case rel => exact ⟨(wrap64 (x3_1 + 1)), rdT, H', ⟨by have := HK1.out; have := HJ5.out; omega⟩, kpT BK231.out, ⟨hbT HB.out⟩⟩
        ·rw [if_neg c35] at H
         have c35b0 : (((rd_T109 l0_0 x3_1).f0) == 0) = false := eB c35
         have c35b1 : (((rd_T109 l0_0 x3_1).f0) != 0) = true := eD c35
         by_cases c38 : ((rd_T109 l0_0 x3_1).f1) = 0
         ·rw [if_pos c38] at H
          have c38b0 : (((rd_T109 l0_0 x3_1).f1) == 0) = true := eC c38
          have c38b1 : (((rd_T109 l0_0 x3_1).f1) != 0) = false := eA c38
          clear c38; have H' := asT H; clear H; have hnb39 := NB233_231.out; have hnc39 := NB231_233.out
          have hcz40_0 := bc0 BK233.out
          have hcz40_1 := bc1 BK233.out
          have hfz40_0 := blk_frozen BK233.out 0; have hfz40_1 := blk_frozen BK233.out 1
          go_wp2
          go_roundg kj5
          case measure => have := HK1.out; have := HJ5.out; omega
          case rel => exact ⟨(wrap64 (x3_1 + 1)), rdT, H', ⟨by have := HK1.out; have := HJ5.out; omega⟩, kpT BK231.out, ⟨hbT HB.out⟩⟩
         ·rw [if_neg c38] at H
          have c38b0 : (((rd_T109 l0_0 x3_1).f1) == 0) = false := eB c38
          have c38b1 : (((rd_T109 l0_0 x3_1).f1) != 0) = true := eD c38
          by_cases c41 : ((rd_T109 l0_0 x3_1).f0) = ((rd_T109 l0_0 x3_1).f1)
          ·rw [if_pos c41] at H
           have c41b0 : (((rd_T109 l0_0 x3_1).f0) == ((rd_T109 l0_0 x3_1).f1)) = true := eC c41
           have c41b1 : (((rd_T109 l0_0 x3_1).f0) != ((rd_T109 l0_0 x3_1).f1)) = false := eA c41
           clear c41; have H' := asT H; clear H; have hnb42 := NB233_231.out; have hnc42 := NB231_233.out
           have hcz43_0 := bc0 BK233.out
           have hcz43_1 := bc1 BK233.out
           have hfz43_0 := blk_frozen BK233.out 0; have hfz43_1 := blk_frozen BK233.out 1
           go_wp2
           go_roundg kj5
           case measure => have := HK1.out; have := HJ5.out; omega
           case rel => exact ⟨(wrap64 (x3_1 + 1)), rdT, H', ⟨by have := HK1.out; have := HJ5.out; omega⟩, kpT BK231.out, ⟨hbT HB.out⟩⟩
          ·rw [if_neg c41] at H
           have c41b0 : (((rd_T109 l0_0 x3_1).f0) == ((rd_T109 l0_0 x3_1).f1)) = false := eB c41
           have c41b1 : (((rd_T109 l0_0 x3_1).f0) != ((rd_T109 l0_0 x3_1).f1)) = true := eD c41
           by_cases c44 : t235 = true
           ·subst c44
            rw [if_pos rfl] at H; have H1 := H; clear H; have H := H1; clear H1
            by_cases c45 : t234 = ((rd_T109 l0_0 x3_1).f1)
            ·rw [if_pos c45] at H
             have c45b0 : (t234 == ((rd_T109 l0_0 x3_1).f1)) = true := eC c45
             have c45b1 : (t234 != ((rd_T109 l0_0 x3_1).f1)) = false := eA c45
             clear c45; have H' := asT H; clear H; have hnb46 := NB233_231.out; have hnc46 := NB231_233.out
             have hcz47_0 := bc0 BK233.out
             have hcz47_1 := bc1 BK233.out
             have hfz47_0 := blk_frozen BK233.out 0; have hfz47_1 := blk_frozen BK233.out 1
             go_wp2
             go_roundg kj5
             case measure => have := HK1.out; have := HJ5.out; omega
             case rel => exact ⟨(wrap64 (x3_1 + 1)), rdT, H', ⟨by have := HK1.out; have := HJ5.out; omega⟩, kpT BK231.out, ⟨hbT HB.out⟩⟩
            ·rw [if_neg c45] at H
             have c45b0 : (t234 == ((rd_T109 l0_0 x3_1).f1)) = false := eB c45
             have c45b1 : (t234 != ((rd_T109 l0_0 x3_1).f1)) = true := eD c45
             obtain rfl := oI H
             have hnb48 := NB233_231.out; have hnc48 := NB231_233.out
             have hcz49_0 := bc0 BK233.out
             have hcz49_1 := bc1 BK233.out
             have hfz49_0 := blk_frozen BK233.out 0; have hfz49_1 := blk_frozen BK233.out 1
             go_wp2
             go_ret
             exact ⟨rlT, hbT HB.out⟩
           ·replace c44 := eE c44
            subst c44; rw [if_neg nF] at H; have H1 := H; clear H; have H := H1; clear H1
            obtain rfl := oI H
            have hnb50 := NB233_231.out; have hnc50 := NB231_233.out
            have hcz51_0 := bc0 BK233.out
            have hcz51_1 := bc1 BK233.out
            have hfz51_0 := blk_frozen BK233.out 0; have hfz51_1 := blk_frozen BK233.out 1
            go_wp2
            go_ret
            exact ⟨rlT, hbT HB.out⟩
    ·rw [if_neg c4] at H
     exact absurd H (by simp)
   ·rw [if_neg c3] at H
    have c3b0 : decide (x3_1 < (l0_0.length : Int)) = false := df c3
    clear c3
    by_cases c52 : (l0_0.length : Int) ≤ 16
    ·rw [if_pos c52] at H
     have c52b0 : decide ((l0_0.length : Int) ≤ 16) = true := dt c52
     have c52b1 : decide (l0_0.length ≤ 16) = true := dt (by omega)
     clear c52; obtain ⟨t239, A53, H⟩ := be H; obtain ⟨t240, A54, H⟩ := be H
     by_cases c55 : t240 = true
     ·subst c55
      rw [if_pos rfl] at H; obtain ⟨t241, A56, H⟩ := be H; obtain ⟨t242, A57, H⟩ := be H
      obtain rfl := oI H
      have hcz58_0 := bc0 BK231.out
      have hfz58_0 := blk_frozen BK231.out 0
      go_wp2_with (first | (go_at_call 111; (with_reducible refine (spec_l6In.calls k1 _ _ l0_0 t239 _ ?side1 ?side2 A53.out).mono ?_); (case side1 => exact crT HR0_0.out HB.out); (case side2 => exact HC0_0.out); rintro e w59 ⟨rfl, hb⟩; replace BK231 := bS BK231 hb; replace HB := hS HB hb; (try clear hb hb2 hk hi)) | (go_at_call 36; (with_reducible refine (spec_IsForm.calls k1 t239 true _ A54.out).mono ?_); rintro e w' ⟨rfl, ⟨nd, rfl⟩⟩; obtain ⟨hcz60_0, hfz60_0⟩ := bx1 BK231.out) | (go_at_call 105; (with_reducible refine (spec_l6Out.calls k1 _ _ l0_0 t241 _ ?side1 ?side2 A56.out).mono ?_); (case side1 => exact crT HR0_0.out (hbT HB.out)); (case side2 => exact HC0_0.out); rintro e w61 ⟨rfl, hb⟩; replace BK231 := bS BK231 hb; replace HB := hS HB hb; (try clear hb hb2 hk hi)) | (go_at_call 36; (with_reducible refine (spec_IsForm.calls k1 t241 t242 _ A57.out).mono ?_); rintro e w' ⟨rfl, ⟨nd, rfl⟩⟩))
      go_ret
      exact ⟨rlT, hbT HB.out⟩
     ·replace c55 := eE c55
      subst c55; rw [if_neg nF] at H; have H1 := H; clear H; have H := H1; clear H1
      obtain rfl := oI H
      have hcz62_0 := bc0 BK231.out
      have hfz62_0 := blk_frozen BK231.out 0
      go_wp2_with (first | (go_at_call 111; (with_reducible refine (spec_l6In.calls k1 _ _ l0_0 t239 _ ?side1 ?side2 A53.out).mono ?_); (case side1 => exact crT HR0_0.out HB.out); (case side2 => exact HC0_0.out); rintro e w63 ⟨rfl, hb⟩; replace BK231 := bS BK231 hb; replace HB := hS HB hb; (try clear hb hb2 hk hi)) | (go_at_call 36; (with_reducible refine (spec_IsForm.calls k1 t239 false _ A54.out).mono ?_); rintro e w' ⟨rfl, ⟨nd, rfl⟩⟩))
      go_ret
      exact ⟨rlT, hbT HB.out⟩
    ·rw [if_neg c52] at H
     have c52b0 : decide ((l0_0.length : Int) ≤ 16) = false := df c52
     have c52b1 : decide (l0_0.length ≤ 16) = false := df (by omega)
     clear c52
     obtain rfl := oI H
     have hcz64_0 := bc0 BK231.out
     have hfz64_0 := blk_frozen BK231.out 0
     go_wp2
     go_ret
     exact ⟨rlT, hbT HB.out⟩
def spec_OutputOf.f (k : Nat) (l0_0 : List (S109)) : Option (ByteArray) := (spec_IsCandidate.f k l0_0).bind fun t244 => (if t244 = true then ((spec_l6Out.f k l0_0).bind fun t245 => (some t245)) else (some (⟨#[]⟩ : ByteArray)))
theorem spec_OutputOf.mono : ∀ a0 k, LeO (spec_OutputOf.f k a0) (spec_OutputOf.f (k + 1) a0) := by
 intro a0 k
 unfold spec_OutputOf.f
 with_reducible repeat' first | exact spec_IsCandidate.mono _ _ | exact spec_l6Out.mono _ _ | exact LeO.refl _ | exact LeO.none _ | refine LeO.ite ?_ ?_ | refine LeO.bind ?_ (fun _ => ?_)
theorem spec_OutputOf.calls (k : Nat) (A0_0 : Option Addr) (c0_0 : Nat) (l0_0 : List (S109)) (r : ByteArray) (w : World) (hr0_0 : Kd.C k109 w A0_0 l0_0.length l0_0) (hc0_0 : l0_0.length ≤ c0_0) (h : spec_OutputOf.f k l0_0 = some r) :
  Calls Tryz.prog 71 #[.agg #[.slice A0_0 l0_0.length c0_0]] w fun e w' => e = .returned (.string r) ∧ Below w.heap.size w w' := by
 have hu60 := Tryz.underlying60; have HR0_0 := asT hr0_0; have HC0_0 := asT hc0_0; clear hr0_0 hc0_0; have HB := asT (Below.refl w.heap.size w); have H := h; unfold spec_OutputOf.f at H; clear h; obtain ⟨t244, A2, H⟩ := be H
 by_cases c3 : t244 = true
 ·subst c3
  rw [if_pos rfl] at H; obtain ⟨t245, A4, H⟩ := be H
  obtain rfl := oI H
  go_enter Tryz.func71, Tryz.ntmps71
  go_wp2_with (first | ((with_reducible refine gate_dst (N := 1) rfl ?_); refine boxT (N := 1) (cs := #[.slice A0_0 l0_0.length c0_0]) (t := 60) ?_; intro gb243 hg w5 hbox hb; have BK243 := asT hbox; have GW243 := asT (geT hg HB.out); have GE243 := GW243; replace HB := hS HB hb; clear hb hbox hg; obtain ⟨hcz6_0, hfz6_0⟩ := bx1 BK243.out) | ((with_reducible refine gate_callee (f := 78) rfl ?_); refine goesL_ (some 4) rfl rfl Tryz.func78 (by kernel_rfl) rfl #[.agg #[.slice A0_0 l0_0.length c0_0]] rfl eqT ?_; (with_reducible refine (spec_IsCandidate.calls k _ _ l0_0 true _ ?side1 ?side2 A2.out).mono ?_); (case side1 => exact crT HR0_0.out HB.out); (case side2 => exact HC0_0.out); rintro e w7 ⟨rfl, hb⟩; refine ⟨_, rfl, ?_⟩; replace BK243 := bS BK243 hb; replace HB := hS HB hb; (try clear hb hb2 hk hi); obtain ⟨hcz8_0, hfz8_0⟩ := bx1 BK243.out) | ((with_reducible refine gate_callee (f := 105) rfl ?_); refine goesL_ (some 7) rfl rfl Tryz.func105 (by kernel_rfl) rfl #[.agg #[.slice A0_0 l0_0.length c0_0]] rfl eqT ?_; (with_reducible refine (spec_l6Out.calls k _ _ l0_0 t245 _ ?side1 ?side2 A4.out).mono ?_); (case side1 => exact crT HR0_0.out HB.out); (case side2 => exact HC0_0.out); rintro e w9 ⟨rfl, hb⟩; refine ⟨_, rfl, ?_⟩; replace BK243 := bS BK243 hb; replace HB := hS HB hb; (try clear hb hb2 hk hi)))
  go_ret
  exact ⟨rlT, hbT HB.out⟩
 ·replace c3 := eE c3
  subst c3; rw [if_neg nF] at H; have H1 := H; clear H; have H := H1; clear H1
  obtain rfl := oI H
  go_enter Tryz.func71, Tryz.ntmps71
  go_wp2_with (first | ((with_reducible refine gate_dst (N := 1) rfl ?_); refine boxT (N := 1) (cs := #[.slice A0_0 l0_0.length c0_0]) (t := 60) ?_; intro gb243 hg w10 hbox hb; have BK243 := asT hbox; have GW243 := asT (geT hg HB.out); have GE243 := GW243; replace HB := hS HB hb; clear hb hbox hg; obtain ⟨hcz11_0, hfz11_0⟩ := bx1 BK243.out) | ((with_reducible refine gate_callee (f := 78) rfl ?_); refine goesL_ (some 4) rfl rfl Tryz.func78 (by kernel_rfl) rfl #[.agg #[.slice A0_0 l0_0.length c0_0]] rfl eqT ?_; (with_reducible refine (spec_IsCandidate.calls k _ _ l0_0 false _ ?side1 ?side2 A2.out).mono ?_); (case side1 => exact crT HR0_0.out HB.out); (case side2 => exact HC0_0.out); rintro e w12 ⟨rfl, hb⟩; refine ⟨_, rfl, ?_⟩; replace BK243 := bS BK243 hb; replace HB := hS HB hb; (try clear hb hb2 hk hi)))
  go_ret
  exact ⟨rlT, hbT HB.out⟩
def spec_HasFeature.f (a0 : Int) (a1 : Int) : Option (Bool) := if a1 = 0 then (if a0 = 97 then (some true) else (some (a0 == 105))) else (if a1 = 1 then (if a0 = 98 then (some true) else (if a0 = 100 then (some true) else (if a0 = 110 then (some true) else (if a0 = 97 then (some true) else (some (a0 == 105)))))) else (if a1 = 2 then (some (a0 == 110)) else (if a1 = 3 then (if a0 = 112 then (some true) else (some (a0 == 98))) else (if a1 = 4 then (some (a0 == 105)) else (some false)))))
theorem spec_HasFeature.calls (a0 : Int) (a1 : Int) (r : Bool) (w : World) (h : spec_HasFeature.f a0 a1 = some r) :
  Calls Tryz.prog 153 #[.int .u8 a0, .int .i64 a1] w fun e w' => e = .returned (.bool r) ∧ Drawn0 w w' := by
 have H := h; unfold spec_HasFeature.f at H; clear h
 by_cases c3 : a1 = 0
 ·rw [if_pos c3] at H
  have c3b0 : (a1 == 0) = true := eC c3
  have c3b1 : (a1 != 0) = false := eA c3
  clear c3
  by_cases c4 : a0 = 97
  ·rw [if_pos c4] at H
   have c4b0 : (a0 == 97) = true := eC c4
   have c4b1 : (a0 != 97) = false := eA c4
   clear c4
   obtain rfl := oI H
   go_enter Tryz.func153, Tryz.ntmps153
   go_wp2
   go_ret
   exact ⟨rdT, drT⟩
  ·rw [if_neg c4] at H
   have c4b0 : (a0 == 97) = false := eB c4
   have c4b1 : (a0 != 97) = true := eD c4
   obtain rfl := oI H
   go_enter Tryz.func153, Tryz.ntmps153
   go_wp2
   go_ret
   exact ⟨rdT, drT⟩
 ·rw [if_neg c3] at H
  have c3b0 : (a1 == 0) = false := eB c3
  have c3b1 : (a1 != 0) = true := eD c3
  by_cases c5 : a1 = 1
  ·rw [if_pos c5] at H
   have c5b0 : (a1 == 1) = true := eC c5
   have c5b1 : (a1 != 1) = false := eA c5
   clear c5
   by_cases c6 : a0 = 98
   ·rw [if_pos c6] at H
    have c6b0 : (a0 == 98) = true := eC c6
    have c6b1 : (a0 != 98) = false := eA c6
    clear c6
    obtain rfl := oI H
    go_enter Tryz.func153, Tryz.ntmps153
    go_wp2
    go_ret
    exact ⟨rdT, drT⟩
   ·rw [if_neg c6] at H
    have c6b0 : (a0 == 98) = false := eB c6
    have c6b1 : (a0 != 98) = true := eD c6
    by_cases c7 : a0 = 100
    ·rw [if_pos c7] at H
     have c7b0 : (a0 == 100) = true := eC c7
     have c7b1 : (a0 != 100) = false := eA c7
     clear c7
     obtain rfl := oI H
     go_enter Tryz.func153, Tryz.ntmps153
     go_wp2
     go_ret
     exact ⟨rdT, drT⟩
    ·rw [if_neg c7] at H
     have c7b0 : (a0 == 100) = false := eB c7
     have c7b1 : (a0 != 100) = true := eD c7
     by_cases c8 : a0 = 110
     ·rw [if_pos c8] at H
      have c8b0 : (a0 == 110) = true := eC c8
      have c8b1 : (a0 != 110) = false := eA c8
      clear c8
      obtain rfl := oI H
      go_enter Tryz.func153, Tryz.ntmps153
      go_wp2
      go_ret
      exact ⟨rdT, drT⟩
     ·rw [if_neg c8] at H
      have c8b0 : (a0 == 110) = false := eB c8
      have c8b1 : (a0 != 110) = true := eD c8
      by_cases c9 : a0 = 97
      ·rw [if_pos c9] at H
       have c9b0 : (a0 == 97) = true := eC c9
       have c9b1 : (a0 != 97) = false := eA c9
       clear c9
       obtain rfl := oI H
       go_enter Tryz.func153, Tryz.ntmps153
       go_wp2
       go_ret
       exact ⟨rdT, drT⟩
      ·rw [if_neg c9] at H
       have c9b0 : (a0 == 97) = false := eB c9
       have c9b1 : (a0 != 97) = true := eD c9
       obtain rfl := oI H
       go_enter Tryz.func153, Tryz.ntmps153
       go_wp2
       go_ret
       exact ⟨rdT, drT⟩
  ·rw [if_neg c5] at H
   have c5b0 : (a1 == 1) = false := eB c5
   have c5b1 : (a1 != 1) = true := eD c5
   by_cases c10 : a1 = 2
   ·rw [if_pos c10] at H
    have c10b0 : (a1 == 2) = true := eC c10
    have c10b1 : (a1 != 2) = false := eA c10
    clear c10
    obtain rfl := oI H
    go_enter Tryz.func153, Tryz.ntmps153
    go_wp2
    go_ret
    exact ⟨rdT, drT⟩
   ·rw [if_neg c10] at H
    have c10b0 : (a1 == 2) = false := eB c10
    have c10b1 : (a1 != 2) = true := eD c10
    by_cases c11 : a1 = 3
    ·rw [if_pos c11] at H
     have c11b0 : (a1 == 3) = true := eC c11
     have c11b1 : (a1 != 3) = false := eA c11
     clear c11
     by_cases c12 : a0 = 112
     ·rw [if_pos c12] at H
      have c12b0 : (a0 == 112) = true := eC c12
      have c12b1 : (a0 != 112) = false := eA c12
      clear c12
      obtain rfl := oI H
      go_enter Tryz.func153, Tryz.ntmps153
      go_wp2
      go_ret
      exact ⟨rdT, drT⟩
     ·rw [if_neg c12] at H
      have c12b0 : (a0 == 112) = false := eB c12
      have c12b1 : (a0 != 112) = true := eD c12
      obtain rfl := oI H
      go_enter Tryz.func153, Tryz.ntmps153
      go_wp2
      go_ret
      exact ⟨rdT, drT⟩
    ·rw [if_neg c11] at H
     have c11b0 : (a1 == 3) = false := eB c11
     have c11b1 : (a1 != 3) = true := eD c11
     by_cases c13 : a1 = 4
     ·rw [if_pos c13] at H
      have c13b0 : (a1 == 4) = true := eC c13
      have c13b1 : (a1 != 4) = false := eA c13
      clear c13
      obtain rfl := oI H
      go_enter Tryz.func153, Tryz.ntmps153
      go_wp2
      go_ret
      exact ⟨rdT, drT⟩
     ·rw [if_neg c13] at H
      have c13b0 : (a1 == 4) = false := eB c13
      have c13b1 : (a1 != 4) = true := eD c13
      obtain rfl := oI H
      go_enter Tryz.func153, Tryz.ntmps153
      go_wp2
      go_ret
      exact ⟨rdT, drT⟩
def spec_IsVowelAt.f (a0 : ByteArray) (a1 : Int) : Option (Bool) := if a1 ≥ 0 then (if a1 < (a0.size : Int) then (if 0 ≤ a1 then ((spec_HasFeature.f (bt a0 a1) 0).bind fun t246 => (some t246)) else (none)) else (some false)) else (some false)
theorem spec_IsVowelAt.calls (a0 : ByteArray) (a1 : Int) (r : Bool) (w : World) (h : spec_IsVowelAt.f a0 a1 = some r) :
  Calls Tryz.prog 151 #[.string a0, .int .i64 a1] w fun e w' => e = .returned (.bool r) ∧ Drawn0 w w' := by
 have H := h; unfold spec_IsVowelAt.f at H; clear h
 by_cases c3 : a1 ≥ 0
 ·rw [if_pos c3] at H
  have c3b0 : decide (0 ≤ a1) = true := dt c3
  clear c3
  by_cases c4 : a1 < (a0.size : Int)
  ·rw [if_pos c4] at H
   have c4b0 : decide (a1 < (a0.size : Int)) = true := dt c4
   clear c4
   by_cases c5 : 0 ≤ a1
   ·rw [if_pos c5] at H
    have c5b0 : decide (0 ≤ a1) = true := dt c5
    clear c5; obtain ⟨t246, A7, H⟩ := be H
    obtain rfl := oI H
    have p6 : 0 ≤ (a1 : Int) := dT asmT
    have q6 : a1 < (a0.size : Int) := dT asmT
    have hx6 := bt_at a0 a1; replace p6 := eq_true p6; replace q6 := eq_true q6
    go_enter Tryz.func151, Tryz.ntmps151
    go_wp2_with (first | (go_at_call 153; (with_reducible refine (spec_HasFeature.calls (bt a0 a1) 0 t246 _ A7.out).mono ?_); rintro e w' ⟨rfl, ⟨nd, rfl⟩⟩))
    go_ret
    exact ⟨rdT, drT⟩
   ·rw [if_neg c5] at H
    exact absurd H (by simp)
  ·rw [if_neg c4] at H
   have c4b0 : decide (a1 < (a0.size : Int)) = false := df c4
   clear c4
   obtain rfl := oI H
   go_enter Tryz.func151, Tryz.ntmps151
   go_wp2
   go_ret
   exact ⟨rdT, drT⟩
 ·rw [if_neg c3] at H
  have c3b0 : decide (0 ≤ a1) = false := df c3
  clear c3
  obtain rfl := oI H
  go_enter Tryz.func151, Tryz.ntmps151
  go_wp2
  go_ret
  exact ⟨rdT, drT⟩
end Go.Proofs.YtlmfpkiaikjlbaaGreat.PFnExactWinnersOf
