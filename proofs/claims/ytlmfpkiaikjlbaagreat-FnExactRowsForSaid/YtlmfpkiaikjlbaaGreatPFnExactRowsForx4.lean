-- Made by gen.py (a program of this session) out of the translation; Lean checks it.
import Derived.Test.YtlmfpkiaikjlbaaGreatPFnExactRowsForx0
import Derived.Test.YtlmfpkiaikjlbaaGreatPFnExactRowsForx3
namespace Go.Proofs.YtlmfpkiaikjlbaaGreat.PFnExactRowsFor
open Go.RowKit Go.Proofs.YtlmfpkiaikjlbaaGreatB Go.Proofs.YtlmfpkiaikjlbaaGreatW.PrintWords Go.Proofs.YtlmfpkiaikjlbaaGreatW.PrintLast Go.Proofs.YtlmfpkiaikjlbaaGreatW.PrintMore
attribute [local go_sem] max2_int min2_int max_two min_two max_three min_three max_four min_four   -- for this text's walks alone
set_option linter.unusedVariables false
set_option maxHeartbeats 8000000
set_option maxRecDepth 100000
set_option linter.unusedSimpArgs false
def spec_l6Out.l0 : Nat → List Int → Int → List (S109) → Option (ByteArray)
 | 0, _, _, _ => none
 | k + 1, x3, x4, x213000 => if x4 < (x213000.length : Int) then (if 0 ≤ x4 then (if ((rd_T109 x213000 x4).f1) = 0 then (spec_l6Out.l0 k x3 (wrap64 (x4 + 1)) x213000) else (if x3.length < 140737488355328 then (spec_l6Out.l0 k (x3 ++ [(rd_T109 x213000 x4).f1]) (wrap64 (x4 + 1)) x213000) else (none))) else (none)) else (some (strOfNums x3))
def spec_l6Out.f (k : Nat) (l0_0 : List (S109)) : Option (ByteArray) := spec_l6Out.l0 k (([] : List Int)) 0 l0_0
theorem spec_l6Out.mono_l : ∀ k, (∀ y0 y1 y2, LeO (spec_l6Out.l0 k y0 y1 y2) (spec_l6Out.l0 (k + 1) y0 y1 y2))
 | 0 => fun _ _ _ r h => by simp [spec_l6Out.l0] at h
 | k + 1 => by
  have ih0 := spec_l6Out.mono_l k
  ·intro y0 y1 y2; unfold spec_l6Out.l0
   with_reducible repeat' first | exact ih0 _ _ _ | exact LeO.refl _ | exact LeO.none _ | refine LeO.ite ?_ ?_ | refine LeO.bind ?_ (fun _ => ?_)
theorem spec_l6Out.mono : ∀ a0 k, LeO (spec_l6Out.f k a0) (spec_l6Out.f (k + 1) a0) := by
 intro a0 k; have ih0 := spec_l6Out.mono_l k; unfold spec_l6Out.f
 with_reducible repeat' first | exact ih0 _ _ _ | exact LeO.refl _ | exact LeO.none _ | refine LeO.ite ?_ ?_ | refine LeO.bind ?_ (fun _ => ?_)
theorem spec_l6Out.calls (k : Nat) (A0_0 : Option Addr) (c0_0 : Nat) (l0_0 : List (S109)) (r : ByteArray) (w : World) (hr0_0 : Kd.C k109 w A0_0 l0_0.length l0_0) (hc0_0 : l0_0.length ≤ c0_0) (h : spec_l6Out.f k l0_0 = some r) :
  Calls Tryz.prog 105 #[.agg #[.slice A0_0 l0_0.length c0_0]] w fun e w' => e = .returned (.string r) ∧ Below w.heap.size w w' := by
 have hu60 := Tryz.underlying60; have HR0_0 := asT hr0_0; have HC0_0 := asT hc0_0; clear hr0_0 hc0_0; have HB := asT (Below.refl w.heap.size w); have H := h; unfold spec_l6Out.f at H; clear h; obtain ⟨y213, hy213⟩ : ∃ y_ : List Int, y_ = (([] : List Int)) := ⟨_, rfl⟩
 replace H : (spec_l6Out.l0 k y213 0 l0_0) = some r := by first | (rw [hy213]; with_reducible exact H) | (have H2_ := (Option.bind_some _ _).symm.trans H; rw [hy213]; with_reducible exact H2_) | (have H2_ := (Option.bind_some _ _).symm.trans H; with_reducible exact H2_) | with_reducible exact H | (rw [hy213]; exact H) | exact H
 have Ny213 := asT hy213; clear hy213; have H' := asT H; clear H; go_enter Tryz.func105, Tryz.ntmps105
 go_wp2_with (first | ((with_reducible refine gate_dst (N := 1) rfl ?_); refine boxT (N := 1) (cs := #[.slice A0_0 l0_0.length c0_0]) (t := 60) ?_; intro gb212 hg w2 hbox hb; have BK212 := asT hbox; have GW212 := asT (geT hg HB.out); have GE212 := GW212; replace HB := hS HB hb; clear hb hbox hg) | ((with_reducible refine gate_dst (N := 5) rfl ?_); refine Kd.R_lit (Kd.int .u8) _ 5 ?hg (N := 5) ?hd (xs := ([] : List Int)) (inner := []) (ok := fun _ => True) (okp := fun _ => True) ?hr ?hp (fun _ hk => hk) trivial (Below.refl _ _) (Nat.le_refl _) (by simp) ?_; (case hd => rfl); (case hg => rfl); (case hr => first | (go_simp; done) | (go_simp; rfl)); (case hp => exact (Reps.none _ _)); intro v214 w3 ho4 hb hg_ hnew_; clear hg_ hnew_; (first | rw [← Ny213.out] at ho4 | (simp only [Int.reduceToNat] at ho4; rw [← Ny213.out] at ho4)); have HO215 := asT (Kd.R_lower ho4 (below_size (hbT HB.out))); replace BK212 := bS BK212 hb; replace HB := hS HB hb; clear hb ho4))
 go_loopg [3, 4] k (fun kq v3 v4 w' => ∃ (x3_1 : List Int) (x4_1 : Int), v4 = .int .i64 x4_1 ∧ Aside0 (spec_l6Out.l0 kq x3_1 x4_1 l0_0 = some r) ∧ Aside0 (kq ≤ k) ∧ Aside0 (Kd.R (Kd.int .u8) 5 w' w.heap.size (fun _ => True) v3 x3_1) ∧ Aside0 (w'.heap[gb212]? = some (.cells #[(.slice A0_0 l0_0.length c0_0)] 60 (0, 0))) ∧ Aside0 (Below w.heap.size w w'))
 case atStart => exact ⟨(y213), (0), rdT, H', ⟨Nat.le_refl _⟩, ⟨roT HO215.out⟩, kpT BK212.out, ⟨hbT HB.out⟩⟩
 case round =>
  clear H'; (try clear c1 p2); obtain ⟨x3_1, x4_1, rfl, HA, HK1, HO_3, BK212, HB⟩ := hrel
  cases gk with
  | zero => exact absurd HA.out (by simp [spec_l6Out.l0])
  | succ k1 =>
   have H := HA.out; clear HA
   simp only [spec_l6Out.l0] at H
   by_cases c5 : x4_1 < (l0_0.length : Int)
   ·rw [if_pos c5] at H; have c5b0 := dt c5; clear c5; by_cases c6 : 0 ≤ x4_1
    ·rw [if_pos c6] at H; have c6b0 := dt c6; clear c6; by_cases c7 : ((rd_T109 l0_0 x4_1).f1) = 0
     ·rw [if_pos c7] at H; have c7b0 : (((rd_T109 l0_0 x4_1).f1) == 0) = true := eC c7; have c7b1 : (((rd_T109 l0_0 x4_1).f1) != 0) = false := eA c7; clear c7; have H' := asT H; clear H; obtain ⟨hcz8_0, hfz8_0⟩ := bx1 BK212.out; have p216 : 0 ≤ (x4_1 : Int) := dT asmT; have q216 : x4_1 < (l0_0.length : Int) := dT asmT; obtain ⟨ad216, e216, hx216_0, hx216_1⟩ := at_T109 HR0_0.out x4_1 p216 q216
      cases e216
      replace hx216_0 := hbc HB.out hx216_0; replace hx216_1 := hbc HB.out hx216_1; replace p216 := eq_true p216; replace q216 := eq_true q216
      go_wp2
      go_roundg k1
      case measure => have := HK1.out; omega
      case rel => exact ⟨(x3_1), (wrap64 (x4_1 + 1)), rdT, H', ⟨by have := HK1.out; omega⟩, ⟨roT HO_3.out⟩, kpT BK212.out, ⟨hbT HB.out⟩⟩
     ·rw [if_neg c7] at H; have c7b0 : (((rd_T109 l0_0 x4_1).f1) == 0) = false := eB c7; have c7b1 : (((rd_T109 l0_0 x4_1).f1) != 0) = true := eD c7; by_cases c9 : x3_1.length < 140737488355328
      ·rw [if_pos c9] at H; have LMc9 := asT c9; clear c9; obtain ⟨y218, hy218⟩ : ∃ y_ : List Int, y_ = (x3_1 ++ [(rd_T109 l0_0 x4_1).f1]) := ⟨_, rfl⟩
       replace H : (spec_l6Out.l0 k1 y218 (wrap64 (x4_1 + 1)) l0_0) = some r := by first | (rw [hy218]; with_reducible exact H) | (have H2_ := (Option.bind_some _ _).symm.trans H; rw [hy218]; with_reducible exact H2_) | (have H2_ := (Option.bind_some _ _).symm.trans H; with_reducible exact H2_) | with_reducible exact H | (rw [hy218]; exact H) | exact H
       have Ny218 := asT hy218; clear hy218; have H' := asT H; clear H; obtain ⟨hcz10_0, hfz10_0⟩ := bx1 BK212.out; have p216 : 0 ≤ (x4_1 : Int) := dT asmT; have q216 : x4_1 < (l0_0.length : Int) := dT asmT; obtain ⟨ad216, e216, hx216_0, hx216_1⟩ := at_T109 HR0_0.out x4_1 p216 q216
       cases e216
       replace hx216_0 := hbc HB.out hx216_0; replace hx216_1 := hbc HB.out hx216_1; replace p216 := eq_true p216; replace q216 := eq_true q216; have p217 : 0 ≤ (x4_1 : Int) := dT asmT; have q217 : x4_1 < (l0_0.length : Int) := dT asmT; obtain ⟨ad217, e217, hx217_0, hx217_1⟩ := at_T109 HR0_0.out x4_1 p217 q217; obtain rfl : ad216 = ad217 := (by injection e217); replace hx217_0 := hbc HB.out hx217_0; replace hx217_1 := hbc HB.out hx217_1; replace p217 := eq_true p217; replace q217 := eq_true q217
       go_wp2_with (first | ((with_reducible refine gate_builtin (b := .append) (xs := #[.tmp 20, .tmp 27]) rfl ?_); at_builtin; refine Kd.R_append (Kd.int .u8) (w0 := w) w.heap.size rfl (.tmp 20) (.tmp 27) 91 5 (.int .u8 0) 1 rfl Tryz.underlying91 info5 rfl (by decide) (by omega) u3 x3_1 ((rd_T109 l0_0 x4_1).f1) [.int .u8 ((rd_T109 l0_0 x4_1).f1)] (fun _ => True) (fun _ => False) rfl rfl ?aP (fun _ hk => hk.elim) ?aF ?aO ?aB ?aS ?aL ?_; (case aP => exact rfl); (case aB => exact (hbT HB.out)); (case aF => exact (fun _ _ => trivial)); (case aO => exact (roT HO_3.out)); (case aS => exact (below_size (hbT HB.out))); (case aL => have := LMc9.out; omega); intro v219 w11 ho hb hg hat; rw [← Ny218.out] at ho; replace BK212 := asT (blk_grown (g := gb212) (o := .cells #[.slice (some ad216) l0_0.length c0_0] 60 (0, 0)) (bkT BK212.out) hg (Kd.R_ne HO_3.out BK212.out (by decide))); replace HB := asT (hb); have HO220 := asT (ho); clear HO_3 ho hb hg hat))
       go_roundg k1
       case measure => have := HK1.out; omega
       case rel => exact ⟨(y218), (wrap64 (x4_1 + 1)), rdT, H', ⟨by have := HK1.out; omega⟩, ⟨roT HO220.out⟩, kpT BK212.out, ⟨hbT HB.out⟩⟩
      ·rw [if_neg c9] at H; exact absurd H (by simp)
    ·rw [if_neg c6] at H; exact absurd H (by simp)
   ·rw [if_neg c5] at H; have c5b0 := df c5; clear c5; obtain rfl := oI H; obtain ⟨hcz12_0, hfz12_0⟩ := bx1 BK212.out; have hcv13 := own_string (P := Tryz.prog) Tryz.underlying91 Tryz.underlying5 Tryz.underlying9 (Kd.own_of_R HO_3.out)
    go_wp2
    go_ret; exact ⟨rlT, hbT HB.out⟩
def spec_SwapVoice.f (a0 : Int) : Option (Int × Bool) := if a0 = 112 then (some (98, true)) else (if a0 = 98 then (some (112, true)) else (if a0 = 116 then (some (100, true)) else (if a0 = 100 then (some (116, true)) else (some (a0, false)))))
theorem spec_SwapVoice.calls (a0 : Int) (r1 : Int) (r2 : Bool) (w : World) (h : spec_SwapVoice.f a0 = some (r1, r2)) :
  Calls Tryz.prog 110 #[.int .u8 a0] w fun e w' => e = .returned (.tuple #[.int .u8 r1, .bool r2]) ∧ Drawn0 w w' := by
 have H := h; unfold spec_SwapVoice.f at H; clear h; by_cases c2 : a0 = 112
 ·rw [if_pos c2] at H; have c2b0 : (a0 == 112) = true := eC c2; have c2b1 : (a0 != 112) = false := eA c2; clear c2
  simp only [Option.some.injEq, Prod.mk.injEq] at H
  obtain ⟨rfl, rfl⟩ := H; go_enter Tryz.func110, Tryz.ntmps110
  go_wp2
  go_ret2
  exact ⟨rdT, drT⟩
 ·rw [if_neg c2] at H; have c2b0 : (a0 == 112) = false := eB c2; have c2b1 : (a0 != 112) = true := eD c2; by_cases c3 : a0 = 98
  ·rw [if_pos c3] at H; have c3b0 : (a0 == 98) = true := eC c3; have c3b1 : (a0 != 98) = false := eA c3; clear c3
   simp only [Option.some.injEq, Prod.mk.injEq] at H
   obtain ⟨rfl, rfl⟩ := H; go_enter Tryz.func110, Tryz.ntmps110
   go_wp2
   go_ret2
   exact ⟨rdT, drT⟩
  ·rw [if_neg c3] at H; have c3b0 : (a0 == 98) = false := eB c3; have c3b1 : (a0 != 98) = true := eD c3; by_cases c4 : a0 = 116
   ·rw [if_pos c4] at H; have c4b0 : (a0 == 116) = true := eC c4; have c4b1 : (a0 != 116) = false := eA c4; clear c4
    simp only [Option.some.injEq, Prod.mk.injEq] at H
    obtain ⟨rfl, rfl⟩ := H; go_enter Tryz.func110, Tryz.ntmps110
    go_wp2
    go_ret2
    exact ⟨rdT, drT⟩
   ·rw [if_neg c4] at H; have c4b0 : (a0 == 116) = false := eB c4; have c4b1 : (a0 != 116) = true := eD c4; by_cases c5 : a0 = 100
    ·rw [if_pos c5] at H; have c5b0 : (a0 == 100) = true := eC c5; have c5b1 : (a0 != 100) = false := eA c5; clear c5
     simp only [Option.some.injEq, Prod.mk.injEq] at H
     obtain ⟨rfl, rfl⟩ := H; go_enter Tryz.func110, Tryz.ntmps110
     go_wp2
     go_ret2
     exact ⟨rdT, drT⟩
    ·rw [if_neg c5] at H; have c5b0 : (a0 == 100) = false := eB c5; have c5b1 : (a0 != 100) = true := eD c5
     simp only [Option.some.injEq, Prod.mk.injEq] at H
     obtain ⟨rfl, rfl⟩ := H; go_enter Tryz.func110, Tryz.ntmps110
     go_wp2
     go_ret2
     exact ⟨rdT, drT⟩
def spec_l6In.l0 : Nat → List Int → Int → List (S109) → Option (ByteArray)
 | 0, _, _, _ => none
 | k + 1, x3, x4, x222000 => if x4 < (x222000.length : Int) then (if 0 ≤ x4 then (if ((rd_T109 x222000 x4).f0) = 0 then (spec_l6In.l0 k x3 (wrap64 (x4 + 1)) x222000) else (if x3.length < 140737488355328 then (spec_l6In.l0 k (x3 ++ [(rd_T109 x222000 x4).f0]) (wrap64 (x4 + 1)) x222000) else (none))) else (none)) else (some (strOfNums x3))
def spec_l6In.f (k : Nat) (l0_0 : List (S109)) : Option (ByteArray) := spec_l6In.l0 k (([] : List Int)) 0 l0_0
theorem spec_l6In.mono_l : ∀ k, (∀ y0 y1 y2, LeO (spec_l6In.l0 k y0 y1 y2) (spec_l6In.l0 (k + 1) y0 y1 y2))
 | 0 => fun _ _ _ r h => by simp [spec_l6In.l0] at h
 | k + 1 => by
  have ih0 := spec_l6In.mono_l k
  ·intro y0 y1 y2; unfold spec_l6In.l0
   with_reducible repeat' first | exact ih0 _ _ _ | exact LeO.refl _ | exact LeO.none _ | refine LeO.ite ?_ ?_ | refine LeO.bind ?_ (fun _ => ?_)
theorem spec_l6In.mono : ∀ a0 k, LeO (spec_l6In.f k a0) (spec_l6In.f (k + 1) a0) := by
 intro a0 k; have ih0 := spec_l6In.mono_l k; unfold spec_l6In.f
 with_reducible repeat' first | exact ih0 _ _ _ | exact LeO.refl _ | exact LeO.none _ | refine LeO.ite ?_ ?_ | refine LeO.bind ?_ (fun _ => ?_)
theorem spec_l6In.calls (k : Nat) (A0_0 : Option Addr) (c0_0 : Nat) (l0_0 : List (S109)) (r : ByteArray) (w : World) (hr0_0 : Kd.C k109 w A0_0 l0_0.length l0_0) (hc0_0 : l0_0.length ≤ c0_0) (h : spec_l6In.f k l0_0 = some r) :
  Calls Tryz.prog 111 #[.agg #[.slice A0_0 l0_0.length c0_0]] w fun e w' => e = .returned (.string r) ∧ Below w.heap.size w w' := by
 have hu60 := Tryz.underlying60; have HR0_0 := asT hr0_0; have HC0_0 := asT hc0_0; clear hr0_0 hc0_0; have HB := asT (Below.refl w.heap.size w); have H := h; unfold spec_l6In.f at H; clear h; obtain ⟨y222, hy222⟩ : ∃ y_ : List Int, y_ = (([] : List Int)) := ⟨_, rfl⟩
 replace H : (spec_l6In.l0 k y222 0 l0_0) = some r := by first | (rw [hy222]; with_reducible exact H) | (have H2_ := (Option.bind_some _ _).symm.trans H; rw [hy222]; with_reducible exact H2_) | (have H2_ := (Option.bind_some _ _).symm.trans H; with_reducible exact H2_) | with_reducible exact H | (rw [hy222]; exact H) | exact H
 have Ny222 := asT hy222; clear hy222; have H' := asT H; clear H; go_enter Tryz.func111, Tryz.ntmps111
 go_wp2_with (first | ((with_reducible refine gate_dst (N := 1) rfl ?_); refine boxT (N := 1) (cs := #[.slice A0_0 l0_0.length c0_0]) (t := 60) ?_; intro gb221 hg w2 hbox hb; have BK221 := asT hbox; have GW221 := asT (geT hg HB.out); have GE221 := GW221; replace HB := hS HB hb; clear hb hbox hg) | ((with_reducible refine gate_dst (N := 5) rfl ?_); refine Kd.R_lit (Kd.int .u8) _ 5 ?hg (N := 5) ?hd (xs := ([] : List Int)) (inner := []) (ok := fun _ => True) (okp := fun _ => True) ?hr ?hp (fun _ hk => hk) trivial (Below.refl _ _) (Nat.le_refl _) (by simp) ?_; (case hd => rfl); (case hg => rfl); (case hr => first | (go_simp; done) | (go_simp; rfl)); (case hp => exact (Reps.none _ _)); intro v223 w3 ho4 hb hg_ hnew_; clear hg_ hnew_; (first | rw [← Ny222.out] at ho4 | (simp only [Int.reduceToNat] at ho4; rw [← Ny222.out] at ho4)); have HO224 := asT (Kd.R_lower ho4 (below_size (hbT HB.out))); replace BK221 := bS BK221 hb; replace HB := hS HB hb; clear hb ho4))
 go_loopg [3, 4] k (fun kq v3 v4 w' => ∃ (x3_1 : List Int) (x4_1 : Int), v4 = .int .i64 x4_1 ∧ Aside0 (spec_l6In.l0 kq x3_1 x4_1 l0_0 = some r) ∧ Aside0 (kq ≤ k) ∧ Aside0 (Kd.R (Kd.int .u8) 5 w' w.heap.size (fun _ => True) v3 x3_1) ∧ Aside0 (w'.heap[gb221]? = some (.cells #[(.slice A0_0 l0_0.length c0_0)] 60 (0, 0))) ∧ Aside0 (Below w.heap.size w w'))
 case atStart => exact ⟨(y222), (0), rdT, H', ⟨Nat.le_refl _⟩, ⟨roT HO224.out⟩, kpT BK221.out, ⟨hbT HB.out⟩⟩
 case round =>
  clear H'; (try clear c1 p2); obtain ⟨x3_1, x4_1, rfl, HA, HK1, HO_3, BK221, HB⟩ := hrel
  cases gk with
  | zero => exact absurd HA.out (by simp [spec_l6In.l0])
  | succ k1 =>
   have H := HA.out; clear HA
   simp only [spec_l6In.l0] at H
   by_cases c5 : x4_1 < (l0_0.length : Int)
   ·rw [if_pos c5] at H; have c5b0 := dt c5; clear c5; by_cases c6 : 0 ≤ x4_1
    ·rw [if_pos c6] at H; have c6b0 := dt c6; clear c6; by_cases c7 : ((rd_T109 l0_0 x4_1).f0) = 0
     ·rw [if_pos c7] at H; have c7b0 : (((rd_T109 l0_0 x4_1).f0) == 0) = true := eC c7; have c7b1 : (((rd_T109 l0_0 x4_1).f0) != 0) = false := eA c7; clear c7; have H' := asT H; clear H; obtain ⟨hcz8_0, hfz8_0⟩ := bx1 BK221.out; have p225 : 0 ≤ (x4_1 : Int) := dT asmT; have q225 : x4_1 < (l0_0.length : Int) := dT asmT; obtain ⟨ad225, e225, hx225_0, hx225_1⟩ := at_T109 HR0_0.out x4_1 p225 q225
      cases e225
      replace hx225_0 := hbc HB.out hx225_0; replace hx225_1 := hbc HB.out hx225_1; replace p225 := eq_true p225; replace q225 := eq_true q225
      go_wp2
      go_roundg k1
      case measure => have := HK1.out; omega
      case rel => exact ⟨(x3_1), (wrap64 (x4_1 + 1)), rdT, H', ⟨by have := HK1.out; omega⟩, ⟨roT HO_3.out⟩, kpT BK221.out, ⟨hbT HB.out⟩⟩
     ·rw [if_neg c7] at H; have c7b0 : (((rd_T109 l0_0 x4_1).f0) == 0) = false := eB c7; have c7b1 : (((rd_T109 l0_0 x4_1).f0) != 0) = true := eD c7; by_cases c9 : x3_1.length < 140737488355328
      ·rw [if_pos c9] at H; have LMc9 := asT c9; clear c9; obtain ⟨y227, hy227⟩ : ∃ y_ : List Int, y_ = (x3_1 ++ [(rd_T109 l0_0 x4_1).f0]) := ⟨_, rfl⟩
       replace H : (spec_l6In.l0 k1 y227 (wrap64 (x4_1 + 1)) l0_0) = some r := by first | (rw [hy227]; with_reducible exact H) | (have H2_ := (Option.bind_some _ _).symm.trans H; rw [hy227]; with_reducible exact H2_) | (have H2_ := (Option.bind_some _ _).symm.trans H; with_reducible exact H2_) | with_reducible exact H | (rw [hy227]; exact H) | exact H
       have Ny227 := asT hy227; clear hy227; have H' := asT H; clear H; obtain ⟨hcz10_0, hfz10_0⟩ := bx1 BK221.out; have p225 : 0 ≤ (x4_1 : Int) := dT asmT; have q225 : x4_1 < (l0_0.length : Int) := dT asmT; obtain ⟨ad225, e225, hx225_0, hx225_1⟩ := at_T109 HR0_0.out x4_1 p225 q225
       cases e225
       replace hx225_0 := hbc HB.out hx225_0; replace hx225_1 := hbc HB.out hx225_1; replace p225 := eq_true p225; replace q225 := eq_true q225; have p226 : 0 ≤ (x4_1 : Int) := dT asmT; have q226 : x4_1 < (l0_0.length : Int) := dT asmT; obtain ⟨ad226, e226, hx226_0, hx226_1⟩ := at_T109 HR0_0.out x4_1 p226 q226; obtain rfl : ad225 = ad226 := (by injection e226); replace hx226_0 := hbc HB.out hx226_0; replace hx226_1 := hbc HB.out hx226_1; replace p226 := eq_true p226; replace q226 := eq_true q226
       go_wp2_with (first | ((with_reducible refine gate_builtin (b := .append) (xs := #[.tmp 20, .tmp 27]) rfl ?_); at_builtin; refine Kd.R_append (Kd.int .u8) (w0 := w) w.heap.size rfl (.tmp 20) (.tmp 27) 91 5 (.int .u8 0) 1 rfl Tryz.underlying91 info5 rfl (by decide) (by omega) u3 x3_1 ((rd_T109 l0_0 x4_1).f0) [.int .u8 ((rd_T109 l0_0 x4_1).f0)] (fun _ => True) (fun _ => False) rfl rfl ?aP (fun _ hk => hk.elim) ?aF ?aO ?aB ?aS ?aL ?_; (case aP => exact rfl); (case aB => exact (hbT HB.out)); (case aF => exact (fun _ _ => trivial)); (case aO => exact (roT HO_3.out)); (case aS => exact (below_size (hbT HB.out))); (case aL => have := LMc9.out; omega); intro v228 w11 ho hb hg hat; rw [← Ny227.out] at ho; replace BK221 := asT (blk_grown (g := gb221) (o := .cells #[.slice (some ad225) l0_0.length c0_0] 60 (0, 0)) (bkT BK221.out) hg (Kd.R_ne HO_3.out BK221.out (by decide))); replace HB := asT (hb); have HO229 := asT (ho); clear HO_3 ho hb hg hat))
       go_roundg k1
       case measure => have := HK1.out; omega
       case rel => exact ⟨(y227), (wrap64 (x4_1 + 1)), rdT, H', ⟨by have := HK1.out; omega⟩, ⟨roT HO229.out⟩, kpT BK221.out, ⟨hbT HB.out⟩⟩
      ·rw [if_neg c9] at H; exact absurd H (by simp)
    ·rw [if_neg c6] at H; exact absurd H (by simp)
   ·rw [if_neg c5] at H; have c5b0 := df c5; clear c5; obtain rfl := oI H; obtain ⟨hcz12_0, hfz12_0⟩ := bx1 BK221.out; have hcv13 := own_string (P := Tryz.prog) Tryz.underlying91 Tryz.underlying5 Tryz.underlying9 (Kd.own_of_R HO_3.out)
    go_wp2
    go_ret; exact ⟨rlT, hbT HB.out⟩
mutual
def spec_IsCandidate.l0 : Nat → Int → List (S109) → Option (Bool)
 | 0, _, _ => none
 | k + 1, x3, x231000 => if x3 < (x231000.length : Int) then (if 0 ≤ x3 then ((spec_SwapVoice.f ((rd_T109 x231000 x3).f0)).bind fun bt233 => (if ((rd_T109 x231000 x3).f0) = 0 then (if ((rd_T109 x231000 x3).f1) = 0 then (spec_IsCandidate.j1 k x3 bt233.1 bt233.2 (((rd_T109 x231000 x3).f1) == 0) x231000 ((rd_T109 x231000 x3).f0) ((rd_T109 x231000 x3).f1)) else ((spec_IsSound.f k ((rd_T109 x231000 x3).f1)).bind fun t235 => (if t235 = true then (spec_IsCandidate.j1 k x3 bt233.1 bt233.2 (((rd_T109 x231000 x3).f1) == 0) x231000 ((rd_T109 x231000 x3).f0) ((rd_T109 x231000 x3).f1)) else (spec_IsCandidate.j1 k x3 bt233.1 bt233.2 true x231000 ((rd_T109 x231000 x3).f0) ((rd_T109 x231000 x3).f1))))) else ((spec_IsSound.f k ((rd_T109 x231000 x3).f0)).bind fun t236 => (if t236 = true then (if ((rd_T109 x231000 x3).f1) = 0 then (spec_IsCandidate.j1 k x3 bt233.1 bt233.2 false x231000 ((rd_T109 x231000 x3).f0) ((rd_T109 x231000 x3).f1)) else ((spec_IsSound.f k ((rd_T109 x231000 x3).f1)).bind fun t237 => (if t237 = true then (spec_IsCandidate.j1 k x3 bt233.1 bt233.2 false x231000 ((rd_T109 x231000 x3).f0) ((rd_T109 x231000 x3).f1)) else (spec_IsCandidate.j1 k x3 bt233.1 bt233.2 true x231000 ((rd_T109 x231000 x3).f0) ((rd_T109 x231000 x3).f1))))) else (spec_IsCandidate.j1 k x3 bt233.1 bt233.2 true x231000 ((rd_T109 x231000 x3).f0) ((rd_T109 x231000 x3).f1)))))) else (none)) else (if (x231000.length : Int) ≤ 16 then ((spec_l6In.f k x231000).bind fun t238 => ((spec_IsForm.f k t238).bind fun t239 => (if t239 = true then ((spec_l6Out.f k x231000).bind fun t240 => ((spec_IsForm.f k t240).bind fun t241 => (some t241))) else (some false)))) else (some false))
def spec_IsCandidate.j1 : Nat → Int → Int → Bool → Bool → List (S109) → Int → Int → Option (Bool)
 | 0, _, _, _, _, _, _, _ => none
 | k + 1, x3, x5, x6, x54, x231000, x233000, x233001 => if x54 = true then (some false) else (if x233000 = 0 then (spec_IsCandidate.l0 k (wrap64 (x3 + 1)) x231000) else (if x233001 = 0 then (spec_IsCandidate.l0 k (wrap64 (x3 + 1)) x231000) else (if x233000 = x233001 then (spec_IsCandidate.l0 k (wrap64 (x3 + 1)) x231000) else (if x6 = true then (if x5 = x233001 then (spec_IsCandidate.l0 k (wrap64 (x3 + 1)) x231000) else (some false)) else (some false)))))
end
def spec_IsCandidate.f (k : Nat) (l0_0 : List (S109)) : Option (Bool) := spec_IsCandidate.l0 k 0 l0_0
theorem spec_IsCandidate.mono_l : ∀ k, (∀ y0 y1, LeO (spec_IsCandidate.l0 k y0 y1) (spec_IsCandidate.l0 (k + 1) y0 y1)) ∧ (∀ y0 y1 y2 y3 y4 y5 y6, LeO (spec_IsCandidate.j1 k y0 y1 y2 y3 y4 y5 y6) (spec_IsCandidate.j1 (k + 1) y0 y1 y2 y3 y4 y5 y6))
 | 0 => ⟨fun _ _ r h => by simp [spec_IsCandidate.l0] at h, fun _ _ _ _ _ _ _ r h => by simp [spec_IsCandidate.j1] at h⟩
 | k + 1 => by
  obtain ⟨ih0, ih1⟩ := spec_IsCandidate.mono_l k; refine ⟨?_, ?_⟩
  ·intro y0 y1; unfold spec_IsCandidate.l0
   with_reducible repeat' first | exact ih0 _ _ | exact ih1 _ _ _ _ _ _ _ | exact spec_IsForm.mono _ _ | exact spec_IsSound.mono _ _ | exact spec_l6In.mono _ _ | exact spec_l6Out.mono _ _ | exact LeO.refl _ | exact LeO.none _ | refine LeO.ite ?_ ?_ | refine LeO.bind ?_ (fun _ => ?_)
  ·intro y0 y1 y2 y3 y4 y5 y6; unfold spec_IsCandidate.j1
   with_reducible repeat' first | exact ih0 _ _ | exact ih1 _ _ _ _ _ _ _ | exact spec_IsForm.mono _ _ | exact spec_IsSound.mono _ _ | exact spec_l6In.mono _ _ | exact spec_l6Out.mono _ _ | exact LeO.refl _ | exact LeO.none _ | refine LeO.ite ?_ ?_ | refine LeO.bind ?_ (fun _ => ?_)
theorem spec_IsCandidate.mono : ∀ a0 k, LeO (spec_IsCandidate.f k a0) (spec_IsCandidate.f (k + 1) a0) := by
 intro a0 k; obtain ⟨ih0, ih1⟩ := spec_IsCandidate.mono_l k; unfold spec_IsCandidate.f
 with_reducible repeat' first | exact ih0 _ _ | exact ih1 _ _ _ _ _ _ _ | exact spec_IsForm.mono _ _ | exact spec_IsSound.mono _ _ | exact spec_l6In.mono _ _ | exact spec_l6Out.mono _ _ | exact LeO.refl _ | exact LeO.none _ | refine LeO.ite ?_ ?_ | refine LeO.bind ?_ (fun _ => ?_)
theorem spec_IsCandidate.calls (k : Nat) (A0_0 : Option Addr) (c0_0 : Nat) (l0_0 : List (S109)) (r : Bool) (w : World) (hr0_0 : Kd.C k109 w A0_0 l0_0.length l0_0) (hc0_0 : l0_0.length ≤ c0_0) (h : spec_IsCandidate.f k l0_0 = some r) :
  Calls Tryz.prog 78 #[.agg #[.slice A0_0 l0_0.length c0_0]] w fun e w' => e = .returned (.bool r) ∧ Below w.heap.size w w' := by
 have hu60 := Tryz.underlying60; have hu109 := Tryz.underlying109; have HR0_0 := asT hr0_0; have HC0_0 := asT hc0_0; clear hr0_0 hc0_0; have HB := asT (Below.refl w.heap.size w); have H := h; unfold spec_IsCandidate.f at H; clear h; have H' := asT H; clear H; go_enter Tryz.func78, Tryz.ntmps78
 go_wp2_with (first | ((with_reducible refine gate_dst (N := 1) rfl ?_); refine boxT (N := 1) (cs := #[.slice A0_0 l0_0.length c0_0]) (t := 60) ?_; intro gb230 hg w2 hbox hb; have BK230 := asT hbox; have GW230 := asT (geT hg HB.out); have GE230 := GW230; replace HB := hS HB hb; clear hb hbox hg))
 go_loopg [3] k (fun kq v3 w' => ∃ (x3_1 : Int), v3 = .int .i64 x3_1 ∧ Aside0 (spec_IsCandidate.l0 kq x3_1 l0_0 = some r) ∧ Aside0 (kq ≤ k) ∧ Aside0 (w'.heap[gb230]? = some (.cells #[(.slice A0_0 l0_0.length c0_0)] 60 (0, 0))) ∧ Aside0 (Below w.heap.size w w'))
 case atStart => exact ⟨(0), rdT, H', ⟨Nat.le_refl _⟩, kpT BK230.out, ⟨hbT HB.out⟩⟩
 case round =>
  clear H'; (try clear p2); obtain ⟨x3_1, rfl, HA, HK1, BK230, HB⟩ := hrel
  cases gk with
  | zero => exact absurd HA.out (by simp [spec_IsCandidate.l0])
  | succ k1 =>
   have H := HA.out; clear HA
   simp only [spec_IsCandidate.l0] at H
   by_cases c3 : x3_1 < (l0_0.length : Int)
   ·rw [if_pos c3] at H; have c3b0 := dt c3; clear c3; by_cases c4 : 0 ≤ x3_1
    ·rw [if_pos c4] at H; have c4b0 := dt c4; clear c4; replace H := Option.bind_eq_some_iff.mp H; obtain ⟨⟨t233, t234⟩, A50, H⟩ := H; replace H : (if ((rd_T109 l0_0 x3_1).f0) = 0 then (if ((rd_T109 l0_0 x3_1).f1) = 0 then (spec_IsCandidate.j1 k1 x3_1 t233 t234 (((rd_T109 l0_0 x3_1).f1) == 0) l0_0 ((rd_T109 l0_0 x3_1).f0) ((rd_T109 l0_0 x3_1).f1)) else ((spec_IsSound.f k1 ((rd_T109 l0_0 x3_1).f1)).bind fun t235 => (if t235 = true then (spec_IsCandidate.j1 k1 x3_1 t233 t234 (((rd_T109 l0_0 x3_1).f1) == 0) l0_0 ((rd_T109 l0_0 x3_1).f0) ((rd_T109 l0_0 x3_1).f1)) else (spec_IsCandidate.j1 k1 x3_1 t233 t234 true l0_0 ((rd_T109 l0_0 x3_1).f0) ((rd_T109 l0_0 x3_1).f1))))) else ((spec_IsSound.f k1 ((rd_T109 l0_0 x3_1).f0)).bind fun t236 => (if t236 = true then (if ((rd_T109 l0_0 x3_1).f1) = 0 then (spec_IsCandidate.j1 k1 x3_1 t233 t234 false l0_0 ((rd_T109 l0_0 x3_1).f0) ((rd_T109 l0_0 x3_1).f1)) else ((spec_IsSound.f k1 ((rd_T109 l0_0 x3_1).f1)).bind fun t237 => (if t237 = true then (spec_IsCandidate.j1 k1 x3_1 t233 t234 false l0_0 ((rd_T109 l0_0 x3_1).f0) ((rd_T109 l0_0 x3_1).f1)) else (spec_IsCandidate.j1 k1 x3_1 t233 t234 true l0_0 ((rd_T109 l0_0 x3_1).f0) ((rd_T109 l0_0 x3_1).f1))))) else (spec_IsCandidate.j1 k1 x3_1 t233 t234 true l0_0 ((rd_T109 l0_0 x3_1).f0) ((rd_T109 l0_0 x3_1).f1))))) = some r := H; have A5 := asT A50; clear A50; have HC6 := asT H; clear H; obtain ⟨hcz7_0, hfz7_0⟩ := bx1 BK230.out; have p231 : 0 ≤ (x3_1 : Int) := dT asmT; have q231 : x3_1 < (l0_0.length : Int) := dT asmT; obtain ⟨ad231, e231, hx231_0, hx231_1⟩ := at_T109 HR0_0.out x3_1 p231 q231
     cases e231
     replace hx231_0 := hbc HB.out hx231_0; replace hx231_1 := hbc HB.out hx231_1; replace p231 := eq_true p231; replace q231 := eq_true q231
     go_upto_region 6 with (first | ((with_reducible refine gate_dst (N := 4) rfl ?_); refine boxT (N := 4) (cs := #[.int .u8 0, .int .u8 0]) (t := 109) ?_; intro gb232 hg w8 hbox hb; have BK232 := asT (hbox); have GW232 := asT (geT hg HB.out); have GE232 := asT (geT hg HB.out); replace HB := hS HB hb; have NB230_232 := asT ((by rw [hg]; exact Nat.ne_of_lt (blk_lt (g := gb230) (o := .cells #[.slice (some ad231) l0_0.length c0_0] 60 (0, 0)) (bkT BK230.out)) : gb230 ≠ gb232)); have NB232_230 := asT ((by rw [hg]; exact Nat.ne_of_gt (blk_lt (g := gb230) (o := .cells #[.slice (some ad231) l0_0.length c0_0] 60 (0, 0)) (bkT BK230.out)) : gb232 ≠ gb230)); replace BK230 := bS BK230 hb; clear hb hbox hg; have hnb9 := NB232_230.out; have hnc9 := NB230_232.out; obtain ⟨hcz10_0, hcz10_1, hfz10_0, hfz10_1⟩ := bx2 BK232.out) | ((with_reducible refine gate_callee (f := 110) rfl ?_); refine goesL_ (some 22) rfl rfl Tryz.func110 (by kernel_rfl) rfl #[.int .u8 ((rd_T109 l0_0 x3_1).f0)] rfl eqT ?_; (with_reducible refine (spec_SwapVoice.calls ((rd_T109 l0_0 x3_1).f0) t233 t234 _ A5.out).mono ?_); rintro e w' ⟨rfl, ⟨nd, rfl⟩⟩; refine ⟨_, rfl, ?_⟩))
     (try simp only [Act.put, sA, sZ, sS])
     go_cut [54] (fun v54 wc => ∃ (kq : Nat) (x54_5 : Bool), v54 = .bool x54_5 ∧ Aside0 (spec_IsCandidate.j1 kq x3_1 t233 t234 x54_5 l0_0 ((rd_T109 l0_0 x3_1).f0) ((rd_T109 l0_0 x3_1).f1) = some r) ∧ Aside0 (kq ≤ k1) ∧ Aside0 (wc.heap[gb230]? = some (.cells #[(.slice (some ad231) l0_0.length c0_0)] 60 (0, 0))) ∧ Aside0 (wc.heap[gb232]? = some (.cells #[.int .u8 ((rd_T109 l0_0 x3_1).f0), .int .u8 ((rd_T109 l0_0 x3_1).f1)] 109 (0, 0))) ∧ Aside0 (Below w.heap.size w wc))
     case first =>
      have H := HC6.out; clear HC6; by_cases c11 : ((rd_T109 l0_0 x3_1).f0) = 0
      ·rw [if_pos c11] at H; have c11b0 : (((rd_T109 l0_0 x3_1).f0) == 0) = true := eC c11; have c11b1 : (((rd_T109 l0_0 x3_1).f0) != 0) = false := eA c11; clear c11
       (first | rw [c11b0] | (simp only [i64_w, i32_w]; rw [c11b0]) | skip)
       by_cases c12 : ((rd_T109 l0_0 x3_1).f1) = 0
       ·rw [if_pos c12] at H; have c12b0 : (((rd_T109 l0_0 x3_1).f1) == 0) = true := eC c12; have c12b1 : (((rd_T109 l0_0 x3_1).f1) != 0) = false := eA c12; clear c12; have H' := asT H; clear H; have hnb13 := NB232_230.out; have hnc13 := NB230_232.out; obtain ⟨hcz14_0, hcz14_1, hfz14_0, hfz14_1⟩ := bx2 BK232.out
        go_wp2
        go_meet
        case rel => exact ⟨_, ((((rd_T109 l0_0 x3_1).f1) == 0)), rdT, H', ⟨by have := HK1.out; first | omega | exact Nat.le_refl _⟩, ⟨by (with_reducible repeat (first | refine blk_drewN ?_ _ | refine blk_drew ?_ | refine blk_alloc ?_ _)); refine blk_far ?_ NB230_232.out _; (with_reducible repeat (first | refine blk_drewN ?_ _ | refine blk_drew ?_ | refine blk_alloc ?_ _)); refine blk_far ?_ NB230_232.out _; (with_reducible repeat (first | refine blk_drewN ?_ _ | refine blk_drew ?_ | refine blk_alloc ?_ _)); exact BK230.out⟩, ⟨by (with_reducible repeat (first | refine blk_drewN ?_ _ | refine blk_drew ?_ | refine blk_alloc ?_ _)); refine blk_put (cs := #[.int .u8 ((rd_T109 l0_0 x3_1).f0), .int .u8 0]) ?_ 1 _ rfl; (with_reducible repeat (first | refine blk_drewN ?_ _ | refine blk_drew ?_ | refine blk_alloc ?_ _)); refine blk_put (cs := #[.int .u8 0, .int .u8 0]) ?_ 0 _ rfl; (with_reducible repeat (first | refine blk_drewN ?_ _ | refine blk_drew ?_ | refine blk_alloc ?_ _)); exact BK232.out⟩, ⟨hbT HB.out⟩⟩
       ·rw [if_neg c12] at H; have c12b0 : (((rd_T109 l0_0 x3_1).f1) == 0) = false := eB c12; have c12b1 : (((rd_T109 l0_0 x3_1).f1) != 0) = true := eD c12; obtain ⟨t235, A15, H⟩ := be H; by_cases c16 : t235 = true
        ·subst c16; rw [if_pos rfl] at H; have H' := asT H; clear H; have hnb17 := NB232_230.out; have hnc17 := NB230_232.out; obtain ⟨hcz18_0, hcz18_1, hfz18_0, hfz18_1⟩ := bx2 BK232.out
         go_wp2_with (first | (go_at_call 108; (with_reducible refine (spec_IsSound.calls k1 ((rd_T109 l0_0 x3_1).f1) true _ A15.out).mono ?_); rintro e w' ⟨rfl, ⟨nd, rfl⟩⟩))
         go_meet
         case rel => exact ⟨_, ((((rd_T109 l0_0 x3_1).f1) == 0)), rdT, H', ⟨by have := HK1.out; first | omega | exact Nat.le_refl _⟩, ⟨by (with_reducible repeat (first | refine blk_drewN ?_ _ | refine blk_drew ?_ | refine blk_alloc ?_ _)); refine blk_far ?_ NB230_232.out _; (with_reducible repeat (first | refine blk_drewN ?_ _ | refine blk_drew ?_ | refine blk_alloc ?_ _)); refine blk_far ?_ NB230_232.out _; (with_reducible repeat (first | refine blk_drewN ?_ _ | refine blk_drew ?_ | refine blk_alloc ?_ _)); exact BK230.out⟩, ⟨by (with_reducible repeat (first | refine blk_drewN ?_ _ | refine blk_drew ?_ | refine blk_alloc ?_ _)); refine blk_put (cs := #[.int .u8 ((rd_T109 l0_0 x3_1).f0), .int .u8 0]) ?_ 1 _ rfl; (with_reducible repeat (first | refine blk_drewN ?_ _ | refine blk_drew ?_ | refine blk_alloc ?_ _)); refine blk_put (cs := #[.int .u8 0, .int .u8 0]) ?_ 0 _ rfl; (with_reducible repeat (first | refine blk_drewN ?_ _ | refine blk_drew ?_ | refine blk_alloc ?_ _)); exact BK232.out⟩, ⟨hbT HB.out⟩⟩
        ·replace c16 := eE c16; subst c16; rw [if_neg nF] at H; have H' := asT H; clear H; have hnb19 := NB232_230.out; have hnc19 := NB230_232.out; obtain ⟨hcz20_0, hcz20_1, hfz20_0, hfz20_1⟩ := bx2 BK232.out
         go_wp2_with (first | (go_at_call 108; (with_reducible refine (spec_IsSound.calls k1 ((rd_T109 l0_0 x3_1).f1) false _ A15.out).mono ?_); rintro e w' ⟨rfl, ⟨nd, rfl⟩⟩))
         go_meet
         case rel => exact ⟨_, (true), rdT, H', ⟨by have := HK1.out; first | omega | exact Nat.le_refl _⟩, ⟨by (with_reducible repeat (first | refine blk_drewN ?_ _ | refine blk_drew ?_ | refine blk_alloc ?_ _)); refine blk_far ?_ NB230_232.out _; (with_reducible repeat (first | refine blk_drewN ?_ _ | refine blk_drew ?_ | refine blk_alloc ?_ _)); refine blk_far ?_ NB230_232.out _; (with_reducible repeat (first | refine blk_drewN ?_ _ | refine blk_drew ?_ | refine blk_alloc ?_ _)); exact BK230.out⟩, ⟨by (with_reducible repeat (first | refine blk_drewN ?_ _ | refine blk_drew ?_ | refine blk_alloc ?_ _)); refine blk_put (cs := #[.int .u8 ((rd_T109 l0_0 x3_1).f0), .int .u8 0]) ?_ 1 _ rfl; (with_reducible repeat (first | refine blk_drewN ?_ _ | refine blk_drew ?_ | refine blk_alloc ?_ _)); refine blk_put (cs := #[.int .u8 0, .int .u8 0]) ?_ 0 _ rfl; (with_reducible repeat (first | refine blk_drewN ?_ _ | refine blk_drew ?_ | refine blk_alloc ?_ _)); exact BK232.out⟩, ⟨hbT HB.out⟩⟩
      ·rw [if_neg c11] at H; have c11b0 : (((rd_T109 l0_0 x3_1).f0) == 0) = false := eB c11; have c11b1 : (((rd_T109 l0_0 x3_1).f0) != 0) = true := eD c11
       (first | rw [c11b0] | (simp only [i64_w, i32_w]; rw [c11b0]) | skip)
       obtain ⟨t236, A21, H⟩ := be H; by_cases c22 : t236 = true
       ·subst c22; rw [if_pos rfl] at H; have H1 := H; clear H; have H := H1; clear H1; by_cases c23 : ((rd_T109 l0_0 x3_1).f1) = 0
        ·rw [if_pos c23] at H; have c23b0 : (((rd_T109 l0_0 x3_1).f1) == 0) = true := eC c23; have c23b1 : (((rd_T109 l0_0 x3_1).f1) != 0) = false := eA c23; clear c23; have H' := asT H; clear H; have hnb24 := NB232_230.out; have hnc24 := NB230_232.out; obtain ⟨hcz25_0, hcz25_1, hfz25_0, hfz25_1⟩ := bx2 BK232.out
         go_wp2_with (first | (go_at_call 108; (with_reducible refine (spec_IsSound.calls k1 ((rd_T109 l0_0 x3_1).f0) true _ A21.out).mono ?_); rintro e w' ⟨rfl, ⟨nd, rfl⟩⟩))
         go_meet
         case rel => exact ⟨_, (false), rdT, H', ⟨by have := HK1.out; first | omega | exact Nat.le_refl _⟩, ⟨by (with_reducible repeat (first | refine blk_drewN ?_ _ | refine blk_drew ?_ | refine blk_alloc ?_ _)); refine blk_far ?_ NB230_232.out _; (with_reducible repeat (first | refine blk_drewN ?_ _ | refine blk_drew ?_ | refine blk_alloc ?_ _)); refine blk_far ?_ NB230_232.out _; (with_reducible repeat (first | refine blk_drewN ?_ _ | refine blk_drew ?_ | refine blk_alloc ?_ _)); exact BK230.out⟩, ⟨by (with_reducible repeat (first | refine blk_drewN ?_ _ | refine blk_drew ?_ | refine blk_alloc ?_ _)); refine blk_put (cs := #[.int .u8 ((rd_T109 l0_0 x3_1).f0), .int .u8 0]) ?_ 1 _ rfl; (with_reducible repeat (first | refine blk_drewN ?_ _ | refine blk_drew ?_ | refine blk_alloc ?_ _)); refine blk_put (cs := #[.int .u8 0, .int .u8 0]) ?_ 0 _ rfl; (with_reducible repeat (first | refine blk_drewN ?_ _ | refine blk_drew ?_ | refine blk_alloc ?_ _)); exact BK232.out⟩, ⟨hbT HB.out⟩⟩
        ·rw [if_neg c23] at H; have c23b0 : (((rd_T109 l0_0 x3_1).f1) == 0) = false := eB c23; have c23b1 : (((rd_T109 l0_0 x3_1).f1) != 0) = true := eD c23; obtain ⟨t237, A26, H⟩ := be H; by_cases c27 : t237 = true
         ·subst c27; rw [if_pos rfl] at H; have H' := asT H; clear H; have hnb28 := NB232_230.out; have hnc28 := NB230_232.out; obtain ⟨hcz29_0, hcz29_1, hfz29_0, hfz29_1⟩ := bx2 BK232.out
          go_wp2_with (first | (go_at_call 108; (with_reducible refine (spec_IsSound.calls k1 ((rd_T109 l0_0 x3_1).f0) true _ A21.out).mono ?_); rintro e w' ⟨rfl, ⟨nd, rfl⟩⟩) | (go_at_call 108; (with_reducible refine (spec_IsSound.calls k1 ((rd_T109 l0_0 x3_1).f1) true _ A26.out).mono ?_); rintro e w' ⟨rfl, ⟨nd, rfl⟩⟩))
          go_meet
          case rel => exact ⟨_, (false), rdT, H', ⟨by have := HK1.out; first | omega | exact Nat.le_refl _⟩, ⟨by (with_reducible repeat (first | refine blk_drewN ?_ _ | refine blk_drew ?_ | refine blk_alloc ?_ _)); refine blk_far ?_ NB230_232.out _; (with_reducible repeat (first | refine blk_drewN ?_ _ | refine blk_drew ?_ | refine blk_alloc ?_ _)); refine blk_far ?_ NB230_232.out _; (with_reducible repeat (first | refine blk_drewN ?_ _ | refine blk_drew ?_ | refine blk_alloc ?_ _)); exact BK230.out⟩, ⟨by (with_reducible repeat (first | refine blk_drewN ?_ _ | refine blk_drew ?_ | refine blk_alloc ?_ _)); refine blk_put (cs := #[.int .u8 ((rd_T109 l0_0 x3_1).f0), .int .u8 0]) ?_ 1 _ rfl; (with_reducible repeat (first | refine blk_drewN ?_ _ | refine blk_drew ?_ | refine blk_alloc ?_ _)); refine blk_put (cs := #[.int .u8 0, .int .u8 0]) ?_ 0 _ rfl; (with_reducible repeat (first | refine blk_drewN ?_ _ | refine blk_drew ?_ | refine blk_alloc ?_ _)); exact BK232.out⟩, ⟨hbT HB.out⟩⟩
         ·replace c27 := eE c27; subst c27; rw [if_neg nF] at H; have H' := asT H; clear H; have hnb30 := NB232_230.out; have hnc30 := NB230_232.out; obtain ⟨hcz31_0, hcz31_1, hfz31_0, hfz31_1⟩ := bx2 BK232.out
          go_wp2_with (first | (go_at_call 108; (with_reducible refine (spec_IsSound.calls k1 ((rd_T109 l0_0 x3_1).f0) true _ A21.out).mono ?_); rintro e w' ⟨rfl, ⟨nd, rfl⟩⟩) | (go_at_call 108; (with_reducible refine (spec_IsSound.calls k1 ((rd_T109 l0_0 x3_1).f1) false _ A26.out).mono ?_); rintro e w' ⟨rfl, ⟨nd, rfl⟩⟩))
          go_meet
          case rel => exact ⟨_, (true), rdT, H', ⟨by have := HK1.out; first | omega | exact Nat.le_refl _⟩, ⟨by (with_reducible repeat (first | refine blk_drewN ?_ _ | refine blk_drew ?_ | refine blk_alloc ?_ _)); refine blk_far ?_ NB230_232.out _; (with_reducible repeat (first | refine blk_drewN ?_ _ | refine blk_drew ?_ | refine blk_alloc ?_ _)); refine blk_far ?_ NB230_232.out _; (with_reducible repeat (first | refine blk_drewN ?_ _ | refine blk_drew ?_ | refine blk_alloc ?_ _)); exact BK230.out⟩, ⟨by (with_reducible repeat (first | refine blk_drewN ?_ _ | refine blk_drew ?_ | refine blk_alloc ?_ _)); refine blk_put (cs := #[.int .u8 ((rd_T109 l0_0 x3_1).f0), .int .u8 0]) ?_ 1 _ rfl; (with_reducible repeat (first | refine blk_drewN ?_ _ | refine blk_drew ?_ | refine blk_alloc ?_ _)); refine blk_put (cs := #[.int .u8 0, .int .u8 0]) ?_ 0 _ rfl; (with_reducible repeat (first | refine blk_drewN ?_ _ | refine blk_drew ?_ | refine blk_alloc ?_ _)); exact BK232.out⟩, ⟨hbT HB.out⟩⟩
       ·replace c22 := eE c22; subst c22; rw [if_neg nF] at H; have H' := asT H; clear H; have hnb32 := NB232_230.out; have hnc32 := NB230_232.out; obtain ⟨hcz33_0, hcz33_1, hfz33_0, hfz33_1⟩ := bx2 BK232.out
        go_wp2_with (first | (go_at_call 108; (with_reducible refine (spec_IsSound.calls k1 ((rd_T109 l0_0 x3_1).f0) false _ A21.out).mono ?_); rintro e w' ⟨rfl, ⟨nd, rfl⟩⟩))
        go_meet
        case rel => exact ⟨_, (true), rdT, H', ⟨by have := HK1.out; first | omega | exact Nat.le_refl _⟩, ⟨by (with_reducible repeat (first | refine blk_drewN ?_ _ | refine blk_drew ?_ | refine blk_alloc ?_ _)); refine blk_far ?_ NB230_232.out _; (with_reducible repeat (first | refine blk_drewN ?_ _ | refine blk_drew ?_ | refine blk_alloc ?_ _)); refine blk_far ?_ NB230_232.out _; (with_reducible repeat (first | refine blk_drewN ?_ _ | refine blk_drew ?_ | refine blk_alloc ?_ _)); exact BK230.out⟩, ⟨by (with_reducible repeat (first | refine blk_drewN ?_ _ | refine blk_drew ?_ | refine blk_alloc ?_ _)); refine blk_put (cs := #[.int .u8 ((rd_T109 l0_0 x3_1).f0), .int .u8 0]) ?_ 1 _ rfl; (with_reducible repeat (first | refine blk_drewN ?_ _ | refine blk_drew ?_ | refine blk_alloc ?_ _)); refine blk_put (cs := #[.int .u8 0, .int .u8 0]) ?_ 0 _ rfl; (with_reducible repeat (first | refine blk_drewN ?_ _ | refine blk_drew ?_ | refine blk_alloc ?_ _)); exact BK232.out⟩, ⟨hbT HB.out⟩⟩
     case rest =>
      clear HC6; (try clear c1 c2 p2 q2 hx2 c3 c3b0 c4 c4b0 c7 c9 c11 c11b0 c11b1 c12 c12b0 c12b1 c13 c16 c17 c19 c22 c23 c23b0 c23b1 p23 q23 hx23 c24 c27 c28 c30 c32 hcz10_0 hcz10_1 hcz14_0 hcz14_1 hcz18_0 hcz18_1 hcz20_0 hcz20_1 hcz25_0 hcz25_1 hcz29_0 hcz29_1 hcz31_0 hcz31_1 hcz33_0 hcz33_1 hcz7_0 hfz10_0 hfz10_1 hfz14_0 hfz14_1 hfz18_0 hfz18_1 hfz20_0 hfz20_1 hfz25_0 hfz25_1 hfz29_0 hfz29_1 hfz31_0 hfz31_1 hfz33_0 hfz33_1 hfz7_0 hx231_0 hx231_1 p2 p231 q231); obtain ⟨kq, x54_5, rfl, HA, HJ5, BK230, BK232, HB⟩ := hcut
      cases kq with
      | zero => exact absurd HA.out (by simp [spec_IsCandidate.j1])
      | succ kj5 =>
       have H := HA.out; clear HA
       simp only [spec_IsCandidate.j1] at H
       by_cases c34 : x54_5 = true
       ·subst c34; rw [if_pos rfl] at H; have H1 := H; clear H; have H := H1; clear H1; obtain rfl := oI H
        go_wp2
        go_ret; exact ⟨rlT, hbT HB.out⟩
       ·replace c34 := eE c34; subst c34; rw [if_neg nF] at H; have H1 := H; clear H; have H := H1; clear H1; by_cases c35 : ((rd_T109 l0_0 x3_1).f0) = 0
        ·rw [if_pos c35] at H; have c35b0 : (((rd_T109 l0_0 x3_1).f0) == 0) = true := eC c35; have c35b1 : (((rd_T109 l0_0 x3_1).f0) != 0) = false := eA c35; clear c35; have H' := asT H; clear H; have hnb36 := NB232_230.out; have hnc36 := NB230_232.out; obtain ⟨hcz37_0, hcz37_1, hfz37_0, hfz37_1⟩ := bx2 BK232.out
         go_wp2
         go_roundg kj5
         case measure => have := HK1.out; have := HJ5.out; omega
         case rel => exact ⟨(wrap64 (x3_1 + 1)), rdT, H', ⟨by have := HK1.out; have := HJ5.out; omega⟩, kpT BK230.out, ⟨hbT HB.out⟩⟩
        ·rw [if_neg c35] at H; have c35b0 : (((rd_T109 l0_0 x3_1).f0) == 0) = false := eB c35; have c35b1 : (((rd_T109 l0_0 x3_1).f0) != 0) = true := eD c35; by_cases c38 : ((rd_T109 l0_0 x3_1).f1) = 0
         ·rw [if_pos c38] at H; have c38b0 : (((rd_T109 l0_0 x3_1).f1) == 0) = true := eC c38; have c38b1 : (((rd_T109 l0_0 x3_1).f1) != 0) = false := eA c38; clear c38; have H' := asT H; clear H; have hnb39 := NB232_230.out; have hnc39 := NB230_232.out; obtain ⟨hcz40_0, hcz40_1, hfz40_0, hfz40_1⟩ := bx2 BK232.out
          go_wp2
          go_roundg kj5
          case measure => have := HK1.out; have := HJ5.out; omega
          case rel => exact ⟨(wrap64 (x3_1 + 1)), rdT, H', ⟨by have := HK1.out; have := HJ5.out; omega⟩, kpT BK230.out, ⟨hbT HB.out⟩⟩
         ·rw [if_neg c38] at H; have c38b0 : (((rd_T109 l0_0 x3_1).f1) == 0) = false := eB c38; have c38b1 : (((rd_T109 l0_0 x3_1).f1) != 0) = true := eD c38; by_cases c41 : ((rd_T109 l0_0 x3_1).f0) = ((rd_T109 l0_0 x3_1).f1)
          ·rw [if_pos c41] at H; have c41b0 : (((rd_T109 l0_0 x3_1).f0) == ((rd_T109 l0_0 x3_1).f1)) = true := eC c41; have c41b1 : (((rd_T109 l0_0 x3_1).f0) != ((rd_T109 l0_0 x3_1).f1)) = false := eA c41; clear c41; have H' := asT H; clear H; have hnb42 := NB232_230.out; have hnc42 := NB230_232.out; obtain ⟨hcz43_0, hcz43_1, hfz43_0, hfz43_1⟩ := bx2 BK232.out
           go_wp2
           go_roundg kj5
           case measure => have := HK1.out; have := HJ5.out; omega
           case rel => exact ⟨(wrap64 (x3_1 + 1)), rdT, H', ⟨by have := HK1.out; have := HJ5.out; omega⟩, kpT BK230.out, ⟨hbT HB.out⟩⟩
          ·rw [if_neg c41] at H; have c41b0 : (((rd_T109 l0_0 x3_1).f0) == ((rd_T109 l0_0 x3_1).f1)) = false := eB c41; have c41b1 : (((rd_T109 l0_0 x3_1).f0) != ((rd_T109 l0_0 x3_1).f1)) = true := eD c41; by_cases c44 : t234 = true
           ·subst c44; rw [if_pos rfl] at H; have H1 := H; clear H; have H := H1; clear H1; by_cases c45 : t233 = ((rd_T109 l0_0 x3_1).f1)
            ·rw [if_pos c45] at H; have c45b0 : (t233 == ((rd_T109 l0_0 x3_1).f1)) = true := eC c45; have c45b1 : (t233 != ((rd_T109 l0_0 x3_1).f1)) = false := eA c45; clear c45; have H' := asT H; clear H; have hnb46 := NB232_230.out; have hnc46 := NB230_232.out; obtain ⟨hcz47_0, hcz47_1, hfz47_0, hfz47_1⟩ := bx2 BK232.out
             go_wp2
             go_roundg kj5
             case measure => have := HK1.out; have := HJ5.out; omega
             case rel => exact ⟨(wrap64 (x3_1 + 1)), rdT, H', ⟨by have := HK1.out; have := HJ5.out; omega⟩, kpT BK230.out, ⟨hbT HB.out⟩⟩
            ·rw [if_neg c45] at H; have c45b0 : (t233 == ((rd_T109 l0_0 x3_1).f1)) = false := eB c45; have c45b1 : (t233 != ((rd_T109 l0_0 x3_1).f1)) = true := eD c45; obtain rfl := oI H; have hnb48 := NB232_230.out; have hnc48 := NB230_232.out; obtain ⟨hcz49_0, hcz49_1, hfz49_0, hfz49_1⟩ := bx2 BK232.out
             go_wp2
             go_ret; exact ⟨rlT, hbT HB.out⟩
           ·replace c44 := eE c44; subst c44; rw [if_neg nF] at H; have H1 := H; clear H; have H := H1; clear H1; obtain rfl := oI H; have hnb50 := NB232_230.out; have hnc50 := NB230_232.out; obtain ⟨hcz51_0, hcz51_1, hfz51_0, hfz51_1⟩ := bx2 BK232.out
            go_wp2
            go_ret; exact ⟨rlT, hbT HB.out⟩
    ·rw [if_neg c4] at H; exact absurd H (by simp)
   ·rw [if_neg c3] at H; have c3b0 := df c3; clear c3; by_cases c52 : (l0_0.length : Int) ≤ 16
    ·rw [if_pos c52] at H; have c52b0 := dt c52; have c52b1 : decide (l0_0.length ≤ 16) = true := dt (by omega); clear c52; obtain ⟨t238, A53, H⟩ := be H; obtain ⟨t239, A54, H⟩ := be H; by_cases c55 : t239 = true
     ·subst c55; rw [if_pos rfl] at H; obtain ⟨t240, A56, H⟩ := be H; obtain ⟨t241, A57, H⟩ := be H; obtain rfl := oI H; obtain ⟨hcz58_0, hfz58_0⟩ := bx1 BK230.out
      go_wp2_with (first | (go_at_call 111; (with_reducible refine (spec_l6In.calls k1 _ _ l0_0 t238 _ ?side1 ?side2 A53.out).mono ?_); (case side1 => exact crT HR0_0.out HB.out); (case side2 => exact HC0_0.out); rintro e w59 ⟨rfl, hb⟩; replace BK230 := bS BK230 hb; replace HB := hS HB hb; (try clear hb hb2 hk hi)) | (go_at_call 36; (with_reducible refine (spec_IsForm.calls k1 t238 true _ A54.out).mono ?_); rintro e w' ⟨rfl, ⟨nd, rfl⟩⟩; obtain ⟨hcz60_0, hfz60_0⟩ := bx1 BK230.out) | (go_at_call 105; (with_reducible refine (spec_l6Out.calls k1 _ _ l0_0 t240 _ ?side1 ?side2 A56.out).mono ?_); (case side1 => exact crT HR0_0.out (hbT HB.out)); (case side2 => exact HC0_0.out); rintro e w61 ⟨rfl, hb⟩; replace BK230 := bS BK230 hb; replace HB := hS HB hb; (try clear hb hb2 hk hi)) | (go_at_call 36; (with_reducible refine (spec_IsForm.calls k1 t240 t241 _ A57.out).mono ?_); rintro e w' ⟨rfl, ⟨nd, rfl⟩⟩))
      go_ret; exact ⟨rlT, hbT HB.out⟩
     ·replace c55 := eE c55; subst c55; rw [if_neg nF] at H; have H1 := H; clear H; have H := H1; clear H1; obtain rfl := oI H; obtain ⟨hcz62_0, hfz62_0⟩ := bx1 BK230.out
      go_wp2_with (first | (go_at_call 111; (with_reducible refine (spec_l6In.calls k1 _ _ l0_0 t238 _ ?side1 ?side2 A53.out).mono ?_); (case side1 => exact crT HR0_0.out HB.out); (case side2 => exact HC0_0.out); rintro e w63 ⟨rfl, hb⟩; replace BK230 := bS BK230 hb; replace HB := hS HB hb; (try clear hb hb2 hk hi)) | (go_at_call 36; (with_reducible refine (spec_IsForm.calls k1 t238 false _ A54.out).mono ?_); rintro e w' ⟨rfl, ⟨nd, rfl⟩⟩))
      go_ret; exact ⟨rlT, hbT HB.out⟩
    ·rw [if_neg c52] at H; have c52b0 := df c52; have c52b1 : decide (l0_0.length ≤ 16) = false := df (by omega); clear c52; obtain rfl := oI H; obtain ⟨hcz64_0, hfz64_0⟩ := bx1 BK230.out
     go_wp2
     go_ret; exact ⟨rlT, hbT HB.out⟩
def spec_OutputOf.f (k : Nat) (l0_0 : List (S109)) : Option (ByteArray) := (spec_IsCandidate.f k l0_0).bind fun t243 => (if t243 = true then ((spec_l6Out.f k l0_0).bind fun t244 => (some t244)) else (some (⟨#[]⟩ : ByteArray)))
theorem spec_OutputOf.mono : ∀ a0 k, LeO (spec_OutputOf.f k a0) (spec_OutputOf.f (k + 1) a0) := by
 intro a0 k; unfold spec_OutputOf.f
 with_reducible repeat' first | exact spec_IsCandidate.mono _ _ | exact spec_l6Out.mono _ _ | exact LeO.refl _ | exact LeO.none _ | refine LeO.ite ?_ ?_ | refine LeO.bind ?_ (fun _ => ?_)
theorem spec_OutputOf.calls (k : Nat) (A0_0 : Option Addr) (c0_0 : Nat) (l0_0 : List (S109)) (r : ByteArray) (w : World) (hr0_0 : Kd.C k109 w A0_0 l0_0.length l0_0) (hc0_0 : l0_0.length ≤ c0_0) (h : spec_OutputOf.f k l0_0 = some r) :
  Calls Tryz.prog 71 #[.agg #[.slice A0_0 l0_0.length c0_0]] w fun e w' => e = .returned (.string r) ∧ Below w.heap.size w w' := by
 have hu60 := Tryz.underlying60; have HR0_0 := asT hr0_0; have HC0_0 := asT hc0_0; clear hr0_0 hc0_0; have HB := asT (Below.refl w.heap.size w); have H := h; unfold spec_OutputOf.f at H; clear h; obtain ⟨t243, A2, H⟩ := be H; by_cases c3 : t243 = true
 ·subst c3; rw [if_pos rfl] at H; obtain ⟨t244, A4, H⟩ := be H; obtain rfl := oI H; go_enter Tryz.func71, Tryz.ntmps71
  go_wp2_with (first | ((with_reducible refine gate_dst (N := 1) rfl ?_); refine boxT (N := 1) (cs := #[.slice A0_0 l0_0.length c0_0]) (t := 60) ?_; intro gb242 hg w5 hbox hb; have BK242 := asT hbox; have GW242 := asT (geT hg HB.out); have GE242 := GW242; replace HB := hS HB hb; clear hb hbox hg; obtain ⟨hcz6_0, hfz6_0⟩ := bx1 BK242.out) | ((with_reducible refine gate_callee (f := 78) rfl ?_); refine goesL_ (some 4) rfl rfl Tryz.func78 (by kernel_rfl) rfl #[.agg #[.slice A0_0 l0_0.length c0_0]] rfl eqT ?_; (with_reducible refine (spec_IsCandidate.calls k _ _ l0_0 true _ ?side1 ?side2 A2.out).mono ?_); (case side1 => exact crT HR0_0.out HB.out); (case side2 => exact HC0_0.out); rintro e w7 ⟨rfl, hb⟩; refine ⟨_, rfl, ?_⟩; replace BK242 := bS BK242 hb; replace HB := hS HB hb; (try clear hb hb2 hk hi); obtain ⟨hcz8_0, hfz8_0⟩ := bx1 BK242.out) | ((with_reducible refine gate_callee (f := 105) rfl ?_); refine goesL_ (some 7) rfl rfl Tryz.func105 (by kernel_rfl) rfl #[.agg #[.slice A0_0 l0_0.length c0_0]] rfl eqT ?_; (with_reducible refine (spec_l6Out.calls k _ _ l0_0 t244 _ ?side1 ?side2 A4.out).mono ?_); (case side1 => exact crT HR0_0.out HB.out); (case side2 => exact HC0_0.out); rintro e w9 ⟨rfl, hb⟩; refine ⟨_, rfl, ?_⟩; replace BK242 := bS BK242 hb; replace HB := hS HB hb; (try clear hb hb2 hk hi)))
  go_ret; exact ⟨rlT, hbT HB.out⟩
 ·replace c3 := eE c3; subst c3; rw [if_neg nF] at H; have H1 := H; clear H; have H := H1; clear H1; obtain rfl := oI H; go_enter Tryz.func71, Tryz.ntmps71
  go_wp2_with (first | ((with_reducible refine gate_dst (N := 1) rfl ?_); refine boxT (N := 1) (cs := #[.slice A0_0 l0_0.length c0_0]) (t := 60) ?_; intro gb242 hg w10 hbox hb; have BK242 := asT hbox; have GW242 := asT (geT hg HB.out); have GE242 := GW242; replace HB := hS HB hb; clear hb hbox hg; obtain ⟨hcz11_0, hfz11_0⟩ := bx1 BK242.out) | ((with_reducible refine gate_callee (f := 78) rfl ?_); refine goesL_ (some 4) rfl rfl Tryz.func78 (by kernel_rfl) rfl #[.agg #[.slice A0_0 l0_0.length c0_0]] rfl eqT ?_; (with_reducible refine (spec_IsCandidate.calls k _ _ l0_0 false _ ?side1 ?side2 A2.out).mono ?_); (case side1 => exact crT HR0_0.out HB.out); (case side2 => exact HC0_0.out); rintro e w12 ⟨rfl, hb⟩; refine ⟨_, rfl, ?_⟩; replace BK242 := bS BK242 hb; replace HB := hS HB hb; (try clear hb hb2 hk hi)))
  go_ret; exact ⟨rlT, hbT HB.out⟩
def spec_HasFeature.f (a0 : Int) (a1 : Int) : Option (Bool) := if a1 = 0 then (if a0 = 97 then (some true) else (some (a0 == 105))) else (if a1 = 1 then (if a0 = 98 then (some true) else (if a0 = 100 then (some true) else (if a0 = 110 then (some true) else (if a0 = 97 then (some true) else (some (a0 == 105)))))) else (if a1 = 2 then (some (a0 == 110)) else (if a1 = 3 then (if a0 = 112 then (some true) else (some (a0 == 98))) else (if a1 = 4 then (some (a0 == 105)) else (some false)))))
theorem spec_HasFeature.calls (a0 : Int) (a1 : Int) (r : Bool) (w : World) (h : spec_HasFeature.f a0 a1 = some r) :
  Calls Tryz.prog 153 #[.int .u8 a0, .int .i64 a1] w fun e w' => e = .returned (.bool r) ∧ Drawn0 w w' := by
 have H := h; unfold spec_HasFeature.f at H; clear h; by_cases c3 : a1 = 0
 ·rw [if_pos c3] at H; have c3b0 : (a1 == 0) = true := eC c3; have c3b1 : (a1 != 0) = false := eA c3; clear c3; by_cases c4 : a0 = 97
  ·rw [if_pos c4] at H; have c4b0 : (a0 == 97) = true := eC c4; have c4b1 : (a0 != 97) = false := eA c4; clear c4; obtain rfl := oI H; go_enter Tryz.func153, Tryz.ntmps153
   go_wp2
   go_ret; exact ⟨rdT, drT⟩
  ·rw [if_neg c4] at H; have c4b0 : (a0 == 97) = false := eB c4; have c4b1 : (a0 != 97) = true := eD c4; obtain rfl := oI H; go_enter Tryz.func153, Tryz.ntmps153
   go_wp2
   go_ret; exact ⟨rdT, drT⟩
 ·rw [if_neg c3] at H; have c3b0 : (a1 == 0) = false := eB c3; have c3b1 : (a1 != 0) = true := eD c3; by_cases c5 : a1 = 1
  ·rw [if_pos c5] at H; have c5b0 : (a1 == 1) = true := eC c5; have c5b1 : (a1 != 1) = false := eA c5; clear c5; by_cases c6 : a0 = 98
   ·rw [if_pos c6] at H; have c6b0 : (a0 == 98) = true := eC c6; have c6b1 : (a0 != 98) = false := eA c6; clear c6; obtain rfl := oI H; go_enter Tryz.func153, Tryz.ntmps153
    go_wp2
    go_ret; exact ⟨rdT, drT⟩
   ·rw [if_neg c6] at H; have c6b0 : (a0 == 98) = false := eB c6; have c6b1 : (a0 != 98) = true := eD c6; by_cases c7 : a0 = 100
    ·rw [if_pos c7] at H; have c7b0 : (a0 == 100) = true := eC c7; have c7b1 : (a0 != 100) = false := eA c7; clear c7; obtain rfl := oI H; go_enter Tryz.func153, Tryz.ntmps153
     go_wp2
     go_ret; exact ⟨rdT, drT⟩
    ·rw [if_neg c7] at H; have c7b0 : (a0 == 100) = false := eB c7; have c7b1 : (a0 != 100) = true := eD c7; by_cases c8 : a0 = 110
     ·rw [if_pos c8] at H; have c8b0 : (a0 == 110) = true := eC c8; have c8b1 : (a0 != 110) = false := eA c8; clear c8; obtain rfl := oI H; go_enter Tryz.func153, Tryz.ntmps153
      go_wp2
      go_ret; exact ⟨rdT, drT⟩
     ·rw [if_neg c8] at H; have c8b0 : (a0 == 110) = false := eB c8; have c8b1 : (a0 != 110) = true := eD c8; by_cases c9 : a0 = 97
      ·rw [if_pos c9] at H; have c9b0 : (a0 == 97) = true := eC c9; have c9b1 : (a0 != 97) = false := eA c9; clear c9; obtain rfl := oI H; go_enter Tryz.func153, Tryz.ntmps153
       go_wp2
       go_ret; exact ⟨rdT, drT⟩
      ·rw [if_neg c9] at H; have c9b0 : (a0 == 97) = false := eB c9; have c9b1 : (a0 != 97) = true := eD c9; obtain rfl := oI H; go_enter Tryz.func153, Tryz.ntmps153
       go_wp2
       go_ret; exact ⟨rdT, drT⟩
  ·rw [if_neg c5] at H; have c5b0 : (a1 == 1) = false := eB c5; have c5b1 : (a1 != 1) = true := eD c5; by_cases c10 : a1 = 2
   ·rw [if_pos c10] at H; have c10b0 : (a1 == 2) = true := eC c10; have c10b1 : (a1 != 2) = false := eA c10; clear c10; obtain rfl := oI H; go_enter Tryz.func153, Tryz.ntmps153
    go_wp2
    go_ret; exact ⟨rdT, drT⟩
   ·rw [if_neg c10] at H; have c10b0 : (a1 == 2) = false := eB c10; have c10b1 : (a1 != 2) = true := eD c10; by_cases c11 : a1 = 3
    ·rw [if_pos c11] at H; have c11b0 : (a1 == 3) = true := eC c11; have c11b1 : (a1 != 3) = false := eA c11; clear c11; by_cases c12 : a0 = 112
     ·rw [if_pos c12] at H; have c12b0 : (a0 == 112) = true := eC c12; have c12b1 : (a0 != 112) = false := eA c12; clear c12; obtain rfl := oI H; go_enter Tryz.func153, Tryz.ntmps153
      go_wp2
      go_ret; exact ⟨rdT, drT⟩
     ·rw [if_neg c12] at H; have c12b0 : (a0 == 112) = false := eB c12; have c12b1 : (a0 != 112) = true := eD c12; obtain rfl := oI H; go_enter Tryz.func153, Tryz.ntmps153
      go_wp2
      go_ret; exact ⟨rdT, drT⟩
    ·rw [if_neg c11] at H; have c11b0 : (a1 == 3) = false := eB c11; have c11b1 : (a1 != 3) = true := eD c11; by_cases c13 : a1 = 4
     ·rw [if_pos c13] at H; have c13b0 : (a1 == 4) = true := eC c13; have c13b1 : (a1 != 4) = false := eA c13; clear c13; obtain rfl := oI H; go_enter Tryz.func153, Tryz.ntmps153
      go_wp2
      go_ret; exact ⟨rdT, drT⟩
     ·rw [if_neg c13] at H; have c13b0 : (a1 == 4) = false := eB c13; have c13b1 : (a1 != 4) = true := eD c13; obtain rfl := oI H; go_enter Tryz.func153, Tryz.ntmps153
      go_wp2
      go_ret; exact ⟨rdT, drT⟩
def spec_IsVowelAt.f (a0 : ByteArray) (a1 : Int) : Option (Bool) := if a1 ≥ 0 then (if a1 < (a0.size : Int) then (if 0 ≤ a1 then ((spec_HasFeature.f (bt a0 a1) 0).bind fun t245 => (some t245)) else (none)) else (some false)) else (some false)
theorem spec_IsVowelAt.calls (a0 : ByteArray) (a1 : Int) (r : Bool) (w : World) (h : spec_IsVowelAt.f a0 a1 = some r) :
  Calls Tryz.prog 151 #[.string a0, .int .i64 a1] w fun e w' => e = .returned (.bool r) ∧ Drawn0 w w' := by
 have H := h; unfold spec_IsVowelAt.f at H; clear h; by_cases c3 : a1 ≥ 0
 ·rw [if_pos c3] at H; have c3b0 : decide (0 ≤ a1) = true := dt c3; clear c3; by_cases c4 : a1 < (a0.size : Int)
  ·rw [if_pos c4] at H; have c4b0 := dt c4; clear c4; by_cases c5 : 0 ≤ a1
   ·rw [if_pos c5] at H; have c5b0 := dt c5; clear c5; obtain ⟨t245, A7, H⟩ := be H; obtain rfl := oI H; have p6 : 0 ≤ (a1 : Int) := dT asmT; have q6 : a1 < (a0.size : Int) := dT asmT; have hx6 := bt_at a0 a1; replace p6 := eq_true p6; replace q6 := eq_true q6; go_enter Tryz.func151, Tryz.ntmps151
    go_wp2_with (first | (go_at_call 153; (with_reducible refine (spec_HasFeature.calls (bt a0 a1) 0 t245 _ A7.out).mono ?_); rintro e w' ⟨rfl, ⟨nd, rfl⟩⟩))
    go_ret; exact ⟨rdT, drT⟩
   ·rw [if_neg c5] at H; exact absurd H (by simp)
  ·rw [if_neg c4] at H; have c4b0 := df c4; clear c4; obtain rfl := oI H; go_enter Tryz.func151, Tryz.ntmps151
   go_wp2
   go_ret; exact ⟨rdT, drT⟩
 ·rw [if_neg c3] at H; have c3b0 : decide (0 ≤ a1) = false := df c3; clear c3; obtain rfl := oI H; go_enter Tryz.func151, Tryz.ntmps151
  go_wp2
  go_ret; exact ⟨rdT, drT⟩
mutual
def spec_CountOnsetless.l0 : Nat → ByteArray → Int → Int → Option (Int)
 | 0, _, _, _ => none
 | k + 1, x0, x3, x4 => if x4 < (x0.size : Int) then ((spec_IsForm.f k x0).bind fun t246 => (spec_CountOnsetless.j1 k x0 x3 x4 t246)) else (spec_CountOnsetless.j1 k x0 x3 x4 false)
def spec_CountOnsetless.j1 : Nat → ByteArray → Int → Int → Bool → Option (Int)
 | 0, _, _, _, _ => none
 | k + 1, x0, x3, x4, x12 => if x12 = true then ((spec_IsVowelAt.f x0 x4).bind fun t247 => (if t247 = true then (if x4 = 0 then (spec_CountOnsetless.l0 k x0 (wrap64 (x3 + 1)) (wrap64 (x4 + 1))) else ((spec_IsVowelAt.f x0 (wrap64 (x4 - 1))).bind fun t248 => (if t248 = true then (spec_CountOnsetless.l0 k x0 (wrap64 (x3 + 1)) (wrap64 (x4 + 1))) else (spec_CountOnsetless.l0 k x0 x3 (wrap64 (x4 + 1)))))) else (spec_CountOnsetless.l0 k x0 x3 (wrap64 (x4 + 1))))) else (some x3)
end
def spec_CountOnsetless.f (k : Nat) (a0 : ByteArray) : Option (Int) := spec_CountOnsetless.l0 k a0 0 0
theorem spec_CountOnsetless.mono_l : ∀ k, (∀ y0 y1 y2, LeO (spec_CountOnsetless.l0 k y0 y1 y2) (spec_CountOnsetless.l0 (k + 1) y0 y1 y2)) ∧ (∀ y0 y1 y2 y3, LeO (spec_CountOnsetless.j1 k y0 y1 y2 y3) (spec_CountOnsetless.j1 (k + 1) y0 y1 y2 y3))
 | 0 => ⟨fun _ _ _ r h => by simp [spec_CountOnsetless.l0] at h, fun _ _ _ _ r h => by simp [spec_CountOnsetless.j1] at h⟩
 | k + 1 => by
  obtain ⟨ih0, ih1⟩ := spec_CountOnsetless.mono_l k; refine ⟨?_, ?_⟩
  ·intro y0 y1 y2; unfold spec_CountOnsetless.l0
   with_reducible repeat' first | exact ih0 _ _ _ | exact ih1 _ _ _ _ | exact spec_IsForm.mono _ _ | exact LeO.refl _ | exact LeO.none _ | refine LeO.ite ?_ ?_ | refine LeO.bind ?_ (fun _ => ?_)
  ·intro y0 y1 y2 y3; unfold spec_CountOnsetless.j1
   with_reducible repeat' first | exact ih0 _ _ _ | exact ih1 _ _ _ _ | exact spec_IsForm.mono _ _ | exact LeO.refl _ | exact LeO.none _ | refine LeO.ite ?_ ?_ | refine LeO.bind ?_ (fun _ => ?_)
theorem spec_CountOnsetless.mono : ∀ a0 k, LeO (spec_CountOnsetless.f k a0) (spec_CountOnsetless.f (k + 1) a0) := by
 intro a0 k; obtain ⟨ih0, ih1⟩ := spec_CountOnsetless.mono_l k; unfold spec_CountOnsetless.f
 with_reducible repeat' first | exact ih0 _ _ _ | exact ih1 _ _ _ _ | exact spec_IsForm.mono _ _ | exact LeO.refl _ | exact LeO.none _ | refine LeO.ite ?_ ?_ | refine LeO.bind ?_ (fun _ => ?_)
theorem spec_CountOnsetless.calls (k : Nat) (a0 : ByteArray) (r : Int) (w : World) (h : spec_CountOnsetless.f k a0 = some r) :
  Calls Tryz.prog 112 #[.string a0] w fun e w' => e = .returned (.int .i64 r) ∧ Drawn0 w w' := by
 have H := h; unfold spec_CountOnsetless.f at H; clear h; have H' := asT H; clear H; go_enter Tryz.func112, Tryz.ntmps112
 go_wp2
 go_loopg [3, 4] k (fun kq v3 v4 w' => ∃ (x3_1 : Int) (x4_1 : Int), v3 = .int .i64 x3_1 ∧ v4 = .int .i64 x4_1 ∧ Aside0 (spec_CountOnsetless.l0 kq a0 x3_1 x4_1 = some r) ∧ Aside0 (kq ≤ k) ∧ Drawn0 w w')
 case atStart => exact ⟨(0), (0), rdT, rdT, H', ⟨Nat.le_refl _⟩, drT⟩
 case round =>
  clear H'; (try clear c1); obtain ⟨x3_1, x4_1, rfl, rfl, HA, HK1, ⟨m1, rfl⟩⟩ := hrel
  cases gk with
  | zero => exact absurd HA.out (by simp [spec_CountOnsetless.l0])
  | succ k1 =>
   have H := HA.out; clear HA
   simp only [spec_CountOnsetless.l0] at H
   have HC2 := asT H; clear H
   go_upto_region 3 with (fail)
   go_cut [12] (fun v12 wc => ∃ (kq : Nat) (x12_1 : Bool), v12 = .bool x12_1 ∧ Aside0 (spec_CountOnsetless.j1 kq a0 x3_1 x4_1 x12_1 = some r) ∧ Aside0 (kq ≤ k1) ∧ Drawn0 w wc)
   case first =>
    have H := HC2.out; clear HC2; by_cases c3 : x4_1 < (a0.size : Int)
    ·rw [if_pos c3] at H; have c3b0 := dt c3; clear c3
     (first | rw [c3b0] | (simp only [i64_w, i32_w]; rw [c3b0]) | skip)
     obtain ⟨t246, A4, H⟩ := be H; have H' := asT H; clear H
     go_wp2_with (first | (go_at_call 36; (with_reducible refine (spec_IsForm.calls k1 a0 t246 _ A4.out).mono ?_); rintro e w' ⟨rfl, ⟨nd, rfl⟩⟩))
     go_meet
     case rel => exact ⟨_, (t246), rdT, H', ⟨by have := HK1.out; first | omega | exact Nat.le_refl _⟩, drT⟩
    ·rw [if_neg c3] at H; have c3b0 := df c3; clear c3
     (first | rw [c3b0] | (simp only [i64_w, i32_w]; rw [c3b0]) | skip)
     have H' := asT H; clear H
     go_wp2
     go_meet
     case rel => exact ⟨_, (false), rdT, H', ⟨by have := HK1.out; first | omega | exact Nat.le_refl _⟩, drT⟩
   case rest =>
    clear HC2; (try clear c1 p2 c3 c3b0); obtain ⟨kq, x12_1, rfl, HA, HJ1, ⟨mc1, rfl⟩⟩ := hcut
    cases kq with
    | zero => exact absurd HA.out (by simp [spec_CountOnsetless.j1])
    | succ kj1 =>
     have H := HA.out; clear HA
     simp only [spec_CountOnsetless.j1] at H
     by_cases c5 : x12_1 = true
     ·subst c5; rw [if_pos rfl] at H; obtain ⟨t247, A6, H⟩ := be H; by_cases c7 : t247 = true
      ·subst c7; rw [if_pos rfl] at H; have H1 := H; clear H; have H := H1; clear H1; by_cases c8 : x4_1 = 0
       ·rw [if_pos c8] at H; have c8b0 : (x4_1 == 0) = true := eC c8; have c8b1 : (x4_1 != 0) = false := eA c8; clear c8; have H' := asT H; clear H
        go_wp2_with (first | ((with_reducible refine gate_callee (f := 151) rfl ?_); refine goesL_ (some 17) rfl rfl Tryz.func151 (by kernel_rfl) rfl #[.string a0, .int .i64 x4_1] rfl eqT ?_; (with_reducible refine (spec_IsVowelAt.calls a0 x4_1 true _ A6.out).mono ?_); rintro e w' ⟨rfl, ⟨nd, rfl⟩⟩; refine ⟨_, rfl, ?_⟩))
        go_roundg kj1
        case measure => have := HK1.out; have := HJ1.out; omega
        case rel => exact ⟨(wrap64 (x3_1 + 1)), (wrap64 (x4_1 + 1)), rdT, rdT, H', ⟨by have := HK1.out; have := HJ1.out; omega⟩, drT⟩
       ·rw [if_neg c8] at H; have c8b0 : (x4_1 == 0) = false := eB c8; have c8b1 : (x4_1 != 0) = true := eD c8; obtain ⟨t248, A9, H⟩ := be H; by_cases c10 : t248 = true
        ·subst c10; rw [if_pos rfl] at H; have H' := asT H; clear H
         go_wp2_with (first | ((with_reducible refine gate_callee (f := 151) rfl ?_); refine goesL_ (some 17) rfl rfl Tryz.func151 (by kernel_rfl) rfl #[.string a0, .int .i64 x4_1] rfl eqT ?_; (with_reducible refine (spec_IsVowelAt.calls a0 x4_1 true _ A6.out).mono ?_); rintro e w' ⟨rfl, ⟨nd, rfl⟩⟩; refine ⟨_, rfl, ?_⟩) | (go_at_call 151; (with_reducible refine (spec_IsVowelAt.calls a0 (wrap64 (x4_1 - 1)) true _ A9.out).mono ?_); rintro e w' ⟨rfl, ⟨nd, rfl⟩⟩))
         go_roundg kj1
         case measure => have := HK1.out; have := HJ1.out; omega
         case rel => exact ⟨(wrap64 (x3_1 + 1)), (wrap64 (x4_1 + 1)), rdT, rdT, H', ⟨by have := HK1.out; have := HJ1.out; omega⟩, drT⟩
        ·replace c10 := eE c10; subst c10; rw [if_neg nF] at H; have H' := asT H; clear H
         go_wp2_with (first | ((with_reducible refine gate_callee (f := 151) rfl ?_); refine goesL_ (some 17) rfl rfl Tryz.func151 (by kernel_rfl) rfl #[.string a0, .int .i64 x4_1] rfl eqT ?_; (with_reducible refine (spec_IsVowelAt.calls a0 x4_1 true _ A6.out).mono ?_); rintro e w' ⟨rfl, ⟨nd, rfl⟩⟩; refine ⟨_, rfl, ?_⟩) | (go_at_call 151; (with_reducible refine (spec_IsVowelAt.calls a0 (wrap64 (x4_1 - 1)) false _ A9.out).mono ?_); rintro e w' ⟨rfl, ⟨nd, rfl⟩⟩))
         go_roundg kj1
         case measure => have := HK1.out; have := HJ1.out; omega
         case rel => exact ⟨(x3_1), (wrap64 (x4_1 + 1)), rdT, rdT, H', ⟨by have := HK1.out; have := HJ1.out; omega⟩, drT⟩
      ·replace c7 := eE c7; subst c7; rw [if_neg nF] at H; have H' := asT H; clear H
       go_wp2_with (first | ((with_reducible refine gate_callee (f := 151) rfl ?_); refine goesL_ (some 17) rfl rfl Tryz.func151 (by kernel_rfl) rfl #[.string a0, .int .i64 x4_1] rfl eqT ?_; (with_reducible refine (spec_IsVowelAt.calls a0 x4_1 false _ A6.out).mono ?_); rintro e w' ⟨rfl, ⟨nd, rfl⟩⟩; refine ⟨_, rfl, ?_⟩))
       go_roundg kj1
       case measure => have := HK1.out; have := HJ1.out; omega
       case rel => exact ⟨(x3_1), (wrap64 (x4_1 + 1)), rdT, rdT, H', ⟨by have := HK1.out; have := HJ1.out; omega⟩, drT⟩
     ·replace c5 := eE c5; subst c5; rw [if_neg nF] at H; have H1 := H; clear H; have H := H1; clear H1; obtain rfl := oI H
      go_wp2
      go_ret; exact ⟨rdT, drT⟩
end Go.Proofs.YtlmfpkiaikjlbaaGreat.PFnExactRowsFor
