-- Made by gen.py (a program of this session) out of the translation; Lean checks it.
import Derived.Test.YtdamagcfmhimfadPFnExactProfileOfx0
import Derived.Test.YtdamagcfmhimfadPFnExactProfileOfx7
import Derived.Test.YtdamagcfmhimfadPFnExactProfileOfx8
namespace Go.Proofs.Ytdamagcfmhimfad.PFnExactProfileOf
open Go.RowKit Go.Proofs.YtdamagcfmhimfadB Go.Proofs.YtdamagcfmhimfadW.PrintWords Go.Proofs.YtdamagcfmhimfadW.PrintLast Go.Proofs.YtdamagcfmhimfadW.PrintMore
attribute [local go_sem] max2_int min2_int max_two min_two max_three min_three max_four min_four   -- for this text's walks alone
set_option linter.unusedVariables false
set_option linter.unusedSimpArgs false

/-! ### impl_places_at_CountClusters_1: function 178 -/
mutual
def impl_places_at_CountClusters_1.l0 : Nat → ByteArray → Int → Int → Int → Option (Int)
 | 0, _, _, _, _ => none
 | k + 1, x0, x5, x10, x11 => if x11 < x10 then (if x11 > 0 then (if 0 ≤ (wrap64 (x11 - 1)) then (if (wrap64 (x11 - 1)) < (x0.size : Int) then (impl_places_at_CountClusters_1.j1 k x0 x5 x11 (bt x0 (wrap64 (x11 - 1))) 0 x10 x11) else (none)) else (none)) else (impl_places_at_CountClusters_1.j1 k x0 x5 x11 0 0 x10 x11)) else (some x5)
def impl_places_at_CountClusters_1.j1 : Nat → ByteArray → Int → Int → Int → Int → Int → Int → Option (Int)
 | 0, _, _, _, _, _, _, _ => none
 | k + 1, x0, x5, x6, x7, x8, x10, x11 => if (wrap64 (x6 + 1)) < (x0.size : Int) then (if 0 ≤ (wrap64 (x6 + 1)) then (impl_places_at_CountClusters_1.j2 k x0 x5 x6 x7 (bt x0 (wrap64 (x6 + 1))) x10 x11) else (none)) else (impl_places_at_CountClusters_1.j2 k x0 x5 x6 x7 x8 x10 x11)
def impl_places_at_CountClusters_1.j2 : Nat → ByteArray → Int → Int → Int → Int → Int → Int → Option (Int)
 | 0, _, _, _, _, _, _, _ => none
 | k + 1, x0, x5, x6, x7, x8, x10, x11 => (impl_IsForm.f k x0).bind fun t300 => (if t300 = true then (if 0 ≤ x6 then (if x6 < (x0.size : Int) then ((impl_CountClusters_1.f x7 (bt x0 x6) x8).bind fun t301 => (if t301 = true then (impl_places_at_CountClusters_1.l0 k x0 (wrap64 (x5 + 1)) x10 (wrap64 (x11 + 1))) else (impl_places_at_CountClusters_1.l0 k x0 x5 x10 (wrap64 (x11 + 1))))) else (none)) else (none)) else (impl_places_at_CountClusters_1.l0 k x0 x5 x10 (wrap64 (x11 + 1))))
end
def impl_places_at_CountClusters_1.f (k : Nat) (a0 : ByteArray) (a1 : Unit) : Option (Int) := impl_places_at_CountClusters_1.l0 k a0 0 (a0.size : Int) 0
theorem impl_places_at_CountClusters_1.mono_l : ∀ k, (∀ y0 y1 y2 y3, LeO (impl_places_at_CountClusters_1.l0 k y0 y1 y2 y3) (impl_places_at_CountClusters_1.l0 (k + 1) y0 y1 y2 y3)) ∧ (∀ y0 y1 y2 y3 y4 y5 y6, LeO (impl_places_at_CountClusters_1.j1 k y0 y1 y2 y3 y4 y5 y6) (impl_places_at_CountClusters_1.j1 (k + 1) y0 y1 y2 y3 y4 y5 y6)) ∧ (∀ y0 y1 y2 y3 y4 y5 y6, LeO (impl_places_at_CountClusters_1.j2 k y0 y1 y2 y3 y4 y5 y6) (impl_places_at_CountClusters_1.j2 (k + 1) y0 y1 y2 y3 y4 y5 y6))
 | 0 => ⟨fun _ _ _ _ r h => by simp [impl_places_at_CountClusters_1.l0] at h, fun _ _ _ _ _ _ _ r h => by simp [impl_places_at_CountClusters_1.j1] at h, fun _ _ _ _ _ _ _ r h => by simp [impl_places_at_CountClusters_1.j2] at h⟩
 | k + 1 => by
  obtain ⟨ih0, ih1, ih2⟩ := impl_places_at_CountClusters_1.mono_l k; refine ⟨?_, ?_, ?_⟩
  ·intro y0 y1 y2 y3
   unfold impl_places_at_CountClusters_1.l0
   repeat' first
   | (with_reducible exact ih0 _ _ _ _)
   | (with_reducible exact ih1 _ _ _ _ _ _ _)
   | (with_reducible exact ih2 _ _ _ _ _ _ _)
   | (with_reducible exact impl_IsForm.mono _ _)
   | (with_reducible exact LeO.refl _)
   | (with_reducible exact LeO.none _)
   | (with_reducible refine LeO.ite ?_ ?_)
   | (with_reducible refine LeO.bind ?_ (fun _ => ?_))
   | exact ih0 _ _ _ _
   | exact ih1 _ _ _ _ _ _ _
   | exact ih2 _ _ _ _ _ _ _
   | exact impl_IsForm.mono _ _
   | exact LeO.none _
   | refine LeO.ite ?_ ?_
   | refine LeO.bind ?_ (fun _ => ?_)
  ·intro y0 y1 y2 y3 y4 y5 y6
   unfold impl_places_at_CountClusters_1.j1
   repeat' first
   | (with_reducible exact ih0 _ _ _ _)
   | (with_reducible exact ih1 _ _ _ _ _ _ _)
   | (with_reducible exact ih2 _ _ _ _ _ _ _)
   | (with_reducible exact impl_IsForm.mono _ _)
   | (with_reducible exact LeO.refl _)
   | (with_reducible exact LeO.none _)
   | (with_reducible refine LeO.ite ?_ ?_)
   | (with_reducible refine LeO.bind ?_ (fun _ => ?_))
   | exact ih0 _ _ _ _
   | exact ih1 _ _ _ _ _ _ _
   | exact ih2 _ _ _ _ _ _ _
   | exact impl_IsForm.mono _ _
   | exact LeO.none _
   | refine LeO.ite ?_ ?_
   | refine LeO.bind ?_ (fun _ => ?_)
  ·intro y0 y1 y2 y3 y4 y5 y6
   unfold impl_places_at_CountClusters_1.j2
   repeat' first
   | (with_reducible exact ih0 _ _ _ _)
   | (with_reducible exact ih1 _ _ _ _ _ _ _)
   | (with_reducible exact ih2 _ _ _ _ _ _ _)
   | (with_reducible exact impl_IsForm.mono _ _)
   | (with_reducible exact LeO.refl _)
   | (with_reducible exact LeO.none _)
   | (with_reducible refine LeO.ite ?_ ?_)
   | (with_reducible refine LeO.bind ?_ (fun _ => ?_))
   | exact ih0 _ _ _ _
   | exact ih1 _ _ _ _ _ _ _
   | exact ih2 _ _ _ _ _ _ _
   | exact impl_IsForm.mono _ _
   | exact LeO.none _
   | refine LeO.ite ?_ ?_
   | refine LeO.bind ?_ (fun _ => ?_)
theorem impl_places_at_CountClusters_1.mono : ∀ a0 a1 k, LeO (impl_places_at_CountClusters_1.f k a0 a1) (impl_places_at_CountClusters_1.f (k + 1) a0 a1) := by
 intro a0 a1 k
 obtain ⟨ih0, ih1, ih2⟩ := impl_places_at_CountClusters_1.mono_l k
 unfold impl_places_at_CountClusters_1.f
 repeat' first
   | (with_reducible exact ih0 _ _ _ _)
   | (with_reducible exact ih1 _ _ _ _ _ _ _)
   | (with_reducible exact ih2 _ _ _ _ _ _ _)
   | (with_reducible exact impl_IsForm.mono _ _)
   | (with_reducible exact LeO.refl _)
   | (with_reducible exact LeO.none _)
   | (with_reducible refine LeO.ite ?_ ?_)
   | (with_reducible refine LeO.bind ?_ (fun _ => ?_))
   | exact ih0 _ _ _ _
   | exact ih1 _ _ _ _ _ _ _
   | exact ih2 _ _ _ _ _ _ _
   | exact impl_IsForm.mono _ _
   | exact LeO.none _
   | refine LeO.ite ?_ ?_
   | refine LeO.bind ?_ (fun _ => ?_)
set_option maxHeartbeats 8000000 in
set_option maxRecDepth 100000 in
theorem impl_places_at_CountClusters_1.calls (k : Nat) (a0 : ByteArray) (a1 : Unit) (r : Int) (w : World) (h : impl_places_at_CountClusters_1.f k a0 a1 = some r) :
  Calls Try.prog 96 #[.string a0, .func (.func 101) #[] #[]] w fun e w' => e = .returned (.int .i64 r) ∧ Below w.heap.size w w' := by
 have HB := asT (Below.refl w.heap.size w)
 have H : (impl_places_at_CountClusters_1.l0 k a0 0 (a0.size : Int) 0) = some r := h
 clear h; have H' := Aside0.mk H; clear H
 go_enter Try.func96, Try.ntmps96
 go_wp2
 go_loopg [5, 11] k (fun kq v5 v11 w' => ∃ (x5_1 : Int) (x11_1 : Int), v5 = .int .i64 x5_1 ∧ v11 = .int .i64 x11_1 ∧ Aside0 (impl_places_at_CountClusters_1.l0 kq a0 x5_1 (a0.size : Int) x11_1 = some r) ∧ Aside0 (kq ≤ k) ∧ Aside0 (Below w.heap.size w w'))
 case atStart => exact ⟨(0), (0), rdT, rdT, H', ⟨Nat.le_refl _⟩, ⟨hbT HB.out⟩⟩
 case round =>
  clear H'; (try clear p2); obtain ⟨x5_1, x11_1, rfl, rfl, HA, HK1, HB⟩ := hrel
  cases gk with
  | zero => exact absurd HA.out (by simp [impl_places_at_CountClusters_1.l0])
  | succ k1 =>
   have H := HA.out; clear HA
   simp only [impl_places_at_CountClusters_1.l0] at H
   by_cases c3 : x11_1 < (a0.size : Int)
   ·rw [if_pos c3] at H
    have c3b0 : decide (x11_1 < (a0.size : Int)) = true := decide_eq_true c3
    clear c3; have HC4 := Aside0.mk H; clear H
    go_upto_if 15 with (fail)
    go_cut [7] (fun v7 wc => ∃ (kq : Nat) (x7_3 : Int), v7 = .int .u8 x7_3 ∧ Aside0 (impl_places_at_CountClusters_1.j1 kq a0 x5_1 x11_1 x7_3 0 (a0.size : Int) x11_1 = some r) ∧ Aside0 (kq ≤ k1) ∧ Aside0 (Below w.heap.size w wc))
    case first =>
     have H := HC4.out; clear HC4
     by_cases c5 : x11_1 > 0
     ·rw [if_pos c5] at H
      have c5b0 : decide (0 < x11_1) = true := decide_eq_true c5
      clear c5
      (first | rw [c5b0] | (simp only [i64_w, i32_w]; rw [c5b0]) | skip)
      obtain ⟨ji6, hji6⟩ : ∃ j_ : Int, (wrap64 (x11_1 - 1)) = j_ := ⟨_, rfl⟩
      replace H : (if 0 ≤ (ji6) then (if (ji6) < (a0.size : Int) then (impl_places_at_CountClusters_1.j1 k1 a0 x5_1 x11_1 (bt a0 (ji6)) 0 (a0.size : Int) x11_1) else (none)) else (none)) = some r := by first | (rw [hji6] at H; exact H) | (simp only [hji6] at H ⊢; exact H)
      have hji6w : (IntKind.i64.wrap (x11_1 - 1)) = ji6 := (i64_w _).trans hji6
      by_cases c7 : 0 ≤ (ji6)
      ·rw [if_pos c7] at H
       have c7b0 : decide (0 ≤ (ji6)) = true := decide_eq_true c7
       clear c7
       by_cases c8 : (ji6) < (a0.size : Int)
       ·rw [if_pos c8] at H
        have c8b0 : decide ((ji6) < (a0.size : Int)) = true := decide_eq_true c8
        clear c8; have H' := Aside0.mk H; clear H
        have p9 : 0 ≤ ((ji6) : Int) := of_decide_eq_true asmT
        have q9 : (ji6) < (a0.size : Int) := of_decide_eq_true asmT
        have hx9 := bt_at a0 (ji6); replace p9 := eq_true p9; replace q9 := eq_true q9
        go_wp2
        go_meet
        case rel => exact ⟨_, (bt a0 (ji6)), (by first | rfl | (simp; done) | (simp only [← hji6] <;> (first | rfl | simp)) | (simp [*]; done)), H', ⟨by have := HK1.out; first | omega | exact Nat.le_refl _⟩, ⟨hbT HB.out⟩⟩
       ·rw [if_neg c8] at H
        exact absurd H (by simp)
      ·rw [if_neg c7] at H
       exact absurd H (by simp)
     ·rw [if_neg c5] at H
      have c5b0 : decide (0 < x11_1) = false := decide_eq_false c5
      clear c5
      (first | rw [c5b0] | (simp only [i64_w, i32_w]; rw [c5b0]) | skip)
      have H' := Aside0.mk H; clear H
      go_wp2
      go_meet
      case rel => exact ⟨_, (0), rdT, H', ⟨by have := HK1.out; first | omega | exact Nat.le_refl _⟩, ⟨hbT HB.out⟩⟩
    case rest =>
     clear HC4; (try clear p2); (try clear c3); (try clear c3b0); (try clear c5); (try clear c5b0); (try clear p6); (try clear c7); (try clear c7b0); (try clear c8); (try clear c8b0); (try clear c9); (try clear p9); (try clear q9); (try clear hx9); (try clear p2); (try clear p9); (try clear q9); obtain ⟨kq, x7_3, rfl, HA, HJ3, HB⟩ := hcut
     cases kq with
     | zero => exact absurd HA.out (by simp [impl_places_at_CountClusters_1.j1])
     | succ kj3 =>
      have H := HA.out; clear HA
      simp only [impl_places_at_CountClusters_1.j1] at H
      have HC10 := Aside0.mk H; clear H
      go_upto_if 24 with (fail)
      go_cut [8] (fun v8 wc => ∃ (kq : Nat) (x8_9 : Int), v8 = .int .u8 x8_9 ∧ Aside0 (impl_places_at_CountClusters_1.j2 kq a0 x5_1 x11_1 x7_3 x8_9 (a0.size : Int) x11_1 = some r) ∧ Aside0 (kq ≤ kj3) ∧ Aside0 (Below w.heap.size w wc))
      case first =>
       have H := HC10.out; clear HC10
       by_cases c11 : (wrap64 (x11_1 + 1)) < (a0.size : Int)
       ·rw [if_pos c11] at H
        have c11b0 : decide ((wrap64 (x11_1 + 1)) < (a0.size : Int)) = true := decide_eq_true c11
        clear c11
        (first | rw [c11b0] | (simp only [i64_w, i32_w]; rw [c11b0]) | skip)
        obtain ⟨ji12, hji12⟩ : ∃ j_ : Int, (wrap64 (x11_1 + 1)) = j_ := ⟨_, rfl⟩
        replace H : (if 0 ≤ (ji12) then (impl_places_at_CountClusters_1.j2 kj3 a0 x5_1 x11_1 x7_3 (bt a0 (ji12)) (a0.size : Int) x11_1) else (none)) = some r := by first | (rw [hji12] at H; exact H) | (simp only [hji12] at H ⊢; exact H)
        (try rw [hji12] at c11b0)
        have hji12w : (IntKind.i64.wrap (x11_1 + 1)) = ji12 := (i64_w _).trans hji12
        by_cases c13 : 0 ≤ (ji12)
        ·rw [if_pos c13] at H
         have c13b0 : decide (0 ≤ (ji12)) = true := decide_eq_true c13
         clear c13; have H' := Aside0.mk H; clear H
         have p14 : 0 ≤ ((ji12) : Int) := of_decide_eq_true asmT
         have q14 : (ji12) < (a0.size : Int) := of_decide_eq_true asmT
         have hx14 := bt_at a0 (ji12); replace p14 := eq_true p14; replace q14 := eq_true q14
         go_wp2
         go_meet
         case rel => exact ⟨_, (bt a0 (ji12)), (by first | rfl | (simp; done) | (simp only [← hji12] <;> (first | rfl | simp)) | (simp [*]; done)), H', ⟨by have := HK1.out; have := HJ3.out; first | omega | exact Nat.le_refl _⟩, ⟨hbT HB.out⟩⟩
        ·rw [if_neg c13] at H
         exact absurd H (by simp)
       ·rw [if_neg c11] at H
        have c11b0 : decide ((wrap64 (x11_1 + 1)) < (a0.size : Int)) = false := decide_eq_false c11
        clear c11
        (first | rw [c11b0] | (simp only [i64_w, i32_w]; rw [c11b0]) | skip)
        have H' := Aside0.mk H; clear H
        go_wp2
        go_meet
        case rel => exact ⟨_, (0), rdT, H', ⟨by have := HK1.out; have := HJ3.out; first | omega | exact Nat.le_refl _⟩, ⟨hbT HB.out⟩⟩
      case rest =>
       clear HC10; (try clear c1); (try clear p1); (try clear q1); (try clear hx1); (try clear p2); (try clear c3); (try clear c3b0); (try clear c5); (try clear c5b0); (try clear p6); (try clear c7); (try clear c7b0); (try clear c8); (try clear c8b0); (try clear c9); (try clear p9); (try clear q9); (try clear hx9); (try clear c11); (try clear c11b0); (try clear c13); (try clear c13b0); (try clear p14); (try clear q14); (try clear hx14); (try clear p14); (try clear p2); (try clear p6); (try clear p9); (try clear q14); (try clear q9); obtain ⟨kq, x8_9, rfl, HA, HJ9, HB⟩ := hcut
       cases kq with
       | zero => exact absurd HA.out (by simp [impl_places_at_CountClusters_1.j2])
       | succ kj9 =>
        have H := HA.out; clear HA
        simp only [impl_places_at_CountClusters_1.j2] at H
        replace H := Option.bind_eq_some_iff.mp H; obtain ⟨t300, A150, H⟩ := H; replace H : (if t300 = true then (if 0 ≤ x11_1 then (if x11_1 < (a0.size : Int) then ((impl_CountClusters_1.f x7_3 (bt a0 x11_1) x8_9).bind fun t301 => (if t301 = true then (impl_places_at_CountClusters_1.l0 kj9 a0 (wrap64 (x5_1 + 1)) (a0.size : Int) (wrap64 (x11_1 + 1))) else (impl_places_at_CountClusters_1.l0 kj9 a0 x5_1 (a0.size : Int) (wrap64 (x11_1 + 1))))) else (none)) else (none)) else (impl_places_at_CountClusters_1.l0 kj9 a0 x5_1 (a0.size : Int) (wrap64 (x11_1 + 1)))) = some r := H; have A15 := Aside0.mk A150; clear A150
        by_cases c16 : t300 = true
        ·subst c16
         have H1 : (if 0 ≤ x11_1 then (if x11_1 < (a0.size : Int) then ((impl_CountClusters_1.f x7_3 (bt a0 x11_1) x8_9).bind fun t301 => (if t301 = true then (impl_places_at_CountClusters_1.l0 kj9 a0 (wrap64 (x5_1 + 1)) (a0.size : Int) (wrap64 (x11_1 + 1))) else (impl_places_at_CountClusters_1.l0 kj9 a0 x5_1 (a0.size : Int) (wrap64 (x11_1 + 1))))) else (none)) else (none)) = some r := by rw [if_pos rfl] at H; exact H
         clear H; have H := H1; clear H1
         by_cases c17 : 0 ≤ x11_1
         ·rw [if_pos c17] at H
          have c17b0 : decide (0 ≤ x11_1) = true := decide_eq_true c17
          clear c17
          by_cases c18 : x11_1 < (a0.size : Int)
          ·rw [if_pos c18] at H
           have c18b0 : decide (x11_1 < (a0.size : Int)) = true := decide_eq_true c18
           clear c18; replace H := Option.bind_eq_some_iff.mp H; obtain ⟨t301, A200, H⟩ := H; replace H : (if t301 = true then (impl_places_at_CountClusters_1.l0 kj9 a0 (wrap64 (x5_1 + 1)) (a0.size : Int) (wrap64 (x11_1 + 1))) else (impl_places_at_CountClusters_1.l0 kj9 a0 x5_1 (a0.size : Int) (wrap64 (x11_1 + 1)))) = some r := H; have A20 := Aside0.mk A200; clear A200
           by_cases c21 : t301 = true
           ·subst c21
            have H1 : (impl_places_at_CountClusters_1.l0 kj9 a0 (wrap64 (x5_1 + 1)) (a0.size : Int) (wrap64 (x11_1 + 1))) = some r := by rw [if_pos rfl] at H; exact H
            clear H; have H := H1; clear H1; have H' := Aside0.mk H; clear H
            go_wp2_with (first | ((with_reducible refine gate_callee (f := 94) rfl ?_); refine goesL_ (some 30) rfl rfl Try.func94 (by kernel_rfl) rfl #[.string a0] rfl eqT ?_; (with_reducible refine (impl_IsForm.calls kj9 a0 true _ A15.out).mono ?_); rintro e w' ⟨rfl, ⟨nd, rfl⟩⟩; refine ⟨_, rfl, ?_⟩; have p19 : 0 ≤ (x11_1 : Int) := of_decide_eq_true asmT; have q19 : x11_1 < (a0.size : Int) := of_decide_eq_true asmT; have hx19 := bt_at a0 x11_1; replace p19 := eq_true p19; replace q19 := eq_true q19) | (go_at_call 101; (with_reducible refine (impl_CountClusters_1.calls x7_3 (bt a0 x11_1) x8_9 true _ A20.out).mono ?_); rintro e w22 ⟨rfl, hb⟩; have n0_ := asT (below_step (hbT HB.out) hb); clear HB; have HB := n0_; clear n0_; (try clear hb); (try clear hb2); (try clear hk); (try clear hi)))
            go_roundg kj9
            case measure => have := HK1.out; have := HJ3.out; have := HJ9.out; omega
            case rel => exact ⟨(wrap64 (x5_1 + 1)), (wrap64 (x11_1 + 1)), rdT, rdT, H', ⟨by have := HK1.out; have := HJ3.out; have := HJ9.out; omega⟩, ⟨hbT HB.out⟩⟩
           ·replace c21 := Bool.eq_false_iff.mpr c21
            subst c21
            have H1 : (impl_places_at_CountClusters_1.l0 kj9 a0 x5_1 (a0.size : Int) (wrap64 (x11_1 + 1))) = some r := by rw [if_neg (show ¬ (false = true) by decide)] at H; exact H
            clear H; have H := H1; clear H1; have H' := Aside0.mk H; clear H
            go_wp2_with (first | ((with_reducible refine gate_callee (f := 94) rfl ?_); refine goesL_ (some 30) rfl rfl Try.func94 (by kernel_rfl) rfl #[.string a0] rfl eqT ?_; (with_reducible refine (impl_IsForm.calls kj9 a0 true _ A15.out).mono ?_); rintro e w' ⟨rfl, ⟨nd, rfl⟩⟩; refine ⟨_, rfl, ?_⟩; have p19 : 0 ≤ (x11_1 : Int) := of_decide_eq_true asmT; have q19 : x11_1 < (a0.size : Int) := of_decide_eq_true asmT; have hx19 := bt_at a0 x11_1; replace p19 := eq_true p19; replace q19 := eq_true q19) | (go_at_call 101; (with_reducible refine (impl_CountClusters_1.calls x7_3 (bt a0 x11_1) x8_9 false _ A20.out).mono ?_); rintro e w23 ⟨rfl, hb⟩; have n0_ := asT (below_step (hbT HB.out) hb); clear HB; have HB := n0_; clear n0_; (try clear hb); (try clear hb2); (try clear hk); (try clear hi)))
            go_roundg kj9
            case measure => have := HK1.out; have := HJ3.out; have := HJ9.out; omega
            case rel => exact ⟨(x5_1), (wrap64 (x11_1 + 1)), rdT, rdT, H', ⟨by have := HK1.out; have := HJ3.out; have := HJ9.out; omega⟩, ⟨hbT HB.out⟩⟩
          ·rw [if_neg c18] at H
           exact absurd H (by simp)
         ·rw [if_neg c17] at H
          exact absurd H (by simp)
        ·replace c16 := Bool.eq_false_iff.mpr c16
         subst c16
         have H1 : (impl_places_at_CountClusters_1.l0 kj9 a0 x5_1 (a0.size : Int) (wrap64 (x11_1 + 1))) = some r := by rw [if_neg (show ¬ (false = true) by decide)] at H; exact H
         clear H; have H := H1; clear H1; have H' := Aside0.mk H; clear H
         go_wp2_with (first | ((with_reducible refine gate_callee (f := 94) rfl ?_); refine goesL_ (some 30) rfl rfl Try.func94 (by kernel_rfl) rfl #[.string a0] rfl eqT ?_; (with_reducible refine (impl_IsForm.calls kj9 a0 false _ A15.out).mono ?_); rintro e w' ⟨rfl, ⟨nd, rfl⟩⟩; refine ⟨_, rfl, ?_⟩))
         go_roundg kj9
         case measure => have := HK1.out; have := HJ3.out; have := HJ9.out; omega
         case rel => exact ⟨(x5_1), (wrap64 (x11_1 + 1)), rdT, rdT, H', ⟨by have := HK1.out; have := HJ3.out; have := HJ9.out; omega⟩, ⟨hbT HB.out⟩⟩
   ·rw [if_neg c3] at H
    have c3b0 : decide (x11_1 < (a0.size : Int)) = false := decide_eq_false c3
    clear c3
    obtain rfl := Option.some.inj H
    go_wp2
    go_ret
    exact ⟨rlT, hbT HB.out⟩

/-! ### impl_CountClusters: function 59 -/
def impl_CountClusters.f (k : Nat) (a0 : ByteArray) : Option (Int) := (impl_places_at_CountClusters_1.f k a0 ()).bind fun t302 => (some t302)
theorem impl_CountClusters.mono : ∀ a0 k, LeO (impl_CountClusters.f k a0) (impl_CountClusters.f (k + 1) a0) := by
 intro a0 k
 unfold impl_CountClusters.f
 repeat' first
   | (with_reducible exact impl_places_at_CountClusters_1.mono _ _ _)
   | (with_reducible exact LeO.refl _)
   | (with_reducible exact LeO.none _)
   | (with_reducible refine LeO.ite ?_ ?_)
   | (with_reducible refine LeO.bind ?_ (fun _ => ?_))
   | exact impl_places_at_CountClusters_1.mono _ _ _
   | exact LeO.none _
   | refine LeO.ite ?_ ?_
   | refine LeO.bind ?_ (fun _ => ?_)
set_option maxHeartbeats 8000000 in
set_option maxRecDepth 100000 in
theorem impl_CountClusters.calls (k : Nat) (a0 : ByteArray) (r : Int) (w : World) (h : impl_CountClusters.f k a0 = some r) :
  Calls Try.prog 59 #[.string a0] w fun e w' => e = .returned (.int .i64 r) ∧ Below w.heap.size w w' := by
 have HB := asT (Below.refl w.heap.size w)
 have H : ((impl_places_at_CountClusters_1.f k a0 ()).bind fun t302 => (some t302)) = some r := h
 clear h; replace H := Option.bind_eq_some_iff.mp H; obtain ⟨t302, A20, H⟩ := H; replace H : (some t302) = some r := H; have A2 := Aside0.mk A20; clear A20
 obtain rfl := Option.some.inj H
 go_enter Try.func59, Try.ntmps59
 go_wp2_with (first | ((with_reducible refine gate_callee (f := 96) rfl ?_); refine goesL_ (some 4) rfl rfl Try.func96 (by kernel_rfl) rfl #[.string a0, .func (.func 101) #[] #[]] rfl eqT ?_; (with_reducible refine (impl_places_at_CountClusters_1.calls k a0 () t302 _ A2.out).mono ?_); rintro e w3 ⟨rfl, hb⟩; refine ⟨_, rfl, ?_⟩; have n0_ := asT (below_step (hbT HB.out) hb); clear HB; have HB := n0_; clear n0_; (try clear hb); (try clear hb2); (try clear hk); (try clear hi)))
 go_ret
 exact ⟨rlT, hbT HB.out⟩

/-! ### impl_IsObstruent: function 128 -/
def impl_IsObstruent.f (a0 : Int) : Option (Bool) := (strings_IndexByte.f (⟨#[112, 116, 98, 100]⟩ : ByteArray) a0).bind fun t303 => (some (decide (t303 ≥ 0)))
set_option maxHeartbeats 8000000 in
set_option maxRecDepth 100000 in
theorem impl_IsObstruent.calls (a0 : Int) (r : Bool) (w : World) (h : impl_IsObstruent.f a0 = some r) :
  Calls Try.prog 128 #[.int .u8 a0] w fun e w' => e = .returned (.bool r) ∧ Drawn0 w w' := by
 have H : ((strings_IndexByte.f (⟨#[112, 116, 98, 100]⟩ : ByteArray) a0).bind fun t303 => (some (decide (t303 ≥ 0)))) = some r := h
 clear h; replace H := Option.bind_eq_some_iff.mp H; obtain ⟨t303, A20, H⟩ := H; replace H : (some (decide (t303 ≥ 0))) = some r := H; have A2 := Aside0.mk A20; clear A20
 obtain rfl := Option.some.inj H
 go_enter Try.func128, Try.ntmps128
 go_wp2_with (first | ((with_reducible refine gate_callee (f := 129) rfl ?_); refine goesL_ (some 4) rfl rfl Try.func129 (by kernel_rfl) rfl #[.string (⟨#[112, 116, 98, 100]⟩ : ByteArray), .int .u8 a0] rfl eqT ?_; (with_reducible refine (strings_IndexByte.calls (⟨#[112, 116, 98, 100]⟩ : ByteArray) a0 t303 _ A2.out).mono ?_); rintro e w' ⟨rfl, ⟨nd, rfl⟩⟩; refine ⟨_, rfl, ?_⟩))
 go_ret
 exact ⟨rdT, drT⟩

/-! ### impl_isVoiced: function 103 -/
def impl_isVoiced.f (a0 : Int) : Option (Bool) := (impl_IsObstruent.f a0).bind fun t304 => (if t304 = true then ((impl_HasFeature.f a0 1).bind fun t305 => (some t305)) else (some false))
set_option maxHeartbeats 8000000 in
set_option maxRecDepth 100000 in
theorem impl_isVoiced.calls (a0 : Int) (r : Bool) (w : World) (h : impl_isVoiced.f a0 = some r) :
  Calls Try.prog 103 #[.int .u8 a0] w fun e w' => e = .returned (.bool r) ∧ Below w.heap.size w w' := by
 have HB := asT (Below.refl w.heap.size w)
 have H : ((impl_IsObstruent.f a0).bind fun t304 => (if t304 = true then ((impl_HasFeature.f a0 1).bind fun t305 => (some t305)) else (some false))) = some r := h
 clear h; replace H := Option.bind_eq_some_iff.mp H; obtain ⟨t304, A20, H⟩ := H; replace H : (if t304 = true then ((impl_HasFeature.f a0 1).bind fun t305 => (some t305)) else (some false)) = some r := H; have A2 := Aside0.mk A20; clear A20
 by_cases c3 : t304 = true
 ·subst c3
  have H1 : ((impl_HasFeature.f a0 1).bind fun t305 => (some t305)) = some r := by rw [if_pos rfl] at H; exact H
  clear H; have H := H1; clear H1; replace H := Option.bind_eq_some_iff.mp H; obtain ⟨t305, A40, H⟩ := H; replace H : (some t305) = some r := H; have A4 := Aside0.mk A40; clear A40
  obtain rfl := Option.some.inj H
  go_enter Try.func103, Try.ntmps103
  go_wp2_with (first | ((with_reducible refine gate_callee (f := 128) rfl ?_); refine goesL_ (some 4) rfl rfl Try.func128 (by kernel_rfl) rfl #[.int .u8 a0] rfl eqT ?_; (with_reducible refine (impl_IsObstruent.calls a0 true _ A2.out).mono ?_); rintro e w' ⟨rfl, ⟨nd, rfl⟩⟩; refine ⟨_, rfl, ?_⟩) | (go_at_call 106; (with_reducible refine (impl_HasFeature.calls a0 1 t305 _ A4.out).mono ?_); rintro e w5 ⟨rfl, hb⟩; have n0_ := asT (below_step (hbT HB.out) hb); clear HB; have HB := n0_; clear n0_; (try clear hb); (try clear hb2); (try clear hk); (try clear hi)))
  go_ret
  exact ⟨rlT, hbT HB.out⟩
 ·replace c3 := Bool.eq_false_iff.mpr c3
  subst c3
  have H1 : (some false) = some r := by rw [if_neg (show ¬ (false = true) by decide)] at H; exact H
  clear H; have H := H1; clear H1
  obtain rfl := Option.some.inj H
  go_enter Try.func103, Try.ntmps103
  go_wp2_with (first | ((with_reducible refine gate_callee (f := 128) rfl ?_); refine goesL_ (some 4) rfl rfl Try.func128 (by kernel_rfl) rfl #[.int .u8 a0] rfl eqT ?_; (with_reducible refine (impl_IsObstruent.calls a0 false _ A2.out).mono ?_); rintro e w' ⟨rfl, ⟨nd, rfl⟩⟩; refine ⟨_, rfl, ?_⟩))
  go_ret
  exact ⟨rlT, hbT HB.out⟩

/-! ### impl_CountVoiced_1: function 102 -/
def impl_CountVoiced_1.f (a0 : Int) (a1 : Int) (a2 : Int) : Option (Bool) := (impl_isVoiced.f a1).bind fun t306 => (some t306)
set_option maxHeartbeats 8000000 in
set_option maxRecDepth 100000 in
theorem impl_CountVoiced_1.calls (a0 : Int) (a1 : Int) (a2 : Int) (r : Bool) (w : World) (h : impl_CountVoiced_1.f a0 a1 a2 = some r) :
  Calls Try.prog 102 #[.int .u8 a0, .int .u8 a1, .int .u8 a2] w fun e w' => e = .returned (.bool r) ∧ Below w.heap.size w w' := by
 have HB := asT (Below.refl w.heap.size w)
 have H : ((impl_isVoiced.f a1).bind fun t306 => (some t306)) = some r := h
 clear h; replace H := Option.bind_eq_some_iff.mp H; obtain ⟨t306, A40, H⟩ := H; replace H : (some t306) = some r := H; have A4 := Aside0.mk A40; clear A40
 obtain rfl := Option.some.inj H
 go_enter Try.func102, Try.ntmps102
 go_wp2_with (first | ((with_reducible refine gate_callee (f := 103) rfl ?_); refine goesL_ (some 8) rfl rfl Try.func103 (by kernel_rfl) rfl #[.int .u8 a1] rfl eqT ?_; (with_reducible refine (impl_isVoiced.calls a1 t306 _ A4.out).mono ?_); rintro e w5 ⟨rfl, hb⟩; refine ⟨_, rfl, ?_⟩; have n0_ := asT (below_step (hbT HB.out) hb); clear HB; have HB := n0_; clear n0_; (try clear hb); (try clear hb2); (try clear hk); (try clear hi)))
 go_ret
 exact ⟨rlT, hbT HB.out⟩

/-! ### impl_places_at_CountVoiced_1: function 179 -/
mutual
def impl_places_at_CountVoiced_1.l0 : Nat → ByteArray → Int → Int → Int → Option (Int)
 | 0, _, _, _, _ => none
 | k + 1, x0, x5, x10, x11 => if x11 < x10 then (if x11 > 0 then (if 0 ≤ (wrap64 (x11 - 1)) then (if (wrap64 (x11 - 1)) < (x0.size : Int) then (impl_places_at_CountVoiced_1.j1 k x0 x5 x11 (bt x0 (wrap64 (x11 - 1))) 0 x10 x11) else (none)) else (none)) else (impl_places_at_CountVoiced_1.j1 k x0 x5 x11 0 0 x10 x11)) else (some x5)
def impl_places_at_CountVoiced_1.j1 : Nat → ByteArray → Int → Int → Int → Int → Int → Int → Option (Int)
 | 0, _, _, _, _, _, _, _ => none
 | k + 1, x0, x5, x6, x7, x8, x10, x11 => if (wrap64 (x6 + 1)) < (x0.size : Int) then (if 0 ≤ (wrap64 (x6 + 1)) then (impl_places_at_CountVoiced_1.j2 k x0 x5 x6 x7 (bt x0 (wrap64 (x6 + 1))) x10 x11) else (none)) else (impl_places_at_CountVoiced_1.j2 k x0 x5 x6 x7 x8 x10 x11)
def impl_places_at_CountVoiced_1.j2 : Nat → ByteArray → Int → Int → Int → Int → Int → Int → Option (Int)
 | 0, _, _, _, _, _, _, _ => none
 | k + 1, x0, x5, x6, x7, x8, x10, x11 => (impl_IsForm.f k x0).bind fun t307 => (if t307 = true then (if 0 ≤ x6 then (if x6 < (x0.size : Int) then ((impl_CountVoiced_1.f x7 (bt x0 x6) x8).bind fun t308 => (if t308 = true then (impl_places_at_CountVoiced_1.l0 k x0 (wrap64 (x5 + 1)) x10 (wrap64 (x11 + 1))) else (impl_places_at_CountVoiced_1.l0 k x0 x5 x10 (wrap64 (x11 + 1))))) else (none)) else (none)) else (impl_places_at_CountVoiced_1.l0 k x0 x5 x10 (wrap64 (x11 + 1))))
end
def impl_places_at_CountVoiced_1.f (k : Nat) (a0 : ByteArray) (a1 : Unit) : Option (Int) := impl_places_at_CountVoiced_1.l0 k a0 0 (a0.size : Int) 0
theorem impl_places_at_CountVoiced_1.mono_l : ∀ k, (∀ y0 y1 y2 y3, LeO (impl_places_at_CountVoiced_1.l0 k y0 y1 y2 y3) (impl_places_at_CountVoiced_1.l0 (k + 1) y0 y1 y2 y3)) ∧ (∀ y0 y1 y2 y3 y4 y5 y6, LeO (impl_places_at_CountVoiced_1.j1 k y0 y1 y2 y3 y4 y5 y6) (impl_places_at_CountVoiced_1.j1 (k + 1) y0 y1 y2 y3 y4 y5 y6)) ∧ (∀ y0 y1 y2 y3 y4 y5 y6, LeO (impl_places_at_CountVoiced_1.j2 k y0 y1 y2 y3 y4 y5 y6) (impl_places_at_CountVoiced_1.j2 (k + 1) y0 y1 y2 y3 y4 y5 y6))
 | 0 => ⟨fun _ _ _ _ r h => by simp [impl_places_at_CountVoiced_1.l0] at h, fun _ _ _ _ _ _ _ r h => by simp [impl_places_at_CountVoiced_1.j1] at h, fun _ _ _ _ _ _ _ r h => by simp [impl_places_at_CountVoiced_1.j2] at h⟩
 | k + 1 => by
  obtain ⟨ih0, ih1, ih2⟩ := impl_places_at_CountVoiced_1.mono_l k; refine ⟨?_, ?_, ?_⟩
  ·intro y0 y1 y2 y3
   unfold impl_places_at_CountVoiced_1.l0
   repeat' first
   | (with_reducible exact ih0 _ _ _ _)
   | (with_reducible exact ih1 _ _ _ _ _ _ _)
   | (with_reducible exact ih2 _ _ _ _ _ _ _)
   | (with_reducible exact impl_IsForm.mono _ _)
   | (with_reducible exact LeO.refl _)
   | (with_reducible exact LeO.none _)
   | (with_reducible refine LeO.ite ?_ ?_)
   | (with_reducible refine LeO.bind ?_ (fun _ => ?_))
   | exact ih0 _ _ _ _
   | exact ih1 _ _ _ _ _ _ _
   | exact ih2 _ _ _ _ _ _ _
   | exact impl_IsForm.mono _ _
   | exact LeO.none _
   | refine LeO.ite ?_ ?_
   | refine LeO.bind ?_ (fun _ => ?_)
  ·intro y0 y1 y2 y3 y4 y5 y6
   unfold impl_places_at_CountVoiced_1.j1
   repeat' first
   | (with_reducible exact ih0 _ _ _ _)
   | (with_reducible exact ih1 _ _ _ _ _ _ _)
   | (with_reducible exact ih2 _ _ _ _ _ _ _)
   | (with_reducible exact impl_IsForm.mono _ _)
   | (with_reducible exact LeO.refl _)
   | (with_reducible exact LeO.none _)
   | (with_reducible refine LeO.ite ?_ ?_)
   | (with_reducible refine LeO.bind ?_ (fun _ => ?_))
   | exact ih0 _ _ _ _
   | exact ih1 _ _ _ _ _ _ _
   | exact ih2 _ _ _ _ _ _ _
   | exact impl_IsForm.mono _ _
   | exact LeO.none _
   | refine LeO.ite ?_ ?_
   | refine LeO.bind ?_ (fun _ => ?_)
  ·intro y0 y1 y2 y3 y4 y5 y6
   unfold impl_places_at_CountVoiced_1.j2
   repeat' first
   | (with_reducible exact ih0 _ _ _ _)
   | (with_reducible exact ih1 _ _ _ _ _ _ _)
   | (with_reducible exact ih2 _ _ _ _ _ _ _)
   | (with_reducible exact impl_IsForm.mono _ _)
   | (with_reducible exact LeO.refl _)
   | (with_reducible exact LeO.none _)
   | (with_reducible refine LeO.ite ?_ ?_)
   | (with_reducible refine LeO.bind ?_ (fun _ => ?_))
   | exact ih0 _ _ _ _
   | exact ih1 _ _ _ _ _ _ _
   | exact ih2 _ _ _ _ _ _ _
   | exact impl_IsForm.mono _ _
   | exact LeO.none _
   | refine LeO.ite ?_ ?_
   | refine LeO.bind ?_ (fun _ => ?_)
theorem impl_places_at_CountVoiced_1.mono : ∀ a0 a1 k, LeO (impl_places_at_CountVoiced_1.f k a0 a1) (impl_places_at_CountVoiced_1.f (k + 1) a0 a1) := by
 intro a0 a1 k
 obtain ⟨ih0, ih1, ih2⟩ := impl_places_at_CountVoiced_1.mono_l k
 unfold impl_places_at_CountVoiced_1.f
 repeat' first
   | (with_reducible exact ih0 _ _ _ _)
   | (with_reducible exact ih1 _ _ _ _ _ _ _)
   | (with_reducible exact ih2 _ _ _ _ _ _ _)
   | (with_reducible exact impl_IsForm.mono _ _)
   | (with_reducible exact LeO.refl _)
   | (with_reducible exact LeO.none _)
   | (with_reducible refine LeO.ite ?_ ?_)
   | (with_reducible refine LeO.bind ?_ (fun _ => ?_))
   | exact ih0 _ _ _ _
   | exact ih1 _ _ _ _ _ _ _
   | exact ih2 _ _ _ _ _ _ _
   | exact impl_IsForm.mono _ _
   | exact LeO.none _
   | refine LeO.ite ?_ ?_
   | refine LeO.bind ?_ (fun _ => ?_)
set_option maxHeartbeats 8000000 in
set_option maxRecDepth 100000 in
theorem impl_places_at_CountVoiced_1.calls (k : Nat) (a0 : ByteArray) (a1 : Unit) (r : Int) (w : World) (h : impl_places_at_CountVoiced_1.f k a0 a1 = some r) :
  Calls Try.prog 96 #[.string a0, .func (.func 102) #[] #[]] w fun e w' => e = .returned (.int .i64 r) ∧ Below w.heap.size w w' := by
 have HB := asT (Below.refl w.heap.size w)
 have H : (impl_places_at_CountVoiced_1.l0 k a0 0 (a0.size : Int) 0) = some r := h
 clear h; have H' := Aside0.mk H; clear H
 go_enter Try.func96, Try.ntmps96
 go_wp2
 go_loopg [5, 11] k (fun kq v5 v11 w' => ∃ (x5_1 : Int) (x11_1 : Int), v5 = .int .i64 x5_1 ∧ v11 = .int .i64 x11_1 ∧ Aside0 (impl_places_at_CountVoiced_1.l0 kq a0 x5_1 (a0.size : Int) x11_1 = some r) ∧ Aside0 (kq ≤ k) ∧ Aside0 (Below w.heap.size w w'))
 case atStart => exact ⟨(0), (0), rdT, rdT, H', ⟨Nat.le_refl _⟩, ⟨hbT HB.out⟩⟩
 case round =>
  clear H'; (try clear p2); obtain ⟨x5_1, x11_1, rfl, rfl, HA, HK1, HB⟩ := hrel
  cases gk with
  | zero => exact absurd HA.out (by simp [impl_places_at_CountVoiced_1.l0])
  | succ k1 =>
   have H := HA.out; clear HA
   simp only [impl_places_at_CountVoiced_1.l0] at H
   by_cases c3 : x11_1 < (a0.size : Int)
   ·rw [if_pos c3] at H
    have c3b0 : decide (x11_1 < (a0.size : Int)) = true := decide_eq_true c3
    clear c3; have HC4 := Aside0.mk H; clear H
    go_upto_if 15 with (fail)
    go_cut [7] (fun v7 wc => ∃ (kq : Nat) (x7_3 : Int), v7 = .int .u8 x7_3 ∧ Aside0 (impl_places_at_CountVoiced_1.j1 kq a0 x5_1 x11_1 x7_3 0 (a0.size : Int) x11_1 = some r) ∧ Aside0 (kq ≤ k1) ∧ Aside0 (Below w.heap.size w wc))
    case first =>
     have H := HC4.out; clear HC4
     by_cases c5 : x11_1 > 0
     ·rw [if_pos c5] at H
      have c5b0 : decide (0 < x11_1) = true := decide_eq_true c5
      clear c5
      (first | rw [c5b0] | (simp only [i64_w, i32_w]; rw [c5b0]) | skip)
      obtain ⟨ji6, hji6⟩ : ∃ j_ : Int, (wrap64 (x11_1 - 1)) = j_ := ⟨_, rfl⟩
      replace H : (if 0 ≤ (ji6) then (if (ji6) < (a0.size : Int) then (impl_places_at_CountVoiced_1.j1 k1 a0 x5_1 x11_1 (bt a0 (ji6)) 0 (a0.size : Int) x11_1) else (none)) else (none)) = some r := by first | (rw [hji6] at H; exact H) | (simp only [hji6] at H ⊢; exact H)
      have hji6w : (IntKind.i64.wrap (x11_1 - 1)) = ji6 := (i64_w _).trans hji6
      by_cases c7 : 0 ≤ (ji6)
      ·rw [if_pos c7] at H
       have c7b0 : decide (0 ≤ (ji6)) = true := decide_eq_true c7
       clear c7
       by_cases c8 : (ji6) < (a0.size : Int)
       ·rw [if_pos c8] at H
        have c8b0 : decide ((ji6) < (a0.size : Int)) = true := decide_eq_true c8
        clear c8; have H' := Aside0.mk H; clear H
        have p9 : 0 ≤ ((ji6) : Int) := of_decide_eq_true asmT
        have q9 : (ji6) < (a0.size : Int) := of_decide_eq_true asmT
        have hx9 := bt_at a0 (ji6); replace p9 := eq_true p9; replace q9 := eq_true q9
        go_wp2
        go_meet
        case rel => exact ⟨_, (bt a0 (ji6)), (by first | rfl | (simp; done) | (simp only [← hji6] <;> (first | rfl | simp)) | (simp [*]; done)), H', ⟨by have := HK1.out; first | omega | exact Nat.le_refl _⟩, ⟨hbT HB.out⟩⟩
       ·rw [if_neg c8] at H
        exact absurd H (by simp)
      ·rw [if_neg c7] at H
       exact absurd H (by simp)
     ·rw [if_neg c5] at H
      have c5b0 : decide (0 < x11_1) = false := decide_eq_false c5
      clear c5
      (first | rw [c5b0] | (simp only [i64_w, i32_w]; rw [c5b0]) | skip)
      have H' := Aside0.mk H; clear H
      go_wp2
      go_meet
      case rel => exact ⟨_, (0), rdT, H', ⟨by have := HK1.out; first | omega | exact Nat.le_refl _⟩, ⟨hbT HB.out⟩⟩
    case rest =>
     clear HC4; (try clear p2); (try clear c3); (try clear c3b0); (try clear c5); (try clear c5b0); (try clear p6); (try clear c7); (try clear c7b0); (try clear c8); (try clear c8b0); (try clear c9); (try clear p9); (try clear q9); (try clear hx9); (try clear p2); (try clear p9); (try clear q9); obtain ⟨kq, x7_3, rfl, HA, HJ3, HB⟩ := hcut
     cases kq with
     | zero => exact absurd HA.out (by simp [impl_places_at_CountVoiced_1.j1])
     | succ kj3 =>
      have H := HA.out; clear HA
      simp only [impl_places_at_CountVoiced_1.j1] at H
      have HC10 := Aside0.mk H; clear H
      go_upto_if 24 with (fail)
      go_cut [8] (fun v8 wc => ∃ (kq : Nat) (x8_9 : Int), v8 = .int .u8 x8_9 ∧ Aside0 (impl_places_at_CountVoiced_1.j2 kq a0 x5_1 x11_1 x7_3 x8_9 (a0.size : Int) x11_1 = some r) ∧ Aside0 (kq ≤ kj3) ∧ Aside0 (Below w.heap.size w wc))
      case first =>
       have H := HC10.out; clear HC10
       by_cases c11 : (wrap64 (x11_1 + 1)) < (a0.size : Int)
       ·rw [if_pos c11] at H
        have c11b0 : decide ((wrap64 (x11_1 + 1)) < (a0.size : Int)) = true := decide_eq_true c11
        clear c11
        (first | rw [c11b0] | (simp only [i64_w, i32_w]; rw [c11b0]) | skip)
        obtain ⟨ji12, hji12⟩ : ∃ j_ : Int, (wrap64 (x11_1 + 1)) = j_ := ⟨_, rfl⟩
        replace H : (if 0 ≤ (ji12) then (impl_places_at_CountVoiced_1.j2 kj3 a0 x5_1 x11_1 x7_3 (bt a0 (ji12)) (a0.size : Int) x11_1) else (none)) = some r := by first | (rw [hji12] at H; exact H) | (simp only [hji12] at H ⊢; exact H)
        (try rw [hji12] at c11b0)
        have hji12w : (IntKind.i64.wrap (x11_1 + 1)) = ji12 := (i64_w _).trans hji12
        by_cases c13 : 0 ≤ (ji12)
        ·rw [if_pos c13] at H
         have c13b0 : decide (0 ≤ (ji12)) = true := decide_eq_true c13
         clear c13; have H' := Aside0.mk H; clear H
         have p14 : 0 ≤ ((ji12) : Int) := of_decide_eq_true asmT
         have q14 : (ji12) < (a0.size : Int) := of_decide_eq_true asmT
         have hx14 := bt_at a0 (ji12); replace p14 := eq_true p14; replace q14 := eq_true q14
         go_wp2
         go_meet
         case rel => exact ⟨_, (bt a0 (ji12)), (by first | rfl | (simp; done) | (simp only [← hji12] <;> (first | rfl | simp)) | (simp [*]; done)), H', ⟨by have := HK1.out; have := HJ3.out; first | omega | exact Nat.le_refl _⟩, ⟨hbT HB.out⟩⟩
        ·rw [if_neg c13] at H
         exact absurd H (by simp)
       ·rw [if_neg c11] at H
        have c11b0 : decide ((wrap64 (x11_1 + 1)) < (a0.size : Int)) = false := decide_eq_false c11
        clear c11
        (first | rw [c11b0] | (simp only [i64_w, i32_w]; rw [c11b0]) | skip)
        have H' := Aside0.mk H; clear H
        go_wp2
        go_meet
        case rel => exact ⟨_, (0), rdT, H', ⟨by have := HK1.out; have := HJ3.out; first | omega | exact Nat.le_refl _⟩, ⟨hbT HB.out⟩⟩
      case rest =>
       clear HC10; (try clear c1); (try clear p1); (try clear q1); (try clear hx1); (try clear p2); (try clear c3); (try clear c3b0); (try clear c5); (try clear c5b0); (try clear p6); (try clear c7); (try clear c7b0); (try clear c8); (try clear c8b0); (try clear c9); (try clear p9); (try clear q9); (try clear hx9); (try clear c11); (try clear c11b0); (try clear c13); (try clear c13b0); (try clear p14); (try clear q14); (try clear hx14); (try clear p14); (try clear p2); (try clear p6); (try clear p9); (try clear q14); (try clear q9); obtain ⟨kq, x8_9, rfl, HA, HJ9, HB⟩ := hcut
       cases kq with
       | zero => exact absurd HA.out (by simp [impl_places_at_CountVoiced_1.j2])
       | succ kj9 =>
        have H := HA.out; clear HA
        simp only [impl_places_at_CountVoiced_1.j2] at H
        replace H := Option.bind_eq_some_iff.mp H; obtain ⟨t307, A150, H⟩ := H; replace H : (if t307 = true then (if 0 ≤ x11_1 then (if x11_1 < (a0.size : Int) then ((impl_CountVoiced_1.f x7_3 (bt a0 x11_1) x8_9).bind fun t308 => (if t308 = true then (impl_places_at_CountVoiced_1.l0 kj9 a0 (wrap64 (x5_1 + 1)) (a0.size : Int) (wrap64 (x11_1 + 1))) else (impl_places_at_CountVoiced_1.l0 kj9 a0 x5_1 (a0.size : Int) (wrap64 (x11_1 + 1))))) else (none)) else (none)) else (impl_places_at_CountVoiced_1.l0 kj9 a0 x5_1 (a0.size : Int) (wrap64 (x11_1 + 1)))) = some r := H; have A15 := Aside0.mk A150; clear A150
        by_cases c16 : t307 = true
        ·subst c16
         have H1 : (if 0 ≤ x11_1 then (if x11_1 < (a0.size : Int) then ((impl_CountVoiced_1.f x7_3 (bt a0 x11_1) x8_9).bind fun t308 => (if t308 = true then (impl_places_at_CountVoiced_1.l0 kj9 a0 (wrap64 (x5_1 + 1)) (a0.size : Int) (wrap64 (x11_1 + 1))) else (impl_places_at_CountVoiced_1.l0 kj9 a0 x5_1 (a0.size : Int) (wrap64 (x11_1 + 1))))) else (none)) else (none)) = some r := by rw [if_pos rfl] at H; exact H
         clear H; have H := H1; clear H1
         by_cases c17 : 0 ≤ x11_1
         ·rw [if_pos c17] at H
          have c17b0 : decide (0 ≤ x11_1) = true := decide_eq_true c17
          clear c17
          by_cases c18 : x11_1 < (a0.size : Int)
          ·rw [if_pos c18] at H
           have c18b0 : decide (x11_1 < (a0.size : Int)) = true := decide_eq_true c18
           clear c18; replace H := Option.bind_eq_some_iff.mp H; obtain ⟨t308, A200, H⟩ := H; replace H : (if t308 = true then (impl_places_at_CountVoiced_1.l0 kj9 a0 (wrap64 (x5_1 + 1)) (a0.size : Int) (wrap64 (x11_1 + 1))) else (impl_places_at_CountVoiced_1.l0 kj9 a0 x5_1 (a0.size : Int) (wrap64 (x11_1 + 1)))) = some r := H; have A20 := Aside0.mk A200; clear A200
           by_cases c21 : t308 = true
           ·subst c21
            have H1 : (impl_places_at_CountVoiced_1.l0 kj9 a0 (wrap64 (x5_1 + 1)) (a0.size : Int) (wrap64 (x11_1 + 1))) = some r := by rw [if_pos rfl] at H; exact H
            clear H; have H := H1; clear H1; have H' := Aside0.mk H; clear H
            go_wp2_with (first | ((with_reducible refine gate_callee (f := 94) rfl ?_); refine goesL_ (some 30) rfl rfl Try.func94 (by kernel_rfl) rfl #[.string a0] rfl eqT ?_; (with_reducible refine (impl_IsForm.calls kj9 a0 true _ A15.out).mono ?_); rintro e w' ⟨rfl, ⟨nd, rfl⟩⟩; refine ⟨_, rfl, ?_⟩; have p19 : 0 ≤ (x11_1 : Int) := of_decide_eq_true asmT; have q19 : x11_1 < (a0.size : Int) := of_decide_eq_true asmT; have hx19 := bt_at a0 x11_1; replace p19 := eq_true p19; replace q19 := eq_true q19) | (go_at_call 102; (with_reducible refine (impl_CountVoiced_1.calls x7_3 (bt a0 x11_1) x8_9 true _ A20.out).mono ?_); rintro e w22 ⟨rfl, hb⟩; have n0_ := asT (below_step (hbT HB.out) hb); clear HB; have HB := n0_; clear n0_; (try clear hb); (try clear hb2); (try clear hk); (try clear hi)))
            go_roundg kj9
            case measure => have := HK1.out; have := HJ3.out; have := HJ9.out; omega
            case rel => exact ⟨(wrap64 (x5_1 + 1)), (wrap64 (x11_1 + 1)), rdT, rdT, H', ⟨by have := HK1.out; have := HJ3.out; have := HJ9.out; omega⟩, ⟨hbT HB.out⟩⟩
           ·replace c21 := Bool.eq_false_iff.mpr c21
            subst c21
            have H1 : (impl_places_at_CountVoiced_1.l0 kj9 a0 x5_1 (a0.size : Int) (wrap64 (x11_1 + 1))) = some r := by rw [if_neg (show ¬ (false = true) by decide)] at H; exact H
            clear H; have H := H1; clear H1; have H' := Aside0.mk H; clear H
            go_wp2_with (first | ((with_reducible refine gate_callee (f := 94) rfl ?_); refine goesL_ (some 30) rfl rfl Try.func94 (by kernel_rfl) rfl #[.string a0] rfl eqT ?_; (with_reducible refine (impl_IsForm.calls kj9 a0 true _ A15.out).mono ?_); rintro e w' ⟨rfl, ⟨nd, rfl⟩⟩; refine ⟨_, rfl, ?_⟩; have p19 : 0 ≤ (x11_1 : Int) := of_decide_eq_true asmT; have q19 : x11_1 < (a0.size : Int) := of_decide_eq_true asmT; have hx19 := bt_at a0 x11_1; replace p19 := eq_true p19; replace q19 := eq_true q19) | (go_at_call 102; (with_reducible refine (impl_CountVoiced_1.calls x7_3 (bt a0 x11_1) x8_9 false _ A20.out).mono ?_); rintro e w23 ⟨rfl, hb⟩; have n0_ := asT (below_step (hbT HB.out) hb); clear HB; have HB := n0_; clear n0_; (try clear hb); (try clear hb2); (try clear hk); (try clear hi)))
            go_roundg kj9
            case measure => have := HK1.out; have := HJ3.out; have := HJ9.out; omega
            case rel => exact ⟨(x5_1), (wrap64 (x11_1 + 1)), rdT, rdT, H', ⟨by have := HK1.out; have := HJ3.out; have := HJ9.out; omega⟩, ⟨hbT HB.out⟩⟩
          ·rw [if_neg c18] at H
           exact absurd H (by simp)
         ·rw [if_neg c17] at H
          exact absurd H (by simp)
        ·replace c16 := Bool.eq_false_iff.mpr c16
         subst c16
         have H1 : (impl_places_at_CountVoiced_1.l0 kj9 a0 x5_1 (a0.size : Int) (wrap64 (x11_1 + 1))) = some r := by rw [if_neg (show ¬ (false = true) by decide)] at H; exact H
         clear H; have H := H1; clear H1; have H' := Aside0.mk H; clear H
         go_wp2_with (first | ((with_reducible refine gate_callee (f := 94) rfl ?_); refine goesL_ (some 30) rfl rfl Try.func94 (by kernel_rfl) rfl #[.string a0] rfl eqT ?_; (with_reducible refine (impl_IsForm.calls kj9 a0 false _ A15.out).mono ?_); rintro e w' ⟨rfl, ⟨nd, rfl⟩⟩; refine ⟨_, rfl, ?_⟩))
         go_roundg kj9
         case measure => have := HK1.out; have := HJ3.out; have := HJ9.out; omega
         case rel => exact ⟨(x5_1), (wrap64 (x11_1 + 1)), rdT, rdT, H', ⟨by have := HK1.out; have := HJ3.out; have := HJ9.out; omega⟩, ⟨hbT HB.out⟩⟩
   ·rw [if_neg c3] at H
    have c3b0 : decide (x11_1 < (a0.size : Int)) = false := decide_eq_false c3
    clear c3
    obtain rfl := Option.some.inj H
    go_wp2
    go_ret
    exact ⟨rlT, hbT HB.out⟩

/-! ### impl_CountVoiced: function 60 -/
def impl_CountVoiced.f (k : Nat) (a0 : ByteArray) : Option (Int) := (impl_places_at_CountVoiced_1.f k a0 ()).bind fun t309 => (some t309)
theorem impl_CountVoiced.mono : ∀ a0 k, LeO (impl_CountVoiced.f k a0) (impl_CountVoiced.f (k + 1) a0) := by
 intro a0 k
 unfold impl_CountVoiced.f
 repeat' first
   | (with_reducible exact impl_places_at_CountVoiced_1.mono _ _ _)
   | (with_reducible exact LeO.refl _)
   | (with_reducible exact LeO.none _)
   | (with_reducible refine LeO.ite ?_ ?_)
   | (with_reducible refine LeO.bind ?_ (fun _ => ?_))
   | exact impl_places_at_CountVoiced_1.mono _ _ _
   | exact LeO.none _
   | refine LeO.ite ?_ ?_
   | refine LeO.bind ?_ (fun _ => ?_)
set_option maxHeartbeats 8000000 in
set_option maxRecDepth 100000 in
theorem impl_CountVoiced.calls (k : Nat) (a0 : ByteArray) (r : Int) (w : World) (h : impl_CountVoiced.f k a0 = some r) :
  Calls Try.prog 60 #[.string a0] w fun e w' => e = .returned (.int .i64 r) ∧ Below w.heap.size w w' := by
 have HB := asT (Below.refl w.heap.size w)
 have H : ((impl_places_at_CountVoiced_1.f k a0 ()).bind fun t309 => (some t309)) = some r := h
 clear h; replace H := Option.bind_eq_some_iff.mp H; obtain ⟨t309, A20, H⟩ := H; replace H : (some t309) = some r := H; have A2 := Aside0.mk A20; clear A20
 obtain rfl := Option.some.inj H
 go_enter Try.func60, Try.ntmps60
 go_wp2_with (first | ((with_reducible refine gate_callee (f := 96) rfl ?_); refine goesL_ (some 4) rfl rfl Try.func96 (by kernel_rfl) rfl #[.string a0, .func (.func 102) #[] #[]] rfl eqT ?_; (with_reducible refine (impl_places_at_CountVoiced_1.calls k a0 () t309 _ A2.out).mono ?_); rintro e w3 ⟨rfl, hb⟩; refine ⟨_, rfl, ?_⟩; have n0_ := asT (below_step (hbT HB.out) hb); clear HB; have HB := n0_; clear n0_; (try clear hb); (try clear hb2); (try clear hk); (try clear hi)))
 go_ret
 exact ⟨rlT, hbT HB.out⟩

/-! ### impl_CountFinalVoiced_1: function 104 -/
def impl_CountFinalVoiced_1.f (a0 : Int) (a1 : Int) (a2 : Int) : Option (Bool) := (impl_isVoiced.f a1).bind fun t310 => (if t310 = true then (some (a2 == 0)) else (some false))
set_option maxHeartbeats 8000000 in
set_option maxRecDepth 100000 in
theorem impl_CountFinalVoiced_1.calls (a0 : Int) (a1 : Int) (a2 : Int) (r : Bool) (w : World) (h : impl_CountFinalVoiced_1.f a0 a1 a2 = some r) :
  Calls Try.prog 104 #[.int .u8 a0, .int .u8 a1, .int .u8 a2] w fun e w' => e = .returned (.bool r) ∧ Below w.heap.size w w' := by
 have HB := asT (Below.refl w.heap.size w)
 have H : ((impl_isVoiced.f a1).bind fun t310 => (if t310 = true then (some (a2 == 0)) else (some false))) = some r := h
 clear h; replace H := Option.bind_eq_some_iff.mp H; obtain ⟨t310, A40, H⟩ := H; replace H : (if t310 = true then (some (a2 == 0)) else (some false)) = some r := H; have A4 := Aside0.mk A40; clear A40
 by_cases c5 : t310 = true
 ·subst c5
  have H1 : (some (a2 == 0)) = some r := by rw [if_pos rfl] at H; exact H
  clear H; have H := H1; clear H1
  obtain rfl := Option.some.inj H
  go_enter Try.func104, Try.ntmps104
  go_wp2_with (first | ((with_reducible refine gate_callee (f := 103) rfl ?_); refine goesL_ (some 8) rfl rfl Try.func103 (by kernel_rfl) rfl #[.int .u8 a1] rfl eqT ?_; (with_reducible refine (impl_isVoiced.calls a1 true _ A4.out).mono ?_); rintro e w6 ⟨rfl, hb⟩; refine ⟨_, rfl, ?_⟩; have n0_ := asT (below_step (hbT HB.out) hb); clear HB; have HB := n0_; clear n0_; (try clear hb); (try clear hb2); (try clear hk); (try clear hi)))
  go_ret
  exact ⟨rlT, hbT HB.out⟩
 ·replace c5 := Bool.eq_false_iff.mpr c5
  subst c5
  have H1 : (some false) = some r := by rw [if_neg (show ¬ (false = true) by decide)] at H; exact H
  clear H; have H := H1; clear H1
  obtain rfl := Option.some.inj H
  go_enter Try.func104, Try.ntmps104
  go_wp2_with (first | ((with_reducible refine gate_callee (f := 103) rfl ?_); refine goesL_ (some 8) rfl rfl Try.func103 (by kernel_rfl) rfl #[.int .u8 a1] rfl eqT ?_; (with_reducible refine (impl_isVoiced.calls a1 false _ A4.out).mono ?_); rintro e w7 ⟨rfl, hb⟩; refine ⟨_, rfl, ?_⟩; have n0_ := asT (below_step (hbT HB.out) hb); clear HB; have HB := n0_; clear n0_; (try clear hb); (try clear hb2); (try clear hk); (try clear hi)))
  go_ret
  exact ⟨rlT, hbT HB.out⟩

/-! ### impl_places_at_CountFinalVoiced_1: function 180 -/
mutual
def impl_places_at_CountFinalVoiced_1.l0 : Nat → ByteArray → Int → Int → Int → Option (Int)
 | 0, _, _, _, _ => none
 | k + 1, x0, x5, x10, x11 => if x11 < x10 then (if x11 > 0 then (if 0 ≤ (wrap64 (x11 - 1)) then (if (wrap64 (x11 - 1)) < (x0.size : Int) then (impl_places_at_CountFinalVoiced_1.j1 k x0 x5 x11 (bt x0 (wrap64 (x11 - 1))) 0 x10 x11) else (none)) else (none)) else (impl_places_at_CountFinalVoiced_1.j1 k x0 x5 x11 0 0 x10 x11)) else (some x5)
def impl_places_at_CountFinalVoiced_1.j1 : Nat → ByteArray → Int → Int → Int → Int → Int → Int → Option (Int)
 | 0, _, _, _, _, _, _, _ => none
 | k + 1, x0, x5, x6, x7, x8, x10, x11 => if (wrap64 (x6 + 1)) < (x0.size : Int) then (if 0 ≤ (wrap64 (x6 + 1)) then (impl_places_at_CountFinalVoiced_1.j2 k x0 x5 x6 x7 (bt x0 (wrap64 (x6 + 1))) x10 x11) else (none)) else (impl_places_at_CountFinalVoiced_1.j2 k x0 x5 x6 x7 x8 x10 x11)
def impl_places_at_CountFinalVoiced_1.j2 : Nat → ByteArray → Int → Int → Int → Int → Int → Int → Option (Int)
 | 0, _, _, _, _, _, _, _ => none
 | k + 1, x0, x5, x6, x7, x8, x10, x11 => (impl_IsForm.f k x0).bind fun t311 => (if t311 = true then (if 0 ≤ x6 then (if x6 < (x0.size : Int) then ((impl_CountFinalVoiced_1.f x7 (bt x0 x6) x8).bind fun t312 => (if t312 = true then (impl_places_at_CountFinalVoiced_1.l0 k x0 (wrap64 (x5 + 1)) x10 (wrap64 (x11 + 1))) else (impl_places_at_CountFinalVoiced_1.l0 k x0 x5 x10 (wrap64 (x11 + 1))))) else (none)) else (none)) else (impl_places_at_CountFinalVoiced_1.l0 k x0 x5 x10 (wrap64 (x11 + 1))))
end
def impl_places_at_CountFinalVoiced_1.f (k : Nat) (a0 : ByteArray) (a1 : Unit) : Option (Int) := impl_places_at_CountFinalVoiced_1.l0 k a0 0 (a0.size : Int) 0
theorem impl_places_at_CountFinalVoiced_1.mono_l : ∀ k, (∀ y0 y1 y2 y3, LeO (impl_places_at_CountFinalVoiced_1.l0 k y0 y1 y2 y3) (impl_places_at_CountFinalVoiced_1.l0 (k + 1) y0 y1 y2 y3)) ∧ (∀ y0 y1 y2 y3 y4 y5 y6, LeO (impl_places_at_CountFinalVoiced_1.j1 k y0 y1 y2 y3 y4 y5 y6) (impl_places_at_CountFinalVoiced_1.j1 (k + 1) y0 y1 y2 y3 y4 y5 y6)) ∧ (∀ y0 y1 y2 y3 y4 y5 y6, LeO (impl_places_at_CountFinalVoiced_1.j2 k y0 y1 y2 y3 y4 y5 y6) (impl_places_at_CountFinalVoiced_1.j2 (k + 1) y0 y1 y2 y3 y4 y5 y6))
 | 0 => ⟨fun _ _ _ _ r h => by simp [impl_places_at_CountFinalVoiced_1.l0] at h, fun _ _ _ _ _ _ _ r h => by simp [impl_places_at_CountFinalVoiced_1.j1] at h, fun _ _ _ _ _ _ _ r h => by simp [impl_places_at_CountFinalVoiced_1.j2] at h⟩
 | k + 1 => by
  obtain ⟨ih0, ih1, ih2⟩ := impl_places_at_CountFinalVoiced_1.mono_l k; refine ⟨?_, ?_, ?_⟩
  ·intro y0 y1 y2 y3
   unfold impl_places_at_CountFinalVoiced_1.l0
   repeat' first
   | (with_reducible exact ih0 _ _ _ _)
   | (with_reducible exact ih1 _ _ _ _ _ _ _)
   | (with_reducible exact ih2 _ _ _ _ _ _ _)
   | (with_reducible exact impl_IsForm.mono _ _)
   | (with_reducible exact LeO.refl _)
   | (with_reducible exact LeO.none _)
   | (with_reducible refine LeO.ite ?_ ?_)
   | (with_reducible refine LeO.bind ?_ (fun _ => ?_))
   | exact ih0 _ _ _ _
   | exact ih1 _ _ _ _ _ _ _
   | exact ih2 _ _ _ _ _ _ _
   | exact impl_IsForm.mono _ _
   | exact LeO.none _
   | refine LeO.ite ?_ ?_
   | refine LeO.bind ?_ (fun _ => ?_)
  ·intro y0 y1 y2 y3 y4 y5 y6
   unfold impl_places_at_CountFinalVoiced_1.j1
   repeat' first
   | (with_reducible exact ih0 _ _ _ _)
   | (with_reducible exact ih1 _ _ _ _ _ _ _)
   | (with_reducible exact ih2 _ _ _ _ _ _ _)
   | (with_reducible exact impl_IsForm.mono _ _)
   | (with_reducible exact LeO.refl _)
   | (with_reducible exact LeO.none _)
   | (with_reducible refine LeO.ite ?_ ?_)
   | (with_reducible refine LeO.bind ?_ (fun _ => ?_))
   | exact ih0 _ _ _ _
   | exact ih1 _ _ _ _ _ _ _
   | exact ih2 _ _ _ _ _ _ _
   | exact impl_IsForm.mono _ _
   | exact LeO.none _
   | refine LeO.ite ?_ ?_
   | refine LeO.bind ?_ (fun _ => ?_)
  ·intro y0 y1 y2 y3 y4 y5 y6
   unfold impl_places_at_CountFinalVoiced_1.j2
   repeat' first
   | (with_reducible exact ih0 _ _ _ _)
   | (with_reducible exact ih1 _ _ _ _ _ _ _)
   | (with_reducible exact ih2 _ _ _ _ _ _ _)
   | (with_reducible exact impl_IsForm.mono _ _)
   | (with_reducible exact LeO.refl _)
   | (with_reducible exact LeO.none _)
   | (with_reducible refine LeO.ite ?_ ?_)
   | (with_reducible refine LeO.bind ?_ (fun _ => ?_))
   | exact ih0 _ _ _ _
   | exact ih1 _ _ _ _ _ _ _
   | exact ih2 _ _ _ _ _ _ _
   | exact impl_IsForm.mono _ _
   | exact LeO.none _
   | refine LeO.ite ?_ ?_
   | refine LeO.bind ?_ (fun _ => ?_)
theorem impl_places_at_CountFinalVoiced_1.mono : ∀ a0 a1 k, LeO (impl_places_at_CountFinalVoiced_1.f k a0 a1) (impl_places_at_CountFinalVoiced_1.f (k + 1) a0 a1) := by
 intro a0 a1 k
 obtain ⟨ih0, ih1, ih2⟩ := impl_places_at_CountFinalVoiced_1.mono_l k
 unfold impl_places_at_CountFinalVoiced_1.f
 repeat' first
   | (with_reducible exact ih0 _ _ _ _)
   | (with_reducible exact ih1 _ _ _ _ _ _ _)
   | (with_reducible exact ih2 _ _ _ _ _ _ _)
   | (with_reducible exact impl_IsForm.mono _ _)
   | (with_reducible exact LeO.refl _)
   | (with_reducible exact LeO.none _)
   | (with_reducible refine LeO.ite ?_ ?_)
   | (with_reducible refine LeO.bind ?_ (fun _ => ?_))
   | exact ih0 _ _ _ _
   | exact ih1 _ _ _ _ _ _ _
   | exact ih2 _ _ _ _ _ _ _
   | exact impl_IsForm.mono _ _
   | exact LeO.none _
   | refine LeO.ite ?_ ?_
   | refine LeO.bind ?_ (fun _ => ?_)
set_option maxHeartbeats 8000000 in
set_option maxRecDepth 100000 in
theorem impl_places_at_CountFinalVoiced_1.calls (k : Nat) (a0 : ByteArray) (a1 : Unit) (r : Int) (w : World) (h : impl_places_at_CountFinalVoiced_1.f k a0 a1 = some r) :
  Calls Try.prog 96 #[.string a0, .func (.func 104) #[] #[]] w fun e w' => e = .returned (.int .i64 r) ∧ Below w.heap.size w w' := by
 have HB := asT (Below.refl w.heap.size w)
 have H : (impl_places_at_CountFinalVoiced_1.l0 k a0 0 (a0.size : Int) 0) = some r := h
 clear h; have H' := Aside0.mk H; clear H
 go_enter Try.func96, Try.ntmps96
 go_wp2
 go_loopg [5, 11] k (fun kq v5 v11 w' => ∃ (x5_1 : Int) (x11_1 : Int), v5 = .int .i64 x5_1 ∧ v11 = .int .i64 x11_1 ∧ Aside0 (impl_places_at_CountFinalVoiced_1.l0 kq a0 x5_1 (a0.size : Int) x11_1 = some r) ∧ Aside0 (kq ≤ k) ∧ Aside0 (Below w.heap.size w w'))
 case atStart => exact ⟨(0), (0), rdT, rdT, H', ⟨Nat.le_refl _⟩, ⟨hbT HB.out⟩⟩
 case round =>
  clear H'; (try clear p2); obtain ⟨x5_1, x11_1, rfl, rfl, HA, HK1, HB⟩ := hrel
  cases gk with
  | zero => exact absurd HA.out (by simp [impl_places_at_CountFinalVoiced_1.l0])
  | succ k1 =>
   have H := HA.out; clear HA
   simp only [impl_places_at_CountFinalVoiced_1.l0] at H
   by_cases c3 : x11_1 < (a0.size : Int)
   ·rw [if_pos c3] at H
    have c3b0 : decide (x11_1 < (a0.size : Int)) = true := decide_eq_true c3
    clear c3; have HC4 := Aside0.mk H; clear H
    go_upto_if 15 with (fail)
    go_cut [7] (fun v7 wc => ∃ (kq : Nat) (x7_3 : Int), v7 = .int .u8 x7_3 ∧ Aside0 (impl_places_at_CountFinalVoiced_1.j1 kq a0 x5_1 x11_1 x7_3 0 (a0.size : Int) x11_1 = some r) ∧ Aside0 (kq ≤ k1) ∧ Aside0 (Below w.heap.size w wc))
    case first =>
     have H := HC4.out; clear HC4
     by_cases c5 : x11_1 > 0
     ·rw [if_pos c5] at H
      have c5b0 : decide (0 < x11_1) = true := decide_eq_true c5
      clear c5
      (first | rw [c5b0] | (simp only [i64_w, i32_w]; rw [c5b0]) | skip)
      obtain ⟨ji6, hji6⟩ : ∃ j_ : Int, (wrap64 (x11_1 - 1)) = j_ := ⟨_, rfl⟩
      replace H : (if 0 ≤ (ji6) then (if (ji6) < (a0.size : Int) then (impl_places_at_CountFinalVoiced_1.j1 k1 a0 x5_1 x11_1 (bt a0 (ji6)) 0 (a0.size : Int) x11_1) else (none)) else (none)) = some r := by first | (rw [hji6] at H; exact H) | (simp only [hji6] at H ⊢; exact H)
      have hji6w : (IntKind.i64.wrap (x11_1 - 1)) = ji6 := (i64_w _).trans hji6
      by_cases c7 : 0 ≤ (ji6)
      ·rw [if_pos c7] at H
       have c7b0 : decide (0 ≤ (ji6)) = true := decide_eq_true c7
       clear c7
       by_cases c8 : (ji6) < (a0.size : Int)
       ·rw [if_pos c8] at H
        have c8b0 : decide ((ji6) < (a0.size : Int)) = true := decide_eq_true c8
        clear c8; have H' := Aside0.mk H; clear H
        have p9 : 0 ≤ ((ji6) : Int) := of_decide_eq_true asmT
        have q9 : (ji6) < (a0.size : Int) := of_decide_eq_true asmT
        have hx9 := bt_at a0 (ji6); replace p9 := eq_true p9; replace q9 := eq_true q9
        go_wp2
        go_meet
        case rel => exact ⟨_, (bt a0 (ji6)), (by first | rfl | (simp; done) | (simp only [← hji6] <;> (first | rfl | simp)) | (simp [*]; done)), H', ⟨by have := HK1.out; first | omega | exact Nat.le_refl _⟩, ⟨hbT HB.out⟩⟩
       ·rw [if_neg c8] at H
        exact absurd H (by simp)
      ·rw [if_neg c7] at H
       exact absurd H (by simp)
     ·rw [if_neg c5] at H
      have c5b0 : decide (0 < x11_1) = false := decide_eq_false c5
      clear c5
      (first | rw [c5b0] | (simp only [i64_w, i32_w]; rw [c5b0]) | skip)
      have H' := Aside0.mk H; clear H
      go_wp2
      go_meet
      case rel => exact ⟨_, (0), rdT, H', ⟨by have := HK1.out; first | omega | exact Nat.le_refl _⟩, ⟨hbT HB.out⟩⟩
    case rest =>
     clear HC4; (try clear p2); (try clear c3); (try clear c3b0); (try clear c5); (try clear c5b0); (try clear p6); (try clear c7); (try clear c7b0); (try clear c8); (try clear c8b0); (try clear c9); (try clear p9); (try clear q9); (try clear hx9); (try clear p2); (try clear p9); (try clear q9); obtain ⟨kq, x7_3, rfl, HA, HJ3, HB⟩ := hcut
     cases kq with
     | zero => exact absurd HA.out (by simp [impl_places_at_CountFinalVoiced_1.j1])
     | succ kj3 =>
      have H := HA.out; clear HA
      simp only [impl_places_at_CountFinalVoiced_1.j1] at H
      have HC10 := Aside0.mk H; clear H
      go_upto_if 24 with (fail)
      go_cut [8] (fun v8 wc => ∃ (kq : Nat) (x8_9 : Int), v8 = .int .u8 x8_9 ∧ Aside0 (impl_places_at_CountFinalVoiced_1.j2 kq a0 x5_1 x11_1 x7_3 x8_9 (a0.size : Int) x11_1 = some r) ∧ Aside0 (kq ≤ kj3) ∧ Aside0 (Below w.heap.size w wc))
      case first =>
       have H := HC10.out; clear HC10
       by_cases c11 : (wrap64 (x11_1 + 1)) < (a0.size : Int)
       ·rw [if_pos c11] at H
        have c11b0 : decide ((wrap64 (x11_1 + 1)) < (a0.size : Int)) = true := decide_eq_true c11
        clear c11
        (first | rw [c11b0] | (simp only [i64_w, i32_w]; rw [c11b0]) | skip)
        obtain ⟨ji12, hji12⟩ : ∃ j_ : Int, (wrap64 (x11_1 + 1)) = j_ := ⟨_, rfl⟩
        replace H : (if 0 ≤ (ji12) then (impl_places_at_CountFinalVoiced_1.j2 kj3 a0 x5_1 x11_1 x7_3 (bt a0 (ji12)) (a0.size : Int) x11_1) else (none)) = some r := by first | (rw [hji12] at H; exact H) | (simp only [hji12] at H ⊢; exact H)
        (try rw [hji12] at c11b0)
        have hji12w : (IntKind.i64.wrap (x11_1 + 1)) = ji12 := (i64_w _).trans hji12
        by_cases c13 : 0 ≤ (ji12)
        ·rw [if_pos c13] at H
         have c13b0 : decide (0 ≤ (ji12)) = true := decide_eq_true c13
         clear c13; have H' := Aside0.mk H; clear H
         have p14 : 0 ≤ ((ji12) : Int) := of_decide_eq_true asmT
         have q14 : (ji12) < (a0.size : Int) := of_decide_eq_true asmT
         have hx14 := bt_at a0 (ji12); replace p14 := eq_true p14; replace q14 := eq_true q14
         go_wp2
         go_meet
         case rel => exact ⟨_, (bt a0 (ji12)), (by first | rfl | (simp; done) | (simp only [← hji12] <;> (first | rfl | simp)) | (simp [*]; done)), H', ⟨by have := HK1.out; have := HJ3.out; first | omega | exact Nat.le_refl _⟩, ⟨hbT HB.out⟩⟩
        ·rw [if_neg c13] at H
         exact absurd H (by simp)
       ·rw [if_neg c11] at H
        have c11b0 : decide ((wrap64 (x11_1 + 1)) < (a0.size : Int)) = false := decide_eq_false c11
        clear c11
        (first | rw [c11b0] | (simp only [i64_w, i32_w]; rw [c11b0]) | skip)
        have H' := Aside0.mk H; clear H
        go_wp2
        go_meet
        case rel => exact ⟨_, (0), rdT, H', ⟨by have := HK1.out; have := HJ3.out; first | omega | exact Nat.le_refl _⟩, ⟨hbT HB.out⟩⟩
      case rest =>
       clear HC10; (try clear c1); (try clear p1); (try clear q1); (try clear hx1); (try clear p2); (try clear c3); (try clear c3b0); (try clear c5); (try clear c5b0); (try clear p6); (try clear c7); (try clear c7b0); (try clear c8); (try clear c8b0); (try clear c9); (try clear p9); (try clear q9); (try clear hx9); (try clear c11); (try clear c11b0); (try clear c13); (try clear c13b0); (try clear p14); (try clear q14); (try clear hx14); (try clear p14); (try clear p2); (try clear p6); (try clear p9); (try clear q14); (try clear q9); obtain ⟨kq, x8_9, rfl, HA, HJ9, HB⟩ := hcut
       cases kq with
       | zero => exact absurd HA.out (by simp [impl_places_at_CountFinalVoiced_1.j2])
       | succ kj9 =>
        have H := HA.out; clear HA
        simp only [impl_places_at_CountFinalVoiced_1.j2] at H
        replace H := Option.bind_eq_some_iff.mp H; obtain ⟨t311, A150, H⟩ := H; replace H : (if t311 = true then (if 0 ≤ x11_1 then (if x11_1 < (a0.size : Int) then ((impl_CountFinalVoiced_1.f x7_3 (bt a0 x11_1) x8_9).bind fun t312 => (if t312 = true then (impl_places_at_CountFinalVoiced_1.l0 kj9 a0 (wrap64 (x5_1 + 1)) (a0.size : Int) (wrap64 (x11_1 + 1))) else (impl_places_at_CountFinalVoiced_1.l0 kj9 a0 x5_1 (a0.size : Int) (wrap64 (x11_1 + 1))))) else (none)) else (none)) else (impl_places_at_CountFinalVoiced_1.l0 kj9 a0 x5_1 (a0.size : Int) (wrap64 (x11_1 + 1)))) = some r := H; have A15 := Aside0.mk A150; clear A150
        by_cases c16 : t311 = true
        ·subst c16
         have H1 : (if 0 ≤ x11_1 then (if x11_1 < (a0.size : Int) then ((impl_CountFinalVoiced_1.f x7_3 (bt a0 x11_1) x8_9).bind fun t312 => (if t312 = true then (impl_places_at_CountFinalVoiced_1.l0 kj9 a0 (wrap64 (x5_1 + 1)) (a0.size : Int) (wrap64 (x11_1 + 1))) else (impl_places_at_CountFinalVoiced_1.l0 kj9 a0 x5_1 (a0.size : Int) (wrap64 (x11_1 + 1))))) else (none)) else (none)) = some r := by rw [if_pos rfl] at H; exact H
         clear H; have H := H1; clear H1
         by_cases c17 : 0 ≤ x11_1
         ·rw [if_pos c17] at H
          have c17b0 : decide (0 ≤ x11_1) = true := decide_eq_true c17
          clear c17
          by_cases c18 : x11_1 < (a0.size : Int)
          ·rw [if_pos c18] at H
           have c18b0 : decide (x11_1 < (a0.size : Int)) = true := decide_eq_true c18
           clear c18; replace H := Option.bind_eq_some_iff.mp H; obtain ⟨t312, A200, H⟩ := H; replace H : (if t312 = true then (impl_places_at_CountFinalVoiced_1.l0 kj9 a0 (wrap64 (x5_1 + 1)) (a0.size : Int) (wrap64 (x11_1 + 1))) else (impl_places_at_CountFinalVoiced_1.l0 kj9 a0 x5_1 (a0.size : Int) (wrap64 (x11_1 + 1)))) = some r := H; have A20 := Aside0.mk A200; clear A200
           by_cases c21 : t312 = true
           ·subst c21
            have H1 : (impl_places_at_CountFinalVoiced_1.l0 kj9 a0 (wrap64 (x5_1 + 1)) (a0.size : Int) (wrap64 (x11_1 + 1))) = some r := by rw [if_pos rfl] at H; exact H
            clear H; have H := H1; clear H1; have H' := Aside0.mk H; clear H
            go_wp2_with (first | ((with_reducible refine gate_callee (f := 94) rfl ?_); refine goesL_ (some 30) rfl rfl Try.func94 (by kernel_rfl) rfl #[.string a0] rfl eqT ?_; (with_reducible refine (impl_IsForm.calls kj9 a0 true _ A15.out).mono ?_); rintro e w' ⟨rfl, ⟨nd, rfl⟩⟩; refine ⟨_, rfl, ?_⟩; have p19 : 0 ≤ (x11_1 : Int) := of_decide_eq_true asmT; have q19 : x11_1 < (a0.size : Int) := of_decide_eq_true asmT; have hx19 := bt_at a0 x11_1; replace p19 := eq_true p19; replace q19 := eq_true q19) | (go_at_call 104; (with_reducible refine (impl_CountFinalVoiced_1.calls x7_3 (bt a0 x11_1) x8_9 true _ A20.out).mono ?_); rintro e w22 ⟨rfl, hb⟩; have n0_ := asT (below_step (hbT HB.out) hb); clear HB; have HB := n0_; clear n0_; (try clear hb); (try clear hb2); (try clear hk); (try clear hi)))
            go_roundg kj9
            case measure => have := HK1.out; have := HJ3.out; have := HJ9.out; omega
            case rel => exact ⟨(wrap64 (x5_1 + 1)), (wrap64 (x11_1 + 1)), rdT, rdT, H', ⟨by have := HK1.out; have := HJ3.out; have := HJ9.out; omega⟩, ⟨hbT HB.out⟩⟩
           ·replace c21 := Bool.eq_false_iff.mpr c21
            subst c21
            have H1 : (impl_places_at_CountFinalVoiced_1.l0 kj9 a0 x5_1 (a0.size : Int) (wrap64 (x11_1 + 1))) = some r := by rw [if_neg (show ¬ (false = true) by decide)] at H; exact H
            clear H; have H := H1; clear H1; have H' := Aside0.mk H; clear H
            go_wp2_with (first | ((with_reducible refine gate_callee (f := 94) rfl ?_); refine goesL_ (some 30) rfl rfl Try.func94 (by kernel_rfl) rfl #[.string a0] rfl eqT ?_; (with_reducible refine (impl_IsForm.calls kj9 a0 true _ A15.out).mono ?_); rintro e w' ⟨rfl, ⟨nd, rfl⟩⟩; refine ⟨_, rfl, ?_⟩; have p19 : 0 ≤ (x11_1 : Int) := of_decide_eq_true asmT; have q19 : x11_1 < (a0.size : Int) := of_decide_eq_true asmT; have hx19 := bt_at a0 x11_1; replace p19 := eq_true p19; replace q19 := eq_true q19) | (go_at_call 104; (with_reducible refine (impl_CountFinalVoiced_1.calls x7_3 (bt a0 x11_1) x8_9 false _ A20.out).mono ?_); rintro e w23 ⟨rfl, hb⟩; have n0_ := asT (below_step (hbT HB.out) hb); clear HB; have HB := n0_; clear n0_; (try clear hb); (try clear hb2); (try clear hk); (try clear hi)))
            go_roundg kj9
            case measure => have := HK1.out; have := HJ3.out; have := HJ9.out; omega
            case rel => exact ⟨(x5_1), (wrap64 (x11_1 + 1)), rdT, rdT, H', ⟨by have := HK1.out; have := HJ3.out; have := HJ9.out; omega⟩, ⟨hbT HB.out⟩⟩
          ·rw [if_neg c18] at H
           exact absurd H (by simp)
         ·rw [if_neg c17] at H
          exact absurd H (by simp)
        ·replace c16 := Bool.eq_false_iff.mpr c16
         subst c16
         have H1 : (impl_places_at_CountFinalVoiced_1.l0 kj9 a0 x5_1 (a0.size : Int) (wrap64 (x11_1 + 1))) = some r := by rw [if_neg (show ¬ (false = true) by decide)] at H; exact H
         clear H; have H := H1; clear H1; have H' := Aside0.mk H; clear H
         go_wp2_with (first | ((with_reducible refine gate_callee (f := 94) rfl ?_); refine goesL_ (some 30) rfl rfl Try.func94 (by kernel_rfl) rfl #[.string a0] rfl eqT ?_; (with_reducible refine (impl_IsForm.calls kj9 a0 false _ A15.out).mono ?_); rintro e w' ⟨rfl, ⟨nd, rfl⟩⟩; refine ⟨_, rfl, ?_⟩))
         go_roundg kj9
         case measure => have := HK1.out; have := HJ3.out; have := HJ9.out; omega
         case rel => exact ⟨(x5_1), (wrap64 (x11_1 + 1)), rdT, rdT, H', ⟨by have := HK1.out; have := HJ3.out; have := HJ9.out; omega⟩, ⟨hbT HB.out⟩⟩
   ·rw [if_neg c3] at H
    have c3b0 : decide (x11_1 < (a0.size : Int)) = false := decide_eq_false c3
    clear c3
    obtain rfl := Option.some.inj H
    go_wp2
    go_ret
    exact ⟨rlT, hbT HB.out⟩

end Go.Proofs.Ytdamagcfmhimfad.PFnExactProfileOf
