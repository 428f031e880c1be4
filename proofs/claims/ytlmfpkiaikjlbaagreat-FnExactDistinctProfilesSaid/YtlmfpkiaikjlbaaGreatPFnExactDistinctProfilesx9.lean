-- Made by gen.py (a program of this session) out of the translation; Lean checks it.
import Derived.Test.YtlmfpkiaikjlbaaGreatPFnExactDistinctProfilesx0
import Derived.Test.YtlmfpkiaikjlbaaGreatPFnExactDistinctProfilesx8
namespace Go.Proofs.YtlmfpkiaikjlbaaGreat.PFnExactDistinctProfiles
open Go.RowKit Go.Proofs.YtlmfpkiaikjlbaaGreatB Go.Proofs.YtlmfpkiaikjlbaaGreatW.PrintWords Go.Proofs.YtlmfpkiaikjlbaaGreatW.PrintLast Go.Proofs.YtlmfpkiaikjlbaaGreatW.PrintMore
attribute [local go_sem] max2_int min2_int max_two min_two max_three min_three max_four min_four   -- for this text's walks alone
set_option linter.unusedVariables false
set_option maxHeartbeats 8000000
set_option maxRecDepth 100000
set_option linter.unusedSimpArgs false
mutual
def impl_places_G.l0 (PF : Int → Int → Int → Option (Bool)) : Nat → ByteArray → Int → Int → Int → Option (Int)
 | 0, _, _, _, _ => none
 | k + 1, x0, x5, x10, x11 => if x11 < x10 then (if x11 > 0 then (if 0 ≤ (wrap64 (x11 - 1)) then (if (wrap64 (x11 - 1)) < (x0.size : Int) then (impl_places_G.j1 PF k x0 x5 x11 (bt x0 (wrap64 (x11 - 1))) 0 x10 x11) else (none)) else (none)) else (impl_places_G.j1 PF k x0 x5 x11 0 0 x10 x11)) else (some x5)
def impl_places_G.j1 (PF : Int → Int → Int → Option (Bool)) : Nat → ByteArray → Int → Int → Int → Int → Int → Int → Option (Int)
 | 0, _, _, _, _, _, _, _ => none
 | k + 1, x0, x5, x6, x7, x8, x10, x11 => if (wrap64 (x6 + 1)) < (x0.size : Int) then (if 0 ≤ (wrap64 (x6 + 1)) then (impl_places_G.j2 PF k x0 x5 x6 x7 (bt x0 (wrap64 (x6 + 1))) x10 x11) else (none)) else (impl_places_G.j2 PF k x0 x5 x6 x7 x8 x10 x11)
def impl_places_G.j2 (PF : Int → Int → Int → Option (Bool)) : Nat → ByteArray → Int → Int → Int → Int → Int → Int → Option (Int)
 | 0, _, _, _, _, _, _, _ => none
 | k + 1, x0, x5, x6, x7, x8, x10, x11 => (impl_IsForm.f k x0).bind fun t395 => (if t395 = true then (if 0 ≤ x6 then (if x6 < (x0.size : Int) then ((PF x7 (bt x0 x6) x8).bind fun t396 => (if t396 = true then (impl_places_G.l0 PF k x0 (wrap64 (x5 + 1)) x10 (wrap64 (x11 + 1))) else (impl_places_G.l0 PF k x0 x5 x10 (wrap64 (x11 + 1))))) else (none)) else (none)) else (impl_places_G.l0 PF k x0 x5 x10 (wrap64 (x11 + 1))))
end
def impl_places_G.f (PF : Int → Int → Int → Option (Bool)) (k : Nat) (a0 : ByteArray) (a1 : Unit) : Option (Int) := impl_places_G.l0 PF k a0 0 (a0.size : Int) 0
theorem impl_places_G.mono_l (PF : Int → Int → Int → Option (Bool)) : ∀ k, (∀ y0 y1 y2 y3, LeO (impl_places_G.l0 PF k y0 y1 y2 y3) (impl_places_G.l0 PF (k + 1) y0 y1 y2 y3)) ∧ (∀ y0 y1 y2 y3 y4 y5 y6, LeO (impl_places_G.j1 PF k y0 y1 y2 y3 y4 y5 y6) (impl_places_G.j1 PF (k + 1) y0 y1 y2 y3 y4 y5 y6)) ∧ (∀ y0 y1 y2 y3 y4 y5 y6, LeO (impl_places_G.j2 PF k y0 y1 y2 y3 y4 y5 y6) (impl_places_G.j2 PF (k + 1) y0 y1 y2 y3 y4 y5 y6))
 | 0 => ⟨fun _ _ _ _ r h => by simp [impl_places_G.l0] at h, fun _ _ _ _ _ _ _ r h => by simp [impl_places_G.j1] at h, fun _ _ _ _ _ _ _ r h => by simp [impl_places_G.j2] at h⟩
 | k + 1 => by
  obtain ⟨ih0, ih1, ih2⟩ := impl_places_G.mono_l PF k; refine ⟨?_, ?_, ?_⟩
  ·intro y0 y1 y2 y3; unfold impl_places_G.l0
   with_reducible repeat' first | exact ih0 _ _ _ _ | exact ih1 _ _ _ _ _ _ _ | exact ih2 _ _ _ _ _ _ _ | exact impl_IsForm.mono _ _ | exact LeO.refl _ | exact LeO.none _ | refine LeO.ite ?_ ?_ | refine LeO.bind ?_ (fun _ => ?_)
  ·intro y0 y1 y2 y3 y4 y5 y6; unfold impl_places_G.j1
   with_reducible repeat' first | exact ih0 _ _ _ _ | exact ih1 _ _ _ _ _ _ _ | exact ih2 _ _ _ _ _ _ _ | exact impl_IsForm.mono _ _ | exact LeO.refl _ | exact LeO.none _ | refine LeO.ite ?_ ?_ | refine LeO.bind ?_ (fun _ => ?_)
  ·intro y0 y1 y2 y3 y4 y5 y6; unfold impl_places_G.j2
   with_reducible repeat' first | exact ih0 _ _ _ _ | exact ih1 _ _ _ _ _ _ _ | exact ih2 _ _ _ _ _ _ _ | exact impl_IsForm.mono _ _ | exact LeO.refl _ | exact LeO.none _ | refine LeO.ite ?_ ?_ | refine LeO.bind ?_ (fun _ => ?_)
theorem impl_places_G.mono (PF : Int → Int → Int → Option (Bool)) : ∀ a0 a1 k, LeO (impl_places_G.f PF k a0 a1) (impl_places_G.f PF (k + 1) a0 a1) := by
 intro a0 a1 k; obtain ⟨ih0, ih1, ih2⟩ := impl_places_G.mono_l PF k; unfold impl_places_G.f
 with_reducible repeat' first | exact ih0 _ _ _ _ | exact ih1 _ _ _ _ _ _ _ | exact ih2 _ _ _ _ _ _ _ | exact impl_IsForm.mono _ _ | exact LeO.refl _ | exact LeO.none _ | refine LeO.ite ?_ ?_ | refine LeO.bind ?_ (fun _ => ?_)
theorem impl_places_G.calls (PF : Int → Int → Int → Option (Bool)) (F : FuncId) (fn : Func) (hfF : Tryz.prog.funcs[F]? = some fn) (hnF : (fn.name == "runtime.NumGoroutine") = false) (hbF : fn.body.isSome = true) (HF : ∀ (a0 a1 a2 : Int) (r : Bool) (w : World), PF a0 a1 a2 = some r → Calls Tryz.prog F #[.int .u8 a0, .int .u8 a1, .int .u8 a2] w fun e w' => e = .returned (.bool r) ∧ Below w.heap.size w w') (k : Nat) (a0 : ByteArray) (a1 : Unit) (r : Int) (w : World) (h : impl_places_G.f PF k a0 a1 = some r) :
  Calls Tryz.prog 157 #[.string a0, .func (.func F) #[] #[]] w fun e w' => e = .returned (.int .i64 r) ∧ Below w.heap.size w w' := by
 have HB := asT (Below.refl w.heap.size w); have H := h; unfold impl_places_G.f at H; clear h; have H' := asT H; clear H; go_enter Tryz.func157, Tryz.ntmps157
 go_wp2
 go_loopg [5, 11] k (fun kq v5 v11 w' => ∃ (x5_1 : Int) (x11_1 : Int), v5 = .int .i64 x5_1 ∧ v11 = .int .i64 x11_1 ∧ Aside0 (impl_places_G.l0 PF kq a0 x5_1 (a0.size : Int) x11_1 = some r) ∧ Aside0 (kq ≤ k) ∧ Aside0 (Below w.heap.size w w'))
 case atStart => exact ⟨(0), (0), rdT, rdT, H', ⟨Nat.le_refl _⟩, ⟨hbT HB.out⟩⟩
 case round =>
  clear H'; (try clear c1 p2); obtain ⟨x5_1, x11_1, rfl, rfl, HA, HK1, HB⟩ := hrel
  cases gk with
  | zero => exact absurd HA.out (by simp [impl_places_G.l0])
  | succ k1 =>
   have H := HA.out; clear HA
   simp only [impl_places_G.l0] at H
   by_cases c3 : x11_1 < (a0.size : Int)
   ·rw [if_pos c3] at H; have c3b0 := dt c3; clear c3; have HC4 := asT H; clear H
    go_upto_if 15 with (fail)
    go_cut [7] (fun v7 wc => ∃ (kq : Nat) (x7_3 : Int), v7 = .int .u8 x7_3 ∧ Aside0 (impl_places_G.j1 PF kq a0 x5_1 x11_1 x7_3 0 (a0.size : Int) x11_1 = some r) ∧ Aside0 (kq ≤ k1) ∧ Aside0 (Below w.heap.size w wc))
    case first =>
     have H := HC4.out; clear HC4; by_cases c5 : x11_1 > 0
     ·rw [if_pos c5] at H; have c5b0 : decide (0 < x11_1) = true := dt c5; clear c5
      (first | rw [c5b0] | (simp only [i64_w, i32_w]; rw [c5b0]) | skip)
      obtain ⟨ji6, hji6⟩ : ∃ j_ : Int, (wrap64 (x11_1 - 1)) = j_ := ⟨_, rfl⟩
      replace H : (if 0 ≤ (ji6) then (if (ji6) < (a0.size : Int) then (impl_places_G.j1 PF k1 a0 x5_1 x11_1 (bt a0 (ji6)) 0 (a0.size : Int) x11_1) else (none)) else (none)) = some r := by first | (rw [hji6] at H; exact H) | (simp only [hji6] at H ⊢; exact H)
      have hji6w : (IntKind.i64.wrap (x11_1 - 1)) = ji6 := (i64_w _).trans hji6; by_cases c7 : 0 ≤ (ji6)
      ·rw [if_pos c7] at H; have c7b0 := dt c7; clear c7; by_cases c8 : (ji6) < (a0.size : Int)
       ·rw [if_pos c8] at H; have c8b0 := dt c8; clear c8; have H' := asT H; clear H; have p9 : 0 ≤ ((ji6) : Int) := dT asmT; have q9 : (ji6) < (a0.size : Int) := dT asmT; have hx9 := bt_at a0 (ji6); replace p9 := eq_true p9; replace q9 := eq_true q9
        go_wp2
        go_meet
        case rel => exact ⟨_, (bt a0 (ji6)), (by first | rfl | (simp; done) | (simp only [← hji6] <;> (first | rfl | simp)) | (simp [*]; done)), H', ⟨by have := HK1.out; first | omega | exact Nat.le_refl _⟩, ⟨hbT HB.out⟩⟩
       ·rw [if_neg c8] at H; exact absurd H (by simp)
      ·rw [if_neg c7] at H; exact absurd H (by simp)
     ·rw [if_neg c5] at H; have c5b0 : decide (0 < x11_1) = false := df c5; clear c5
      (first | rw [c5b0] | (simp only [i64_w, i32_w]; rw [c5b0]) | skip)
      have H' := asT H; clear H
      go_wp2
      go_meet
      case rel => exact ⟨_, (0), rdT, H', ⟨by have := HK1.out; first | omega | exact Nat.le_refl _⟩, ⟨hbT HB.out⟩⟩
    case rest =>
     clear HC4; (try clear c1 p2 c3 c3b0 c5 c5b0 p6 c7 c7b0 c8 c8b0 p9 q9 hx9 p2 p9 q9); obtain ⟨kq, x7_3, rfl, HA, HJ3, HB⟩ := hcut
     cases kq with
     | zero => exact absurd HA.out (by simp [impl_places_G.j1])
     | succ kj3 =>
      have H := HA.out; clear HA
      simp only [impl_places_G.j1] at H
      have HC10 := asT H; clear H
      go_upto_if 24 with (fail)
      go_cut [8] (fun v8 wc => ∃ (kq : Nat) (x8_9 : Int), v8 = .int .u8 x8_9 ∧ Aside0 (impl_places_G.j2 PF kq a0 x5_1 x11_1 x7_3 x8_9 (a0.size : Int) x11_1 = some r) ∧ Aside0 (kq ≤ kj3) ∧ Aside0 (Below w.heap.size w wc))
      case first =>
       have H := HC10.out; clear HC10; by_cases c11 : (wrap64 (x11_1 + 1)) < (a0.size : Int)
       ·rw [if_pos c11] at H; have c11b0 := dt c11; clear c11
        (first | rw [c11b0] | (simp only [i64_w, i32_w]; rw [c11b0]) | skip)
        obtain ⟨ji12, hji12⟩ : ∃ j_ : Int, (wrap64 (x11_1 + 1)) = j_ := ⟨_, rfl⟩
        replace H : (if 0 ≤ (ji12) then (impl_places_G.j2 PF kj3 a0 x5_1 x11_1 x7_3 (bt a0 (ji12)) (a0.size : Int) x11_1) else (none)) = some r := by first | (rw [hji12] at H; exact H) | (simp only [hji12] at H ⊢; exact H)
        (try rw [hji12] at c11b0)
        have hji12w : (IntKind.i64.wrap (x11_1 + 1)) = ji12 := (i64_w _).trans hji12; by_cases c13 : 0 ≤ (ji12)
        ·rw [if_pos c13] at H; have c13b0 := dt c13; clear c13; have H' := asT H; clear H; have p14 : 0 ≤ ((ji12) : Int) := dT asmT; have q14 : (ji12) < (a0.size : Int) := dT asmT; have hx14 := bt_at a0 (ji12); replace p14 := eq_true p14; replace q14 := eq_true q14
         go_wp2
         go_meet
         case rel => exact ⟨_, (bt a0 (ji12)), (by first | rfl | (simp; done) | (simp only [← hji12] <;> (first | rfl | simp)) | (simp [*]; done)), H', ⟨by have := HK1.out; have := HJ3.out; first | omega | exact Nat.le_refl _⟩, ⟨hbT HB.out⟩⟩
        ·rw [if_neg c13] at H; exact absurd H (by simp)
       ·rw [if_neg c11] at H; have c11b0 := df c11; clear c11
        (first | rw [c11b0] | (simp only [i64_w, i32_w]; rw [c11b0]) | skip)
        have H' := asT H; clear H
        go_wp2
        go_meet
        case rel => exact ⟨_, (0), rdT, H', ⟨by have := HK1.out; have := HJ3.out; first | omega | exact Nat.le_refl _⟩, ⟨hbT HB.out⟩⟩
      case rest =>
       clear HC10; (try clear c1 p1 q1 hx1 p2 c3 c3b0 c5 c5b0 p6 c7 c7b0 c8 c8b0 p9 q9 hx9 c11 c11b0 c13 c13b0 p14 q14 hx14 p14 p2 p6 p9 q14 q9); obtain ⟨kq, x8_9, rfl, HA, HJ9, HB⟩ := hcut
       cases kq with
       | zero => exact absurd HA.out (by simp [impl_places_G.j2])
       | succ kj9 =>
        have H := HA.out; clear HA
        simp only [impl_places_G.j2] at H
        obtain ⟨t395, A15, H⟩ := be H; by_cases c16 : t395 = true
        ·subst c16; rw [if_pos rfl] at H; have H1 := H; clear H; have H := H1; clear H1; by_cases c17 : 0 ≤ x11_1
         ·rw [if_pos c17] at H; have c17b0 := dt c17; clear c17; by_cases c18 : x11_1 < (a0.size : Int)
          ·rw [if_pos c18] at H; have c18b0 := dt c18; clear c18; obtain ⟨t396, A20, H⟩ := be H; by_cases c21 : t396 = true
           ·subst c21; rw [if_pos rfl] at H; have H' := asT H; clear H
            go_wp2_with (first | ((with_reducible refine gate_callee (f := 40) rfl ?_); refine goesL_ (some 30) rfl rfl Tryz.func40 (by kernel_rfl) rfl #[.string a0] rfl eqT ?_; (with_reducible refine (impl_IsForm.calls kj9 a0 true _ A15.out).mono ?_); rintro e w' ⟨rfl, ⟨nd, rfl⟩⟩; refine ⟨_, rfl, ?_⟩; have p19 : 0 ≤ (x11_1 : Int) := dT asmT; have q19 : x11_1 < (a0.size : Int) := dT asmT; have hx19 := bt_at a0 x11_1; replace p19 := eq_true p19; replace q19 := eq_true q19) | (rw [enters_ hfF hnF hbF]; go_simp) | ((with_reducible refine (HF x7_3 (bt a0 x11_1) x8_9 true _ A20.out).mono ?_); rintro e w22 ⟨rfl, hb⟩; replace HB := hS HB hb; (try clear hb hb2 hk hi)))
            go_roundg kj9
            case measure => have := HK1.out; have := HJ3.out; have := HJ9.out; omega
            case rel => exact ⟨(wrap64 (x5_1 + 1)), (wrap64 (x11_1 + 1)), rdT, rdT, H', ⟨by have := HK1.out; have := HJ3.out; have := HJ9.out; omega⟩, ⟨hbT HB.out⟩⟩
           ·replace c21 := eE c21; subst c21; rw [if_neg nF] at H; have H' := asT H; clear H
            go_wp2_with (first | ((with_reducible refine gate_callee (f := 40) rfl ?_); refine goesL_ (some 30) rfl rfl Tryz.func40 (by kernel_rfl) rfl #[.string a0] rfl eqT ?_; (with_reducible refine (impl_IsForm.calls kj9 a0 true _ A15.out).mono ?_); rintro e w' ⟨rfl, ⟨nd, rfl⟩⟩; refine ⟨_, rfl, ?_⟩; have p19 : 0 ≤ (x11_1 : Int) := dT asmT; have q19 : x11_1 < (a0.size : Int) := dT asmT; have hx19 := bt_at a0 x11_1; replace p19 := eq_true p19; replace q19 := eq_true q19) | (rw [enters_ hfF hnF hbF]; go_simp) | ((with_reducible refine (HF x7_3 (bt a0 x11_1) x8_9 false _ A20.out).mono ?_); rintro e w23 ⟨rfl, hb⟩; replace HB := hS HB hb; (try clear hb hb2 hk hi)))
            go_roundg kj9
            case measure => have := HK1.out; have := HJ3.out; have := HJ9.out; omega
            case rel => exact ⟨(x5_1), (wrap64 (x11_1 + 1)), rdT, rdT, H', ⟨by have := HK1.out; have := HJ3.out; have := HJ9.out; omega⟩, ⟨hbT HB.out⟩⟩
          ·rw [if_neg c18] at H; exact absurd H (by simp)
         ·rw [if_neg c17] at H; exact absurd H (by simp)
        ·replace c16 := eE c16; subst c16; rw [if_neg nF] at H; have H' := asT H; clear H
         go_wp2_with (first | ((with_reducible refine gate_callee (f := 40) rfl ?_); refine goesL_ (some 30) rfl rfl Tryz.func40 (by kernel_rfl) rfl #[.string a0] rfl eqT ?_; (with_reducible refine (impl_IsForm.calls kj9 a0 false _ A15.out).mono ?_); rintro e w' ⟨rfl, ⟨nd, rfl⟩⟩; refine ⟨_, rfl, ?_⟩))
         go_roundg kj9
         case measure => have := HK1.out; have := HJ3.out; have := HJ9.out; omega
         case rel => exact ⟨(x5_1), (wrap64 (x11_1 + 1)), rdT, rdT, H', ⟨by have := HK1.out; have := HJ3.out; have := HJ9.out; omega⟩, ⟨hbT HB.out⟩⟩
   ·rw [if_neg c3] at H; have c3b0 := df c3; clear c3; obtain rfl := oI H
    go_wp2
    go_ret; exact ⟨rlT, hbT HB.out⟩
def impl_places_at_CountOnsetless_1.f (k : Nat) (a0 : ByteArray) (a1 : Unit) : Option (Int) := impl_places_G.f impl_CountOnsetless_1.f k a0 a1
theorem impl_places_at_CountOnsetless_1.mono : ∀ a0 a1 k, LeO (impl_places_at_CountOnsetless_1.f k a0 a1) (impl_places_at_CountOnsetless_1.f (k + 1) a0 a1) := fun a0 a1 k => impl_places_G.mono impl_CountOnsetless_1.f a0 a1 k
theorem impl_places_at_CountOnsetless_1.calls (k : Nat) (a0 : ByteArray) (a1 : Unit) (r : Int) (w : World) (h : impl_places_at_CountOnsetless_1.f k a0 a1 = some r) :
  Calls Tryz.prog 157 #[.string a0, .func (.func 158) #[] #[]] w fun e w' => e = .returned (.int .i64 r) ∧ Below w.heap.size w w' := impl_places_G.calls impl_CountOnsetless_1.f 158 _ Tryz.func158 (by kernel_rfl) rfl (fun a0 a1 a2 r w h => impl_CountOnsetless_1.calls a0 a1 a2 r w h) k a0 a1 r w h
def impl_CountOnsetless.f (k : Nat) (a0 : ByteArray) : Option (Int) := (impl_places_at_CountOnsetless_1.f k a0 ()).bind fun t397 => (some t397)
theorem impl_CountOnsetless.mono : ∀ a0 k, LeO (impl_CountOnsetless.f k a0) (impl_CountOnsetless.f (k + 1) a0) := by
 intro a0 k; unfold impl_CountOnsetless.f
 with_reducible repeat' first | exact impl_places_at_CountOnsetless_1.mono _ _ _ | exact LeO.refl _ | exact LeO.none _ | refine LeO.ite ?_ ?_ | refine LeO.bind ?_ (fun _ => ?_)
theorem impl_CountOnsetless.calls (k : Nat) (a0 : ByteArray) (r : Int) (w : World) (h : impl_CountOnsetless.f k a0 = some r) :
  Calls Tryz.prog 130 #[.string a0] w fun e w' => e = .returned (.int .i64 r) ∧ Below w.heap.size w w' := by
 have HB := asT (Below.refl w.heap.size w); have H := h; unfold impl_CountOnsetless.f at H; clear h; obtain ⟨t397, A2, H⟩ := be H; obtain rfl := oI H; go_enter Tryz.func130, Tryz.ntmps130
 go_wp2_with (first | ((with_reducible refine gate_callee (f := 157) rfl ?_); refine goesL_ (some 4) rfl rfl Tryz.func157 (by kernel_rfl) rfl #[.string a0, .func (.func 158) #[] #[]] rfl eqT ?_; (with_reducible refine (impl_places_at_CountOnsetless_1.calls k a0 () t397 _ A2.out).mono ?_); rintro e w3 ⟨rfl, hb⟩; refine ⟨_, rfl, ?_⟩; replace HB := hS HB hb; (try clear hb hb2 hk hi)))
 go_ret; exact ⟨rlT, hbT HB.out⟩
def impl_CountCodas_1.f (a0 : Int) (a1 : Int) (a2 : Int) : Option (Bool) := (impl_isConsonant.f a1).bind fun t398 => (if t398 = true then ((impl_isVowel.f a2).bind fun t399 => (some (!t399))) else (some false))
theorem impl_CountCodas_1.calls (a0 : Int) (a1 : Int) (a2 : Int) (r : Bool) (w : World) (h : impl_CountCodas_1.f a0 a1 a2 = some r) :
  Calls Tryz.prog 161 #[.int .u8 a0, .int .u8 a1, .int .u8 a2] w fun e w' => e = .returned (.bool r) ∧ Below w.heap.size w w' := by
 have HB := asT (Below.refl w.heap.size w); have H := h; unfold impl_CountCodas_1.f at H; clear h; obtain ⟨t398, A4, H⟩ := be H; by_cases c5 : t398 = true
 ·subst c5; rw [if_pos rfl] at H; obtain ⟨t399, A6, H⟩ := be H; obtain rfl := oI H; go_enter Tryz.func161, Tryz.ntmps161
  go_wp2_with (first | ((with_reducible refine gate_callee (f := 160) rfl ?_); refine goesL_ (some 8) rfl rfl Tryz.func160 (by kernel_rfl) rfl #[.int .u8 a1] rfl eqT ?_; (with_reducible refine (impl_isConsonant.calls a1 true _ A4.out).mono ?_); rintro e w7 ⟨rfl, hb⟩; refine ⟨_, rfl, ?_⟩; replace HB := hS HB hb; (try clear hb hb2 hk hi)) | (go_at_call 159; (with_reducible refine (impl_isVowel.calls a2 t399 _ A6.out).mono ?_); rintro e w8 ⟨rfl, hb⟩; replace HB := hS HB hb; (try clear hb hb2 hk hi)))
  go_ret; exact ⟨rlT, hbT HB.out⟩
 ·replace c5 := eE c5; subst c5; rw [if_neg nF] at H; have H1 := H; clear H; have H := H1; clear H1; obtain rfl := oI H; go_enter Tryz.func161, Tryz.ntmps161
  go_wp2_with (first | ((with_reducible refine gate_callee (f := 160) rfl ?_); refine goesL_ (some 8) rfl rfl Tryz.func160 (by kernel_rfl) rfl #[.int .u8 a1] rfl eqT ?_; (with_reducible refine (impl_isConsonant.calls a1 false _ A4.out).mono ?_); rintro e w9 ⟨rfl, hb⟩; refine ⟨_, rfl, ?_⟩; replace HB := hS HB hb; (try clear hb hb2 hk hi)))
  go_ret; exact ⟨rlT, hbT HB.out⟩
def impl_places_at_CountCodas_1.f (k : Nat) (a0 : ByteArray) (a1 : Unit) : Option (Int) := impl_places_G.f impl_CountCodas_1.f k a0 a1
theorem impl_places_at_CountCodas_1.mono : ∀ a0 a1 k, LeO (impl_places_at_CountCodas_1.f k a0 a1) (impl_places_at_CountCodas_1.f (k + 1) a0 a1) := fun a0 a1 k => impl_places_G.mono impl_CountCodas_1.f a0 a1 k
theorem impl_places_at_CountCodas_1.calls (k : Nat) (a0 : ByteArray) (a1 : Unit) (r : Int) (w : World) (h : impl_places_at_CountCodas_1.f k a0 a1 = some r) :
  Calls Tryz.prog 157 #[.string a0, .func (.func 161) #[] #[]] w fun e w' => e = .returned (.int .i64 r) ∧ Below w.heap.size w w' := impl_places_G.calls impl_CountCodas_1.f 161 _ Tryz.func161 (by kernel_rfl) rfl (fun a0 a1 a2 r w h => impl_CountCodas_1.calls a0 a1 a2 r w h) k a0 a1 r w h
def impl_CountCodas.f (k : Nat) (a0 : ByteArray) : Option (Int) := (impl_places_at_CountCodas_1.f k a0 ()).bind fun t402 => (some t402)
theorem impl_CountCodas.mono : ∀ a0 k, LeO (impl_CountCodas.f k a0) (impl_CountCodas.f (k + 1) a0) := by
 intro a0 k; unfold impl_CountCodas.f
 with_reducible repeat' first | exact impl_places_at_CountCodas_1.mono _ _ _ | exact LeO.refl _ | exact LeO.none _ | refine LeO.ite ?_ ?_ | refine LeO.bind ?_ (fun _ => ?_)
theorem impl_CountCodas.calls (k : Nat) (a0 : ByteArray) (r : Int) (w : World) (h : impl_CountCodas.f k a0 = some r) :
  Calls Tryz.prog 131 #[.string a0] w fun e w' => e = .returned (.int .i64 r) ∧ Below w.heap.size w w' := by
 have HB := asT (Below.refl w.heap.size w); have H := h; unfold impl_CountCodas.f at H; clear h; obtain ⟨t402, A2, H⟩ := be H; obtain rfl := oI H; go_enter Tryz.func131, Tryz.ntmps131
 go_wp2_with (first | ((with_reducible refine gate_callee (f := 157) rfl ?_); refine goesL_ (some 4) rfl rfl Tryz.func157 (by kernel_rfl) rfl #[.string a0, .func (.func 161) #[] #[]] rfl eqT ?_; (with_reducible refine (impl_places_at_CountCodas_1.calls k a0 () t402 _ A2.out).mono ?_); rintro e w3 ⟨rfl, hb⟩; refine ⟨_, rfl, ?_⟩; replace HB := hS HB hb; (try clear hb hb2 hk hi)))
 go_ret; exact ⟨rlT, hbT HB.out⟩
def impl_CountClusters_1.f (a0 : Int) (a1 : Int) (a2 : Int) : Option (Bool) := (impl_isConsonant.f a0).bind fun t403 => (if t403 = true then ((impl_isConsonant.f a1).bind fun t404 => (some t404)) else (some false))
theorem impl_CountClusters_1.calls (a0 : Int) (a1 : Int) (a2 : Int) (r : Bool) (w : World) (h : impl_CountClusters_1.f a0 a1 a2 = some r) :
  Calls Tryz.prog 162 #[.int .u8 a0, .int .u8 a1, .int .u8 a2] w fun e w' => e = .returned (.bool r) ∧ Below w.heap.size w w' := by
 have HB := asT (Below.refl w.heap.size w); have H := h; unfold impl_CountClusters_1.f at H; clear h; obtain ⟨t403, A4, H⟩ := be H; by_cases c5 : t403 = true
 ·subst c5; rw [if_pos rfl] at H; obtain ⟨t404, A6, H⟩ := be H; obtain rfl := oI H; go_enter Tryz.func162, Tryz.ntmps162
  go_wp2_with (first | ((with_reducible refine gate_callee (f := 160) rfl ?_); refine goesL_ (some 8) rfl rfl Tryz.func160 (by kernel_rfl) rfl #[.int .u8 a0] rfl eqT ?_; (with_reducible refine (impl_isConsonant.calls a0 true _ A4.out).mono ?_); rintro e w7 ⟨rfl, hb⟩; refine ⟨_, rfl, ?_⟩; replace HB := hS HB hb; (try clear hb hb2 hk hi)) | (go_at_call 160; (with_reducible refine (impl_isConsonant.calls a1 t404 _ A6.out).mono ?_); rintro e w8 ⟨rfl, hb⟩; replace HB := hS HB hb; (try clear hb hb2 hk hi)))
  go_ret; exact ⟨rlT, hbT HB.out⟩
 ·replace c5 := eE c5; subst c5; rw [if_neg nF] at H; have H1 := H; clear H; have H := H1; clear H1; obtain rfl := oI H; go_enter Tryz.func162, Tryz.ntmps162
  go_wp2_with (first | ((with_reducible refine gate_callee (f := 160) rfl ?_); refine goesL_ (some 8) rfl rfl Tryz.func160 (by kernel_rfl) rfl #[.int .u8 a0] rfl eqT ?_; (with_reducible refine (impl_isConsonant.calls a0 false _ A4.out).mono ?_); rintro e w9 ⟨rfl, hb⟩; refine ⟨_, rfl, ?_⟩; replace HB := hS HB hb; (try clear hb hb2 hk hi)))
  go_ret; exact ⟨rlT, hbT HB.out⟩
def impl_places_at_CountClusters_1.f (k : Nat) (a0 : ByteArray) (a1 : Unit) : Option (Int) := impl_places_G.f impl_CountClusters_1.f k a0 a1
theorem impl_places_at_CountClusters_1.mono : ∀ a0 a1 k, LeO (impl_places_at_CountClusters_1.f k a0 a1) (impl_places_at_CountClusters_1.f (k + 1) a0 a1) := fun a0 a1 k => impl_places_G.mono impl_CountClusters_1.f a0 a1 k
theorem impl_places_at_CountClusters_1.calls (k : Nat) (a0 : ByteArray) (a1 : Unit) (r : Int) (w : World) (h : impl_places_at_CountClusters_1.f k a0 a1 = some r) :
  Calls Tryz.prog 157 #[.string a0, .func (.func 162) #[] #[]] w fun e w' => e = .returned (.int .i64 r) ∧ Below w.heap.size w w' := impl_places_G.calls impl_CountClusters_1.f 162 _ Tryz.func162 (by kernel_rfl) rfl (fun a0 a1 a2 r w h => impl_CountClusters_1.calls a0 a1 a2 r w h) k a0 a1 r w h
def impl_CountClusters.f (k : Nat) (a0 : ByteArray) : Option (Int) := (impl_places_at_CountClusters_1.f k a0 ()).bind fun t407 => (some t407)
theorem impl_CountClusters.mono : ∀ a0 k, LeO (impl_CountClusters.f k a0) (impl_CountClusters.f (k + 1) a0) := by
 intro a0 k; unfold impl_CountClusters.f
 with_reducible repeat' first | exact impl_places_at_CountClusters_1.mono _ _ _ | exact LeO.refl _ | exact LeO.none _ | refine LeO.ite ?_ ?_ | refine LeO.bind ?_ (fun _ => ?_)
theorem impl_CountClusters.calls (k : Nat) (a0 : ByteArray) (r : Int) (w : World) (h : impl_CountClusters.f k a0 = some r) :
  Calls Tryz.prog 132 #[.string a0] w fun e w' => e = .returned (.int .i64 r) ∧ Below w.heap.size w w' := by
 have HB := asT (Below.refl w.heap.size w); have H := h; unfold impl_CountClusters.f at H; clear h; obtain ⟨t407, A2, H⟩ := be H; obtain rfl := oI H; go_enter Tryz.func132, Tryz.ntmps132
 go_wp2_with (first | ((with_reducible refine gate_callee (f := 157) rfl ?_); refine goesL_ (some 4) rfl rfl Tryz.func157 (by kernel_rfl) rfl #[.string a0, .func (.func 162) #[] #[]] rfl eqT ?_; (with_reducible refine (impl_places_at_CountClusters_1.calls k a0 () t407 _ A2.out).mono ?_); rintro e w3 ⟨rfl, hb⟩; refine ⟨_, rfl, ?_⟩; replace HB := hS HB hb; (try clear hb hb2 hk hi)))
 go_ret; exact ⟨rlT, hbT HB.out⟩
def impl_IsObstruent.f (a0 : Int) : Option (Bool) := (strings_IndexByte.f (⟨#[112, 116, 98, 100]⟩ : ByteArray) a0).bind fun t408 => (some (decide (t408 ≥ 0)))
theorem impl_IsObstruent.calls (a0 : Int) (r : Bool) (w : World) (h : impl_IsObstruent.f a0 = some r) :
  Calls Tryz.prog 182 #[.int .u8 a0] w fun e w' => e = .returned (.bool r) ∧ Drawn0 w w' := by
 have H := h; unfold impl_IsObstruent.f at H; clear h; obtain ⟨t408, A2, H⟩ := be H; obtain rfl := oI H; go_enter Tryz.func182, Tryz.ntmps182
 go_wp2_with (first | ((with_reducible refine gate_callee (f := 156) rfl ?_); refine goesL_ (some 4) rfl rfl Tryz.func156 (by kernel_rfl) rfl #[.string (⟨#[112, 116, 98, 100]⟩ : ByteArray), .int .u8 a0] rfl eqT ?_; (with_reducible refine (strings_IndexByte.calls (⟨#[112, 116, 98, 100]⟩ : ByteArray) a0 t408 _ A2.out).mono ?_); rintro e w' ⟨rfl, ⟨nd, rfl⟩⟩; refine ⟨_, rfl, ?_⟩))
 go_ret; exact ⟨rdT, drT⟩
def impl_isVoiced.f (a0 : Int) : Option (Bool) := (impl_IsObstruent.f a0).bind fun t409 => (if t409 = true then ((impl_HasFeature.f a0 1).bind fun t410 => (some t410)) else (some false))
theorem impl_isVoiced.calls (a0 : Int) (r : Bool) (w : World) (h : impl_isVoiced.f a0 = some r) :
  Calls Tryz.prog 164 #[.int .u8 a0] w fun e w' => e = .returned (.bool r) ∧ Below w.heap.size w w' := by
 have HB := asT (Below.refl w.heap.size w); have H := h; unfold impl_isVoiced.f at H; clear h; obtain ⟨t409, A2, H⟩ := be H; by_cases c3 : t409 = true
 ·subst c3; rw [if_pos rfl] at H; obtain ⟨t410, A4, H⟩ := be H; obtain rfl := oI H; go_enter Tryz.func164, Tryz.ntmps164
  go_wp2_with (first | ((with_reducible refine gate_callee (f := 182) rfl ?_); refine goesL_ (some 4) rfl rfl Tryz.func182 (by kernel_rfl) rfl #[.int .u8 a0] rfl eqT ?_; (with_reducible refine (impl_IsObstruent.calls a0 true _ A2.out).mono ?_); rintro e w' ⟨rfl, ⟨nd, rfl⟩⟩; refine ⟨_, rfl, ?_⟩) | (go_at_call 167; (with_reducible refine (impl_HasFeature.calls a0 1 t410 _ A4.out).mono ?_); rintro e w5 ⟨rfl, hb⟩; replace HB := hS HB hb; (try clear hb hb2 hk hi)))
  go_ret; exact ⟨rlT, hbT HB.out⟩
 ·replace c3 := eE c3; subst c3; rw [if_neg nF] at H; have H1 := H; clear H; have H := H1; clear H1; obtain rfl := oI H; go_enter Tryz.func164, Tryz.ntmps164
  go_wp2_with (first | ((with_reducible refine gate_callee (f := 182) rfl ?_); refine goesL_ (some 4) rfl rfl Tryz.func182 (by kernel_rfl) rfl #[.int .u8 a0] rfl eqT ?_; (with_reducible refine (impl_IsObstruent.calls a0 false _ A2.out).mono ?_); rintro e w' ⟨rfl, ⟨nd, rfl⟩⟩; refine ⟨_, rfl, ?_⟩))
  go_ret; exact ⟨rlT, hbT HB.out⟩
def impl_CountVoiced_1.f (a0 : Int) (a1 : Int) (a2 : Int) : Option (Bool) := (impl_isVoiced.f a1).bind fun t411 => (some t411)
theorem impl_CountVoiced_1.calls (a0 : Int) (a1 : Int) (a2 : Int) (r : Bool) (w : World) (h : impl_CountVoiced_1.f a0 a1 a2 = some r) :
  Calls Tryz.prog 163 #[.int .u8 a0, .int .u8 a1, .int .u8 a2] w fun e w' => e = .returned (.bool r) ∧ Below w.heap.size w w' := by
 have HB := asT (Below.refl w.heap.size w); have H := h; unfold impl_CountVoiced_1.f at H; clear h; obtain ⟨t411, A4, H⟩ := be H; obtain rfl := oI H; go_enter Tryz.func163, Tryz.ntmps163
 go_wp2_with (first | ((with_reducible refine gate_callee (f := 164) rfl ?_); refine goesL_ (some 8) rfl rfl Tryz.func164 (by kernel_rfl) rfl #[.int .u8 a1] rfl eqT ?_; (with_reducible refine (impl_isVoiced.calls a1 t411 _ A4.out).mono ?_); rintro e w5 ⟨rfl, hb⟩; refine ⟨_, rfl, ?_⟩; replace HB := hS HB hb; (try clear hb hb2 hk hi)))
 go_ret; exact ⟨rlT, hbT HB.out⟩
def impl_places_at_CountVoiced_1.f (k : Nat) (a0 : ByteArray) (a1 : Unit) : Option (Int) := impl_places_G.f impl_CountVoiced_1.f k a0 a1
theorem impl_places_at_CountVoiced_1.mono : ∀ a0 a1 k, LeO (impl_places_at_CountVoiced_1.f k a0 a1) (impl_places_at_CountVoiced_1.f (k + 1) a0 a1) := fun a0 a1 k => impl_places_G.mono impl_CountVoiced_1.f a0 a1 k
theorem impl_places_at_CountVoiced_1.calls (k : Nat) (a0 : ByteArray) (a1 : Unit) (r : Int) (w : World) (h : impl_places_at_CountVoiced_1.f k a0 a1 = some r) :
  Calls Tryz.prog 157 #[.string a0, .func (.func 163) #[] #[]] w fun e w' => e = .returned (.int .i64 r) ∧ Below w.heap.size w w' := impl_places_G.calls impl_CountVoiced_1.f 163 _ Tryz.func163 (by kernel_rfl) rfl (fun a0 a1 a2 r w h => impl_CountVoiced_1.calls a0 a1 a2 r w h) k a0 a1 r w h
def impl_CountVoiced.f (k : Nat) (a0 : ByteArray) : Option (Int) := (impl_places_at_CountVoiced_1.f k a0 ()).bind fun t414 => (some t414)
theorem impl_CountVoiced.mono : ∀ a0 k, LeO (impl_CountVoiced.f k a0) (impl_CountVoiced.f (k + 1) a0) := by
 intro a0 k; unfold impl_CountVoiced.f
 with_reducible repeat' first | exact impl_places_at_CountVoiced_1.mono _ _ _ | exact LeO.refl _ | exact LeO.none _ | refine LeO.ite ?_ ?_ | refine LeO.bind ?_ (fun _ => ?_)
theorem impl_CountVoiced.calls (k : Nat) (a0 : ByteArray) (r : Int) (w : World) (h : impl_CountVoiced.f k a0 = some r) :
  Calls Tryz.prog 133 #[.string a0] w fun e w' => e = .returned (.int .i64 r) ∧ Below w.heap.size w w' := by
 have HB := asT (Below.refl w.heap.size w); have H := h; unfold impl_CountVoiced.f at H; clear h; obtain ⟨t414, A2, H⟩ := be H; obtain rfl := oI H; go_enter Tryz.func133, Tryz.ntmps133
 go_wp2_with (first | ((with_reducible refine gate_callee (f := 157) rfl ?_); refine goesL_ (some 4) rfl rfl Tryz.func157 (by kernel_rfl) rfl #[.string a0, .func (.func 163) #[] #[]] rfl eqT ?_; (with_reducible refine (impl_places_at_CountVoiced_1.calls k a0 () t414 _ A2.out).mono ?_); rintro e w3 ⟨rfl, hb⟩; refine ⟨_, rfl, ?_⟩; replace HB := hS HB hb; (try clear hb hb2 hk hi)))
 go_ret; exact ⟨rlT, hbT HB.out⟩
def impl_CountFinalVoiced_1.f (a0 : Int) (a1 : Int) (a2 : Int) : Option (Bool) := (impl_isVoiced.f a1).bind fun t415 => (if t415 = true then (some (a2 == 0)) else (some false))
theorem impl_CountFinalVoiced_1.calls (a0 : Int) (a1 : Int) (a2 : Int) (r : Bool) (w : World) (h : impl_CountFinalVoiced_1.f a0 a1 a2 = some r) :
  Calls Tryz.prog 165 #[.int .u8 a0, .int .u8 a1, .int .u8 a2] w fun e w' => e = .returned (.bool r) ∧ Below w.heap.size w w' := by
 have HB := asT (Below.refl w.heap.size w); have H := h; unfold impl_CountFinalVoiced_1.f at H; clear h; obtain ⟨t415, A4, H⟩ := be H; by_cases c5 : t415 = true
 ·subst c5; rw [if_pos rfl] at H; have H1 := H; clear H; have H := H1; clear H1; obtain rfl := oI H; go_enter Tryz.func165, Tryz.ntmps165
  go_wp2_with (first | ((with_reducible refine gate_callee (f := 164) rfl ?_); refine goesL_ (some 8) rfl rfl Tryz.func164 (by kernel_rfl) rfl #[.int .u8 a1] rfl eqT ?_; (with_reducible refine (impl_isVoiced.calls a1 true _ A4.out).mono ?_); rintro e w6 ⟨rfl, hb⟩; refine ⟨_, rfl, ?_⟩; replace HB := hS HB hb; (try clear hb hb2 hk hi)))
  go_ret; exact ⟨rlT, hbT HB.out⟩
 ·replace c5 := eE c5; subst c5; rw [if_neg nF] at H; have H1 := H; clear H; have H := H1; clear H1; obtain rfl := oI H; go_enter Tryz.func165, Tryz.ntmps165
  go_wp2_with (first | ((with_reducible refine gate_callee (f := 164) rfl ?_); refine goesL_ (some 8) rfl rfl Tryz.func164 (by kernel_rfl) rfl #[.int .u8 a1] rfl eqT ?_; (with_reducible refine (impl_isVoiced.calls a1 false _ A4.out).mono ?_); rintro e w7 ⟨rfl, hb⟩; refine ⟨_, rfl, ?_⟩; replace HB := hS HB hb; (try clear hb hb2 hk hi)))
  go_ret; exact ⟨rlT, hbT HB.out⟩
def impl_places_at_CountFinalVoiced_1.f (k : Nat) (a0 : ByteArray) (a1 : Unit) : Option (Int) := impl_places_G.f impl_CountFinalVoiced_1.f k a0 a1
theorem impl_places_at_CountFinalVoiced_1.mono : ∀ a0 a1 k, LeO (impl_places_at_CountFinalVoiced_1.f k a0 a1) (impl_places_at_CountFinalVoiced_1.f (k + 1) a0 a1) := fun a0 a1 k => impl_places_G.mono impl_CountFinalVoiced_1.f a0 a1 k
theorem impl_places_at_CountFinalVoiced_1.calls (k : Nat) (a0 : ByteArray) (a1 : Unit) (r : Int) (w : World) (h : impl_places_at_CountFinalVoiced_1.f k a0 a1 = some r) :
  Calls Tryz.prog 157 #[.string a0, .func (.func 165) #[] #[]] w fun e w' => e = .returned (.int .i64 r) ∧ Below w.heap.size w w' := impl_places_G.calls impl_CountFinalVoiced_1.f 165 _ Tryz.func165 (by kernel_rfl) rfl (fun a0 a1 a2 r w h => impl_CountFinalVoiced_1.calls a0 a1 a2 r w h) k a0 a1 r w h
def impl_CountFinalVoiced.f (k : Nat) (a0 : ByteArray) : Option (Int) := (impl_places_at_CountFinalVoiced_1.f k a0 ()).bind fun t418 => (some t418)
theorem impl_CountFinalVoiced.mono : ∀ a0 k, LeO (impl_CountFinalVoiced.f k a0) (impl_CountFinalVoiced.f (k + 1) a0) := by
 intro a0 k; unfold impl_CountFinalVoiced.f
 with_reducible repeat' first | exact impl_places_at_CountFinalVoiced_1.mono _ _ _ | exact LeO.refl _ | exact LeO.none _ | refine LeO.ite ?_ ?_ | refine LeO.bind ?_ (fun _ => ?_)
theorem impl_CountFinalVoiced.calls (k : Nat) (a0 : ByteArray) (r : Int) (w : World) (h : impl_CountFinalVoiced.f k a0 = some r) :
  Calls Tryz.prog 134 #[.string a0] w fun e w' => e = .returned (.int .i64 r) ∧ Below w.heap.size w w' := by
 have HB := asT (Below.refl w.heap.size w); have H := h; unfold impl_CountFinalVoiced.f at H; clear h; obtain ⟨t418, A2, H⟩ := be H; obtain rfl := oI H; go_enter Tryz.func134, Tryz.ntmps134
 go_wp2_with (first | ((with_reducible refine gate_callee (f := 157) rfl ?_); refine goesL_ (some 4) rfl rfl Tryz.func157 (by kernel_rfl) rfl #[.string a0, .func (.func 165) #[] #[]] rfl eqT ?_; (with_reducible refine (impl_places_at_CountFinalVoiced_1.calls k a0 () t418 _ A2.out).mono ?_); rintro e w3 ⟨rfl, hb⟩; refine ⟨_, rfl, ?_⟩; replace HB := hS HB hb; (try clear hb hb2 hk hi)))
 go_ret; exact ⟨rlT, hbT HB.out⟩
def impl_isVoiceless.f (a0 : Int) : Option (Bool) := (impl_IsObstruent.f a0).bind fun t419 => (if t419 = true then ((impl_HasFeature.f a0 1).bind fun t420 => (some (!t420))) else (some false))
theorem impl_isVoiceless.calls (a0 : Int) (r : Bool) (w : World) (h : impl_isVoiceless.f a0 = some r) :
  Calls Tryz.prog 168 #[.int .u8 a0] w fun e w' => e = .returned (.bool r) ∧ Below w.heap.size w w' := by
 have HB := asT (Below.refl w.heap.size w); have H := h; unfold impl_isVoiceless.f at H; clear h; obtain ⟨t419, A2, H⟩ := be H; by_cases c3 : t419 = true
 ·subst c3; rw [if_pos rfl] at H; obtain ⟨t420, A4, H⟩ := be H; obtain rfl := oI H; go_enter Tryz.func168, Tryz.ntmps168
  go_wp2_with (first | ((with_reducible refine gate_callee (f := 182) rfl ?_); refine goesL_ (some 4) rfl rfl Tryz.func182 (by kernel_rfl) rfl #[.int .u8 a0] rfl eqT ?_; (with_reducible refine (impl_IsObstruent.calls a0 true _ A2.out).mono ?_); rintro e w' ⟨rfl, ⟨nd, rfl⟩⟩; refine ⟨_, rfl, ?_⟩) | (go_at_call 167; (with_reducible refine (impl_HasFeature.calls a0 1 t420 _ A4.out).mono ?_); rintro e w5 ⟨rfl, hb⟩; replace HB := hS HB hb; (try clear hb hb2 hk hi)))
  go_ret; exact ⟨rlT, hbT HB.out⟩
 ·replace c3 := eE c3; subst c3; rw [if_neg nF] at H; have H1 := H; clear H; have H := H1; clear H1; obtain rfl := oI H; go_enter Tryz.func168, Tryz.ntmps168
  go_wp2_with (first | ((with_reducible refine gate_callee (f := 182) rfl ?_); refine goesL_ (some 4) rfl rfl Tryz.func182 (by kernel_rfl) rfl #[.int .u8 a0] rfl eqT ?_; (with_reducible refine (impl_IsObstruent.calls a0 false _ A2.out).mono ?_); rintro e w' ⟨rfl, ⟨nd, rfl⟩⟩; refine ⟨_, rfl, ?_⟩))
  go_ret; exact ⟨rlT, hbT HB.out⟩
def impl_CountNasalVoiceless_1.f (a0 : Int) (a1 : Int) (a2 : Int) : Option (Bool) := (impl_HasFeature.f a0 2).bind fun t421 => (if t421 = true then ((impl_isVoiceless.f a1).bind fun t422 => (some t422)) else (some false))
theorem impl_CountNasalVoiceless_1.calls (a0 : Int) (a1 : Int) (a2 : Int) (r : Bool) (w : World) (h : impl_CountNasalVoiceless_1.f a0 a1 a2 = some r) :
  Calls Tryz.prog 166 #[.int .u8 a0, .int .u8 a1, .int .u8 a2] w fun e w' => e = .returned (.bool r) ∧ Below w.heap.size w w' := by
 have HB := asT (Below.refl w.heap.size w); have H := h; unfold impl_CountNasalVoiceless_1.f at H; clear h; obtain ⟨t421, A4, H⟩ := be H; by_cases c5 : t421 = true
 ·subst c5; rw [if_pos rfl] at H; obtain ⟨t422, A6, H⟩ := be H; obtain rfl := oI H; go_enter Tryz.func166, Tryz.ntmps166
  go_wp2_with (first | ((with_reducible refine gate_callee (f := 167) rfl ?_); refine goesL_ (some 8) rfl rfl Tryz.func167 (by kernel_rfl) rfl #[.int .u8 a0, .int .i64 2] rfl eqT ?_; (with_reducible refine (impl_HasFeature.calls a0 2 true _ A4.out).mono ?_); rintro e w7 ⟨rfl, hb⟩; refine ⟨_, rfl, ?_⟩; replace HB := hS HB hb; (try clear hb hb2 hk hi)) | (go_at_call 168; (with_reducible refine (impl_isVoiceless.calls a1 t422 _ A6.out).mono ?_); rintro e w8 ⟨rfl, hb⟩; replace HB := hS HB hb; (try clear hb hb2 hk hi)))
  go_ret; exact ⟨rlT, hbT HB.out⟩
 ·replace c5 := eE c5; subst c5; rw [if_neg nF] at H; have H1 := H; clear H; have H := H1; clear H1; obtain rfl := oI H; go_enter Tryz.func166, Tryz.ntmps166
  go_wp2_with (first | ((with_reducible refine gate_callee (f := 167) rfl ?_); refine goesL_ (some 8) rfl rfl Tryz.func167 (by kernel_rfl) rfl #[.int .u8 a0, .int .i64 2] rfl eqT ?_; (with_reducible refine (impl_HasFeature.calls a0 2 false _ A4.out).mono ?_); rintro e w9 ⟨rfl, hb⟩; refine ⟨_, rfl, ?_⟩; replace HB := hS HB hb; (try clear hb hb2 hk hi)))
  go_ret; exact ⟨rlT, hbT HB.out⟩
def impl_places_at_CountNasalVoiceless_1.f (k : Nat) (a0 : ByteArray) (a1 : Unit) : Option (Int) := impl_places_G.f impl_CountNasalVoiceless_1.f k a0 a1
theorem impl_places_at_CountNasalVoiceless_1.mono : ∀ a0 a1 k, LeO (impl_places_at_CountNasalVoiceless_1.f k a0 a1) (impl_places_at_CountNasalVoiceless_1.f (k + 1) a0 a1) := fun a0 a1 k => impl_places_G.mono impl_CountNasalVoiceless_1.f a0 a1 k
theorem impl_places_at_CountNasalVoiceless_1.calls (k : Nat) (a0 : ByteArray) (a1 : Unit) (r : Int) (w : World) (h : impl_places_at_CountNasalVoiceless_1.f k a0 a1 = some r) :
  Calls Tryz.prog 157 #[.string a0, .func (.func 166) #[] #[]] w fun e w' => e = .returned (.int .i64 r) ∧ Below w.heap.size w w' := impl_places_G.calls impl_CountNasalVoiceless_1.f 166 _ Tryz.func166 (by kernel_rfl) rfl (fun a0 a1 a2 r w h => impl_CountNasalVoiceless_1.calls a0 a1 a2 r w h) k a0 a1 r w h
def impl_CountNasalVoiceless.f (k : Nat) (a0 : ByteArray) : Option (Int) := (impl_places_at_CountNasalVoiceless_1.f k a0 ()).bind fun t425 => (some t425)
theorem impl_CountNasalVoiceless.mono : ∀ a0 k, LeO (impl_CountNasalVoiceless.f k a0) (impl_CountNasalVoiceless.f (k + 1) a0) := by
 intro a0 k; unfold impl_CountNasalVoiceless.f
 with_reducible repeat' first | exact impl_places_at_CountNasalVoiceless_1.mono _ _ _ | exact LeO.refl _ | exact LeO.none _ | refine LeO.ite ?_ ?_ | refine LeO.bind ?_ (fun _ => ?_)
theorem impl_CountNasalVoiceless.calls (k : Nat) (a0 : ByteArray) (r : Int) (w : World) (h : impl_CountNasalVoiceless.f k a0 = some r) :
  Calls Tryz.prog 135 #[.string a0] w fun e w' => e = .returned (.int .i64 r) ∧ Below w.heap.size w w' := by
 have HB := asT (Below.refl w.heap.size w); have H := h; unfold impl_CountNasalVoiceless.f at H; clear h; obtain ⟨t425, A2, H⟩ := be H; obtain rfl := oI H; go_enter Tryz.func135, Tryz.ntmps135
 go_wp2_with (first | ((with_reducible refine gate_callee (f := 157) rfl ?_); refine goesL_ (some 4) rfl rfl Tryz.func157 (by kernel_rfl) rfl #[.string a0, .func (.func 166) #[] #[]] rfl eqT ?_; (with_reducible refine (impl_places_at_CountNasalVoiceless_1.calls k a0 () t425 _ A2.out).mono ?_); rintro e w3 ⟨rfl, hb⟩; refine ⟨_, rfl, ?_⟩; replace HB := hS HB hb; (try clear hb hb2 hk hi)))
 go_ret; exact ⟨rlT, hbT HB.out⟩
def impl_CountDeleted_1.f (a0_0 : Int) (a0_1 : Int) : Option (Bool) := some (a0_1 == 0)
theorem impl_CountDeleted_1.calls (a0_0 : Int) (a0_1 : Int) (r : Bool) (w : World) (h : impl_CountDeleted_1.f a0_0 a0_1 = some r) :
  Calls Tryz.prog 170 #[.agg #[.int .u8 a0_0, .int .u8 a0_1]] w fun e w' => e = .returned (.bool r) ∧ Below w.heap.size w w' := by
 have hu109 := Tryz.underlying109; have HB := asT (Below.refl w.heap.size w); have H := h; unfold impl_CountDeleted_1.f at H; clear h; obtain rfl := oI H; go_enter Tryz.func170, Tryz.ntmps170
 go_wp2_with (first | ((with_reducible refine gate_dst (N := 1) rfl ?_); refine boxT (N := 1) (cs := #[.int .u8 a0_0, .int .u8 a0_1]) (t := 109) ?_; intro gb426 hg w2 hbox hb; have BK426 := asT hbox; have GW426 := asT (geT hg HB.out); have GE426 := GW426; replace HB := hS HB hb; clear hb hbox hg; obtain ⟨hcz3_0, hcz3_1, hfz3_0, hfz3_1⟩ := bx2 BK426.out))
 go_ret; exact ⟨rlT, hbT HB.out⟩
def impl_links_G.l0 (PF : Int → Int → Option (Bool)) : Nat → Int → List (S109) → Int → Int → List (S109) → Option (Int)
 | 0, _, _, _, _, _ => none
 | k + 1, x5, x9, x10, x11, x428000 => if x11 < x10 then (if 0 ≤ x11 then (if x11 < (x9.length : Int) then ((impl_IsCandidate.f k x428000).bind fun t430 => (if t430 = true then ((PF ((rd_T109 x9 x11).f0) ((rd_T109 x9 x11).f1)).bind fun t431 => (if t431 = true then (impl_links_G.l0 PF k (wrap64 (x5 + 1)) x9 x10 (wrap64 (x11 + 1)) x428000) else (impl_links_G.l0 PF k x5 x9 x10 (wrap64 (x11 + 1)) x428000))) else (impl_links_G.l0 PF k x5 x9 x10 (wrap64 (x11 + 1)) x428000))) else (none)) else (none)) else (some x5)
def impl_links_G.f (PF : Int → Int → Option (Bool)) (k : Nat) (l0_0 : List (S109)) (a1 : Unit) : Option (Int) := impl_links_G.l0 PF k 0 l0_0 (l0_0.length : Int) 0 l0_0
theorem impl_links_G.mono_l (PF : Int → Int → Option (Bool)) : ∀ k, (∀ y0 y1 y2 y3 y4, LeO (impl_links_G.l0 PF k y0 y1 y2 y3 y4) (impl_links_G.l0 PF (k + 1) y0 y1 y2 y3 y4))
 | 0 => fun _ _ _ _ _ r h => by simp [impl_links_G.l0] at h
 | k + 1 => by
  have ih0 := impl_links_G.mono_l PF k
  ·intro y0 y1 y2 y3 y4; unfold impl_links_G.l0
   with_reducible repeat' first | exact ih0 _ _ _ _ _ | exact impl_IsCandidate.mono _ _ | exact LeO.refl _ | exact LeO.none _ | refine LeO.ite ?_ ?_ | refine LeO.bind ?_ (fun _ => ?_)
theorem impl_links_G.mono (PF : Int → Int → Option (Bool)) : ∀ a0 a1 k, LeO (impl_links_G.f PF k a0 a1) (impl_links_G.f PF (k + 1) a0 a1) := by
 intro a0 a1 k; have ih0 := impl_links_G.mono_l PF k; unfold impl_links_G.f
 with_reducible repeat' first | exact ih0 _ _ _ _ _ | exact impl_IsCandidate.mono _ _ | exact LeO.refl _ | exact LeO.none _ | refine LeO.ite ?_ ?_ | refine LeO.bind ?_ (fun _ => ?_)
theorem impl_links_G.calls (PF : Int → Int → Option (Bool)) (F : FuncId) (fn : Func) (hfF : Tryz.prog.funcs[F]? = some fn) (hnF : (fn.name == "runtime.NumGoroutine") = false) (hbF : fn.body.isSome = true) (HF : ∀ (a0_0 a0_1 : Int) (r : Bool) (w : World), PF a0_0 a0_1 = some r → Calls Tryz.prog F #[.agg #[.int .u8 a0_0, .int .u8 a0_1]] w fun e w' => e = .returned (.bool r) ∧ Below w.heap.size w w') (k : Nat) (A0_0 : Option Addr) (c0_0 : Nat) (l0_0 : List (S109)) (a1 : Unit) (r : Int) (w : World) (hr0_0 : Kd.C k109 w A0_0 l0_0.length l0_0) (hc0_0 : l0_0.length ≤ c0_0) (h : impl_links_G.f PF k l0_0 a1 = some r) :
  Calls Tryz.prog 169 #[.agg #[.slice A0_0 l0_0.length c0_0], .func (.func F) #[] #[]] w fun e w' => e = .returned (.int .i64 r) ∧ Below w.heap.size w w' := by
 have hu60 := Tryz.underlying60; have hu109 := Tryz.underlying109; have HR0_0 := asT hr0_0; have HC0_0 := asT hc0_0; clear hr0_0 hc0_0; have HB := asT (Below.refl w.heap.size w); have H := h; unfold impl_links_G.f at H; clear h; have H' := asT H; clear H; go_enter Tryz.func169, Tryz.ntmps169
 go_wp2_with (first | ((with_reducible refine gate_dst (N := 2) rfl ?_); refine boxT (N := 2) (cs := #[.slice A0_0 l0_0.length c0_0]) (t := 60) ?_; intro gb427 hg w3 hbox hb; have BK427 := asT hbox; have GW427 := asT (geT hg HB.out); have GE427 := GW427; replace HB := hS HB hb; clear hb hbox hg; obtain ⟨hcz4_0, hfz4_0⟩ := bx1 BK427.out))
 go_loopg [5, 11] k (fun kq v5 v11 w' => ∃ (x5_1 : Int) (x11_1 : Int), v5 = .int .i64 x5_1 ∧ v11 = .int .i64 x11_1 ∧ Aside0 (impl_links_G.l0 PF kq x5_1 l0_0 (l0_0.length : Int) x11_1 l0_0 = some r) ∧ Aside0 (kq ≤ k) ∧ Aside0 (w'.heap[gb427]? = some (.cells #[(.slice A0_0 l0_0.length c0_0)] 60 (0, 0))) ∧ Aside0 (Below w.heap.size w w'))
 case atStart => exact ⟨(0), (0), rdT, rdT, H', ⟨Nat.le_refl _⟩, kpT BK427.out, ⟨hbT HB.out⟩⟩
 case round =>
  clear H'; (try clear c1 p2 hcz4_0 hfz4_0); obtain ⟨x5_1, x11_1, rfl, rfl, HA, HK1, BK427, HB⟩ := hrel
  cases gk with
  | zero => exact absurd HA.out (by simp [impl_links_G.l0])
  | succ k1 =>
   have H := HA.out; clear HA
   simp only [impl_links_G.l0] at H
   by_cases c5 : x11_1 < (l0_0.length : Int)
   ·rw [if_pos c5] at H; have c5b0 := dt c5; clear c5; by_cases c6 : 0 ≤ x11_1
    ·rw [if_pos c6] at H; have c6b0 := dt c6; clear c6; by_cases c7 : x11_1 < (l0_0.length : Int)
     ·rw [if_pos c7] at H; have c7b0 := dt c7; clear c7; obtain ⟨t430, A8, H⟩ := be H; by_cases c9 : t430 = true
      ·subst c9; rw [if_pos rfl] at H; obtain ⟨t431, A10, H⟩ := be H; by_cases c11 : t431 = true
       ·subst c11; rw [if_pos rfl] at H; have H' := asT H; clear H; have p428 : 0 ≤ (x11_1 : Int) := dT asmT; have q428 : x11_1 < (l0_0.length : Int) := dT asmT; obtain ⟨ad428, e428, hx428_0, hx428_1⟩ := at_T109 HR0_0.out x11_1 p428 q428
        cases e428
        replace hx428_0 := hbc HB.out hx428_0; replace hx428_1 := hbc HB.out hx428_1; replace p428 := eq_true p428; replace q428 := eq_true q428
        go_wp2_with (first | ((with_reducible refine gate_dst (N := 7) rfl ?_); refine boxT (N := 7) (cs := #[.int .u8 0, .int .u8 0]) (t := 109) ?_; intro gb429 hg w12 hbox hb; have BK429 := asT (hbox); have GW429 := asT (geT hg HB.out); have GE429 := asT (geT hg HB.out); replace HB := hS HB hb; have NB427_429 := asT ((by rw [hg]; exact Nat.ne_of_lt (blk_lt (g := gb427) (o := .cells #[.slice (some ad428) l0_0.length c0_0] 60 (0, 0)) (bkT BK427.out)) : gb427 ≠ gb429)); have NB429_427 := asT ((by rw [hg]; exact Nat.ne_of_gt (blk_lt (g := gb427) (o := .cells #[.slice (some ad428) l0_0.length c0_0] 60 (0, 0)) (bkT BK427.out)) : gb429 ≠ gb427)); replace BK427 := bS BK427 hb; clear hb hbox hg; have hnb13 := NB429_427.out; have hnc13 := NB427_429.out; obtain ⟨hcz14_0, hcz14_1, hfz14_0, hfz14_1⟩ := bx2 BK429.out; obtain ⟨hcz15_0, hfz15_0⟩ := bx1 BK427.out) | ((with_reducible refine gate_callee (f := 85) rfl ?_); refine goesL_ (some 16) rfl rfl Tryz.func85 (by kernel_rfl) rfl #[.agg #[.slice (some ad428) l0_0.length c0_0]] rfl eqT ?_; (with_reducible refine (impl_IsCandidate.calls k1 _ _ l0_0 true _ ?side1 ?side2 A8.out).mono ?_); (case side1 => exact Kd.C_below HR0_0.out (hbT HB.out)); (case side2 => exact HC0_0.out); rintro e w16 ⟨rfl, hb⟩; refine ⟨_, rfl, ?_⟩; replace BK427 := asT (blk_below (g := gb427) (o := .cells #[.slice (some ad428) l0_0.length c0_0] 60 (0, 0)) (by (with_reducible repeat (first | refine blk_drewN ?_ _ | refine blk_drew ?_ | refine blk_alloc ?_ _)); refine blk_far ?_ NB427_429.out _; (with_reducible repeat (first | refine blk_drewN ?_ _ | refine blk_drew ?_ | refine blk_alloc ?_ _)); refine blk_far ?_ NB427_429.out _; (with_reducible repeat (first | refine blk_drewN ?_ _ | refine blk_drew ?_ | refine blk_alloc ?_ _)); exact BK427.out) hb); replace BK429 := asT (blk_below (g := gb429) (o := .cells #[.int .u8 ((rd_T109 l0_0 x11_1).f0), .int .u8 ((rd_T109 l0_0 x11_1).f1)] 109 (0, 0)) (by (with_reducible repeat (first | refine blk_drewN ?_ _ | refine blk_drew ?_ | refine blk_alloc ?_ _)); refine blk_put (cs := #[.int .u8 ((rd_T109 l0_0 x11_1).f0), .int .u8 0]) ?_ 1 _ rfl; (with_reducible repeat (first | refine blk_drewN ?_ _ | refine blk_drew ?_ | refine blk_alloc ?_ _)); refine blk_put (cs := #[.int .u8 0, .int .u8 0]) ?_ 0 _ rfl; (with_reducible repeat (first | refine blk_drewN ?_ _ | refine blk_drew ?_ | refine blk_alloc ?_ _)); exact BK429.out) hb); replace HB := hS HB hb; (try clear hb hb2 hk hi); obtain ⟨hcz17_0, hcz17_1, hfz17_0, hfz17_1⟩ := bx2 BK429.out) | (rw [enters_ hfF hnF hbF]; go_simp) | ((with_reducible refine (HF ((rd_T109 l0_0 x11_1).f0) ((rd_T109 l0_0 x11_1).f1) true _ A10.out).mono ?_); rintro e w18 ⟨rfl, hb⟩; replace BK427 := bS BK427 hb; replace BK429 := bS BK429 hb; replace HB := hS HB hb; (try clear hb hb2 hk hi)))
        go_roundg k1
        case measure => have := HK1.out; omega
        case rel => exact ⟨(wrap64 (x5_1 + 1)), (wrap64 (x11_1 + 1)), rdT, rdT, H', ⟨by have := HK1.out; omega⟩, kpT BK427.out, ⟨hbT HB.out⟩⟩
       ·replace c11 := eE c11; subst c11; rw [if_neg nF] at H; have H' := asT H; clear H; have p428 : 0 ≤ (x11_1 : Int) := dT asmT; have q428 : x11_1 < (l0_0.length : Int) := dT asmT; obtain ⟨ad428, e428, hx428_0, hx428_1⟩ := at_T109 HR0_0.out x11_1 p428 q428
        cases e428
        replace hx428_0 := hbc HB.out hx428_0; replace hx428_1 := hbc HB.out hx428_1; replace p428 := eq_true p428; replace q428 := eq_true q428
        go_wp2_with (first | ((with_reducible refine gate_dst (N := 7) rfl ?_); refine boxT (N := 7) (cs := #[.int .u8 0, .int .u8 0]) (t := 109) ?_; intro gb429 hg w19 hbox hb; have BK429 := asT (hbox); have GW429 := asT (geT hg HB.out); have GE429 := asT (geT hg HB.out); replace HB := hS HB hb; have NB427_429 := asT ((by rw [hg]; exact Nat.ne_of_lt (blk_lt (g := gb427) (o := .cells #[.slice (some ad428) l0_0.length c0_0] 60 (0, 0)) (bkT BK427.out)) : gb427 ≠ gb429)); have NB429_427 := asT ((by rw [hg]; exact Nat.ne_of_gt (blk_lt (g := gb427) (o := .cells #[.slice (some ad428) l0_0.length c0_0] 60 (0, 0)) (bkT BK427.out)) : gb429 ≠ gb427)); replace BK427 := bS BK427 hb; clear hb hbox hg; have hnb20 := NB429_427.out; have hnc20 := NB427_429.out; obtain ⟨hcz21_0, hcz21_1, hfz21_0, hfz21_1⟩ := bx2 BK429.out; obtain ⟨hcz22_0, hfz22_0⟩ := bx1 BK427.out) | ((with_reducible refine gate_callee (f := 85) rfl ?_); refine goesL_ (some 16) rfl rfl Tryz.func85 (by kernel_rfl) rfl #[.agg #[.slice (some ad428) l0_0.length c0_0]] rfl eqT ?_; (with_reducible refine (impl_IsCandidate.calls k1 _ _ l0_0 true _ ?side1 ?side2 A8.out).mono ?_); (case side1 => exact Kd.C_below HR0_0.out (hbT HB.out)); (case side2 => exact HC0_0.out); rintro e w23 ⟨rfl, hb⟩; refine ⟨_, rfl, ?_⟩; replace BK427 := asT (blk_below (g := gb427) (o := .cells #[.slice (some ad428) l0_0.length c0_0] 60 (0, 0)) (by (with_reducible repeat (first | refine blk_drewN ?_ _ | refine blk_drew ?_ | refine blk_alloc ?_ _)); refine blk_far ?_ NB427_429.out _; (with_reducible repeat (first | refine blk_drewN ?_ _ | refine blk_drew ?_ | refine blk_alloc ?_ _)); refine blk_far ?_ NB427_429.out _; (with_reducible repeat (first | refine blk_drewN ?_ _ | refine blk_drew ?_ | refine blk_alloc ?_ _)); exact BK427.out) hb); replace BK429 := asT (blk_below (g := gb429) (o := .cells #[.int .u8 ((rd_T109 l0_0 x11_1).f0), .int .u8 ((rd_T109 l0_0 x11_1).f1)] 109 (0, 0)) (by (with_reducible repeat (first | refine blk_drewN ?_ _ | refine blk_drew ?_ | refine blk_alloc ?_ _)); refine blk_put (cs := #[.int .u8 ((rd_T109 l0_0 x11_1).f0), .int .u8 0]) ?_ 1 _ rfl; (with_reducible repeat (first | refine blk_drewN ?_ _ | refine blk_drew ?_ | refine blk_alloc ?_ _)); refine blk_put (cs := #[.int .u8 0, .int .u8 0]) ?_ 0 _ rfl; (with_reducible repeat (first | refine blk_drewN ?_ _ | refine blk_drew ?_ | refine blk_alloc ?_ _)); exact BK429.out) hb); replace HB := hS HB hb; (try clear hb hb2 hk hi); obtain ⟨hcz24_0, hcz24_1, hfz24_0, hfz24_1⟩ := bx2 BK429.out) | (rw [enters_ hfF hnF hbF]; go_simp) | ((with_reducible refine (HF ((rd_T109 l0_0 x11_1).f0) ((rd_T109 l0_0 x11_1).f1) false _ A10.out).mono ?_); rintro e w25 ⟨rfl, hb⟩; replace BK427 := bS BK427 hb; replace BK429 := bS BK429 hb; replace HB := hS HB hb; (try clear hb hb2 hk hi)))
        go_roundg k1
        case measure => have := HK1.out; omega
        case rel => exact ⟨(x5_1), (wrap64 (x11_1 + 1)), rdT, rdT, H', ⟨by have := HK1.out; omega⟩, kpT BK427.out, ⟨hbT HB.out⟩⟩
      ·replace c9 := eE c9; subst c9; rw [if_neg nF] at H; have H' := asT H; clear H; have p428 : 0 ≤ (x11_1 : Int) := dT asmT; have q428 : x11_1 < (l0_0.length : Int) := dT asmT; obtain ⟨ad428, e428, hx428_0, hx428_1⟩ := at_T109 HR0_0.out x11_1 p428 q428
       cases e428
       replace hx428_0 := hbc HB.out hx428_0; replace hx428_1 := hbc HB.out hx428_1; replace p428 := eq_true p428; replace q428 := eq_true q428
       go_wp2_with (first | ((with_reducible refine gate_dst (N := 7) rfl ?_); refine boxT (N := 7) (cs := #[.int .u8 0, .int .u8 0]) (t := 109) ?_; intro gb429 hg w26 hbox hb; have BK429 := asT (hbox); have GW429 := asT (geT hg HB.out); have GE429 := asT (geT hg HB.out); replace HB := hS HB hb; have NB427_429 := asT ((by rw [hg]; exact Nat.ne_of_lt (blk_lt (g := gb427) (o := .cells #[.slice (some ad428) l0_0.length c0_0] 60 (0, 0)) (bkT BK427.out)) : gb427 ≠ gb429)); have NB429_427 := asT ((by rw [hg]; exact Nat.ne_of_gt (blk_lt (g := gb427) (o := .cells #[.slice (some ad428) l0_0.length c0_0] 60 (0, 0)) (bkT BK427.out)) : gb429 ≠ gb427)); replace BK427 := bS BK427 hb; clear hb hbox hg; have hnb27 := NB429_427.out; have hnc27 := NB427_429.out; obtain ⟨hcz28_0, hcz28_1, hfz28_0, hfz28_1⟩ := bx2 BK429.out; obtain ⟨hcz29_0, hfz29_0⟩ := bx1 BK427.out) | ((with_reducible refine gate_callee (f := 85) rfl ?_); refine goesL_ (some 16) rfl rfl Tryz.func85 (by kernel_rfl) rfl #[.agg #[.slice (some ad428) l0_0.length c0_0]] rfl eqT ?_; (with_reducible refine (impl_IsCandidate.calls k1 _ _ l0_0 false _ ?side1 ?side2 A8.out).mono ?_); (case side1 => exact Kd.C_below HR0_0.out (hbT HB.out)); (case side2 => exact HC0_0.out); rintro e w30 ⟨rfl, hb⟩; refine ⟨_, rfl, ?_⟩; replace BK427 := asT (blk_below (g := gb427) (o := .cells #[.slice (some ad428) l0_0.length c0_0] 60 (0, 0)) (by (with_reducible repeat (first | refine blk_drewN ?_ _ | refine blk_drew ?_ | refine blk_alloc ?_ _)); refine blk_far ?_ NB427_429.out _; (with_reducible repeat (first | refine blk_drewN ?_ _ | refine blk_drew ?_ | refine blk_alloc ?_ _)); refine blk_far ?_ NB427_429.out _; (with_reducible repeat (first | refine blk_drewN ?_ _ | refine blk_drew ?_ | refine blk_alloc ?_ _)); exact BK427.out) hb); replace BK429 := asT (blk_below (g := gb429) (o := .cells #[.int .u8 ((rd_T109 l0_0 x11_1).f0), .int .u8 ((rd_T109 l0_0 x11_1).f1)] 109 (0, 0)) (by (with_reducible repeat (first | refine blk_drewN ?_ _ | refine blk_drew ?_ | refine blk_alloc ?_ _)); refine blk_put (cs := #[.int .u8 ((rd_T109 l0_0 x11_1).f0), .int .u8 0]) ?_ 1 _ rfl; (with_reducible repeat (first | refine blk_drewN ?_ _ | refine blk_drew ?_ | refine blk_alloc ?_ _)); refine blk_put (cs := #[.int .u8 0, .int .u8 0]) ?_ 0 _ rfl; (with_reducible repeat (first | refine blk_drewN ?_ _ | refine blk_drew ?_ | refine blk_alloc ?_ _)); exact BK429.out) hb); replace HB := hS HB hb; (try clear hb hb2 hk hi)))
       go_roundg k1
       case measure => have := HK1.out; omega
       case rel => exact ⟨(x5_1), (wrap64 (x11_1 + 1)), rdT, rdT, H', ⟨by have := HK1.out; omega⟩, kpT BK427.out, ⟨hbT HB.out⟩⟩
     ·rw [if_neg c7] at H; exact absurd H (by simp)
    ·rw [if_neg c6] at H; exact absurd H (by simp)
   ·rw [if_neg c5] at H; have c5b0 := df c5; clear c5; obtain rfl := oI H
    go_wp2
    go_ret; exact ⟨rlT, hbT HB.out⟩
def impl_links_at_CountDeleted_1.f (k : Nat) (l0_0 : List (S109)) (a1 : Unit) : Option (Int) := impl_links_G.f impl_CountDeleted_1.f k l0_0 a1
theorem impl_links_at_CountDeleted_1.mono : ∀ a0 a1 k, LeO (impl_links_at_CountDeleted_1.f k a0 a1) (impl_links_at_CountDeleted_1.f (k + 1) a0 a1) := fun a0 a1 k => impl_links_G.mono impl_CountDeleted_1.f a0 a1 k
theorem impl_links_at_CountDeleted_1.calls (k : Nat) (A0_0 : Option Addr) (c0_0 : Nat) (l0_0 : List (S109)) (a1 : Unit) (r : Int) (w : World) (hr0_0 : Kd.C k109 w A0_0 l0_0.length l0_0) (hc0_0 : l0_0.length ≤ c0_0) (h : impl_links_at_CountDeleted_1.f k l0_0 a1 = some r) :
  Calls Tryz.prog 169 #[.agg #[.slice A0_0 l0_0.length c0_0], .func (.func 170) #[] #[]] w fun e w' => e = .returned (.int .i64 r) ∧ Below w.heap.size w w' := impl_links_G.calls impl_CountDeleted_1.f 170 _ Tryz.func170 (by kernel_rfl) rfl (fun a0_0 a0_1 r w h => impl_CountDeleted_1.calls a0_0 a0_1 r w h) k A0_0 c0_0 l0_0 a1 r w hr0_0 hc0_0 h
def impl_CountDeleted.f (k : Nat) (l0_0 : List (S109)) : Option (Int) := (impl_links_at_CountDeleted_1.f k l0_0 ()).bind fun t433 => (some t433)
theorem impl_CountDeleted.mono : ∀ a0 k, LeO (impl_CountDeleted.f k a0) (impl_CountDeleted.f (k + 1) a0) := by
 intro a0 k; unfold impl_CountDeleted.f
 with_reducible repeat' first | exact impl_links_at_CountDeleted_1.mono _ _ _ | exact LeO.refl _ | exact LeO.none _ | refine LeO.ite ?_ ?_ | refine LeO.bind ?_ (fun _ => ?_)
theorem impl_CountDeleted.calls (k : Nat) (A0_0 : Option Addr) (c0_0 : Nat) (l0_0 : List (S109)) (r : Int) (w : World) (hr0_0 : Kd.C k109 w A0_0 l0_0.length l0_0) (hc0_0 : l0_0.length ≤ c0_0) (h : impl_CountDeleted.f k l0_0 = some r) :
  Calls Tryz.prog 136 #[.agg #[.slice A0_0 l0_0.length c0_0]] w fun e w' => e = .returned (.int .i64 r) ∧ Below w.heap.size w w' := by
 have hu60 := Tryz.underlying60; have HR0_0 := asT hr0_0; have HC0_0 := asT hc0_0; clear hr0_0 hc0_0; have HB := asT (Below.refl w.heap.size w); have H := h; unfold impl_CountDeleted.f at H; clear h; obtain ⟨t433, A2, H⟩ := be H; obtain rfl := oI H; go_enter Tryz.func136, Tryz.ntmps136
 go_wp2_with (first | ((with_reducible refine gate_dst (N := 1) rfl ?_); refine boxT (N := 1) (cs := #[.slice A0_0 l0_0.length c0_0]) (t := 60) ?_; intro gb432 hg w3 hbox hb; have BK432 := asT hbox; have GW432 := asT (geT hg HB.out); have GE432 := GW432; replace HB := hS HB hb; clear hb hbox hg; obtain ⟨hcz4_0, hfz4_0⟩ := bx1 BK432.out) | ((with_reducible refine gate_callee (f := 169) rfl ?_); refine goesL_ (some 4) rfl rfl Tryz.func169 (by kernel_rfl) rfl #[.agg #[.slice A0_0 l0_0.length c0_0], .func (.func 170) #[] #[]] rfl eqT ?_; (with_reducible refine (impl_links_at_CountDeleted_1.calls k _ _ l0_0 () t433 _ ?side1 ?side2 A2.out).mono ?_); (case side1 => exact crT HR0_0.out HB.out); (case side2 => exact HC0_0.out); rintro e w5 ⟨rfl, hb⟩; refine ⟨_, rfl, ?_⟩; replace BK432 := bS BK432 hb; replace HB := hS HB hb; (try clear hb hb2 hk hi)))
 go_ret; exact ⟨rlT, hbT HB.out⟩
def impl_CountInserted_1.f (a0_0 : Int) (a0_1 : Int) : Option (Bool) := some (a0_0 == 0)
theorem impl_CountInserted_1.calls (a0_0 : Int) (a0_1 : Int) (r : Bool) (w : World) (h : impl_CountInserted_1.f a0_0 a0_1 = some r) :
  Calls Tryz.prog 171 #[.agg #[.int .u8 a0_0, .int .u8 a0_1]] w fun e w' => e = .returned (.bool r) ∧ Below w.heap.size w w' := by
 have hu109 := Tryz.underlying109; have HB := asT (Below.refl w.heap.size w); have H := h; unfold impl_CountInserted_1.f at H; clear h; obtain rfl := oI H; go_enter Tryz.func171, Tryz.ntmps171
 go_wp2_with (first | ((with_reducible refine gate_dst (N := 1) rfl ?_); refine boxT (N := 1) (cs := #[.int .u8 a0_0, .int .u8 a0_1]) (t := 109) ?_; intro gb434 hg w2 hbox hb; have BK434 := asT hbox; have GW434 := asT (geT hg HB.out); have GE434 := GW434; replace HB := hS HB hb; clear hb hbox hg; obtain ⟨hcz3_0, hcz3_1, hfz3_0, hfz3_1⟩ := bx2 BK434.out))
 go_ret; exact ⟨rlT, hbT HB.out⟩
def impl_links_at_CountInserted_1.f (k : Nat) (l0_0 : List (S109)) (a1 : Unit) : Option (Int) := impl_links_G.f impl_CountInserted_1.f k l0_0 a1
theorem impl_links_at_CountInserted_1.mono : ∀ a0 a1 k, LeO (impl_links_at_CountInserted_1.f k a0 a1) (impl_links_at_CountInserted_1.f (k + 1) a0 a1) := fun a0 a1 k => impl_links_G.mono impl_CountInserted_1.f a0 a1 k
theorem impl_links_at_CountInserted_1.calls (k : Nat) (A0_0 : Option Addr) (c0_0 : Nat) (l0_0 : List (S109)) (a1 : Unit) (r : Int) (w : World) (hr0_0 : Kd.C k109 w A0_0 l0_0.length l0_0) (hc0_0 : l0_0.length ≤ c0_0) (h : impl_links_at_CountInserted_1.f k l0_0 a1 = some r) :
  Calls Tryz.prog 169 #[.agg #[.slice A0_0 l0_0.length c0_0], .func (.func 171) #[] #[]] w fun e w' => e = .returned (.int .i64 r) ∧ Below w.heap.size w w' := impl_links_G.calls impl_CountInserted_1.f 171 _ Tryz.func171 (by kernel_rfl) rfl (fun a0_0 a0_1 r w h => impl_CountInserted_1.calls a0_0 a0_1 r w h) k A0_0 c0_0 l0_0 a1 r w hr0_0 hc0_0 h
def impl_CountInserted.f (k : Nat) (l0_0 : List (S109)) : Option (Int) := (impl_links_at_CountInserted_1.f k l0_0 ()).bind fun t441 => (some t441)
theorem impl_CountInserted.mono : ∀ a0 k, LeO (impl_CountInserted.f k a0) (impl_CountInserted.f (k + 1) a0) := by
 intro a0 k; unfold impl_CountInserted.f
 with_reducible repeat' first | exact impl_links_at_CountInserted_1.mono _ _ _ | exact LeO.refl _ | exact LeO.none _ | refine LeO.ite ?_ ?_ | refine LeO.bind ?_ (fun _ => ?_)
theorem impl_CountInserted.calls (k : Nat) (A0_0 : Option Addr) (c0_0 : Nat) (l0_0 : List (S109)) (r : Int) (w : World) (hr0_0 : Kd.C k109 w A0_0 l0_0.length l0_0) (hc0_0 : l0_0.length ≤ c0_0) (h : impl_CountInserted.f k l0_0 = some r) :
  Calls Tryz.prog 137 #[.agg #[.slice A0_0 l0_0.length c0_0]] w fun e w' => e = .returned (.int .i64 r) ∧ Below w.heap.size w w' := by
 have hu60 := Tryz.underlying60; have HR0_0 := asT hr0_0; have HC0_0 := asT hc0_0; clear hr0_0 hc0_0; have HB := asT (Below.refl w.heap.size w); have H := h; unfold impl_CountInserted.f at H; clear h; obtain ⟨t441, A2, H⟩ := be H; obtain rfl := oI H; go_enter Tryz.func137, Tryz.ntmps137
 go_wp2_with (first | ((with_reducible refine gate_dst (N := 1) rfl ?_); refine boxT (N := 1) (cs := #[.slice A0_0 l0_0.length c0_0]) (t := 60) ?_; intro gb440 hg w3 hbox hb; have BK440 := asT hbox; have GW440 := asT (geT hg HB.out); have GE440 := GW440; replace HB := hS HB hb; clear hb hbox hg; obtain ⟨hcz4_0, hfz4_0⟩ := bx1 BK440.out) | ((with_reducible refine gate_callee (f := 169) rfl ?_); refine goesL_ (some 4) rfl rfl Tryz.func169 (by kernel_rfl) rfl #[.agg #[.slice A0_0 l0_0.length c0_0], .func (.func 171) #[] #[]] rfl eqT ?_; (with_reducible refine (impl_links_at_CountInserted_1.calls k _ _ l0_0 () t441 _ ?side1 ?side2 A2.out).mono ?_); (case side1 => exact crT HR0_0.out HB.out); (case side2 => exact HC0_0.out); rintro e w5 ⟨rfl, hb⟩; refine ⟨_, rfl, ?_⟩; replace BK440 := bS BK440 hb; replace HB := hS HB hb; (try clear hb hb2 hk hi)))
 go_ret; exact ⟨rlT, hbT HB.out⟩
def impl_CountVoiceChanged_1.f (a0_0 : Int) (a0_1 : Int) : Option (Bool) := if a0_0 = 0 then (some false) else (if a0_1 = 0 then (some false) else (some (a0_0 != a0_1)))
theorem impl_CountVoiceChanged_1.calls (a0_0 : Int) (a0_1 : Int) (r : Bool) (w : World) (h : impl_CountVoiceChanged_1.f a0_0 a0_1 = some r) :
  Calls Tryz.prog 172 #[.agg #[.int .u8 a0_0, .int .u8 a0_1]] w fun e w' => e = .returned (.bool r) ∧ Below w.heap.size w w' := by
 have hu109 := Tryz.underlying109; have HB := asT (Below.refl w.heap.size w); have H := h; unfold impl_CountVoiceChanged_1.f at H; clear h; by_cases c2 : a0_0 = 0
 ·rw [if_pos c2] at H; have c2b0 : (a0_0 == 0) = true := eC c2; have c2b1 : (a0_0 != 0) = false := eA c2; clear c2; obtain rfl := oI H; go_enter Tryz.func172, Tryz.ntmps172
  go_wp2_with (first | ((with_reducible refine gate_dst (N := 1) rfl ?_); refine boxT (N := 1) (cs := #[.int .u8 a0_0, .int .u8 a0_1]) (t := 109) ?_; intro gb442 hg w3 hbox hb; have BK442 := asT hbox; have GW442 := asT (geT hg HB.out); have GE442 := GW442; replace HB := hS HB hb; clear hb hbox hg; obtain ⟨hcz4_0, hcz4_1, hfz4_0, hfz4_1⟩ := bx2 BK442.out))
  go_ret; exact ⟨rlT, hbT HB.out⟩
 ·rw [if_neg c2] at H; have c2b0 : (a0_0 == 0) = false := eB c2; have c2b1 : (a0_0 != 0) = true := eD c2; by_cases c5 : a0_1 = 0
  ·rw [if_pos c5] at H; have c5b0 : (a0_1 == 0) = true := eC c5; have c5b1 : (a0_1 != 0) = false := eA c5; clear c5; obtain rfl := oI H; go_enter Tryz.func172, Tryz.ntmps172
   go_wp2_with (first | ((with_reducible refine gate_dst (N := 1) rfl ?_); refine boxT (N := 1) (cs := #[.int .u8 a0_0, .int .u8 a0_1]) (t := 109) ?_; intro gb442 hg w6 hbox hb; have BK442 := asT hbox; have GW442 := asT (geT hg HB.out); have GE442 := GW442; replace HB := hS HB hb; clear hb hbox hg; obtain ⟨hcz7_0, hcz7_1, hfz7_0, hfz7_1⟩ := bx2 BK442.out))
   go_ret; exact ⟨rlT, hbT HB.out⟩
  ·rw [if_neg c5] at H; have c5b0 : (a0_1 == 0) = false := eB c5; have c5b1 : (a0_1 != 0) = true := eD c5; obtain rfl := oI H; go_enter Tryz.func172, Tryz.ntmps172
   go_wp2_with (first | ((with_reducible refine gate_dst (N := 1) rfl ?_); refine boxT (N := 1) (cs := #[.int .u8 a0_0, .int .u8 a0_1]) (t := 109) ?_; intro gb442 hg w8 hbox hb; have BK442 := asT hbox; have GW442 := asT (geT hg HB.out); have GE442 := GW442; replace HB := hS HB hb; clear hb hbox hg; obtain ⟨hcz9_0, hcz9_1, hfz9_0, hfz9_1⟩ := bx2 BK442.out))
   go_ret; exact ⟨rlT, hbT HB.out⟩
def impl_links_at_CountVoiceChanged_1.f (k : Nat) (l0_0 : List (S109)) (a1 : Unit) : Option (Int) := impl_links_G.f impl_CountVoiceChanged_1.f k l0_0 a1
theorem impl_links_at_CountVoiceChanged_1.mono : ∀ a0 a1 k, LeO (impl_links_at_CountVoiceChanged_1.f k a0 a1) (impl_links_at_CountVoiceChanged_1.f (k + 1) a0 a1) := fun a0 a1 k => impl_links_G.mono impl_CountVoiceChanged_1.f a0 a1 k
theorem impl_links_at_CountVoiceChanged_1.calls (k : Nat) (A0_0 : Option Addr) (c0_0 : Nat) (l0_0 : List (S109)) (a1 : Unit) (r : Int) (w : World) (hr0_0 : Kd.C k109 w A0_0 l0_0.length l0_0) (hc0_0 : l0_0.length ≤ c0_0) (h : impl_links_at_CountVoiceChanged_1.f k l0_0 a1 = some r) :
  Calls Tryz.prog 169 #[.agg #[.slice A0_0 l0_0.length c0_0], .func (.func 172) #[] #[]] w fun e w' => e = .returned (.int .i64 r) ∧ Below w.heap.size w w' := impl_links_G.calls impl_CountVoiceChanged_1.f 172 _ Tryz.func172 (by kernel_rfl) rfl (fun a0_0 a0_1 r w h => impl_CountVoiceChanged_1.calls a0_0 a0_1 r w h) k A0_0 c0_0 l0_0 a1 r w hr0_0 hc0_0 h
def impl_CountVoiceChanged.f (k : Nat) (l0_0 : List (S109)) : Option (Int) := (impl_links_at_CountVoiceChanged_1.f k l0_0 ()).bind fun t449 => (some t449)
theorem impl_CountVoiceChanged.mono : ∀ a0 k, LeO (impl_CountVoiceChanged.f k a0) (impl_CountVoiceChanged.f (k + 1) a0) := by
 intro a0 k; unfold impl_CountVoiceChanged.f
 with_reducible repeat' first | exact impl_links_at_CountVoiceChanged_1.mono _ _ _ | exact LeO.refl _ | exact LeO.none _ | refine LeO.ite ?_ ?_ | refine LeO.bind ?_ (fun _ => ?_)
theorem impl_CountVoiceChanged.calls (k : Nat) (A0_0 : Option Addr) (c0_0 : Nat) (l0_0 : List (S109)) (r : Int) (w : World) (hr0_0 : Kd.C k109 w A0_0 l0_0.length l0_0) (hc0_0 : l0_0.length ≤ c0_0) (h : impl_CountVoiceChanged.f k l0_0 = some r) :
  Calls Tryz.prog 138 #[.agg #[.slice A0_0 l0_0.length c0_0]] w fun e w' => e = .returned (.int .i64 r) ∧ Below w.heap.size w w' := by
 have hu60 := Tryz.underlying60; have HR0_0 := asT hr0_0; have HC0_0 := asT hc0_0; clear hr0_0 hc0_0; have HB := asT (Below.refl w.heap.size w); have H := h; unfold impl_CountVoiceChanged.f at H; clear h; obtain ⟨t449, A2, H⟩ := be H; obtain rfl := oI H; go_enter Tryz.func138, Tryz.ntmps138
 go_wp2_with (first | ((with_reducible refine gate_dst (N := 1) rfl ?_); refine boxT (N := 1) (cs := #[.slice A0_0 l0_0.length c0_0]) (t := 60) ?_; intro gb448 hg w3 hbox hb; have BK448 := asT hbox; have GW448 := asT (geT hg HB.out); have GE448 := GW448; replace HB := hS HB hb; clear hb hbox hg; obtain ⟨hcz4_0, hfz4_0⟩ := bx1 BK448.out) | ((with_reducible refine gate_callee (f := 169) rfl ?_); refine goesL_ (some 4) rfl rfl Tryz.func169 (by kernel_rfl) rfl #[.agg #[.slice A0_0 l0_0.length c0_0], .func (.func 172) #[] #[]] rfl eqT ?_; (with_reducible refine (impl_links_at_CountVoiceChanged_1.calls k _ _ l0_0 () t449 _ ?side1 ?side2 A2.out).mono ?_); (case side1 => exact crT HR0_0.out HB.out); (case side2 => exact HC0_0.out); rintro e w5 ⟨rfl, hb⟩; refine ⟨_, rfl, ?_⟩; replace BK448 := bS BK448 hb; replace HB := hS HB hb; (try clear hb hb2 hk hi)))
 go_ret; exact ⟨rlT, hbT HB.out⟩
mutual
def impl_CountBreaks.l0 : Nat → Int → Int → Bool → List (S109) → Int → Int → List (S109) → Option (Int)
 | 0, _, _, _, _, _, _, _ => none
 | k + 1, x3, x4, x5, x9, x10, x11, x451000 => if x11 < x10 then (if 0 ≤ x11 then (if x11 < (x9.length : Int) then ((impl_IsCandidate.f k x451000).bind fun t453 => (if t453 = true then (if ((rd_T109 x9 x11).f0) = 0 then (impl_CountBreaks.j1 k x3 x4 x5 x9 x10 x11 false x451000) else (impl_CountBreaks.j1 k x3 x4 x5 x9 x10 x11 (((rd_T109 x9 x11).f1) != 0) x451000)) else (impl_CountBreaks.l0 k x3 x4 x5 x9 x10 (wrap64 (x11 + 1)) x451000))) else (none)) else (none)) else (some x3)
def impl_CountBreaks.j1 : Nat → Int → Int → Bool → List (S109) → Int → Int → Bool → List (S109) → Option (Int)
 | 0, _, _, _, _, _, _, _, _ => none
 | k + 1, x3, x4, x5, x9, x10, x11, x19, x451000 => if x19 = true then (impl_CountBreaks.l0 k (wrap64 (x3 + x4)) 0 true x9 x10 (wrap64 (x11 + 1)) x451000) else (if x5 = true then (impl_CountBreaks.l0 k x3 (wrap64 (x4 + 1)) x5 x9 x10 (wrap64 (x11 + 1)) x451000) else (impl_CountBreaks.l0 k x3 x4 x5 x9 x10 (wrap64 (x11 + 1)) x451000))
end
def impl_CountBreaks.f (k : Nat) (l0_0 : List (S109)) : Option (Int) := impl_CountBreaks.l0 k 0 0 false l0_0 (l0_0.length : Int) 0 l0_0
theorem impl_CountBreaks.mono_l : ∀ k, (∀ y0 y1 y2 y3 y4 y5 y6, LeO (impl_CountBreaks.l0 k y0 y1 y2 y3 y4 y5 y6) (impl_CountBreaks.l0 (k + 1) y0 y1 y2 y3 y4 y5 y6)) ∧ (∀ y0 y1 y2 y3 y4 y5 y6 y7, LeO (impl_CountBreaks.j1 k y0 y1 y2 y3 y4 y5 y6 y7) (impl_CountBreaks.j1 (k + 1) y0 y1 y2 y3 y4 y5 y6 y7))
 | 0 => ⟨fun _ _ _ _ _ _ _ r h => by simp [impl_CountBreaks.l0] at h, fun _ _ _ _ _ _ _ _ r h => by simp [impl_CountBreaks.j1] at h⟩
 | k + 1 => by
  obtain ⟨ih0, ih1⟩ := impl_CountBreaks.mono_l k; refine ⟨?_, ?_⟩
  ·intro y0 y1 y2 y3 y4 y5 y6; unfold impl_CountBreaks.l0
   with_reducible repeat' first | exact ih0 _ _ _ _ _ _ _ | exact ih1 _ _ _ _ _ _ _ _ | exact impl_IsCandidate.mono _ _ | exact LeO.refl _ | exact LeO.none _ | refine LeO.ite ?_ ?_ | refine LeO.bind ?_ (fun _ => ?_)
  ·intro y0 y1 y2 y3 y4 y5 y6 y7; unfold impl_CountBreaks.j1
   with_reducible repeat' first | exact ih0 _ _ _ _ _ _ _ | exact ih1 _ _ _ _ _ _ _ _ | exact impl_IsCandidate.mono _ _ | exact LeO.refl _ | exact LeO.none _ | refine LeO.ite ?_ ?_ | refine LeO.bind ?_ (fun _ => ?_)
theorem impl_CountBreaks.mono : ∀ a0 k, LeO (impl_CountBreaks.f k a0) (impl_CountBreaks.f (k + 1) a0) := by
 intro a0 k; obtain ⟨ih0, ih1⟩ := impl_CountBreaks.mono_l k; unfold impl_CountBreaks.f
 with_reducible repeat' first | exact ih0 _ _ _ _ _ _ _ | exact ih1 _ _ _ _ _ _ _ _ | exact impl_IsCandidate.mono _ _ | exact LeO.refl _ | exact LeO.none _ | refine LeO.ite ?_ ?_ | refine LeO.bind ?_ (fun _ => ?_)
theorem impl_CountBreaks.calls (k : Nat) (A0_0 : Option Addr) (c0_0 : Nat) (l0_0 : List (S109)) (r : Int) (w : World) (hr0_0 : Kd.C k109 w A0_0 l0_0.length l0_0) (hc0_0 : l0_0.length ≤ c0_0) (h : impl_CountBreaks.f k l0_0 = some r) :
  Calls Tryz.prog 139 #[.agg #[.slice A0_0 l0_0.length c0_0]] w fun e w' => e = .returned (.int .i64 r) ∧ Below w.heap.size w w' := by
 have hu60 := Tryz.underlying60; have hu109 := Tryz.underlying109; have HR0_0 := asT hr0_0; have HC0_0 := asT hc0_0; clear hr0_0 hc0_0; have HB := asT (Below.refl w.heap.size w); have H := h; unfold impl_CountBreaks.f at H; clear h; have H' := asT H; clear H; go_enter Tryz.func139, Tryz.ntmps139
 go_wp2_with (first | ((with_reducible refine gate_dst (N := 1) rfl ?_); refine boxT (N := 1) (cs := #[.slice A0_0 l0_0.length c0_0]) (t := 60) ?_; intro gb450 hg w2 hbox hb; have BK450 := asT hbox; have GW450 := asT (geT hg HB.out); have GE450 := GW450; replace HB := hS HB hb; clear hb hbox hg; obtain ⟨hcz3_0, hfz3_0⟩ := bx1 BK450.out))
 go_loopg [3, 4, 5, 11] k (fun kq v3 v4 v5 v11 w' => ∃ (x3_1 : Int) (x4_1 : Int) (x5_1 : Bool) (x11_1 : Int), v3 = .int .i64 x3_1 ∧ v4 = .int .i64 x4_1 ∧ v5 = .bool x5_1 ∧ v11 = .int .i64 x11_1 ∧ Aside0 (impl_CountBreaks.l0 kq x3_1 x4_1 x5_1 l0_0 (l0_0.length : Int) x11_1 l0_0 = some r) ∧ Aside0 (kq ≤ k) ∧ Aside0 (w'.heap[gb450]? = some (.cells #[(.slice A0_0 l0_0.length c0_0)] 60 (0, 0))) ∧ Aside0 (Below w.heap.size w w'))
 case atStart => exact ⟨(0), (0), (false), (0), rdT, rdT, rdT, rdT, H', ⟨Nat.le_refl _⟩, kpT BK450.out, ⟨hbT HB.out⟩⟩
 case round =>
  clear H'; (try clear c1 p2 hcz3_0 hfz3_0); obtain ⟨x3_1, x4_1, x5_1, x11_1, rfl, rfl, rfl, rfl, HA, HK1, BK450, HB⟩ := hrel
  cases gk with
  | zero => exact absurd HA.out (by simp [impl_CountBreaks.l0])
  | succ k1 =>
   have H := HA.out; clear HA
   simp only [impl_CountBreaks.l0] at H
   by_cases c4 : x11_1 < (l0_0.length : Int)
   ·rw [if_pos c4] at H; have c4b0 := dt c4; clear c4; by_cases c5 : 0 ≤ x11_1
    ·rw [if_pos c5] at H; have c5b0 := dt c5; clear c5; by_cases c6 : x11_1 < (l0_0.length : Int)
     ·rw [if_pos c6] at H; have c6b0 := dt c6; clear c6; obtain ⟨t453, A7, H⟩ := be H; by_cases c8 : t453 = true
      ·subst c8; rw [if_pos rfl] at H; have HC9 := asT H; clear H; have p451 : 0 ≤ (x11_1 : Int) := dT asmT; have q451 : x11_1 < (l0_0.length : Int) := dT asmT; obtain ⟨ad451, e451, hx451_0, hx451_1⟩ := at_T109 HR0_0.out x11_1 p451 q451
       cases e451
       replace hx451_0 := hbc HB.out hx451_0; replace hx451_1 := hbc HB.out hx451_1; replace p451 := eq_true p451; replace q451 := eq_true q451
       go_upto_region 6 with (first | ((with_reducible refine gate_dst (N := 7) rfl ?_); refine boxT (N := 7) (cs := #[.int .u8 0, .int .u8 0]) (t := 109) ?_; intro gb452 hg w10 hbox hb; have BK452 := asT (hbox); have GW452 := asT (geT hg HB.out); have GE452 := asT (geT hg HB.out); replace HB := hS HB hb; have NB450_452 := asT ((by rw [hg]; exact Nat.ne_of_lt (blk_lt (g := gb450) (o := .cells #[.slice (some ad451) l0_0.length c0_0] 60 (0, 0)) (bkT BK450.out)) : gb450 ≠ gb452)); have NB452_450 := asT ((by rw [hg]; exact Nat.ne_of_gt (blk_lt (g := gb450) (o := .cells #[.slice (some ad451) l0_0.length c0_0] 60 (0, 0)) (bkT BK450.out)) : gb452 ≠ gb450)); replace BK450 := bS BK450 hb; clear hb hbox hg; have hnb11 := NB452_450.out; have hnc11 := NB450_452.out; obtain ⟨hcz12_0, hcz12_1, hfz12_0, hfz12_1⟩ := bx2 BK452.out; obtain ⟨hcz13_0, hfz13_0⟩ := bx1 BK450.out) | ((with_reducible refine gate_callee (f := 85) rfl ?_); refine goesL_ (some 17) rfl rfl Tryz.func85 (by kernel_rfl) rfl #[.agg #[.slice (some ad451) l0_0.length c0_0]] rfl eqT ?_; (with_reducible refine (impl_IsCandidate.calls k1 _ _ l0_0 true _ ?side1 ?side2 A7.out).mono ?_); (case side1 => exact Kd.C_below HR0_0.out (hbT HB.out)); (case side2 => exact HC0_0.out); rintro e w14 ⟨rfl, hb⟩; refine ⟨_, rfl, ?_⟩; replace BK450 := asT (blk_below (g := gb450) (o := .cells #[.slice (some ad451) l0_0.length c0_0] 60 (0, 0)) (by (with_reducible repeat (first | refine blk_drewN ?_ _ | refine blk_drew ?_ | refine blk_alloc ?_ _)); refine blk_far ?_ NB450_452.out _; (with_reducible repeat (first | refine blk_drewN ?_ _ | refine blk_drew ?_ | refine blk_alloc ?_ _)); refine blk_far ?_ NB450_452.out _; (with_reducible repeat (first | refine blk_drewN ?_ _ | refine blk_drew ?_ | refine blk_alloc ?_ _)); exact BK450.out) hb); replace BK452 := asT (blk_below (g := gb452) (o := .cells #[.int .u8 ((rd_T109 l0_0 x11_1).f0), .int .u8 ((rd_T109 l0_0 x11_1).f1)] 109 (0, 0)) (by (with_reducible repeat (first | refine blk_drewN ?_ _ | refine blk_drew ?_ | refine blk_alloc ?_ _)); refine blk_put (cs := #[.int .u8 ((rd_T109 l0_0 x11_1).f0), .int .u8 0]) ?_ 1 _ rfl; (with_reducible repeat (first | refine blk_drewN ?_ _ | refine blk_drew ?_ | refine blk_alloc ?_ _)); refine blk_put (cs := #[.int .u8 0, .int .u8 0]) ?_ 0 _ rfl; (with_reducible repeat (first | refine blk_drewN ?_ _ | refine blk_drew ?_ | refine blk_alloc ?_ _)); exact BK452.out) hb); replace HB := hS HB hb; (try clear hb hb2 hk hi)))
       (try simp only [Act.put, sA, sZ, sS])
       go_cut [19] (fun v19 wc => ∃ (kq : Nat) (x19_8 : Bool), v19 = .bool x19_8 ∧ Aside0 (impl_CountBreaks.j1 kq x3_1 x4_1 x5_1 l0_0 (l0_0.length : Int) x11_1 x19_8 l0_0 = some r) ∧ Aside0 (kq ≤ k1) ∧ Aside0 (wc.heap[gb450]? = some (.cells #[(.slice (some ad451) l0_0.length c0_0)] 60 (0, 0))) ∧ Aside0 (wc.heap[gb452]? = some (.cells #[.int .u8 ((rd_T109 l0_0 x11_1).f0), .int .u8 ((rd_T109 l0_0 x11_1).f1)] 109 (0, 0))) ∧ Aside0 (Below w.heap.size w wc))
       case first =>
        have H := HC9.out; clear HC9; by_cases c15 : ((rd_T109 l0_0 x11_1).f0) = 0
        ·rw [if_pos c15] at H; have c15b0 : (((rd_T109 l0_0 x11_1).f0) == 0) = true := eC c15; have c15b1 : (((rd_T109 l0_0 x11_1).f0) != 0) = false := eA c15; clear c15
         (first | rw [c15b0] | (simp only [i64_w, i32_w]; rw [c15b0]) | skip)
         have H' := asT H; clear H; have hnb16 := NB452_450.out; have hnc16 := NB450_452.out; obtain ⟨hcz17_0, hcz17_1, hfz17_0, hfz17_1⟩ := bx2 BK452.out
         go_wp2
         go_meet
         case rel => exact ⟨_, (false), rdT, H', ⟨by have := HK1.out; first | omega | exact Nat.le_refl _⟩, kpT BK450.out, kpT BK452.out, ⟨hbT HB.out⟩⟩
        ·rw [if_neg c15] at H; have c15b0 : (((rd_T109 l0_0 x11_1).f0) == 0) = false := eB c15; have c15b1 : (((rd_T109 l0_0 x11_1).f0) != 0) = true := eD c15
         (first | rw [c15b0] | (simp only [i64_w, i32_w]; rw [c15b0]) | skip)
         have H' := asT H; clear H; have hnb18 := NB452_450.out; have hnc18 := NB450_452.out; obtain ⟨hcz19_0, hcz19_1, hfz19_0, hfz19_1⟩ := bx2 BK452.out
         go_wp2
         go_meet
         case rel => exact ⟨_, ((((rd_T109 l0_0 x11_1).f1) != 0)), rdT, H', ⟨by have := HK1.out; first | omega | exact Nat.le_refl _⟩, kpT BK450.out, kpT BK452.out, ⟨hbT HB.out⟩⟩
       case rest =>
        clear HC9; (try clear c1 p2 c4 c4b0 p4 q4 hx4 c5 c5b0 c6 c6b0 p6 c8 c11 c13 c15 c15b0 c15b1 c16 c18 hcz12_0 hcz12_1 hcz13_0 hcz17_0 hcz17_1 hcz19_0 hcz19_1 hcz3_0 hfz12_0 hfz12_1 hfz13_0 hfz17_0 hfz17_1 hfz19_0 hfz19_1 hfz3_0 hx451_0 hx451_1 p2 p451 q451); obtain ⟨kq, x19_8, rfl, HA, HJ8, BK450, BK452, HB⟩ := hcut
        cases kq with
        | zero => exact absurd HA.out (by simp [impl_CountBreaks.j1])
        | succ kj8 =>
         have H := HA.out; clear HA
         simp only [impl_CountBreaks.j1] at H
         by_cases c20 : x19_8 = true
         ·subst c20; rw [if_pos rfl] at H; have H' := asT H; clear H
          go_wp2
          go_roundg kj8
          case measure => have := HK1.out; have := HJ8.out; omega
          case rel => exact ⟨(wrap64 (x3_1 + x4_1)), (0), (true), (wrap64 (x11_1 + 1)), rdT, rdT, rdT, rdT, H', ⟨by have := HK1.out; have := HJ8.out; omega⟩, kpT BK450.out, ⟨hbT HB.out⟩⟩
         ·replace c20 := eE c20; subst c20; rw [if_neg nF] at H; have H1 := H; clear H; have H := H1; clear H1; by_cases c21 : x5_1 = true
          ·subst c21; rw [if_pos rfl] at H; have H' := asT H; clear H
           go_wp2
           go_roundg kj8
           case measure => have := HK1.out; have := HJ8.out; omega
           case rel => exact ⟨(x3_1), (wrap64 (x4_1 + 1)), (true), (wrap64 (x11_1 + 1)), rdT, rdT, rdT, rdT, H', ⟨by have := HK1.out; have := HJ8.out; omega⟩, kpT BK450.out, ⟨hbT HB.out⟩⟩
          ·replace c21 := eE c21; subst c21; rw [if_neg nF] at H; have H' := asT H; clear H
           go_wp2
           go_roundg kj8
           case measure => have := HK1.out; have := HJ8.out; omega
           case rel => exact ⟨(x3_1), (x4_1), (false), (wrap64 (x11_1 + 1)), rdT, rdT, rdT, rdT, H', ⟨by have := HK1.out; have := HJ8.out; omega⟩, kpT BK450.out, ⟨hbT HB.out⟩⟩
      ·replace c8 := eE c8; subst c8; rw [if_neg nF] at H; have H' := asT H; clear H; have p451 : 0 ≤ (x11_1 : Int) := dT asmT; have q451 : x11_1 < (l0_0.length : Int) := dT asmT; obtain ⟨ad451, e451, hx451_0, hx451_1⟩ := at_T109 HR0_0.out x11_1 p451 q451
       cases e451
       replace hx451_0 := hbc HB.out hx451_0; replace hx451_1 := hbc HB.out hx451_1; replace p451 := eq_true p451; replace q451 := eq_true q451
       go_wp2_with (first | ((with_reducible refine gate_dst (N := 7) rfl ?_); refine boxT (N := 7) (cs := #[.int .u8 0, .int .u8 0]) (t := 109) ?_; intro gb452 hg w22 hbox hb; have BK452 := asT (hbox); have GW452 := asT (geT hg HB.out); have GE452 := asT (geT hg HB.out); replace HB := hS HB hb; have NB450_452 := asT ((by rw [hg]; exact Nat.ne_of_lt (blk_lt (g := gb450) (o := .cells #[.slice (some ad451) l0_0.length c0_0] 60 (0, 0)) (bkT BK450.out)) : gb450 ≠ gb452)); have NB452_450 := asT ((by rw [hg]; exact Nat.ne_of_gt (blk_lt (g := gb450) (o := .cells #[.slice (some ad451) l0_0.length c0_0] 60 (0, 0)) (bkT BK450.out)) : gb452 ≠ gb450)); replace BK450 := bS BK450 hb; clear hb hbox hg; have hnb23 := NB452_450.out; have hnc23 := NB450_452.out; obtain ⟨hcz24_0, hcz24_1, hfz24_0, hfz24_1⟩ := bx2 BK452.out; obtain ⟨hcz25_0, hfz25_0⟩ := bx1 BK450.out) | ((with_reducible refine gate_callee (f := 85) rfl ?_); refine goesL_ (some 17) rfl rfl Tryz.func85 (by kernel_rfl) rfl #[.agg #[.slice (some ad451) l0_0.length c0_0]] rfl eqT ?_; (with_reducible refine (impl_IsCandidate.calls k1 _ _ l0_0 false _ ?side1 ?side2 A7.out).mono ?_); (case side1 => exact Kd.C_below HR0_0.out (hbT HB.out)); (case side2 => exact HC0_0.out); rintro e w26 ⟨rfl, hb⟩; refine ⟨_, rfl, ?_⟩; replace BK450 := asT (blk_below (g := gb450) (o := .cells #[.slice (some ad451) l0_0.length c0_0] 60 (0, 0)) (by (with_reducible repeat (first | refine blk_drewN ?_ _ | refine blk_drew ?_ | refine blk_alloc ?_ _)); refine blk_far ?_ NB450_452.out _; (with_reducible repeat (first | refine blk_drewN ?_ _ | refine blk_drew ?_ | refine blk_alloc ?_ _)); refine blk_far ?_ NB450_452.out _; (with_reducible repeat (first | refine blk_drewN ?_ _ | refine blk_drew ?_ | refine blk_alloc ?_ _)); exact BK450.out) hb); replace BK452 := asT (blk_below (g := gb452) (o := .cells #[.int .u8 ((rd_T109 l0_0 x11_1).f0), .int .u8 ((rd_T109 l0_0 x11_1).f1)] 109 (0, 0)) (by (with_reducible repeat (first | refine blk_drewN ?_ _ | refine blk_drew ?_ | refine blk_alloc ?_ _)); refine blk_put (cs := #[.int .u8 ((rd_T109 l0_0 x11_1).f0), .int .u8 0]) ?_ 1 _ rfl; (with_reducible repeat (first | refine blk_drewN ?_ _ | refine blk_drew ?_ | refine blk_alloc ?_ _)); refine blk_put (cs := #[.int .u8 0, .int .u8 0]) ?_ 0 _ rfl; (with_reducible repeat (first | refine blk_drewN ?_ _ | refine blk_drew ?_ | refine blk_alloc ?_ _)); exact BK452.out) hb); replace HB := hS HB hb; (try clear hb hb2 hk hi)))
       go_roundg k1
       case measure => have := HK1.out; omega
       case rel => exact ⟨(x3_1), (x4_1), (x5_1), (wrap64 (x11_1 + 1)), rdT, rdT, rdT, rdT, H', ⟨by have := HK1.out; omega⟩, kpT BK450.out, ⟨hbT HB.out⟩⟩
     ·rw [if_neg c6] at H; exact absurd H (by simp)
    ·rw [if_neg c5] at H; exact absurd H (by simp)
   ·rw [if_neg c4] at H; have c4b0 := df c4; clear c4; obtain rfl := oI H
    go_wp2
    go_ret; exact ⟨rlT, hbT HB.out⟩
end Go.Proofs.YtlmfpkiaikjlbaaGreat.PFnExactDistinctProfiles
