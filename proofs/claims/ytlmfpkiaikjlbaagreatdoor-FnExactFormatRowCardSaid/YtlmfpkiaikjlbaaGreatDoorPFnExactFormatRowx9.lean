-- Made by gen.py (a program of this session) out of the translation; Lean checks it.
import Derived.Test.YtlmfpkiaikjlbaaGreatDoorPFnExactFormatRowx0
import Derived.Test.YtlmfpkiaikjlbaaGreatDoorPFnExactFormatRowx6
import Derived.Test.YtlmfpkiaikjlbaaGreatDoorPFnExactFormatRowx7
import Derived.Test.YtlmfpkiaikjlbaaGreatDoorPFnExactFormatRowx8
namespace Go.Proofs.YtlmfpkiaikjlbaaGreatDoor.PFnExactFormatRow
open Go.RowKit Go.Proofs.YtlmfpkiaikjlbaaGreatDoorB Go.Proofs.YtlmfpkiaikjlbaaGreatDoorW.PrintWords Go.Proofs.YtlmfpkiaikjlbaaGreatDoorW.PrintLast Go.Proofs.YtlmfpkiaikjlbaaGreatDoorW.PrintMore
attribute [local go_sem] max2_int min2_int max_two min_two max_three min_three max_four min_four   -- for this text's walks alone
set_option linter.unusedVariables false
set_option maxHeartbeats 8000000
set_option maxRecDepth 100000
set_option linter.unusedSimpArgs false
mutual
def impl_ProfileOf.j0 : Nat → List ByteArray → Bool → List (S90) → Option (List Int)
 | 0, _, _, _ => none
 | k + 1, x0, x15, x460000 => if x15 = true then (some ([] : List Int)) else (impl_ProfileOf.l0 k (([] : List Int)) x0 (x0.length : Int) 0 x460000)
def impl_ProfileOf.l0 : Nat → List Int → List ByteArray → Int → Int → List (S90) → Option (List Int)
 | 0, _, _, _, _, _ => none
 | k + 1, x5, x17, x18, x19, x460000 => if x19 < x18 then (if 0 ≤ x19 then (if x19 < (x17.length : Int) then ((impl_ViolationsOf.f k (rdOf ByteArray.empty x17 x19) x460000).bind fun t466 => (if x5.length < 17592186044416 then (impl_ProfileOf.l0 k (x5 ++ [t466]) x17 x18 (wrap64 (x19 + 1)) x460000) else (none))) else (none)) else (none)) else (some x5)
end
def impl_ProfileOf.f (k : Nat) (l0 : List ByteArray) (l1_0 : List (S90)) : Option (List Int) := (impl_AreConstraints.f k l0).bind fun t460 => (if t460 = true then ((impl_IsCandidate.f k l1_0).bind fun t461 => (impl_ProfileOf.j0 k l0 (!t461) l1_0)) else (impl_ProfileOf.j0 k l0 true l1_0))
theorem impl_ProfileOf.mono_l : ∀ k, (∀ y0 y1 y2, LeO (impl_ProfileOf.j0 k y0 y1 y2) (impl_ProfileOf.j0 (k + 1) y0 y1 y2)) ∧ (∀ y0 y1 y2 y3 y4, LeO (impl_ProfileOf.l0 k y0 y1 y2 y3 y4) (impl_ProfileOf.l0 (k + 1) y0 y1 y2 y3 y4))
 | 0 => ⟨fun _ _ _ r h => by simp [impl_ProfileOf.j0] at h, fun _ _ _ _ _ r h => by simp [impl_ProfileOf.l0] at h⟩
 | k + 1 => by
  obtain ⟨ih0, ih1⟩ := impl_ProfileOf.mono_l k; refine ⟨?_, ?_⟩
  ·intro y0 y1 y2; unfold impl_ProfileOf.j0
   with_reducible repeat' first | exact ih0 _ _ _ | exact ih1 _ _ _ _ _ | exact impl_AreConstraints.mono _ _ | exact impl_IsCandidate.mono _ _ | exact impl_ViolationsOf.mono _ _ _ | exact LeO.refl _ | exact LeO.none _ | refine LeO.ite ?_ ?_ | refine LeO.bind ?_ (fun _ => ?_)
  ·intro y0 y1 y2 y3 y4; unfold impl_ProfileOf.l0
   with_reducible repeat' first | exact ih0 _ _ _ | exact ih1 _ _ _ _ _ | exact impl_AreConstraints.mono _ _ | exact impl_IsCandidate.mono _ _ | exact impl_ViolationsOf.mono _ _ _ | exact LeO.refl _ | exact LeO.none _ | refine LeO.ite ?_ ?_ | refine LeO.bind ?_ (fun _ => ?_)
theorem impl_ProfileOf.mono : ∀ a0 a1 k, LeO (impl_ProfileOf.f k a0 a1) (impl_ProfileOf.f (k + 1) a0 a1) := by
 intro a0 a1 k; obtain ⟨ih0, ih1⟩ := impl_ProfileOf.mono_l k; unfold impl_ProfileOf.f
 with_reducible repeat' first | exact ih0 _ _ _ | exact ih1 _ _ _ _ _ | exact impl_AreConstraints.mono _ _ | exact impl_IsCandidate.mono _ _ | exact impl_ViolationsOf.mono _ _ _ | exact LeO.refl _ | exact LeO.none _ | refine LeO.ite ?_ ?_ | refine LeO.bind ?_ (fun _ => ?_)
theorem impl_ProfileOf.calls (k : Nat) (A0 : Option Addr) (c0 : Nat) (l0 : List ByteArray) (A1_0 : Option Addr) (c1_0 : Nat) (l1_0 : List (S90)) (r : List Int) (w : World) (hr0 : Kd.C Kd.string w A0 l0.length l0) (hc0 : l0.length ≤ c0) (hr1_0 : Kd.C k90 w A1_0 l1_0.length l1_0) (hc1_0 : l1_0.length ≤ c1_0) (h : impl_ProfileOf.f k l0 l1_0 = some r) :
  Calls Tryz.prog 54 #[.slice A0 l0.length c0, .agg #[.slice A1_0 l1_0.length c1_0]] w fun e w' => ∃ v0_ : Value, e = .returned (v0_) ∧ Kd.R (Kd.int .i64) 3 w' w.heap.size (fun _ => True) v0_ r ∧ Below w.heap.size w w' := by
 have hu42 := Tryz.underlying42; have HR0 := asT hr0; have HC0 := asT hc0; clear hr0 hc0; have HR1_0 := asT hr1_0; have HC1_0 := asT hc1_0; clear hr1_0 hc1_0; have HB := asT (Below.refl w.heap.size w); have H := h; unfold impl_ProfileOf.f at H; clear h; have HC3 := asT H; clear H; go_enter Tryz.func54, Tryz.ntmps54
 go_upto_region 1 with (first | ((with_reducible refine gate_dst (N := 3) rfl ?_); refine boxT (N := 3) (cs := #[.slice A1_0 l1_0.length c1_0]) (t := 42) ?_; intro gb459 hg w4 hbox hb; have BK459 := asT hbox; have GW459 := asT (geT hg HB.out); have GE459 := GW459; replace HB := hS HB hb; clear hb hbox hg))
 (try simp only [Act.put, sA, sZ, sS])
 go_cut [15] (fun v15 wc => ∃ (kq : Nat) (x15_2 : Bool), v15 = .bool x15_2 ∧ Aside0 (impl_ProfileOf.j0 kq l0 x15_2 l1_0 = some r) ∧ Aside0 (kq ≤ k) ∧ Aside0 (wc.heap[gb459]? = some (.cells #[(.slice A1_0 l1_0.length c1_0)] 42 (0, 0))) ∧ Aside0 (Below w.heap.size w wc))
 case first =>
  have H := HC3.out; clear HC3; obtain ⟨t460, A5, H⟩ := be H; by_cases c6 : t460 = true
  ·subst c6; rw [if_pos rfl] at H; obtain ⟨t461, A7, H⟩ := be H; have H' := asT H; clear H
   go_wp2_with (first | ((with_reducible refine gate_callee (f := 61) rfl ?_); refine goesL_ (some 9) rfl rfl Tryz.func61 (by kernel_rfl) rfl #[.slice A0 l0.length c0] rfl eqT ?_; (with_reducible refine (impl_AreConstraints.calls k _ _ l0 true _ ?side1 ?side2 A5.out).mono ?_); (case side1 => exact crT HR0.out HB.out); (case side2 => exact HC0.out); rintro e w8 ⟨rfl, hb⟩; refine ⟨_, rfl, ?_⟩; replace BK459 := bS BK459 hb; replace HB := hS HB hb; (try clear hb hb2 hk hi); obtain ⟨hcz9_0, hfz9_0⟩ := bx1 BK459.out) | (go_at_call 108; (with_reducible refine (impl_IsCandidate.calls k _ _ l1_0 t461 _ ?side1 ?side2 A7.out).mono ?_); (case side1 => exact crT HR1_0.out HB.out); (case side2 => exact HC1_0.out); rintro e w10 ⟨rfl, hb⟩; replace BK459 := bS BK459 hb; replace HB := hS HB hb; (try clear hb hb2 hk hi)))
   go_meet
   case rel => exact ⟨_, (!t461), rdT, H', ⟨by first | omega | exact Nat.le_refl _⟩, kpT BK459.out, ⟨hbT HB.out⟩⟩
  ·replace c6 := eE c6; subst c6; rw [if_neg nF] at H; have H' := asT H; clear H
   go_wp2_with (first | ((with_reducible refine gate_callee (f := 61) rfl ?_); refine goesL_ (some 9) rfl rfl Tryz.func61 (by kernel_rfl) rfl #[.slice A0 l0.length c0] rfl eqT ?_; (with_reducible refine (impl_AreConstraints.calls k _ _ l0 false _ ?side1 ?side2 A5.out).mono ?_); (case side1 => exact crT HR0.out HB.out); (case side2 => exact HC0.out); rintro e w11 ⟨rfl, hb⟩; refine ⟨_, rfl, ?_⟩; replace BK459 := bS BK459 hb; replace HB := hS HB hb; (try clear hb hb2 hk hi)))
   go_meet
   case rel => exact ⟨_, (true), rdT, H', ⟨by first | omega | exact Nat.le_refl _⟩, kpT BK459.out, ⟨hbT HB.out⟩⟩
 case rest =>
  clear HC3; (try clear c1 p2 c5 c6 hcz9_0 hfz9_0); obtain ⟨kq, x15_2, rfl, HA, HJ2, BK459, HB⟩ := hcut
  cases kq with
  | zero => exact absurd HA.out (by simp [impl_ProfileOf.j0])
  | succ kj2 =>
   have H := HA.out; clear HA
   simp only [impl_ProfileOf.j0] at H
   by_cases c12 : x15_2 = true
   ·subst c12; rw [if_pos rfl] at H; have H1 := H; clear H; have H := H1; clear H1; obtain rfl := oI H
    go_wp2
    go_ret; exact ⟨_, rlT, by first | exact Kd.R_nil _ _ _ _ _ | exact Kd.N_nil _ _ _ _ _ | exact Kd.V_nil _ _ _ _ _ | exact Kd.Q_nil _ _ _ _ _ | exact Kd.S_nil _ _ _ _ _, hbT HB.out⟩
   ·replace c12 := eE c12; subst c12; rw [if_neg nF] at H; obtain ⟨y462, hy462⟩ : ∃ y_ : List Int, y_ = (([] : List Int)) := ⟨_, rfl⟩
    replace H : (impl_ProfileOf.l0 kj2 y462 l0 (l0.length : Int) 0 l1_0) = some r := by first | (rw [hy462]; with_reducible exact H) | (have H2_ := (Option.bind_some _ _).symm.trans H; rw [hy462]; with_reducible exact H2_) | (have H2_ := (Option.bind_some _ _).symm.trans H; with_reducible exact H2_) | with_reducible exact H | (rw [hy462]; exact H) | exact H
    have Ny462 := asT hy462; clear hy462; have H' := asT H; clear H
    go_wp2_with (first | ((with_reducible refine gate_dst (N := 16) rfl ?_); refine Kd.R_lit (Kd.int .i64) _ 3 ?hg (N := 16) ?hd (xs := ([] : List Int)) (inner := []) (ok := fun _ => True) (okp := fun _ => True) ?hr ?hp (fun _ hk => hk) trivial (Below.refl _ _) (Nat.le_refl _) (by simp) ?_; (case hd => rfl); (case hg => rfl); (case hr => first | (go_simp; done) | (go_simp; rfl)); (case hp => exact (Reps.none _ _)); intro v463 w13 ho14 hb hg_ hnew_; clear hg_ hnew_; (first | rw [← Ny462.out] at ho14 | (simp only [Int.reduceToNat] at ho14; rw [← Ny462.out] at ho14)); have HO464 := asT (Kd.R_lower ho14 (below_size (hbT HB.out))); replace BK459 := bS BK459 hb; replace HB := hS HB hb; clear hb ho14))
    go_loopg [5, 19] kj2 (fun kq v5 v19 w' => ∃ (x5_2 : List Int) (x19_2 : Int), v19 = .int .i64 x19_2 ∧ Aside0 (impl_ProfileOf.l0 kq x5_2 l0 (l0.length : Int) x19_2 l1_0 = some r) ∧ Aside0 (kq ≤ kj2) ∧ Aside0 (Kd.R (Kd.int .i64) 3 w' w.heap.size (fun _ => True) v5 x5_2) ∧ Aside0 (w'.heap[gb459]? = some (.cells #[(.slice A1_0 l1_0.length c1_0)] 42 (0, 0))) ∧ Aside0 (Below w.heap.size w w'))
    case atStart => exact ⟨(y462), (0), rdT, H', ⟨Nat.le_refl _⟩, ⟨roT HO464.out⟩, kpT BK459.out, ⟨hbT HB.out⟩⟩
    case round =>
     clear H'; (try clear c1 p2 c5 c6 c12 hcz9_0 hfz9_0 p2); obtain ⟨x5_2, x19_2, rfl, HA, HK2, HO_5, BK459, HB⟩ := hrel
     cases gk with
     | zero => exact absurd HA.out (by simp [impl_ProfileOf.l0])
     | succ k2 =>
      have H := HA.out; clear HA
      simp only [impl_ProfileOf.l0] at H
      by_cases c15 : x19_2 < (l0.length : Int)
      ·rw [if_pos c15] at H; have c15b0 := dt c15; clear c15; by_cases c16 : 0 ≤ x19_2
       ·rw [if_pos c16] at H; have c16b0 := dt c16; clear c16; by_cases c17 : x19_2 < (l0.length : Int)
        ·rw [if_pos c17] at H; have c17b0 := dt c17; clear c17; obtain ⟨t466, A18, H⟩ := be H; by_cases c19 : x5_2.length < 17592186044416
         ·rw [if_pos c19] at H; have LMc19 := asT c19; clear c19; obtain ⟨y467, hy467⟩ : ∃ y_ : List Int, y_ = (x5_2 ++ [t466]) := ⟨_, rfl⟩
          replace H : (impl_ProfileOf.l0 k2 y467 l0 (l0.length : Int) (wrap64 (x19_2 + 1)) l1_0) = some r := by first | (rw [hy467]; with_reducible exact H) | (have H2_ := (Option.bind_some _ _).symm.trans H; rw [hy467]; with_reducible exact H2_) | (have H2_ := (Option.bind_some _ _).symm.trans H; with_reducible exact H2_) | with_reducible exact H | (rw [hy467]; exact H) | exact H
          have Ny467 := asT hy467; clear hy467; have H' := asT H; clear H; have p465 : 0 ≤ (x19_2 : Int) := dT asmT; have q465 : x19_2 < (l0.length : Int) := dT asmT; obtain ⟨ad465, e465, hx465_0⟩ := Kd.at_string HR0.out x19_2 p465 q465
          cases e465
          replace hx465_0 := hbc HB.out hx465_0; replace p465 := eq_true p465; replace q465 := eq_true q465; obtain ⟨hcz20_0, hfz20_0⟩ := bx1 BK459.out
          go_wp2_with (first | ((with_reducible refine gate_callee (f := 56) rfl ?_); refine goesL_ (some 26) rfl rfl Tryz.func56 (by kernel_rfl) rfl #[.string (rdOf ByteArray.empty l0 x19_2), .agg #[.slice A1_0 l1_0.length c1_0]] rfl eqT ?_; (with_reducible refine (impl_ViolationsOf.calls k2 (rdOf ByteArray.empty l0 x19_2) _ _ l1_0 t466 _ ?side1 ?side2 A18.out).mono ?_); (case side1 => exact crT HR1_0.out HB.out); (case side2 => exact HC1_0.out); rintro e w21 ⟨rfl, hb⟩; refine ⟨_, rfl, ?_⟩; replace HO_5 := asT (Kd.R_below (roT HO_5.out) hb); replace BK459 := bS BK459 hb; replace HB := hS HB hb; (try clear hb hb2 hk hi)) | ((with_reducible refine gate_builtin (b := .append) (xs := #[.tmp 23, .tmp 27]) rfl ?_); at_builtin; refine Kd.R_append (Kd.int .i64) (w0 := w) w.heap.size rfl (.tmp 23) (.tmp 27) 59 3 (.int .i64 0) 8 rfl Tryz.underlying59 info3 rfl (by decide) (by omega) u5 x5_2 t466 [.int .i64 t466] (fun _ => True) (fun _ => False) rfl rfl ?aP (fun _ hk => hk.elim) ?aF ?aO ?aB ?aS ?aL ?_; (case aP => exact rfl); (case aB => exact (hbT HB.out)); (case aF => exact (fun _ _ => trivial)); (case aO => exact (roT HO_5.out)); (case aS => exact (below_size (hbT HB.out))); (case aL => have := LMc19.out; omega); intro v468 w22 ho hb hg hat; rw [← Ny467.out] at ho; replace BK459 := asT (blk_grown (g := gb459) (o := .cells #[.slice A1_0 l1_0.length c1_0] 42 (0, 0)) (bkT BK459.out) hg (Kd.R_ne HO_5.out BK459.out (by decide))); replace HB := asT (hb); have HO469 := asT (ho); clear HO_5 ho hb hg hat))
          go_roundg k2
          case measure => have := HJ2.out; have := HK2.out; omega
          case rel => exact ⟨(y467), (wrap64 (x19_2 + 1)), rdT, H', ⟨by have := HJ2.out; have := HK2.out; omega⟩, ⟨roT HO469.out⟩, kpT BK459.out, ⟨hbT HB.out⟩⟩
         ·rw [if_neg c19] at H; exact absurd H (by simp)
        ·rw [if_neg c17] at H; exact absurd H (by simp)
       ·rw [if_neg c16] at H; exact absurd H (by simp)
      ·rw [if_neg c15] at H; have c15b0 := df c15; clear c15; obtain rfl := oI H
       go_wp2
       go_ret; exact ⟨_, rlT, roT HO_5.out, hbT HB.out⟩
def slices_Equal_int_int.l0 : Nat → List Int → List Int → Int → Int → Option (Bool)
 | 0, _, _, _, _ => none
 | k + 1, x0, x1, x12, x13 => if x13 < x12 then (if 0 ≤ x13 then (if x13 < (x0.length : Int) then (if x13 < (x1.length : Int) then (if (rd x0 x13) = (rd x1 x13) then (slices_Equal_int_int.l0 k x0 x1 x12 (wrap64 (x13 + 1))) else (some false)) else (none)) else (none)) else (none)) else (some true)
def slices_Equal_int_int.f (k : Nat) (l0 : List Int) (l1 : List Int) : Option (Bool) := if (l0.length : Int) = (l1.length : Int) then (slices_Equal_int_int.l0 k l0 l1 (l0.length : Int) 0) else (some false)
theorem slices_Equal_int_int.mono_l : ∀ k, (∀ y0 y1 y2 y3, LeO (slices_Equal_int_int.l0 k y0 y1 y2 y3) (slices_Equal_int_int.l0 (k + 1) y0 y1 y2 y3))
 | 0 => fun _ _ _ _ r h => by simp [slices_Equal_int_int.l0] at h
 | k + 1 => by
  have ih0 := slices_Equal_int_int.mono_l k
  ·intro y0 y1 y2 y3; unfold slices_Equal_int_int.l0
   with_reducible repeat' first | exact ih0 _ _ _ _ | exact LeO.refl _ | exact LeO.none _ | refine LeO.ite ?_ ?_ | refine LeO.bind ?_ (fun _ => ?_)
theorem slices_Equal_int_int.mono : ∀ a0 a1 k, LeO (slices_Equal_int_int.f k a0 a1) (slices_Equal_int_int.f (k + 1) a0 a1) := by
 intro a0 a1 k; have ih0 := slices_Equal_int_int.mono_l k; unfold slices_Equal_int_int.f
 with_reducible repeat' first | exact ih0 _ _ _ _ | exact LeO.refl _ | exact LeO.none _ | refine LeO.ite ?_ ?_ | refine LeO.bind ?_ (fun _ => ?_)
theorem slices_Equal_int_int.calls (k : Nat) (A0 : Option Addr) (c0 : Nat) (l0 : List Int) (A1 : Option Addr) (c1 : Nat) (l1 : List Int) (r : Bool) (w : World) (hr0 : Kd.C (Kd.int .i64) w A0 l0.length l0) (hc0 : l0.length ≤ c0) (hr1 : Kd.C (Kd.int .i64) w A1 l1.length l1) (hc1 : l1.length ≤ c1) (h : slices_Equal_int_int.f k l0 l1 = some r) :
  Calls Tryz.prog 160 #[.slice A0 l0.length c0, .slice A1 l1.length c1] w fun e w' => e = .returned (.bool r) ∧ Drawn0 w w' := by
 have HR0 := asT hr0; have HC0 := asT hc0; clear hr0 hc0; have HR1 := asT hr1; have HC1 := asT hc1; clear hr1 hc1; have H := h; unfold slices_Equal_int_int.f at H; clear h; by_cases c3 : (l0.length : Int) = (l1.length : Int)
 ·rw [if_pos c3] at H; have c3b0 : ((l0.length : Int) == (l1.length : Int)) = true := eC c3; have c3b1 : ((l0.length : Int) != (l1.length : Int)) = false := eA c3
  have c3b2 : (l0.length == l1.length) = true := by first | simpa using c3 | (simp at c3 ⊢; omega)
  clear c3; have H' := asT H; clear H; go_enter Tryz.func160, Tryz.ntmps160
  go_wp2
  repeat (go_quiet (fail); try go_wp2)
  go_loopg [13] k (fun kq v13 w' => ∃ (x13_1 : Int), v13 = .int .i64 x13_1 ∧ Aside0 (slices_Equal_int_int.l0 kq l0 l1 (l0.length : Int) x13_1 = some r) ∧ Aside0 (kq ≤ k) ∧ Drawn0 w w')
  case atStart => exact ⟨(0), rdT, H', ⟨Nat.le_refl _⟩, drT⟩
  case round =>
   clear H'; (try clear c1 p2 c3 c3b0 c3b1 c3b2); obtain ⟨x13_1, rfl, HA, HK1, ⟨m1, rfl⟩⟩ := hrel
   cases gk with
   | zero => exact absurd HA.out (by simp [slices_Equal_int_int.l0])
   | succ k1 =>
    have H := HA.out; clear HA
    simp only [slices_Equal_int_int.l0] at H
    by_cases c4 : x13_1 < (l0.length : Int)
    ·rw [if_pos c4] at H; have c4b0 := dt c4; clear c4; by_cases c5 : 0 ≤ x13_1
     ·rw [if_pos c5] at H; have c5b0 := dt c5; clear c5; by_cases c6 : x13_1 < (l0.length : Int)
      ·rw [if_pos c6] at H; have c6b0 := dt c6; clear c6; by_cases c7 : x13_1 < (l1.length : Int)
       ·rw [if_pos c7] at H; have c7b0 := dt c7; clear c7; by_cases c8 : (rd l0 x13_1) = (rd l1 x13_1)
        ·rw [if_pos c8] at H; have c8b0 : ((rd l0 x13_1) == (rd l1 x13_1)) = true := eC c8; have c8b1 : ((rd l0 x13_1) != (rd l1 x13_1)) = false := eA c8; clear c8; have H' := asT H; clear H; have p470 : 0 ≤ (x13_1 : Int) := dT asmT; have q470 : x13_1 < (l0.length : Int) := dT asmT; obtain ⟨ad470, e470, hx470_0⟩ := Kd.at_int HR0.out x13_1 p470 q470
         cases e470
         replace p470 := eq_true p470; replace q470 := eq_true q470; have p471 : 0 ≤ (x13_1 : Int) := dT asmT; have q471 : x13_1 < (l1.length : Int) := dT asmT; obtain ⟨ad471, e471, hx471_0⟩ := Kd.at_int HR1.out x13_1 p471 q471
         cases e471
         replace p471 := eq_true p471; replace q471 := eq_true q471
         go_wp2
         repeat (go_quiet (fail); try go_wp2)
         go_roundg k1
         case measure => have := HK1.out; omega
         case rel => exact ⟨(wrap64 (x13_1 + 1)), rdT, H', ⟨by have := HK1.out; omega⟩, drT⟩
        ·rw [if_neg c8] at H; have c8b0 : ((rd l0 x13_1) == (rd l1 x13_1)) = false := eB c8; have c8b1 : ((rd l0 x13_1) != (rd l1 x13_1)) = true := eD c8; obtain rfl := oI H; have p470 : 0 ≤ (x13_1 : Int) := dT asmT; have q470 : x13_1 < (l0.length : Int) := dT asmT; obtain ⟨ad470, e470, hx470_0⟩ := Kd.at_int HR0.out x13_1 p470 q470
         cases e470
         replace p470 := eq_true p470; replace q470 := eq_true q470; have p471 : 0 ≤ (x13_1 : Int) := dT asmT; have q471 : x13_1 < (l1.length : Int) := dT asmT; obtain ⟨ad471, e471, hx471_0⟩ := Kd.at_int HR1.out x13_1 p471 q471
         cases e471
         replace p471 := eq_true p471; replace q471 := eq_true q471
         go_wp2
         repeat (go_quiet (fail); try go_wp2)
         go_ret; exact ⟨rdT, drT⟩
       ·rw [if_neg c7] at H; exact absurd H (by simp)
      ·rw [if_neg c6] at H; exact absurd H (by simp)
     ·rw [if_neg c5] at H; exact absurd H (by simp)
    ·rw [if_neg c4] at H; have c4b0 := df c4; clear c4; obtain rfl := oI H
     go_wp2
     repeat (go_quiet (fail); try go_wp2)
     go_ret; exact ⟨rdT, drT⟩
 ·rw [if_neg c3] at H; have c3b0 : ((l0.length : Int) == (l1.length : Int)) = false := eB c3; have c3b1 : ((l0.length : Int) != (l1.length : Int)) = true := eD c3
  have c3b2 : (l0.length == l1.length) = false := by first | simpa using c3 | (simp at c3 ⊢; omega)
  obtain rfl := oI H; go_enter Tryz.func160, Tryz.ntmps160
  go_wp2
  repeat (go_quiet (fail); try go_wp2)
  go_ret; exact ⟨rdT, drT⟩
mutual
def impl_IsTableau.j0 : Nat → Bool → ByteArray → List ByteArray → List (S42) → List (List Int) → Option (Bool)
 | 0, _, _, _, _, _ => none
 | k + 1, x30, x473000, x473001, x473002, x473003 => if x30 = true then (some false) else (impl_IsTableau.l0 k x473002 (x473002.length : Int) 0 x473000 x473001 x473002 x473003)
def impl_IsTableau.l0 : Nat → List (S42) → Int → Int → ByteArray → List ByteArray → List (S42) → List (List Int) → Option (Bool)
 | 0, _, _, _, _, _, _, _ => none
 | k + 1, x32, x33, x34, x473000, x473001, x473002, x473003 => if x34 < x33 then (if 0 ≤ x34 then (if x34 < (x32.length : Int) then ((impl_IsCandidate.f k ((rd_T42 x32 x34).f0)).bind fun t478 => (if t478 = true then ((impl_InputOf.f k ((rd_T42 x32 x34).f0)).bind fun t479 => (if t479.toList = x473000.toList then (if x34 < (x473003.length : Int) then ((impl_ProfileOf.f k x473001 ((rd_T42 x32 x34).f0)).bind fun t481 => ((slices_Equal_int_int.f k (rd_L6 x473003 x34) t481).bind fun t484 => (if t484 = true then (impl_IsTableau.l0 k x32 x33 (wrap64 (x34 + 1)) x473000 x473001 x473002 x473003) else (some false)))) else (none)) else (some false))) else (some false))) else (none)) else (none)) else (some true)
end
def impl_IsTableau.f (k : Nat) (a0_0 : ByteArray) (l0_1 : List ByteArray) (l0_2 : List (S42)) (l0_3 : List (List Int)) : Option (Bool) := (impl_AreConstraints.f k l0_1).bind fun t473 => (if t473 = true then ((impl_IsForm.f k a0_0).bind fun t474 => (if t474 = true then ((impl_within.f (l0_2.length : Int) 1 250).bind fun t475 => (if t475 = true then (impl_IsTableau.j0 k ((l0_3.length : Int) != (l0_2.length : Int)) a0_0 l0_1 l0_2 l0_3) else (impl_IsTableau.j0 k true a0_0 l0_1 l0_2 l0_3))) else (impl_IsTableau.j0 k true a0_0 l0_1 l0_2 l0_3))) else (impl_IsTableau.j0 k true a0_0 l0_1 l0_2 l0_3))
theorem impl_IsTableau.mono_l : ∀ k, (∀ y0 y1 y2 y3 y4, LeO (impl_IsTableau.j0 k y0 y1 y2 y3 y4) (impl_IsTableau.j0 (k + 1) y0 y1 y2 y3 y4)) ∧ (∀ y0 y1 y2 y3 y4 y5 y6, LeO (impl_IsTableau.l0 k y0 y1 y2 y3 y4 y5 y6) (impl_IsTableau.l0 (k + 1) y0 y1 y2 y3 y4 y5 y6))
 | 0 => ⟨fun _ _ _ _ _ r h => by simp [impl_IsTableau.j0] at h, fun _ _ _ _ _ _ _ r h => by simp [impl_IsTableau.l0] at h⟩
 | k + 1 => by
  obtain ⟨ih0, ih1⟩ := impl_IsTableau.mono_l k; refine ⟨?_, ?_⟩
  ·intro y0 y1 y2 y3 y4; unfold impl_IsTableau.j0
   with_reducible repeat' first | exact ih0 _ _ _ _ _ | exact ih1 _ _ _ _ _ _ _ | exact impl_AreConstraints.mono _ _ | exact impl_InputOf.mono _ _ | exact impl_IsCandidate.mono _ _ | exact impl_IsForm.mono _ _ | exact impl_ProfileOf.mono _ _ _ | exact slices_Equal_int_int.mono _ _ _ | exact LeO.refl _ | exact LeO.none _ | refine LeO.ite ?_ ?_ | refine LeO.bind ?_ (fun _ => ?_)
  ·intro y0 y1 y2 y3 y4 y5 y6; unfold impl_IsTableau.l0
   with_reducible repeat' first | exact ih0 _ _ _ _ _ | exact ih1 _ _ _ _ _ _ _ | exact impl_AreConstraints.mono _ _ | exact impl_InputOf.mono _ _ | exact impl_IsCandidate.mono _ _ | exact impl_IsForm.mono _ _ | exact impl_ProfileOf.mono _ _ _ | exact slices_Equal_int_int.mono _ _ _ | exact LeO.refl _ | exact LeO.none _ | refine LeO.ite ?_ ?_ | refine LeO.bind ?_ (fun _ => ?_)
theorem impl_IsTableau.mono : ∀ a0 a1 a2 a3 k, LeO (impl_IsTableau.f k a0 a1 a2 a3) (impl_IsTableau.f (k + 1) a0 a1 a2 a3) := by
 intro a0 a1 a2 a3 k; obtain ⟨ih0, ih1⟩ := impl_IsTableau.mono_l k; unfold impl_IsTableau.f
 with_reducible repeat' first | exact ih0 _ _ _ _ _ | exact ih1 _ _ _ _ _ _ _ | exact impl_AreConstraints.mono _ _ | exact impl_InputOf.mono _ _ | exact impl_IsCandidate.mono _ _ | exact impl_IsForm.mono _ _ | exact impl_ProfileOf.mono _ _ _ | exact slices_Equal_int_int.mono _ _ _ | exact LeO.refl _ | exact LeO.none _ | refine LeO.ite ?_ ?_ | refine LeO.bind ?_ (fun _ => ?_)
def impl_IsTableau.T6 : Bool × List (List Nat × List Nat) := (true, [([], []), ([0], [0]), ([1], [1]), ([2, 1], [2]), ([3], [3]), ([4, 3, 3], [3, 4]), ([3], [3]), ([6, 3], [3, 6]), ([5, 7, 3], [3, 5, 7]), ([3, 8], [3, 8]), ([9, 5], [9]), ([10], [10]), ([11, 10], [10, 11]), ([10], [10]), ([12, 13, 10], [10, 12, 13]), ([14, 10], [10, 14]), ([10], [10]), ([16, 10], [10, 16]), ([10], [10]), ([17, 18, 10, 10], [10, 17, 18]), ([15, 19, 19, 10], [10, 15, 19]), ([20, 10], [10, 20]), ([10, 21], [10, 21])])
def impl_IsTableau.B6 : List Nat := [0, 1, 3, 7, 15, 31, 15, 79, 255, 511, 1023, 2047, 4095, 2047, 16383, 32767, 2047, 67583, 2047, 460799, 1048575, 2097151, 4194303]
theorem impl_IsTableau.tab6 : rtab .any (opsOf Tryz.f135 6) = impl_IsTableau.T6 := by kernel_rfl
theorem impl_IsTableau.bits6 : waitsOk impl_IsTableau.T6.2 impl_IsTableau.B6 = true := by kernel_rfl
theorem impl_IsTableau.calls (k : Nat) (a0_0 : ByteArray) (A0_1 : Option Addr) (c0_1 : Nat) (l0_1 : List ByteArray) (A0_2 : Option Addr) (c0_2 : Nat) (l0_2 : List (S42)) (A0_3 : Option Addr) (c0_3 : Nat) (l0_3 : List (List Int)) (r : Bool) (w : World) (hr0_1 : Kd.C Kd.string w A0_1 l0_1.length l0_1) (hc0_1 : l0_1.length ≤ c0_1) (hr0_2 : Kd.C k42 w A0_2 l0_2.length l0_2) (hc0_2 : l0_2.length ≤ c0_2) (hr0_3 : Kd.C (Kd.slice 3 (Kd.int .i64)) w A0_3 l0_3.length l0_3) (hc0_3 : l0_3.length ≤ c0_3) (h : impl_IsTableau.f k a0_0 l0_1 l0_2 l0_3 = some r) :
  Calls Tryz.prog 135 #[.agg #[.string a0_0, .slice A0_1 l0_1.length c0_1, .slice A0_2 l0_2.length c0_2, .slice A0_3 l0_3.length c0_3]] w fun e w' => e = .returned (.bool r) ∧ Below w.heap.size w w' := by
 have hu31 := Tryz.underlying31; have hu42 := Tryz.underlying42; have HR0_1 := asT hr0_1; have HC0_1 := asT hc0_1; clear hr0_1 hc0_1; have HR0_2 := asT hr0_2; have HC0_2 := asT hc0_2; clear hr0_2 hc0_2; have HR0_3 := asT hr0_3; have HC0_3 := asT hc0_3; clear hr0_3 hc0_3; have HB := asT (Below.refl w.heap.size w); have H := h; unfold impl_IsTableau.f at H; clear h; have HC2 := asT H; clear H; go_enter Tryz.func135, Tryz.ntmps135
 go_upto_region 1 with (first | ((with_reducible refine gate_dst (N := 1) rfl ?_); (try (refine gate_guard (by rfl) ?_; dsimp only)); refine boxT (N := 1) (cs := #[.string a0_0, .slice A0_1 l0_1.length c0_1, .slice A0_2 l0_2.length c0_2, .slice A0_3 l0_3.length c0_3]) (t := 31) ?_; intro gb472 hg w3 hbox hb; have BK472 := asT hbox; have GW472 := asT (geT hg HB.out); have GE472 := GW472; replace HB := hS HB hb; clear hb hbox hg))
 (try simp only [Act.put, sA, sZ, sS])
 go_cut [30] (fun v30 wc => ∃ (kq : Nat) (x30_1 : Bool), v30 = .bool x30_1 ∧ Aside0 (impl_IsTableau.j0 kq x30_1 a0_0 l0_1 l0_2 l0_3 = some r) ∧ Aside0 (kq ≤ k) ∧ Aside0 (wc.heap[gb472]? = some (.cells #[.string a0_0, (.slice A0_1 l0_1.length c0_1), (.slice A0_2 l0_2.length c0_2), (.slice A0_3 l0_3.length c0_3)] 31 (0, 0))) ∧ Aside0 (Below w.heap.size w wc))
 case first =>
  have H := HC2.out; clear HC2; obtain ⟨t473, A4, H⟩ := be H; by_cases c5 : t473 = true
  ·subst c5; rw [if_pos rfl] at H; obtain ⟨t474, A6, H⟩ := be H; by_cases c7 : t474 = true
   ·subst c7; rw [if_pos rfl] at H; obtain ⟨t475, A8, H⟩ := be H; by_cases c9 : t475 = true
    ·subst c9; rw [if_pos rfl] at H; have H' := asT H; clear H; obtain ⟨hcz10_0, hcz10_1, hcz10_2, hcz10_3, hfz10_0, hfz10_1, hfz10_2, hfz10_3⟩ := bx4 BK472.out
     go_wp2_with (first | ((with_reducible refine gate_callee (f := 61) rfl ?_); refine goesL_ (some 7) rfl rfl Tryz.func61 (by kernel_rfl) rfl #[.slice A0_1 l0_1.length c0_1] rfl eqT ?_; (with_reducible refine (impl_AreConstraints.calls k _ _ l0_1 true _ ?side1 ?side2 A4.out).mono ?_); (case side1 => exact crT HR0_1.out HB.out); (case side2 => exact HC0_1.out); rintro e w11 ⟨rfl, hb⟩; refine ⟨_, rfl, ?_⟩; replace BK472 := bS BK472 hb; replace HB := hS HB hb; (try clear hb hb2 hk hi); obtain ⟨hcz12_0, hcz12_1, hcz12_2, hcz12_3, hfz12_0, hfz12_1, hfz12_2, hfz12_3⟩ := bx4 BK472.out) | (go_at_call 101; (with_reducible refine (impl_IsForm.calls k a0_0 true _ A6.out).mono ?_); rintro e w' ⟨rfl, ⟨nd, rfl⟩⟩) | (go_at_call 125; (with_reducible refine (impl_within.calls (l0_2.length : Int) 1 250 true _ A8.out).mono ?_); rintro e w' ⟨rfl, ⟨nd, rfl⟩⟩))
     go_meet
     case rel => exact ⟨_, (((l0_3.length : Int) != (l0_2.length : Int))), rdT, H', ⟨by first | omega | exact Nat.le_refl _⟩, kpT BK472.out, ⟨hbT HB.out⟩⟩
    ·replace c9 := eE c9; subst c9; rw [if_neg nF] at H; have H' := asT H; clear H; obtain ⟨hcz13_0, hcz13_1, hcz13_2, hcz13_3, hfz13_0, hfz13_1, hfz13_2, hfz13_3⟩ := bx4 BK472.out
     go_wp2_with (first | ((with_reducible refine gate_callee (f := 61) rfl ?_); refine goesL_ (some 7) rfl rfl Tryz.func61 (by kernel_rfl) rfl #[.slice A0_1 l0_1.length c0_1] rfl eqT ?_; (with_reducible refine (impl_AreConstraints.calls k _ _ l0_1 true _ ?side1 ?side2 A4.out).mono ?_); (case side1 => exact crT HR0_1.out HB.out); (case side2 => exact HC0_1.out); rintro e w14 ⟨rfl, hb⟩; refine ⟨_, rfl, ?_⟩; replace BK472 := bS BK472 hb; replace HB := hS HB hb; (try clear hb hb2 hk hi); obtain ⟨hcz15_0, hcz15_1, hcz15_2, hcz15_3, hfz15_0, hfz15_1, hfz15_2, hfz15_3⟩ := bx4 BK472.out) | (go_at_call 101; (with_reducible refine (impl_IsForm.calls k a0_0 true _ A6.out).mono ?_); rintro e w' ⟨rfl, ⟨nd, rfl⟩⟩) | (go_at_call 125; (with_reducible refine (impl_within.calls (l0_2.length : Int) 1 250 false _ A8.out).mono ?_); rintro e w' ⟨rfl, ⟨nd, rfl⟩⟩))
     go_meet
     case rel => exact ⟨_, (true), rdT, H', ⟨by first | omega | exact Nat.le_refl _⟩, kpT BK472.out, ⟨hbT HB.out⟩⟩
   ·replace c7 := eE c7; subst c7; rw [if_neg nF] at H; have H' := asT H; clear H; obtain ⟨hcz16_0, hcz16_1, hcz16_2, hcz16_3, hfz16_0, hfz16_1, hfz16_2, hfz16_3⟩ := bx4 BK472.out
    go_wp2_with (first | ((with_reducible refine gate_callee (f := 61) rfl ?_); refine goesL_ (some 7) rfl rfl Tryz.func61 (by kernel_rfl) rfl #[.slice A0_1 l0_1.length c0_1] rfl eqT ?_; (with_reducible refine (impl_AreConstraints.calls k _ _ l0_1 true _ ?side1 ?side2 A4.out).mono ?_); (case side1 => exact crT HR0_1.out HB.out); (case side2 => exact HC0_1.out); rintro e w17 ⟨rfl, hb⟩; refine ⟨_, rfl, ?_⟩; replace BK472 := bS BK472 hb; replace HB := hS HB hb; (try clear hb hb2 hk hi); obtain ⟨hcz18_0, hcz18_1, hcz18_2, hcz18_3, hfz18_0, hfz18_1, hfz18_2, hfz18_3⟩ := bx4 BK472.out) | (go_at_call 101; (with_reducible refine (impl_IsForm.calls k a0_0 false _ A6.out).mono ?_); rintro e w' ⟨rfl, ⟨nd, rfl⟩⟩))
    go_meet
    case rel => exact ⟨_, (true), rdT, H', ⟨by first | omega | exact Nat.le_refl _⟩, kpT BK472.out, ⟨hbT HB.out⟩⟩
  ·replace c5 := eE c5; subst c5; rw [if_neg nF] at H; have H' := asT H; clear H; obtain ⟨hcz19_0, hcz19_1, hcz19_2, hcz19_3, hfz19_0, hfz19_1, hfz19_2, hfz19_3⟩ := bx4 BK472.out
   go_wp2_with (first | ((with_reducible refine gate_callee (f := 61) rfl ?_); refine goesL_ (some 7) rfl rfl Tryz.func61 (by kernel_rfl) rfl #[.slice A0_1 l0_1.length c0_1] rfl eqT ?_; (with_reducible refine (impl_AreConstraints.calls k _ _ l0_1 false _ ?side1 ?side2 A4.out).mono ?_); (case side1 => exact crT HR0_1.out HB.out); (case side2 => exact HC0_1.out); rintro e w20 ⟨rfl, hb⟩; refine ⟨_, rfl, ?_⟩; replace BK472 := bS BK472 hb; replace HB := hS HB hb; (try clear hb hb2 hk hi)))
   go_meet
   case rel => exact ⟨_, (true), rdT, H', ⟨by first | omega | exact Nat.le_refl _⟩, kpT BK472.out, ⟨hbT HB.out⟩⟩
 case rest =>
  clear HC2; (try clear c1 p2 c5 c6 c7 c9 c13 hcz10_0 hcz10_1 hcz10_2 hcz10_3 hcz12_0 hcz12_1 hcz12_2 hcz12_3 hcz13_0 hcz13_1 hcz13_2 hcz13_3 hcz15_0 hcz15_1 hcz15_2 hcz15_3 hcz16_0 hcz16_1 hcz16_2 hcz16_3 hcz18_0 hcz18_1 hcz18_2 hcz18_3 hcz19_0 hcz19_1 hcz19_2 hcz19_3 hfz10_0 hfz10_1 hfz10_2 hfz10_3 hfz12_0 hfz12_1 hfz12_2 hfz12_3 hfz13_0 hfz13_1 hfz13_2 hfz13_3 hfz15_0 hfz15_1 hfz15_2 hfz15_3 hfz16_0 hfz16_1 hfz16_2 hfz16_3 hfz18_0 hfz18_1 hfz18_2 hfz18_3 hfz19_0 hfz19_1 hfz19_2 hfz19_3); obtain ⟨kq, x30_1, rfl, HA, HJ1, BK472, HB⟩ := hcut
  cases kq with
  | zero => exact absurd HA.out (by simp [impl_IsTableau.j0])
  | succ kj1 =>
   have H := HA.out; clear HA
   simp only [impl_IsTableau.j0] at H
   by_cases c21 : x30_1 = true
   ·subst c21; rw [if_pos rfl] at H; have H1 := H; clear H; have H := H1; clear H1; obtain rfl := oI H
    go_wp2
    go_ret; exact ⟨rlT, hbT HB.out⟩
   ·replace c21 := eE c21; subst c21; rw [if_neg nF] at H; have H' := asT H; clear H; obtain ⟨hcz22_0, hcz22_1, hcz22_2, hcz22_3, hfz22_0, hfz22_1, hfz22_2, hfz22_3⟩ := bx4 BK472.out
    go_wp2
    go_loopg [34] kj1 (fun kq v34 w' => ∃ (x34_2 : Int), v34 = .int .i64 x34_2 ∧ Aside0 (impl_IsTableau.l0 kq l0_2 (l0_2.length : Int) x34_2 a0_0 l0_1 l0_2 l0_3 = some r) ∧ Aside0 (kq ≤ kj1) ∧ Aside0 (w'.heap[gb472]? = some (.cells #[.string a0_0, (.slice A0_1 l0_1.length c0_1), (.slice A0_2 l0_2.length c0_2), (.slice A0_3 l0_3.length c0_3)] 31 (0, 0))) ∧ Aside0 (Below w.heap.size w w'))
    case atStart => exact ⟨(0), rdT, H', ⟨Nat.le_refl _⟩, kpT BK472.out, ⟨hbT HB.out⟩⟩
    case round =>
     clear H'; (try clear c1 c2 p2 c5 c6 c7 c9 c13 c21 hcz10_0 hcz10_1 hcz10_2 hcz10_3 hcz12_0 hcz12_1 hcz12_2 hcz12_3 hcz13_0 hcz13_1 hcz13_2 hcz13_3 hcz15_0 hcz15_1 hcz15_2 hcz15_3 hcz16_0 hcz16_1 hcz16_2 hcz16_3 hcz18_0 hcz18_1 hcz18_2 hcz18_3 hcz19_0 hcz19_1 hcz19_2 hcz19_3 hcz22_0 hcz22_1 hcz22_2 hcz22_3 hfz10_0 hfz10_1 hfz10_2 hfz10_3 hfz12_0 hfz12_1 hfz12_2 hfz12_3 hfz13_0 hfz13_1 hfz13_2 hfz13_3 hfz15_0 hfz15_1 hfz15_2 hfz15_3 hfz16_0 hfz16_1 hfz16_2 hfz16_3 hfz18_0 hfz18_1 hfz18_2 hfz18_3 hfz19_0 hfz19_1 hfz19_2 hfz19_3 hfz22_0 hfz22_1 hfz22_2 hfz22_3 p2); obtain ⟨x34_2, rfl, HA, HK2, BK472, HB⟩ := hrel
     cases gk with
     | zero => exact absurd HA.out (by simp [impl_IsTableau.l0])
     | succ k2 =>
      have H := HA.out; clear HA
      simp only [impl_IsTableau.l0] at H
      by_cases c23 : x34_2 < (l0_2.length : Int)
      ·rw [if_pos c23] at H; have c23b0 := dt c23; clear c23; by_cases c24 : 0 ≤ x34_2
       ·rw [if_pos c24] at H; have c24b0 := dt c24; clear c24; by_cases c25 : x34_2 < (l0_2.length : Int)
        ·rw [if_pos c25] at H; have c25b0 := dt c25; clear c25; obtain ⟨t478, A26, H⟩ := be H; by_cases c27 : t478 = true
         ·subst c27; rw [if_pos rfl] at H; obtain ⟨t479, A28, H⟩ := be H; by_cases c29 : t479.toList = a0_0.toList
          ·rw [if_pos c29] at H; have c29b0 : (t479.toList == a0_0.toList) = true := eC c29; have c29b1 : (t479.toList != a0_0.toList) = false := eA c29; clear c29; by_cases c30 : x34_2 < (l0_3.length : Int)
           ·rw [if_pos c30] at H; have c30b0 := dt c30; clear c30; obtain ⟨t481, A31, H⟩ := be H; obtain ⟨t484, A32, H⟩ := be H; by_cases c33 : t484 = true
            ·subst c33; rw [if_pos rfl] at H; have H' := asT H; clear H; have p476 : 0 ≤ (x34_2 : Int) := dT asmT; have q476 : x34_2 < (l0_2.length : Int) := dT asmT; obtain ⟨ad476, A476_0, c476_0, e476, hx476_0, hl476_0, hi476_0⟩ := at_T42 HR0_2.out x34_2 p476 q476
             cases e476
             replace hx476_0 := hbc HB.out hx476_0; have HR476_0 := asT hi476_0; have HC476_0 := asT hl476_0; clear hi476_0 hl476_0; replace p476 := eq_true p476; replace q476 := eq_true q476
             try go_wp2_with (first | ((with_reducible refine gate_dst (N := 4) rfl ?_); (try (refine gate_guard (by rfl) ?_; dsimp only)); refine boxT (N := 4) (cs := #[.slice none 0 0]) (t := 42) ?_; intro gb477 hg w34 hbox hb; have BK477 := asT (hbox); have GW477 := asT (geT hg HB.out); have GE477 := asT (geT hg HB.out); replace HB := hS HB hb; have NB472_477 := asT ((by rw [hg]; exact Nat.ne_of_lt (blk_lt (g := gb472) (o := .cells #[.string a0_0, .slice A0_1 l0_1.length c0_1, .slice (some ad476) l0_2.length c0_2, .slice A0_3 l0_3.length c0_3] 31 (0, 0)) (bkT BK472.out)) : gb472 ≠ gb477)); have NB477_472 := asT ((by rw [hg]; exact Nat.ne_of_gt (blk_lt (g := gb472) (o := .cells #[.string a0_0, .slice A0_1 l0_1.length c0_1, .slice (some ad476) l0_2.length c0_2, .slice A0_3 l0_3.length c0_3] 31 (0, 0)) (bkT BK472.out)) : gb477 ≠ gb472)); replace BK472 := bS BK472 hb; clear hb hbox hg; have hnb35 := NB477_472.out; have hnc35 := NB472_477.out; obtain ⟨hcz36_0, hfz36_0⟩ := bx1 BK477.out))
             have n0_ : Aside0 ((w34.setCell ⟨gb477, 0, none⟩ (.slice A476_0 ((rd_T42 l0_2 x34_2).f0).length c476_0)).heap[gb472]? = some (.cells #[.string a0_0, .slice A0_1 l0_1.length c0_1, .slice (some ad476) l0_2.length c0_2, .slice A0_3 l0_3.length c0_3] 31 (0, 0))) := ⟨by (with_reducible repeat (first | refine blk_drewN ?_ _ | refine blk_drew ?_ | refine blk_alloc ?_ _)); refine blk_far ?_ NB472_477.out _; (with_reducible repeat (first | refine blk_drewN ?_ _ | refine blk_drew ?_ | refine blk_alloc ?_ _)); exact BK472.out⟩; have n1_ : Aside0 ((w34.setCell ⟨gb477, 0, none⟩ (.slice A476_0 ((rd_T42 l0_2 x34_2).f0).length c476_0)).heap[gb477]? = some (.cells #[.slice A476_0 ((rd_T42 l0_2 x34_2).f0).length c476_0] 42 (0, 0))) := ⟨by (with_reducible repeat (first | refine blk_drewN ?_ _ | refine blk_drew ?_ | refine blk_alloc ?_ _)); refine blk_put (cs := #[.slice none 0 0]) ?_ 0 _ rfl; (with_reducible repeat (first | refine blk_drewN ?_ _ | refine blk_drew ?_ | refine blk_alloc ?_ _)); exact BK477.out⟩; have n2_ : Aside0 (Below w.heap.size w (w34.setCell ⟨gb477, 0, none⟩ (.slice A476_0 ((rd_T42 l0_2 x34_2).f0).length c476_0))) := ⟨hbT HB.out⟩; (try clear BK472); (try clear BK477 HB); generalize (w34.setCell ⟨gb477, 0, none⟩ (.slice A476_0 ((rd_T42 l0_2 x34_2).f0).length c476_0)) = w37 at n0_ n1_ n2_ ⊢; have BK472 := n0_; have BK477 := n1_; have HB := n2_; clear n0_ n1_ n2_; replace BK472 := asT (blk_drew BK472.out); replace BK477 := asT (blk_drew BK477.out); replace HB := asT (below_drew1 HB.out); have p480 : 0 ≤ (x34_2 : Int) := dT asmT; have q480 : x34_2 < (l0_3.length : Int) := dT asmT; obtain ⟨ad480, A480_0, c480_0, e480, hx480_0, hl480_0, hi480_0⟩ := at_L6 HR0_3.out x34_2 p480 q480; have hw480_0 := hx480_0
             cases e480
             replace hx480_0 := hbc HB.out hx480_0; have HR480_0 := asT hi480_0; have HC480_0 := asT hl480_0; clear hi480_0 hl480_0; replace p480 := eq_true p480; replace q480 := eq_true q480; refine start_ (n := 23) (S := fun w' => w'.cell? ⟨gb477, 0, none⟩ = some (.slice A476_0 ((rd_T42 l0_2 x34_2).f0).length c476_0) ∧ w'.cell? ⟨gb472, 0, none⟩ = some (.string a0_0) ∧ w'.cell? ⟨gb472, 1, none⟩ = some (.slice A0_1 l0_1.length c0_1) ∧ w'.cell? ⟨gb472, 2, none⟩ = some (.slice (some ad476) l0_2.length c0_2) ∧ w'.cell? ⟨gb472, 3, none⟩ = some (.slice (some ad480) l0_3.length c0_3) ∧ w'.cell? (ad480.add (x34_2).toNat) = some (.slice A480_0 (rd_L6 l0_3 x34_2).length c480_0)) (ds := []) (bA 23 0) (by kernel_rfl) rfl rfl ⟨bc0 BK477.out, bc0 BK472.out, bc1 BK472.out, bc2 BK472.out, bc3 BK472.out, (hbc HB.out hw480_0 :)⟩ (fun hHeld => ?_); refine with_tabW impl_IsTableau.tab6 impl_IsTableau.bits6 (fun HT_ HW_ => ?_); generalize w37.drew = w38 at BK472 BK477 HB HR480_0 hx480_0 hHeld ⊢; refine tA 0 39 23 1 HT_.out HW_.out hHeld ?_ rfl rfl; refine oA 1 40 23 3 HT_.out (fun K hK => ?_) rfl rfl; refine goes_ Tryz.func108 (by kernel_rfl) rfl #[.agg #[.slice A476_0 ((rd_T42 l0_2 x34_2).f0).length c476_0]] (by rfl) rfl rfl eqT ?_
             (with_reducible refine (impl_IsCandidate.calls k2 _ _ ((rd_T42 l0_2 x34_2).f0) true _ ?side1 ?side2 A26.out).mono ?_); (case side1 => exact crT HR476_0.out HB.out); (case side2 => exact HC476_0.out); rintro e w39 ⟨rfl, hb⟩; refine ⟨_, rfl, ?_⟩; replace BK472 := bS BK472 hb; replace BK477 := bS BK477 hb; replace HB := hS HB hb; (try clear hb hb2 hk hi)
             refine hK.out _ _ ⟨bc0 BK477.out, bc0 BK472.out, bc1 BK472.out, bc2 BK472.out, bc3 BK472.out, (hbc HB.out hw480_0 :)⟩ (fun hHeld => ?_); clear hK K; refine nB 40 ?_ rfl; refine pA 2 41 23 7 HT_.out ?_ rfl rfl; refine pA 3 42 23 15 HT_.out ?_ rfl rfl; refine pA 6 45 23 79 HT_.out ?_ rfl rfl; refine tA 4 43 23 95 HT_.out HW_.out hHeld ?_ rfl rfl; refine tA 7 46 23 223 HT_.out HW_.out hHeld ?_ rfl rfl; refine oA 5 44 23 255 HT_.out (fun K hK => ?_) rfl rfl; refine goes_ Tryz.func30 (by kernel_rfl) rfl #[.agg #[.slice A476_0 ((rd_T42 l0_2 x34_2).f0).length c476_0]] (by rfl) rfl rfl eqT ?_
             (with_reducible refine (impl_InputOf.calls k2 _ _ ((rd_T42 l0_2 x34_2).f0) t479 _ ?side1 ?side2 A28.out).mono ?_); (case side1 => exact crT HR476_0.out HB.out); (case side2 => exact HC476_0.out); rintro e w40 ⟨rfl, hb⟩; refine ⟨_, rfl, ?_⟩; replace BK472 := bS BK472 hb; replace BK477 := bS BK477 hb; replace HB := hS HB hb; (try clear hb hb2 hk hi)
             refine hK.out _ _ ⟨bc0 BK477.out, bc0 BK472.out, bc1 BK472.out, bc2 BK472.out, bc3 BK472.out, (hbc HB.out hw480_0 :)⟩ (fun hHeld => ?_); clear hK K; refine nB 44 ?_ rfl; refine pA 8 47 23 511 HT_.out ?_ rfl rfl; refine pA 9 48 23 1023 HT_.out ?_ rfl rfl; refine pA 10 49 23 2047 HT_.out ?_ rfl rfl; refine pA 11 50 23 4095 HT_.out ?_ rfl rfl; refine pA 13 52 23 12287 HT_.out ?_ rfl rfl; refine pA 16 55 23 77823 HT_.out ?_ rfl rfl; refine tA 12 51 23 81919 HT_.out HW_.out hHeld ?_ rfl rfl; refine pA 14 53 23 98303 HT_.out ?_ rfl rfl; refine tA 15 54 23 131071 HT_.out HW_.out hHeld ?_ rfl rfl; refine tA 17 56 23 262143 HT_.out HW_.out hHeld ?_ rfl rfl; refine tA 18 57 23 524287 HT_.out HW_.out hHeld ?_ rfl rfl; refine oA 19 58 23 1048575 HT_.out (fun K hK => ?_) rfl rfl; refine goes_ Tryz.func54 (by kernel_rfl) rfl #[.slice A0_1 l0_1.length c0_1, .agg #[.slice A476_0 ((rd_T42 l0_2 x34_2).f0).length c476_0]] (by rfl) rfl rfl eqT ?_
             (with_reducible refine (impl_ProfileOf.calls k2 _ _ l0_1 _ _ ((rd_T42 l0_2 x34_2).f0) t481 _ ?side1 ?side2 ?side3 ?side4 A31.out).mono ?_); (case side1 => exact crT HR0_1.out HB.out); (case side2 => exact HC0_1.out); (case side3 => exact crT HR476_0.out HB.out); (case side4 => exact HC476_0.out); rintro e w41 ⟨v482, rfl, ho0, hb⟩; refine ⟨_, rfl, ?_⟩; have HO483 := asT (Kd.R_lower ho0 (below_size (hbT HB.out))); replace BK472 := bS BK472 hb; replace BK477 := bS BK477 hb; replace HB := hS HB hb; (try clear hb hb2 hk hi ho0); obtain ⟨Ao42, co42, eo42⟩ := Kd.R_slice HO483.out; (first | subst eo42 | (injection eo42 with f1_ f2_ f3_; have f4_ := f1_.symm; have f5_ := f3_.symm; clear f1_ f2_ f3_; subst f4_; subst f5_))
             refine hK.out _ _ ⟨bc0 BK477.out, bc0 BK472.out, bc1 BK472.out, bc2 BK472.out, bc3 BK472.out, (hbc HB.out hw480_0 :)⟩ (fun hHeld => ?_); clear hK K; refine nB 58 ?_ rfl; refine oA 20 59 23 2097151 HT_.out (fun K hK => ?_) rfl rfl; refine goes_ Tryz.func160 (by kernel_rfl) rfl #[.slice A480_0 (rd_L6 l0_3 x34_2).length c480_0, .slice Ao42 t481.length co42] (by rfl) rfl rfl eqT ?_
             (with_reducible refine (slices_Equal_int_int.calls k2 _ _ (rd_L6 l0_3 x34_2) _ _ t481 true _ ?side1 ?side2 ?side3 ?side4 A32.out).mono ?_); (case side1 => exact crT HR480_0.out HB.out); (case side2 => exact HC480_0.out); (case side3 => exact caT (Kd.R_reads' HO483.out).2.2); (case side4 => exact (Kd.R_reads' HO483.out).2.1); rintro e w' ⟨rfl, ⟨nd, rfl⟩⟩; refine ⟨_, rfl, ?_⟩
             refine hK.out _ _ ⟨bc0 BK477.out, bc0 BK472.out, bc1 BK472.out, bc2 BK472.out, bc3 BK472.out, (hbc HB.out hw480_0 :)⟩ (fun hHeld => ?_); clear hK K; refine nB 59 ?_ rfl; refine pA 21 60 23 4194303 HT_.out ?_ rfl rfl; refine pA 22 61 23 8388607 HT_.out ?_ rfl rfl; refine done_ (done_of HT_.out (by kernel_rfl)) ?_
             try go_wp2
             go_roundg k2
             case measure => have := HJ1.out; have := HK2.out; omega
             case rel => exact ⟨(wrap64 (x34_2 + 1)), rdT, H', ⟨by have := HJ1.out; have := HK2.out; omega⟩, kpT BK472.out, ⟨hbT HB.out⟩⟩
            ·replace c33 := eE c33; subst c33; rw [if_neg nF] at H; have H1 := H; clear H; have H := H1; clear H1; obtain rfl := oI H; have p476 : 0 ≤ (x34_2 : Int) := dT asmT; have q476 : x34_2 < (l0_2.length : Int) := dT asmT; obtain ⟨ad476, A476_0, c476_0, e476, hx476_0, hl476_0, hi476_0⟩ := at_T42 HR0_2.out x34_2 p476 q476
             cases e476
             replace hx476_0 := hbc HB.out hx476_0; have HR476_0 := asT hi476_0; have HC476_0 := asT hl476_0; clear hi476_0 hl476_0; replace p476 := eq_true p476; replace q476 := eq_true q476
             try go_wp2_with (first | ((with_reducible refine gate_dst (N := 4) rfl ?_); (try (refine gate_guard (by rfl) ?_; dsimp only)); refine boxT (N := 4) (cs := #[.slice none 0 0]) (t := 42) ?_; intro gb477 hg w43 hbox hb; have BK477 := asT (hbox); have GW477 := asT (geT hg HB.out); have GE477 := asT (geT hg HB.out); replace HB := hS HB hb; have NB472_477 := asT ((by rw [hg]; exact Nat.ne_of_lt (blk_lt (g := gb472) (o := .cells #[.string a0_0, .slice A0_1 l0_1.length c0_1, .slice (some ad476) l0_2.length c0_2, .slice A0_3 l0_3.length c0_3] 31 (0, 0)) (bkT BK472.out)) : gb472 ≠ gb477)); have NB477_472 := asT ((by rw [hg]; exact Nat.ne_of_gt (blk_lt (g := gb472) (o := .cells #[.string a0_0, .slice A0_1 l0_1.length c0_1, .slice (some ad476) l0_2.length c0_2, .slice A0_3 l0_3.length c0_3] 31 (0, 0)) (bkT BK472.out)) : gb477 ≠ gb472)); replace BK472 := bS BK472 hb; clear hb hbox hg; have hnb44 := NB477_472.out; have hnc44 := NB472_477.out; obtain ⟨hcz45_0, hfz45_0⟩ := bx1 BK477.out))
             have n0_ : Aside0 ((w43.setCell ⟨gb477, 0, none⟩ (.slice A476_0 ((rd_T42 l0_2 x34_2).f0).length c476_0)).heap[gb472]? = some (.cells #[.string a0_0, .slice A0_1 l0_1.length c0_1, .slice (some ad476) l0_2.length c0_2, .slice A0_3 l0_3.length c0_3] 31 (0, 0))) := ⟨by (with_reducible repeat (first | refine blk_drewN ?_ _ | refine blk_drew ?_ | refine blk_alloc ?_ _)); refine blk_far ?_ NB472_477.out _; (with_reducible repeat (first | refine blk_drewN ?_ _ | refine blk_drew ?_ | refine blk_alloc ?_ _)); exact BK472.out⟩; have n1_ : Aside0 ((w43.setCell ⟨gb477, 0, none⟩ (.slice A476_0 ((rd_T42 l0_2 x34_2).f0).length c476_0)).heap[gb477]? = some (.cells #[.slice A476_0 ((rd_T42 l0_2 x34_2).f0).length c476_0] 42 (0, 0))) := ⟨by (with_reducible repeat (first | refine blk_drewN ?_ _ | refine blk_drew ?_ | refine blk_alloc ?_ _)); refine blk_put (cs := #[.slice none 0 0]) ?_ 0 _ rfl; (with_reducible repeat (first | refine blk_drewN ?_ _ | refine blk_drew ?_ | refine blk_alloc ?_ _)); exact BK477.out⟩; have n2_ : Aside0 (Below w.heap.size w (w43.setCell ⟨gb477, 0, none⟩ (.slice A476_0 ((rd_T42 l0_2 x34_2).f0).length c476_0))) := ⟨hbT HB.out⟩; (try clear BK472); (try clear BK477 HB); generalize (w43.setCell ⟨gb477, 0, none⟩ (.slice A476_0 ((rd_T42 l0_2 x34_2).f0).length c476_0)) = w46 at n0_ n1_ n2_ ⊢; have BK472 := n0_; have BK477 := n1_; have HB := n2_; clear n0_ n1_ n2_; replace BK472 := asT (blk_drew BK472.out); replace BK477 := asT (blk_drew BK477.out); replace HB := asT (below_drew1 HB.out); have p480 : 0 ≤ (x34_2 : Int) := dT asmT; have q480 : x34_2 < (l0_3.length : Int) := dT asmT; obtain ⟨ad480, A480_0, c480_0, e480, hx480_0, hl480_0, hi480_0⟩ := at_L6 HR0_3.out x34_2 p480 q480; have hw480_0 := hx480_0
             cases e480
             replace hx480_0 := hbc HB.out hx480_0; have HR480_0 := asT hi480_0; have HC480_0 := asT hl480_0; clear hi480_0 hl480_0; replace p480 := eq_true p480; replace q480 := eq_true q480; refine start_ (n := 23) (S := fun w' => w'.cell? ⟨gb477, 0, none⟩ = some (.slice A476_0 ((rd_T42 l0_2 x34_2).f0).length c476_0) ∧ w'.cell? ⟨gb472, 0, none⟩ = some (.string a0_0) ∧ w'.cell? ⟨gb472, 1, none⟩ = some (.slice A0_1 l0_1.length c0_1) ∧ w'.cell? ⟨gb472, 2, none⟩ = some (.slice (some ad476) l0_2.length c0_2) ∧ w'.cell? ⟨gb472, 3, none⟩ = some (.slice (some ad480) l0_3.length c0_3) ∧ w'.cell? (ad480.add (x34_2).toNat) = some (.slice A480_0 (rd_L6 l0_3 x34_2).length c480_0)) (ds := []) (bA 23 0) (by kernel_rfl) rfl rfl ⟨bc0 BK477.out, bc0 BK472.out, bc1 BK472.out, bc2 BK472.out, bc3 BK472.out, (hbc HB.out hw480_0 :)⟩ (fun hHeld => ?_); refine with_tabW impl_IsTableau.tab6 impl_IsTableau.bits6 (fun HT_ HW_ => ?_); generalize w46.drew = w47 at BK472 BK477 HB HR480_0 hx480_0 hHeld ⊢; refine tA 0 39 23 1 HT_.out HW_.out hHeld ?_ rfl rfl; refine oA 1 40 23 3 HT_.out (fun K hK => ?_) rfl rfl; refine goes_ Tryz.func108 (by kernel_rfl) rfl #[.agg #[.slice A476_0 ((rd_T42 l0_2 x34_2).f0).length c476_0]] (by rfl) rfl rfl eqT ?_
             (with_reducible refine (impl_IsCandidate.calls k2 _ _ ((rd_T42 l0_2 x34_2).f0) true _ ?side1 ?side2 A26.out).mono ?_); (case side1 => exact crT HR476_0.out HB.out); (case side2 => exact HC476_0.out); rintro e w48 ⟨rfl, hb⟩; refine ⟨_, rfl, ?_⟩; replace BK472 := bS BK472 hb; replace BK477 := bS BK477 hb; replace HB := hS HB hb; (try clear hb hb2 hk hi)
             refine hK.out _ _ ⟨bc0 BK477.out, bc0 BK472.out, bc1 BK472.out, bc2 BK472.out, bc3 BK472.out, (hbc HB.out hw480_0 :)⟩ (fun hHeld => ?_); clear hK K; refine nB 40 ?_ rfl; refine pA 2 41 23 7 HT_.out ?_ rfl rfl; refine pA 3 42 23 15 HT_.out ?_ rfl rfl; refine pA 6 45 23 79 HT_.out ?_ rfl rfl; refine tA 4 43 23 95 HT_.out HW_.out hHeld ?_ rfl rfl; refine tA 7 46 23 223 HT_.out HW_.out hHeld ?_ rfl rfl; refine oA 5 44 23 255 HT_.out (fun K hK => ?_) rfl rfl; refine goes_ Tryz.func30 (by kernel_rfl) rfl #[.agg #[.slice A476_0 ((rd_T42 l0_2 x34_2).f0).length c476_0]] (by rfl) rfl rfl eqT ?_
             (with_reducible refine (impl_InputOf.calls k2 _ _ ((rd_T42 l0_2 x34_2).f0) t479 _ ?side1 ?side2 A28.out).mono ?_); (case side1 => exact crT HR476_0.out HB.out); (case side2 => exact HC476_0.out); rintro e w49 ⟨rfl, hb⟩; refine ⟨_, rfl, ?_⟩; replace BK472 := bS BK472 hb; replace BK477 := bS BK477 hb; replace HB := hS HB hb; (try clear hb hb2 hk hi)
             refine hK.out _ _ ⟨bc0 BK477.out, bc0 BK472.out, bc1 BK472.out, bc2 BK472.out, bc3 BK472.out, (hbc HB.out hw480_0 :)⟩ (fun hHeld => ?_); clear hK K; refine nB 44 ?_ rfl; refine pA 8 47 23 511 HT_.out ?_ rfl rfl; refine pA 9 48 23 1023 HT_.out ?_ rfl rfl; refine pA 10 49 23 2047 HT_.out ?_ rfl rfl; refine pA 11 50 23 4095 HT_.out ?_ rfl rfl; refine pA 13 52 23 12287 HT_.out ?_ rfl rfl; refine pA 16 55 23 77823 HT_.out ?_ rfl rfl; refine tA 12 51 23 81919 HT_.out HW_.out hHeld ?_ rfl rfl; refine pA 14 53 23 98303 HT_.out ?_ rfl rfl; refine tA 15 54 23 131071 HT_.out HW_.out hHeld ?_ rfl rfl; refine tA 17 56 23 262143 HT_.out HW_.out hHeld ?_ rfl rfl; refine tA 18 57 23 524287 HT_.out HW_.out hHeld ?_ rfl rfl; refine oA 19 58 23 1048575 HT_.out (fun K hK => ?_) rfl rfl; refine goes_ Tryz.func54 (by kernel_rfl) rfl #[.slice A0_1 l0_1.length c0_1, .agg #[.slice A476_0 ((rd_T42 l0_2 x34_2).f0).length c476_0]] (by rfl) rfl rfl eqT ?_
             (with_reducible refine (impl_ProfileOf.calls k2 _ _ l0_1 _ _ ((rd_T42 l0_2 x34_2).f0) t481 _ ?side1 ?side2 ?side3 ?side4 A31.out).mono ?_); (case side1 => exact crT HR0_1.out HB.out); (case side2 => exact HC0_1.out); (case side3 => exact crT HR476_0.out HB.out); (case side4 => exact HC476_0.out); rintro e w50 ⟨v482, rfl, ho0, hb⟩; refine ⟨_, rfl, ?_⟩; have HO483 := asT (Kd.R_lower ho0 (below_size (hbT HB.out))); replace BK472 := bS BK472 hb; replace BK477 := bS BK477 hb; replace HB := hS HB hb; (try clear hb hb2 hk hi ho0); obtain ⟨Ao51, co51, eo51⟩ := Kd.R_slice HO483.out; (first | subst eo51 | (injection eo51 with f1_ f2_ f3_; have f4_ := f1_.symm; have f5_ := f3_.symm; clear f1_ f2_ f3_; subst f4_; subst f5_))
             refine hK.out _ _ ⟨bc0 BK477.out, bc0 BK472.out, bc1 BK472.out, bc2 BK472.out, bc3 BK472.out, (hbc HB.out hw480_0 :)⟩ (fun hHeld => ?_); clear hK K; refine nB 58 ?_ rfl; refine oA 20 59 23 2097151 HT_.out (fun K hK => ?_) rfl rfl; refine goes_ Tryz.func160 (by kernel_rfl) rfl #[.slice A480_0 (rd_L6 l0_3 x34_2).length c480_0, .slice Ao51 t481.length co51] (by rfl) rfl rfl eqT ?_
             (with_reducible refine (slices_Equal_int_int.calls k2 _ _ (rd_L6 l0_3 x34_2) _ _ t481 false _ ?side1 ?side2 ?side3 ?side4 A32.out).mono ?_); (case side1 => exact crT HR480_0.out HB.out); (case side2 => exact HC480_0.out); (case side3 => exact caT (Kd.R_reads' HO483.out).2.2); (case side4 => exact (Kd.R_reads' HO483.out).2.1); rintro e w' ⟨rfl, ⟨nd, rfl⟩⟩; refine ⟨_, rfl, ?_⟩
             refine hK.out _ _ ⟨bc0 BK477.out, bc0 BK472.out, bc1 BK472.out, bc2 BK472.out, bc3 BK472.out, (hbc HB.out hw480_0 :)⟩ (fun hHeld => ?_); clear hK K; refine nB 59 ?_ rfl; refine pA 21 60 23 4194303 HT_.out ?_ rfl rfl; refine pA 22 61 23 8388607 HT_.out ?_ rfl rfl; refine done_ (done_of HT_.out (by kernel_rfl)) ?_
             try go_wp2
             go_ret; exact ⟨rlT, hbT HB.out⟩
           ·rw [if_neg c30] at H; exact absurd H (by simp)
          ·rw [if_neg c29] at H; have c29b0 : (t479.toList == a0_0.toList) = false := eB c29; have c29b1 : (t479.toList != a0_0.toList) = true := eD c29; obtain rfl := oI H; have p476 : 0 ≤ (x34_2 : Int) := dT asmT; have q476 : x34_2 < (l0_2.length : Int) := dT asmT; obtain ⟨ad476, A476_0, c476_0, e476, hx476_0, hl476_0, hi476_0⟩ := at_T42 HR0_2.out x34_2 p476 q476
           cases e476
           replace hx476_0 := hbc HB.out hx476_0; have HR476_0 := asT hi476_0; have HC476_0 := asT hl476_0; clear hi476_0 hl476_0; replace p476 := eq_true p476; replace q476 := eq_true q476
           try go_wp2_with (first | ((with_reducible refine gate_dst (N := 4) rfl ?_); (try (refine gate_guard (by rfl) ?_; dsimp only)); refine boxT (N := 4) (cs := #[.slice none 0 0]) (t := 42) ?_; intro gb477 hg w52 hbox hb; have BK477 := asT (hbox); have GW477 := asT (geT hg HB.out); have GE477 := asT (geT hg HB.out); replace HB := hS HB hb; have NB472_477 := asT ((by rw [hg]; exact Nat.ne_of_lt (blk_lt (g := gb472) (o := .cells #[.string a0_0, .slice A0_1 l0_1.length c0_1, .slice (some ad476) l0_2.length c0_2, .slice A0_3 l0_3.length c0_3] 31 (0, 0)) (bkT BK472.out)) : gb472 ≠ gb477)); have NB477_472 := asT ((by rw [hg]; exact Nat.ne_of_gt (blk_lt (g := gb472) (o := .cells #[.string a0_0, .slice A0_1 l0_1.length c0_1, .slice (some ad476) l0_2.length c0_2, .slice A0_3 l0_3.length c0_3] 31 (0, 0)) (bkT BK472.out)) : gb477 ≠ gb472)); replace BK472 := bS BK472 hb; clear hb hbox hg; have hnb53 := NB477_472.out; have hnc53 := NB472_477.out; obtain ⟨hcz54_0, hfz54_0⟩ := bx1 BK477.out))
           have n0_ : Aside0 ((w52.setCell ⟨gb477, 0, none⟩ (.slice A476_0 ((rd_T42 l0_2 x34_2).f0).length c476_0)).heap[gb472]? = some (.cells #[.string a0_0, .slice A0_1 l0_1.length c0_1, .slice (some ad476) l0_2.length c0_2, .slice A0_3 l0_3.length c0_3] 31 (0, 0))) := ⟨by (with_reducible repeat (first | refine blk_drewN ?_ _ | refine blk_drew ?_ | refine blk_alloc ?_ _)); refine blk_far ?_ NB472_477.out _; (with_reducible repeat (first | refine blk_drewN ?_ _ | refine blk_drew ?_ | refine blk_alloc ?_ _)); exact BK472.out⟩; have n1_ : Aside0 ((w52.setCell ⟨gb477, 0, none⟩ (.slice A476_0 ((rd_T42 l0_2 x34_2).f0).length c476_0)).heap[gb477]? = some (.cells #[.slice A476_0 ((rd_T42 l0_2 x34_2).f0).length c476_0] 42 (0, 0))) := ⟨by (with_reducible repeat (first | refine blk_drewN ?_ _ | refine blk_drew ?_ | refine blk_alloc ?_ _)); refine blk_put (cs := #[.slice none 0 0]) ?_ 0 _ rfl; (with_reducible repeat (first | refine blk_drewN ?_ _ | refine blk_drew ?_ | refine blk_alloc ?_ _)); exact BK477.out⟩; have n2_ : Aside0 (Below w.heap.size w (w52.setCell ⟨gb477, 0, none⟩ (.slice A476_0 ((rd_T42 l0_2 x34_2).f0).length c476_0))) := ⟨hbT HB.out⟩; (try clear BK472); (try clear BK477 HB); generalize (w52.setCell ⟨gb477, 0, none⟩ (.slice A476_0 ((rd_T42 l0_2 x34_2).f0).length c476_0)) = w55 at n0_ n1_ n2_ ⊢; have BK472 := n0_; have BK477 := n1_; have HB := n2_; clear n0_ n1_ n2_; replace BK472 := asT (blk_drew BK472.out); replace BK477 := asT (blk_drew BK477.out); replace HB := asT (below_drew1 HB.out); refine start_ (n := 23) (S := fun w' => w'.cell? ⟨gb477, 0, none⟩ = some (.slice A476_0 ((rd_T42 l0_2 x34_2).f0).length c476_0) ∧ w'.cell? ⟨gb472, 0, none⟩ = some (.string a0_0) ∧ w'.cell? ⟨gb472, 1, none⟩ = some (.slice A0_1 l0_1.length c0_1) ∧ w'.cell? ⟨gb472, 2, none⟩ = some (.slice (some ad476) l0_2.length c0_2) ∧ w'.cell? ⟨gb472, 3, none⟩ = some (.slice A0_3 l0_3.length c0_3)) (ds := []) (bA 23 0) (by kernel_rfl) rfl rfl ⟨bc0 BK477.out, bc0 BK472.out, bc1 BK472.out, bc2 BK472.out, bc3 BK472.out⟩ (fun hHeld => ?_); refine with_tabW impl_IsTableau.tab6 impl_IsTableau.bits6 (fun HT_ HW_ => ?_); generalize w55.drew = w56 at BK472 BK477 HB hHeld ⊢; refine tA 0 39 23 1 HT_.out HW_.out hHeld ?_ rfl rfl; refine oA 1 40 23 3 HT_.out (fun K hK => ?_) rfl rfl; refine goes_ Tryz.func108 (by kernel_rfl) rfl #[.agg #[.slice A476_0 ((rd_T42 l0_2 x34_2).f0).length c476_0]] (by rfl) rfl rfl eqT ?_
           (with_reducible refine (impl_IsCandidate.calls k2 _ _ ((rd_T42 l0_2 x34_2).f0) true _ ?side1 ?side2 A26.out).mono ?_); (case side1 => exact crT HR476_0.out HB.out); (case side2 => exact HC476_0.out); rintro e w57 ⟨rfl, hb⟩; refine ⟨_, rfl, ?_⟩; replace BK472 := bS BK472 hb; replace BK477 := bS BK477 hb; replace HB := hS HB hb; (try clear hb hb2 hk hi)
           refine hK.out _ _ ⟨bc0 BK477.out, bc0 BK472.out, bc1 BK472.out, bc2 BK472.out, bc3 BK472.out⟩ (fun hHeld => ?_); clear hK K; refine nB 40 ?_ rfl; refine pA 2 41 23 7 HT_.out ?_ rfl rfl; refine pA 3 42 23 15 HT_.out ?_ rfl rfl; refine pA 6 45 23 79 HT_.out ?_ rfl rfl; refine tA 4 43 23 95 HT_.out HW_.out hHeld ?_ rfl rfl; refine tA 7 46 23 223 HT_.out HW_.out hHeld ?_ rfl rfl; refine oA 5 44 23 255 HT_.out (fun K hK => ?_) rfl rfl; refine goes_ Tryz.func30 (by kernel_rfl) rfl #[.agg #[.slice A476_0 ((rd_T42 l0_2 x34_2).f0).length c476_0]] (by rfl) rfl rfl eqT ?_
           (with_reducible refine (impl_InputOf.calls k2 _ _ ((rd_T42 l0_2 x34_2).f0) t479 _ ?side1 ?side2 A28.out).mono ?_); (case side1 => exact crT HR476_0.out HB.out); (case side2 => exact HC476_0.out); rintro e w58 ⟨rfl, hb⟩; refine ⟨_, rfl, ?_⟩; replace BK472 := bS BK472 hb; replace BK477 := bS BK477 hb; replace HB := hS HB hb; (try clear hb hb2 hk hi)
           refine hK.out _ _ ⟨bc0 BK477.out, bc0 BK472.out, bc1 BK472.out, bc2 BK472.out, bc3 BK472.out⟩ (fun hHeld => ?_); clear hK K; refine nB 44 ?_ rfl; refine pA 8 47 23 511 HT_.out ?_ rfl rfl; refine pA 9 48 23 1023 HT_.out ?_ rfl rfl; refine pA 10 49 23 2047 HT_.out ?_ rfl rfl; refine uA 11 50 23 4095 HT_.out ?_ rfl rfl; refine uA 12 51 23 8191 HT_.out ?_ rfl rfl; refine uA 13 52 23 16383 HT_.out ?_ rfl rfl; refine uA 14 53 23 32767 HT_.out ?_ rfl rfl; refine uA 15 54 23 65535 HT_.out ?_ rfl rfl; refine uA 16 55 23 131071 HT_.out ?_ rfl rfl; refine uA 17 56 23 262143 HT_.out ?_ rfl rfl; refine uA 18 57 23 524287 HT_.out ?_ rfl rfl; refine uA 19 58 23 1048575 HT_.out ?_ rfl rfl; refine uA 20 59 23 2097151 HT_.out ?_ rfl rfl; refine uA 21 60 23 4194303 HT_.out ?_ rfl rfl; refine pA 22 61 23 8388607 HT_.out ?_ rfl rfl; refine done_ (done_of HT_.out (by kernel_rfl)) ?_
           try go_wp2
           go_ret; exact ⟨rlT, hbT HB.out⟩
         ·replace c27 := eE c27; subst c27; rw [if_neg nF] at H; have H1 := H; clear H; have H := H1; clear H1; obtain rfl := oI H; have p476 : 0 ≤ (x34_2 : Int) := dT asmT; have q476 : x34_2 < (l0_2.length : Int) := dT asmT; obtain ⟨ad476, A476_0, c476_0, e476, hx476_0, hl476_0, hi476_0⟩ := at_T42 HR0_2.out x34_2 p476 q476
          cases e476
          replace hx476_0 := hbc HB.out hx476_0; have HR476_0 := asT hi476_0; have HC476_0 := asT hl476_0; clear hi476_0 hl476_0; replace p476 := eq_true p476; replace q476 := eq_true q476
          try go_wp2_with (first | ((with_reducible refine gate_dst (N := 4) rfl ?_); (try (refine gate_guard (by rfl) ?_; dsimp only)); refine boxT (N := 4) (cs := #[.slice none 0 0]) (t := 42) ?_; intro gb477 hg w59 hbox hb; have BK477 := asT (hbox); have GW477 := asT (geT hg HB.out); have GE477 := asT (geT hg HB.out); replace HB := hS HB hb; have NB472_477 := asT ((by rw [hg]; exact Nat.ne_of_lt (blk_lt (g := gb472) (o := .cells #[.string a0_0, .slice A0_1 l0_1.length c0_1, .slice (some ad476) l0_2.length c0_2, .slice A0_3 l0_3.length c0_3] 31 (0, 0)) (bkT BK472.out)) : gb472 ≠ gb477)); have NB477_472 := asT ((by rw [hg]; exact Nat.ne_of_gt (blk_lt (g := gb472) (o := .cells #[.string a0_0, .slice A0_1 l0_1.length c0_1, .slice (some ad476) l0_2.length c0_2, .slice A0_3 l0_3.length c0_3] 31 (0, 0)) (bkT BK472.out)) : gb477 ≠ gb472)); replace BK472 := bS BK472 hb; clear hb hbox hg; have hnb60 := NB477_472.out; have hnc60 := NB472_477.out; obtain ⟨hcz61_0, hfz61_0⟩ := bx1 BK477.out))
          have n0_ : Aside0 ((w59.setCell ⟨gb477, 0, none⟩ (.slice A476_0 ((rd_T42 l0_2 x34_2).f0).length c476_0)).heap[gb472]? = some (.cells #[.string a0_0, .slice A0_1 l0_1.length c0_1, .slice (some ad476) l0_2.length c0_2, .slice A0_3 l0_3.length c0_3] 31 (0, 0))) := ⟨by (with_reducible repeat (first | refine blk_drewN ?_ _ | refine blk_drew ?_ | refine blk_alloc ?_ _)); refine blk_far ?_ NB472_477.out _; (with_reducible repeat (first | refine blk_drewN ?_ _ | refine blk_drew ?_ | refine blk_alloc ?_ _)); exact BK472.out⟩; have n1_ : Aside0 ((w59.setCell ⟨gb477, 0, none⟩ (.slice A476_0 ((rd_T42 l0_2 x34_2).f0).length c476_0)).heap[gb477]? = some (.cells #[.slice A476_0 ((rd_T42 l0_2 x34_2).f0).length c476_0] 42 (0, 0))) := ⟨by (with_reducible repeat (first | refine blk_drewN ?_ _ | refine blk_drew ?_ | refine blk_alloc ?_ _)); refine blk_put (cs := #[.slice none 0 0]) ?_ 0 _ rfl; (with_reducible repeat (first | refine blk_drewN ?_ _ | refine blk_drew ?_ | refine blk_alloc ?_ _)); exact BK477.out⟩; have n2_ : Aside0 (Below w.heap.size w (w59.setCell ⟨gb477, 0, none⟩ (.slice A476_0 ((rd_T42 l0_2 x34_2).f0).length c476_0))) := ⟨hbT HB.out⟩; (try clear BK472); (try clear BK477 HB); generalize (w59.setCell ⟨gb477, 0, none⟩ (.slice A476_0 ((rd_T42 l0_2 x34_2).f0).length c476_0)) = w62 at n0_ n1_ n2_ ⊢; have BK472 := n0_; have BK477 := n1_; have HB := n2_; clear n0_ n1_ n2_; replace BK472 := asT (blk_drew BK472.out); replace BK477 := asT (blk_drew BK477.out); replace HB := asT (below_drew1 HB.out); refine start_ (n := 23) (S := fun w' => w'.cell? ⟨gb477, 0, none⟩ = some (.slice A476_0 ((rd_T42 l0_2 x34_2).f0).length c476_0)) (ds := []) (bA 23 0) (by kernel_rfl) rfl rfl ((blk_cell BK477.out 0).trans rfl) (fun hHeld => ?_); refine with_tabW impl_IsTableau.tab6 impl_IsTableau.bits6 (fun HT_ HW_ => ?_); generalize w62.drew = w63 at BK472 BK477 HB hHeld ⊢; refine tA 0 39 23 1 HT_.out HW_.out hHeld ?_ rfl rfl; refine oA 1 40 23 3 HT_.out (fun K hK => ?_) rfl rfl; refine goes_ Tryz.func108 (by kernel_rfl) rfl #[.agg #[.slice A476_0 ((rd_T42 l0_2 x34_2).f0).length c476_0]] (by rfl) rfl rfl eqT ?_
          (with_reducible refine (impl_IsCandidate.calls k2 _ _ ((rd_T42 l0_2 x34_2).f0) false _ ?side1 ?side2 A26.out).mono ?_); (case side1 => exact crT HR476_0.out HB.out); (case side2 => exact HC476_0.out); rintro e w64 ⟨rfl, hb⟩; refine ⟨_, rfl, ?_⟩; replace BK472 := bS BK472 hb; replace BK477 := bS BK477 hb; replace HB := hS HB hb; (try clear hb hb2 hk hi)
          refine hK.out _ _ ((blk_cell BK477.out 0).trans rfl) (fun hHeld => ?_); clear hK K; refine nB 40 ?_ rfl; refine pA 2 41 23 7 HT_.out ?_ rfl rfl; refine pA 3 42 23 15 HT_.out ?_ rfl rfl; refine uA 4 43 23 31 HT_.out ?_ rfl rfl; refine uA 5 44 23 63 HT_.out ?_ rfl rfl; refine uA 6 45 23 127 HT_.out ?_ rfl rfl; refine uA 7 46 23 255 HT_.out ?_ rfl rfl; refine uA 8 47 23 511 HT_.out ?_ rfl rfl; refine pA 9 48 23 1023 HT_.out ?_ rfl rfl; refine pA 10 49 23 2047 HT_.out ?_ rfl rfl; refine uA 11 50 23 4095 HT_.out ?_ rfl rfl; refine uA 12 51 23 8191 HT_.out ?_ rfl rfl; refine uA 13 52 23 16383 HT_.out ?_ rfl rfl; refine uA 14 53 23 32767 HT_.out ?_ rfl rfl; refine uA 15 54 23 65535 HT_.out ?_ rfl rfl; refine uA 16 55 23 131071 HT_.out ?_ rfl rfl; refine uA 17 56 23 262143 HT_.out ?_ rfl rfl; refine uA 18 57 23 524287 HT_.out ?_ rfl rfl; refine uA 19 58 23 1048575 HT_.out ?_ rfl rfl; refine uA 20 59 23 2097151 HT_.out ?_ rfl rfl; refine uA 21 60 23 4194303 HT_.out ?_ rfl rfl; refine pA 22 61 23 8388607 HT_.out ?_ rfl rfl; refine done_ (done_of HT_.out (by kernel_rfl)) ?_
          try go_wp2
          go_ret; exact ⟨rlT, hbT HB.out⟩
        ·rw [if_neg c25] at H; exact absurd H (by simp)
       ·rw [if_neg c24] at H; exact absurd H (by simp)
      ·rw [if_neg c23] at H; have c23b0 := df c23; clear c23; obtain rfl := oI H
       go_wp2
       go_ret; exact ⟨rlT, hbT HB.out⟩
def impl_isRowOf.f (k : Nat) (a0_0 : ByteArray) (l0_1 : List ByteArray) (l0_2 : List (S42)) (l0_3 : List (List Int)) (a1 : Int) : Option (Bool) := (impl_within.f a1 0 (wrap64 ((l0_2.length : Int) - 1))).bind fun t486 => (if t486 = true then ((impl_IsTableau.f k a0_0 l0_1 l0_2 l0_3).bind fun t487 => (some t487)) else (some false))
theorem impl_isRowOf.mono : ∀ a0 a1 a2 a3 a4 k, LeO (impl_isRowOf.f k a0 a1 a2 a3 a4) (impl_isRowOf.f (k + 1) a0 a1 a2 a3 a4) := by
 intro a0 a1 a2 a3 a4 k; unfold impl_isRowOf.f
 with_reducible repeat' first | exact impl_IsTableau.mono _ _ _ _ _ | exact LeO.refl _ | exact LeO.none _ | refine LeO.ite ?_ ?_ | refine LeO.bind ?_ (fun _ => ?_)
theorem impl_isRowOf.calls (k : Nat) (a0_0 : ByteArray) (A0_1 : Option Addr) (c0_1 : Nat) (l0_1 : List ByteArray) (A0_2 : Option Addr) (c0_2 : Nat) (l0_2 : List (S42)) (A0_3 : Option Addr) (c0_3 : Nat) (l0_3 : List (List Int)) (a1 : Int) (r : Bool) (w : World) (hr0_1 : Kd.C Kd.string w A0_1 l0_1.length l0_1) (hc0_1 : l0_1.length ≤ c0_1) (hr0_2 : Kd.C k42 w A0_2 l0_2.length l0_2) (hc0_2 : l0_2.length ≤ c0_2) (hr0_3 : Kd.C (Kd.slice 3 (Kd.int .i64)) w A0_3 l0_3.length l0_3) (hc0_3 : l0_3.length ≤ c0_3) (h : impl_isRowOf.f k a0_0 l0_1 l0_2 l0_3 a1 = some r) :
  Calls Tryz.prog 76 #[.agg #[.string a0_0, .slice A0_1 l0_1.length c0_1, .slice A0_2 l0_2.length c0_2, .slice A0_3 l0_3.length c0_3], .int .i64 a1] w fun e w' => e = .returned (.bool r) ∧ Below w.heap.size w w' := by
 have hu31 := Tryz.underlying31; have HR0_1 := asT hr0_1; have HC0_1 := asT hc0_1; clear hr0_1 hc0_1; have HR0_2 := asT hr0_2; have HC0_2 := asT hc0_2; clear hr0_2 hc0_2; have HR0_3 := asT hr0_3; have HC0_3 := asT hc0_3; clear hr0_3 hc0_3; have HB := asT (Below.refl w.heap.size w); have H := h; unfold impl_isRowOf.f at H; clear h; obtain ⟨t486, A3, H⟩ := be H; by_cases c4 : t486 = true
 ·subst c4; rw [if_pos rfl] at H; obtain ⟨t487, A5, H⟩ := be H; obtain rfl := oI H; go_enter Tryz.func76, Tryz.ntmps76
  go_wp2_with (first | ((with_reducible refine gate_dst (N := 2) rfl ?_); refine boxT (N := 2) (cs := #[.string a0_0, .slice A0_1 l0_1.length c0_1, .slice A0_2 l0_2.length c0_2, .slice A0_3 l0_3.length c0_3]) (t := 31) ?_; intro gb485 hg w6 hbox hb; have BK485 := asT hbox; have GW485 := asT (geT hg HB.out); have GE485 := GW485; replace HB := hS HB hb; clear hb hbox hg; obtain ⟨hcz7_0, hcz7_1, hcz7_2, hcz7_3, hfz7_0, hfz7_1, hfz7_2, hfz7_3⟩ := bx4 BK485.out) | ((with_reducible refine gate_callee (f := 125) rfl ?_); refine goesL_ (some 10) rfl rfl Tryz.func125 (by kernel_rfl) rfl #[.int .i64 a1, .int .i64 0, .int .i64 (wrap64 ((l0_2.length : Int) - 1))] rfl eqT ?_; (with_reducible refine (impl_within.calls a1 0 (wrap64 ((l0_2.length : Int) - 1)) true _ A3.out).mono ?_); rintro e w' ⟨rfl, ⟨nd, rfl⟩⟩; refine ⟨_, rfl, ?_⟩) | (go_at_call 135; (with_reducible refine (impl_IsTableau.calls k a0_0 _ _ l0_1 _ _ l0_2 _ _ l0_3 t487 _ ?side1 ?side2 ?side3 ?side4 ?side5 ?side6 A5.out).mono ?_); (case side1 => exact crT HR0_1.out (hbT HB.out)); (case side2 => exact HC0_1.out); (case side3 => exact crT HR0_2.out (hbT HB.out)); (case side4 => exact HC0_2.out); (case side5 => exact crT HR0_3.out (hbT HB.out)); (case side6 => exact HC0_3.out); rintro e w8 ⟨rfl, hb⟩; replace BK485 := bS BK485 hb; replace HB := hS HB hb; (try clear hb hb2 hk hi)))
  go_ret; exact ⟨rlT, hbT HB.out⟩
 ·replace c4 := eE c4; subst c4; rw [if_neg nF] at H; have H1 := H; clear H; have H := H1; clear H1; obtain rfl := oI H; go_enter Tryz.func76, Tryz.ntmps76
  go_wp2_with (first | ((with_reducible refine gate_dst (N := 2) rfl ?_); refine boxT (N := 2) (cs := #[.string a0_0, .slice A0_1 l0_1.length c0_1, .slice A0_2 l0_2.length c0_2, .slice A0_3 l0_3.length c0_3]) (t := 31) ?_; intro gb485 hg w9 hbox hb; have BK485 := asT hbox; have GW485 := asT (geT hg HB.out); have GE485 := GW485; replace HB := hS HB hb; clear hb hbox hg; obtain ⟨hcz10_0, hcz10_1, hcz10_2, hcz10_3, hfz10_0, hfz10_1, hfz10_2, hfz10_3⟩ := bx4 BK485.out) | ((with_reducible refine gate_callee (f := 125) rfl ?_); refine goesL_ (some 10) rfl rfl Tryz.func125 (by kernel_rfl) rfl #[.int .i64 a1, .int .i64 0, .int .i64 (wrap64 ((l0_2.length : Int) - 1))] rfl eqT ?_; (with_reducible refine (impl_within.calls a1 0 (wrap64 ((l0_2.length : Int) - 1)) false _ A3.out).mono ?_); rintro e w' ⟨rfl, ⟨nd, rfl⟩⟩; refine ⟨_, rfl, ?_⟩))
  go_ret; exact ⟨rlT, hbT HB.out⟩
def fc_link (o : ByteArray) (a b : Int) : ByteArray := if a = 0 then o ++ ((⟨#[43]⟩ : ByteArray) ++ Utf8.encode b) else if b = 0 then (o ++ (⟨#[45]⟩ : ByteArray)) ++ Utf8.encode a else if a = b then o ++ Utf8.encode a else (o ++ (⟨#[42]⟩ : ByteArray)) ++ Utf8.encode a
def impl_FormatCandidate.l0 : Nat → List (S90) → ByteArray → Int → Option ByteArray
  | 0, _, _, _ => none
  | k + 1, l, o, i => if i < (l.length : Int) then (if 0 ≤ i then (if o.size ≤ 1000000 ∧ ((0 ≤ (rd_T90 l i).f0 ∧ (rd_T90 l i).f0 < 128) ∧ (0 ≤ (rd_T90 l i).f1 ∧ (rd_T90 l i).f1 < 128)) then impl_FormatCandidate.l0 k l (fc_link o (rd_T90 l i).f0 (rd_T90 l i).f1) (wrap64 (i + 1)) else none) else none) else (if o.toList = [] then some ⟨#[110, 111, 110, 101]⟩ else some o)
def impl_FormatCandidate.f (k : Nat) (l0_0 : List (S90)) : Option ByteArray := (impl_IsCandidate.f k l0_0).bind fun t => if t = true then impl_FormatCandidate.l0 k l0_0 ⟨#[]⟩ 0 else some ⟨#[]⟩
theorem impl_FormatCandidate.mono_l : ∀ k, (∀ y0 y1 y2, LeO (impl_FormatCandidate.l0 k y0 y1 y2) (impl_FormatCandidate.l0 (k + 1) y0 y1 y2))
  | 0 => fun _ _ _ r h => by simp [impl_FormatCandidate.l0] at h
  | k + 1 => by
    have ih0 := impl_FormatCandidate.mono_l k; intro y0 y1 y2; unfold impl_FormatCandidate.l0
    with_reducible repeat' first | exact ih0 _ _ _ | exact LeO.refl _ | exact LeO.none _ | refine LeO.ite ?_ ?_ | refine LeO.bind ?_ (fun _ => ?_)
theorem impl_FormatCandidate.mono : ∀ a0 k, LeO (impl_FormatCandidate.f k a0) (impl_FormatCandidate.f (k + 1) a0) := by
  intro a0 k; unfold impl_FormatCandidate.f
  with_reducible repeat' first | exact impl_FormatCandidate.mono_l k _ _ _ | exact impl_IsCandidate.mono _ _ | exact LeO.refl _ | exact LeO.none _ | refine LeO.ite ?_ ?_ | refine LeO.bind ?_ (fun _ => ?_)
theorem enc_size (n : Int) (h : 0 ≤ n ∧ n < 128) : (Utf8.encode n).size = 1 := by
  obtain ⟨m, rfl⟩ := Int.eq_ofNat_of_zero_le h.1
  have hm : m < 128 := by omega
  have key : ∀ m : Fin 128, (Utf8.encode ((m.val : Nat) : Int)).size = 1 := by decide +kernel
  exact key ⟨m, hm⟩
theorem i32_small (n : Int) (h : 0 ≤ n ∧ n < 128) : IntKind.i32.wrap n = n := by
  obtain ⟨m, rfl⟩ := Int.eq_ofNat_of_zero_le h.1
  have hm : m < 128 := by omega
  have key : ∀ m : Fin 128, IntKind.i32.wrap ((m.val : Nat) : Int) = ((m.val : Nat) : Int) := by decide +kernel
  exact key ⟨m, hm⟩
theorem impl_FormatCandidate.calls (k : Nat) (A0_0 : Option Addr) (c0_0 : Nat) (l0_0 : List (S90)) (r : ByteArray) (w : World) (hr0_0 : Kd.C k90 w A0_0 l0_0.length l0_0) (hc0_0 : l0_0.length ≤ c0_0) (h : impl_FormatCandidate.f k l0_0 = some r) :
    Calls Tryz.prog 77 #[.agg #[.slice A0_0 l0_0.length c0_0]] w fun e w' => e = .returned (.string r) ∧ Below w.heap.size w w' := by
  unfold impl_FormatCandidate.f at h; obtain ⟨t, A3, H⟩ := be h; clear h; have hu := Tryz.underlying42; have hu2 := Tryz.underlying90; have HR0 := asT hr0_0; have HC0 := asT hc0_0; clear hr0_0 hc0_0
  cases t with
  | false =>
    have e := oI ((if_neg nF).symm.trans H); clear H; subst e; go_enter Tryz.func77, Tryz.ntmps77
    go_wp2_with (first
    | ((with_reducible refine gate_dst (N := 1) rfl ?_); refine boxT (N := 1) (cs := #[.slice A0_0 l0_0.length c0_0]) (t := 42) ?_; intro gb hgq w1 hbox hb; have BK := asT hbox; have HB := asT hb; clear hb hbox hgq; obtain ⟨hz0, hy0⟩ := bx1 BK.out)
    | (go_at_call 108; refine (impl_IsCandidate.calls k _ _ l0_0 false w1 (Kd.C_below HR0.out HB.out) HC0.out A3.out).mono ?_; rintro e w2 ⟨rfl, hb⟩; clear hz0 hy0; replace BK := bS BK hb; replace HB := hS HB hb; clear hb; obtain ⟨hz0, hy0⟩ := bx1 BK.out))
    go_ret; exact ⟨rfl, HB.out⟩
  | true =>
    have H' := asT ((if_pos rfl).symm.trans H); clear H; go_enter Tryz.func77, Tryz.ntmps77
    go_wp2_with (first
    | ((with_reducible refine gate_dst (N := 1) rfl ?_); refine boxT (N := 1) (cs := #[.slice A0_0 l0_0.length c0_0]) (t := 42) ?_; intro gb hgq w1 hbox hb; have BK := asT hbox; have HB := asT hb; clear hb hbox hgq; obtain ⟨hz0, hy0⟩ := bx1 BK.out)
    | (go_at_call 108; refine (impl_IsCandidate.calls k _ _ l0_0 true w1 (Kd.C_below HR0.out HB.out) HC0.out A3.out).mono ?_; rintro e w2 ⟨rfl, hb⟩; clear hz0 hy0; replace BK := bS BK hb; replace HB := hS HB hb; clear hb; obtain ⟨hz0, hy0⟩ := bx1 BK.out))
    go_loopg [3, 12] k (fun kq v3 v12 w' => ∃ (o : ByteArray) (i : Int), v3 = .string o ∧ v12 = .int .i64 i ∧ Aside0 (impl_FormatCandidate.l0 kq l0_0 o i = some r) ∧ Aside0 (kq ≤ k) ∧ Aside0 (Below w.heap.size w w'))
    case atStart => exact ⟨⟨#[]⟩, 0, rfl, rfl, H', ⟨Nat.le_refl _⟩, HB⟩
    case round =>
      clear H' BK HB hz0 hy0; obtain ⟨o, i, rfl, rfl, HA, HK1, HB⟩ := hrel
      cases gk with
      | zero => exact absurd HA.out (by simp [impl_FormatCandidate.l0])
      | succ k1 =>
        have H := HA.out; clear HA
        simp only [impl_FormatCandidate.l0] at H
        by_cases c3 : i < (l0_0.length : Int)
        · rw [if_pos c3] at H; by_cases c4 : 0 ≤ i
          · rw [if_pos c4] at H; by_cases c5 : o.size ≤ 1000000 ∧ ((0 ≤ (rd_T90 l0_0 i).f0 ∧ (rd_T90 l0_0 i).f0 < 128) ∧ (0 ≤ (rd_T90 l0_0 i).f1 ∧ (rd_T90 l0_0 i).f1 < 128))
            · rw [if_pos c5] at H; obtain ⟨ad, e1, hx0, hx1⟩ := at_T90 HR0.out i c4 c3; subst e1; replace hx0 := hbc HB.out hx0; replace hx1 := hbc HB.out hx1; have c3b : decide (i < (l0_0.length : Int)) = true := dt c3; have p : (0 ≤ i) = True := eq_true c4; have q2 : (i < (l0_0.length : Int)) = True := eq_true c3; clear c3 c4; have HS := asT c5.1; have HF := asT c5.2; clear c5; have s0 := enc_size _ HF.out.1; have s1 := enc_size _ HF.out.2; have i0 := i32_small _ HF.out.1; have i1 := i32_small _ HF.out.2; generalize (rd_T90 l0_0 i).f0 = a at H hx0 hx1 HF s0 s1 i0 i1; generalize (rd_T90 l0_0 i).f1 = b at H hx0 hx1 HF s0 s1 i0 i1; have z0 : (⟨#[]⟩ : ByteArray).size = 0 := rfl
              have q43 : ((⟨#[43]⟩ : ByteArray) ++ Utf8.encode b).size = 2 := by rw [ByteArray.size_append, s1]; rfl
              have q45 : (o ++ (⟨#[45]⟩ : ByteArray)).size = o.size + 1 := by rw [ByteArray.size_append]; rfl
              have q42 : (o ++ (⟨#[42]⟩ : ByteArray)).size = o.size + 1 := by rw [ByteArray.size_append]; rfl
              have u43 : (9223372036854775807 < (⟨#[43]⟩ : ByteArray).size + (Utf8.encode b).size) = False := eq_false (by rw [s1]; show ¬ (9223372036854775807 < 1 + 1); omega); have u43b : (9223372036854775807 < o.size + ((⟨#[43]⟩ : ByteArray) ++ Utf8.encode b).size) = False := eq_false (by rw [q43]; have := HS.out; omega); have u45 : (9223372036854775807 < o.size + (⟨#[45]⟩ : ByteArray).size) = False := eq_false (by show ¬ (9223372036854775807 < o.size + 1); have := HS.out; omega); have u45b : (9223372036854775807 < (o ++ (⟨#[45]⟩ : ByteArray)).size + (Utf8.encode a).size) = False := eq_false (by rw [q45, s0]; have := HS.out; omega); have u42 : (9223372036854775807 < o.size + (⟨#[42]⟩ : ByteArray).size) = False := eq_false (by show ¬ (9223372036854775807 < o.size + 1); have := HS.out; omega); have u42b : (9223372036854775807 < (o ++ (⟨#[42]⟩ : ByteArray)).size + (Utf8.encode a).size) = False := eq_false (by rw [q42, s0]; have := HS.out; omega); have u0 : (9223372036854775807 < o.size + (Utf8.encode a).size) = False := eq_false (by rw [s0]; have := HS.out; omega); have u43c : (9223372036854775807 < 1 + (Utf8.encode b).size) = False := eq_false (by rw [s1]; omega); have u43d : (9223372036854775807 < o.size + (1 + (Utf8.encode b).size)) = False := eq_false (by rw [s1]; have := HS.out; omega); have u45c : (9223372036854775807 < o.size + 1) = False := eq_false (by have := HS.out; omega); have u45d : (9223372036854775807 < o.size + 1 + (Utf8.encode a).size) = False := eq_false (by rw [s0]; have := HS.out; omega); clear s0 s1 q43 q45 q42 z0; unfold fc_link at H; by_cases ca : a = 0
              · rw [if_pos ca] at H; have ca0 : (a == 0) = true := eC ca; have ca1 : (a != 0) = false := eA ca; clear ca
                go_wp2_with (first
                  | ((with_reducible refine gate_dst (N := 5) rfl ?_); refine boxT (N := 5) (cs := #[.int .u8 0, .int .u8 0]) (t := 90) ?_; intro gx hgq w4 hbox hb; have GE : Aside0 (w.heap.size ≤ gx) := ⟨by rw [hgq]; exact HB.out.size⟩; have BX := asT hbox; replace HB := hS HB hb; clear hb hbox hgq; obtain ⟨hz0, hz1, hy0, hy1⟩ := bx2 BX.out)
                  | ((with_reducible refine gate_store (t := 90) (p := 5) rfl ?_); refine store_event (t := 90) (p := 5) (v := .tmp 15) (w1 := ((w4.setCell ⟨gx, 0, none⟩ (.int .u8 a)).setCell ⟨gx, 1, none⟩ (.int .u8 b))) ?hg ?ho ?hn ?hr ?_; (case ho => rfl); (case hg => rfl); (case hn => rfl); (case hr => first | (go_simp; done) | (go_simp; rfl)); intro w5 hw; clear hz0 hz1 hy0 hy1; have BX2 : Aside0 (w5.heap[gx]? = some (.cells #[.int .u8 a, .int .u8 b] 90 (0, 0))) := (by rw [hw]; exact asT (blk_put (blk_put BX.out 0 _ rfl) 1 _ rfl)); clear BX; replace HB : Aside0 (Below w.heap.size w w5) := (by rw [hw]; exact asT (Below.setCell (p := ⟨gx, 1, none⟩) (Below.setCell (p := ⟨gx, 0, none⟩) HB.out GE.out _) GE.out _)); clear hw; obtain ⟨hz0, hz1, hy0, hy1⟩ := bx2 BX2.out))
                go_roundg k1
                case measure => have := HK1.out; omega
                case rel => exact ⟨_, wrap64 (i + 1), rfl, by first | rfl | (simp only [i64_w]; done), asT H, ⟨by have := HK1.out; omega⟩, ⟨hbT HB.out⟩⟩
              · rw [if_neg ca] at H; have ca0 : (a == 0) = false := eB ca; have ca1 : (a != 0) = true := eD ca; clear ca; by_cases cb : b = 0
                · rw [if_pos cb] at H; have cb0 : (b == 0) = true := eC cb; have cb1 : (b != 0) = false := eA cb; clear cb
                  go_wp2_with (first
                    | ((with_reducible refine gate_dst (N := 5) rfl ?_); refine boxT (N := 5) (cs := #[.int .u8 0, .int .u8 0]) (t := 90) ?_; intro gx hgq w4 hbox hb; have GE : Aside0 (w.heap.size ≤ gx) := ⟨by rw [hgq]; exact HB.out.size⟩; have BX := asT hbox; replace HB := hS HB hb; clear hb hbox hgq; obtain ⟨hz0, hz1, hy0, hy1⟩ := bx2 BX.out)
                    | ((with_reducible refine gate_store (t := 90) (p := 5) rfl ?_); refine store_event (t := 90) (p := 5) (v := .tmp 15) (w1 := ((w4.setCell ⟨gx, 0, none⟩ (.int .u8 a)).setCell ⟨gx, 1, none⟩ (.int .u8 b))) ?hg ?ho ?hn ?hr ?_; (case ho => rfl); (case hg => rfl); (case hn => rfl); (case hr => first | (go_simp; done) | (go_simp; rfl)); intro w5 hw; clear hz0 hz1 hy0 hy1; have BX2 : Aside0 (w5.heap[gx]? = some (.cells #[.int .u8 a, .int .u8 b] 90 (0, 0))) := (by rw [hw]; exact asT (blk_put (blk_put BX.out 0 _ rfl) 1 _ rfl)); clear BX; replace HB : Aside0 (Below w.heap.size w w5) := (by rw [hw]; exact asT (Below.setCell (p := ⟨gx, 1, none⟩) (Below.setCell (p := ⟨gx, 0, none⟩) HB.out GE.out _) GE.out _)); clear hw; obtain ⟨hz0, hz1, hy0, hy1⟩ := bx2 BX2.out))
                  go_roundg k1
                  case measure => have := HK1.out; omega
                  case rel => exact ⟨_, wrap64 (i + 1), rfl, by first | rfl | (simp only [i64_w]; done), asT H, ⟨by have := HK1.out; omega⟩, ⟨hbT HB.out⟩⟩
                · rw [if_neg cb] at H; have cb0 : (b == 0) = false := eB cb; have cb1 : (b != 0) = true := eD cb; clear cb; by_cases cc : a = b
                  · rw [if_pos cc] at H; have cc0 : (a == b) = true := eC cc; have cc1 : (a != b) = false := eA cc; clear cc
                    go_wp2_with (first
                      | ((with_reducible refine gate_dst (N := 5) rfl ?_); refine boxT (N := 5) (cs := #[.int .u8 0, .int .u8 0]) (t := 90) ?_; intro gx hgq w4 hbox hb; have GE : Aside0 (w.heap.size ≤ gx) := ⟨by rw [hgq]; exact HB.out.size⟩; have BX := asT hbox; replace HB := hS HB hb; clear hb hbox hgq; obtain ⟨hz0, hz1, hy0, hy1⟩ := bx2 BX.out)
                      | ((with_reducible refine gate_store (t := 90) (p := 5) rfl ?_); refine store_event (t := 90) (p := 5) (v := .tmp 15) (w1 := ((w4.setCell ⟨gx, 0, none⟩ (.int .u8 a)).setCell ⟨gx, 1, none⟩ (.int .u8 b))) ?hg ?ho ?hn ?hr ?_; (case ho => rfl); (case hg => rfl); (case hn => rfl); (case hr => first | (go_simp; done) | (go_simp; rfl)); intro w5 hw; clear hz0 hz1 hy0 hy1; have BX2 : Aside0 (w5.heap[gx]? = some (.cells #[.int .u8 a, .int .u8 b] 90 (0, 0))) := (by rw [hw]; exact asT (blk_put (blk_put BX.out 0 _ rfl) 1 _ rfl)); clear BX; replace HB : Aside0 (Below w.heap.size w w5) := (by rw [hw]; exact asT (Below.setCell (p := ⟨gx, 1, none⟩) (Below.setCell (p := ⟨gx, 0, none⟩) HB.out GE.out _) GE.out _)); clear hw; obtain ⟨hz0, hz1, hy0, hy1⟩ := bx2 BX2.out))
                    go_roundg k1
                    case measure => have := HK1.out; omega
                    case rel => exact ⟨_, wrap64 (i + 1), rfl, by first | rfl | (simp only [i64_w]; done), asT H, ⟨by have := HK1.out; omega⟩, ⟨hbT HB.out⟩⟩
                  · rw [if_neg cc] at H; have cc0 : (a == b) = false := eB cc; have cc1 : (a != b) = true := eD cc; clear cc
                    go_wp2_with (first
                      | ((with_reducible refine gate_dst (N := 5) rfl ?_); refine boxT (N := 5) (cs := #[.int .u8 0, .int .u8 0]) (t := 90) ?_; intro gx hgq w4 hbox hb; have GE : Aside0 (w.heap.size ≤ gx) := ⟨by rw [hgq]; exact HB.out.size⟩; have BX := asT hbox; replace HB := hS HB hb; clear hb hbox hgq; obtain ⟨hz0, hz1, hy0, hy1⟩ := bx2 BX.out)
                      | ((with_reducible refine gate_store (t := 90) (p := 5) rfl ?_); refine store_event (t := 90) (p := 5) (v := .tmp 15) (w1 := ((w4.setCell ⟨gx, 0, none⟩ (.int .u8 a)).setCell ⟨gx, 1, none⟩ (.int .u8 b))) ?hg ?ho ?hn ?hr ?_; (case ho => rfl); (case hg => rfl); (case hn => rfl); (case hr => first | (go_simp; done) | (go_simp; rfl)); intro w5 hw; clear hz0 hz1 hy0 hy1; have BX2 : Aside0 (w5.heap[gx]? = some (.cells #[.int .u8 a, .int .u8 b] 90 (0, 0))) := (by rw [hw]; exact asT (blk_put (blk_put BX.out 0 _ rfl) 1 _ rfl)); clear BX; replace HB : Aside0 (Below w.heap.size w w5) := (by rw [hw]; exact asT (Below.setCell (p := ⟨gx, 1, none⟩) (Below.setCell (p := ⟨gx, 0, none⟩) HB.out GE.out _) GE.out _)); clear hw; obtain ⟨hz0, hz1, hy0, hy1⟩ := bx2 BX2.out))
                    go_roundg k1
                    case measure => have := HK1.out; omega
                    case rel => exact ⟨_, wrap64 (i + 1), rfl, by first | rfl | (simp only [i64_w]; done), asT H, ⟨by have := HK1.out; omega⟩, ⟨hbT HB.out⟩⟩
            · rw [if_neg c5] at H
              cases H
          · rw [if_neg c4] at H
            cases H
        · rw [if_neg c3] at H; have c3b : decide (i < (l0_0.length : Int)) = false := df c3; clear c3; by_cases ce : o.toList = []
          · rw [if_pos ce] at H; obtain rfl := oI H; have cb : (o.toList == ([] : List UInt8)) = true := eC ce; have cb2 : (o.toList == (⟨#[]⟩ : ByteArray).toList) = true := eC (ce.trans (by decide +kernel)); clear ce H
            go_wp2
            go_ret; exact ⟨rfl, HB.out⟩
          · rw [if_neg ce] at H; obtain rfl := oI H; have cb : (o.toList == ([] : List UInt8)) = false := eB ce; have cb2 : (o.toList == (⟨#[]⟩ : ByteArray).toList) = false := eB (fun e => ce (e.trans (by decide +kernel))); clear ce H
            go_wp2
            go_ret; exact ⟨rfl, HB.out⟩
def strings_Join.f (l0 : List ByteArray) (a1 : ByteArray) : Option (ByteArray) := if l0.length ≤ 1048576 ∧ (Lib.join (l0.map (·.data.toList)) a1.data.toList).length ≤ 140737488355328 then some ⟨(Lib.join (l0.map (·.data.toList)) a1.data.toList).toArray⟩ else none
theorem spot_none {w : World} {a : Addr} {v : Value} (h : w.cell? a = some v) : a.spot = none := by
  unfold World.cell? at h
  split at h
  · split at h
    · cases h
    · simpa using ‹¬ a.spot.isSome = true›
  · cases h
theorem strings_Join.calls (A0 : Option Addr) (c0 : Nat) (l0 : List ByteArray) (a1 : ByteArray) (r : ByteArray) (w : World) (hr0 : Kd.C Kd.string w A0 l0.length l0) (hc0 : l0.length ≤ c0) (h : strings_Join.f l0 a1 = some r) :
    Calls Tryz.prog 123 #[.slice A0 l0.length c0, .string a1] w fun e w' => e = .returned (.string r) ∧ Below w.heap.size w w' := by
  unfold strings_Join.f at h
  split at h
  · rename_i hl
    obtain rfl := oI h; have hR := Kd.reads_of_C (enc := Value.string) (d := ByteArray.empty) (h1 := fun _ => rfl) hr0; by_cases h0 : l0 = []
    · subst h0; refine (Tryz.strings_Join_none A0 c0 a1 w).mono ?_; rintro e w' ⟨rfl, rfl⟩; exact ⟨rfl, Below.refl _ _⟩
    · have hp : 0 < l0.length := List.length_pos_iff.2 h0; obtain ⟨ad, rfl, hc⟩ := hR.2.2 hp; have hs := spot_none (hc 0 hp); obtain ⟨bk, o, sp⟩ := ad
      have hs' : sp = none := by simpa [Addr.add] using hs
      subst hs'; refine (Tryz.strings_Join bk o c0 l0 a1 w ?_ ?_ (by omega) hc0 hl.2).mono ?_
      · intro j x hx; obtain ⟨hj, rfl⟩ := List.getElem?_eq_some_iff.1 hx; have := hc j hj; rw [show (⟨bk, o, none⟩ : Addr).add j = ⟨bk, o + j, none⟩ by unfold Addr.add; split <;> simp [*]] at this; rw [this]
        simp [hj]
      · exact World.block_lt_of_cell? w _ (hc 0 hp)
      · rintro e w' ⟨rfl, hb⟩; exact ⟨rfl, hb⟩
  · cases h
def strconv_Itoa.f (a0 : Int) : Option ByteArray := if 0 ≤ a0 ∧ a0 < 100 then some ⟨(Lib.decDigits a0.toNat).toArray⟩ else none
theorem strconv_Itoa.calls (a0 : Int) (r : ByteArray) (w : World) (h : strconv_Itoa.f a0 = some r) :
    Calls Tryz.prog 161 #[.int .i64 a0] w fun e w' => e = .returned (.string r) ∧ Drawn0 w w' := by
  unfold strconv_Itoa.f at h
  split at h
  · rename_i hl
    obtain rfl := oI h; obtain ⟨n, rfl⟩ := Int.eq_ofNat_of_zero_le hl.1; refine (Tryz.strconv_Itoa_small n (by omega) w).mono ?_; rintro e w' ⟨rfl, rfl⟩; exact ⟨rfl, Drawn0.refl _⟩
  · cases h
def impl_FormatInt.f (a0 : Int) : Option (ByteArray) := (strconv_Itoa.f a0).bind fun t488 => (some t488)
theorem impl_FormatInt.calls (a0 : Int) (r : ByteArray) (w : World) (h : impl_FormatInt.f a0 = some r) :
  Calls Tryz.prog 136 #[.int .i64 a0] w fun e w' => e = .returned (.string r) ∧ Drawn0 w w' := by
 have H := h; unfold impl_FormatInt.f at H; clear h; obtain ⟨t488, A2, H⟩ := be H; obtain rfl := oI H; go_enter Tryz.func136, Tryz.ntmps136
 go_wp2_with (first | ((with_reducible refine gate_callee (f := 161) rfl ?_); refine goesL_ (some 4) rfl rfl Tryz.func161 (by kernel_rfl) rfl #[.int .i64 a0] rfl eqT ?_; (with_reducible refine (strconv_Itoa.calls a0 t488 _ A2.out).mono ?_); rintro e w' ⟨rfl, ⟨nd, rfl⟩⟩; refine ⟨_, rfl, ?_⟩))
 go_ret; exact ⟨rdT, drT⟩
end Go.Proofs.YtlmfpkiaikjlbaaGreatDoor.PFnExactFormatRow
