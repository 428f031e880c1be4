-- Made by gen.py (a program of this session) out of the translation; Lean checks it.
import Derived.Test.YtdamagcfmhimfadPFnExactViolationsOfx0
import Derived.Test.YtdamagcfmhimfadPFnExactViolationsOfx2
import Derived.Test.YtdamagcfmhimfadPFnExactViolationsOfx3
import Derived.Test.YtdamagcfmhimfadPFnExactViolationsOfx4
namespace Go.Proofs.Ytdamagcfmhimfad.PFnExactViolationsOf
open Go.RowKit Go.Proofs.YtdamagcfmhimfadB Go.Proofs.YtdamagcfmhimfadW.PrintWords Go.Proofs.YtdamagcfmhimfadW.PrintLast Go.Proofs.YtdamagcfmhimfadW.PrintMore
attribute [local go_sem] max2_int min2_int max_two min_two max_three min_three max_four min_four   -- for this text's walks alone
set_option linter.unusedVariables false
set_option linter.unusedSimpArgs false

/-! ### spec_ViolationsOf: function 14 -/
def spec_ViolationsOf.f (k : Nat) (a0 : ByteArray) (l1_0 : List (S83)) : Option (Int) := (spec_IsCandidate.f k l1_0).bind fun t176 => (if t176 = true then ((spec_OutputOf.f k l1_0).bind fun t177 => (if a0.toList = ([111, 110, 115, 101, 116] : List UInt8) then ((spec_CountOnsetless.f k t177).bind fun t178 => (some t178)) else (if a0.toList = ([110, 111, 99, 111, 100, 97] : List UInt8) then ((spec_CountCodas.f k t177).bind fun t179 => (some t179)) else (if a0.toList = ([99, 108, 117, 115, 116, 101, 114] : List UInt8) then ((spec_CountClusters.f k t177).bind fun t180 => (some t180)) else (if a0.toList = ([118, 111, 105, 99, 101] : List UInt8) then ((spec_CountVoiced.f k t177).bind fun t181 => (some t181)) else (if a0.toList = ([102, 105, 110, 97, 108] : List UInt8) then ((spec_CountFinalVoiced.f k t177).bind fun t182 => (some t182)) else (if a0.toList = ([110, 97, 115, 97, 108] : List UInt8) then ((spec_CountNasalVoiceless.f k t177).bind fun t183 => (some t183)) else (if a0.toList = ([109, 97, 120] : List UInt8) then ((spec_CountDeleted.f k l1_0).bind fun t184 => (some t184)) else (if a0.toList = ([100, 101, 112] : List UInt8) then ((spec_CountInserted.f k l1_0).bind fun t185 => (some t185)) else (if a0.toList = ([105, 100, 101, 110, 116] : List UInt8) then ((spec_CountVoiceChanged.f k l1_0).bind fun t186 => (some t186)) else (if a0.toList = ([99, 111, 110, 116, 105, 103] : List UInt8) then ((spec_CountBreaks.f k l1_0).bind fun t187 => (some t187)) else (some (-1))))))))))))) else (some (-1)))
theorem spec_ViolationsOf.mono : ∀ a0 a1 k, LeO (spec_ViolationsOf.f k a0 a1) (spec_ViolationsOf.f (k + 1) a0 a1) := by
 intro a0 a1 k
 unfold spec_ViolationsOf.f
 repeat' first
   | (with_reducible exact spec_CountBreaks.mono _ _)
   | (with_reducible exact spec_CountClusters.mono _ _)
   | (with_reducible exact spec_CountCodas.mono _ _)
   | (with_reducible exact spec_CountDeleted.mono _ _)
   | (with_reducible exact spec_CountFinalVoiced.mono _ _)
   | (with_reducible exact spec_CountInserted.mono _ _)
   | (with_reducible exact spec_CountNasalVoiceless.mono _ _)
   | (with_reducible exact spec_CountOnsetless.mono _ _)
   | (with_reducible exact spec_CountVoiceChanged.mono _ _)
   | (with_reducible exact spec_CountVoiced.mono _ _)
   | (with_reducible exact spec_IsCandidate.mono _ _)
   | (with_reducible exact spec_OutputOf.mono _ _)
   | (with_reducible exact LeO.refl _)
   | (with_reducible exact LeO.none _)
   | (with_reducible refine LeO.ite ?_ ?_)
   | (with_reducible refine LeO.bind ?_ (fun _ => ?_))
   | exact spec_CountBreaks.mono _ _
   | exact spec_CountClusters.mono _ _
   | exact spec_CountCodas.mono _ _
   | exact spec_CountDeleted.mono _ _
   | exact spec_CountFinalVoiced.mono _ _
   | exact spec_CountInserted.mono _ _
   | exact spec_CountNasalVoiceless.mono _ _
   | exact spec_CountOnsetless.mono _ _
   | exact spec_CountVoiceChanged.mono _ _
   | exact spec_CountVoiced.mono _ _
   | exact spec_IsCandidate.mono _ _
   | exact spec_OutputOf.mono _ _
   | exact LeO.none _
   | refine LeO.ite ?_ ?_
   | refine LeO.bind ?_ (fun _ => ?_)
set_option maxHeartbeats 8000000 in
set_option maxRecDepth 100000 in
theorem spec_ViolationsOf.calls (k : Nat) (a0 : ByteArray) (A1_0 : Option Addr) (c1_0 : Nat) (l1_0 : List (S83)) (r : Int) (w : World) (hr1_0 : Kd.C k83 w A1_0 l1_0.length l1_0) (hc1_0 : l1_0.length ≤ c1_0) (h : spec_ViolationsOf.f k a0 l1_0 = some r) :
  Calls Try.prog 14 #[.string a0, .agg #[.slice A1_0 l1_0.length c1_0]] w fun e w' => e = .returned (.int .i64 r) ∧ Below w.heap.size w w' := by
 have hu34 := Try.underlying34; have HR1_0 := Aside0.mk hr1_0; have HC1_0 := Aside0.mk hc1_0; clear hr1_0 hc1_0; have HB := asT (Below.refl w.heap.size w)
 have H : ((spec_IsCandidate.f k l1_0).bind fun t176 => (if t176 = true then ((spec_OutputOf.f k l1_0).bind fun t177 => (if a0.toList = ([111, 110, 115, 101, 116] : List UInt8) then ((spec_CountOnsetless.f k t177).bind fun t178 => (some t178)) else (if a0.toList = ([110, 111, 99, 111, 100, 97] : List UInt8) then ((spec_CountCodas.f k t177).bind fun t179 => (some t179)) else (if a0.toList = ([99, 108, 117, 115, 116, 101, 114] : List UInt8) then ((spec_CountClusters.f k t177).bind fun t180 => (some t180)) else (if a0.toList = ([118, 111, 105, 99, 101] : List UInt8) then ((spec_CountVoiced.f k t177).bind fun t181 => (some t181)) else (if a0.toList = ([102, 105, 110, 97, 108] : List UInt8) then ((spec_CountFinalVoiced.f k t177).bind fun t182 => (some t182)) else (if a0.toList = ([110, 97, 115, 97, 108] : List UInt8) then ((spec_CountNasalVoiceless.f k t177).bind fun t183 => (some t183)) else (if a0.toList = ([109, 97, 120] : List UInt8) then ((spec_CountDeleted.f k l1_0).bind fun t184 => (some t184)) else (if a0.toList = ([100, 101, 112] : List UInt8) then ((spec_CountInserted.f k l1_0).bind fun t185 => (some t185)) else (if a0.toList = ([105, 100, 101, 110, 116] : List UInt8) then ((spec_CountVoiceChanged.f k l1_0).bind fun t186 => (some t186)) else (if a0.toList = ([99, 111, 110, 116, 105, 103] : List UInt8) then ((spec_CountBreaks.f k l1_0).bind fun t187 => (some t187)) else (some (-1))))))))))))) else (some (-1)))) = some r := h
 clear h; replace H := Option.bind_eq_some_iff.mp H; obtain ⟨t176, A30, H⟩ := H; replace H : (if t176 = true then ((spec_OutputOf.f k l1_0).bind fun t177 => (if a0.toList = ([111, 110, 115, 101, 116] : List UInt8) then ((spec_CountOnsetless.f k t177).bind fun t178 => (some t178)) else (if a0.toList = ([110, 111, 99, 111, 100, 97] : List UInt8) then ((spec_CountCodas.f k t177).bind fun t179 => (some t179)) else (if a0.toList = ([99, 108, 117, 115, 116, 101, 114] : List UInt8) then ((spec_CountClusters.f k t177).bind fun t180 => (some t180)) else (if a0.toList = ([118, 111, 105, 99, 101] : List UInt8) then ((spec_CountVoiced.f k t177).bind fun t181 => (some t181)) else (if a0.toList = ([102, 105, 110, 97, 108] : List UInt8) then ((spec_CountFinalVoiced.f k t177).bind fun t182 => (some t182)) else (if a0.toList = ([110, 97, 115, 97, 108] : List UInt8) then ((spec_CountNasalVoiceless.f k t177).bind fun t183 => (some t183)) else (if a0.toList = ([109, 97, 120] : List UInt8) then ((spec_CountDeleted.f k l1_0).bind fun t184 => (some t184)) else (if a0.toList = ([100, 101, 112] : List UInt8) then ((spec_CountInserted.f k l1_0).bind fun t185 => (some t185)) else (if a0.toList = ([105, 100, 101, 110, 116] : List UInt8) then ((spec_CountVoiceChanged.f k l1_0).bind fun t186 => (some t186)) else (if a0.toList = ([99, 111, 110, 116, 105, 103] : List UInt8) then ((spec_CountBreaks.f k l1_0).bind fun t187 => (some t187)) else (some (-1))))))))))))) else (some (-1))) = some r := H; have A3 := Aside0.mk A30; clear A30
 by_cases c4 : t176 = true
 ·subst c4
  have H1 : ((spec_OutputOf.f k l1_0).bind fun t177 => (if a0.toList = ([111, 110, 115, 101, 116] : List UInt8) then ((spec_CountOnsetless.f k t177).bind fun t178 => (some t178)) else (if a0.toList = ([110, 111, 99, 111, 100, 97] : List UInt8) then ((spec_CountCodas.f k t177).bind fun t179 => (some t179)) else (if a0.toList = ([99, 108, 117, 115, 116, 101, 114] : List UInt8) then ((spec_CountClusters.f k t177).bind fun t180 => (some t180)) else (if a0.toList = ([118, 111, 105, 99, 101] : List UInt8) then ((spec_CountVoiced.f k t177).bind fun t181 => (some t181)) else (if a0.toList = ([102, 105, 110, 97, 108] : List UInt8) then ((spec_CountFinalVoiced.f k t177).bind fun t182 => (some t182)) else (if a0.toList = ([110, 97, 115, 97, 108] : List UInt8) then ((spec_CountNasalVoiceless.f k t177).bind fun t183 => (some t183)) else (if a0.toList = ([109, 97, 120] : List UInt8) then ((spec_CountDeleted.f k l1_0).bind fun t184 => (some t184)) else (if a0.toList = ([100, 101, 112] : List UInt8) then ((spec_CountInserted.f k l1_0).bind fun t185 => (some t185)) else (if a0.toList = ([105, 100, 101, 110, 116] : List UInt8) then ((spec_CountVoiceChanged.f k l1_0).bind fun t186 => (some t186)) else (if a0.toList = ([99, 111, 110, 116, 105, 103] : List UInt8) then ((spec_CountBreaks.f k l1_0).bind fun t187 => (some t187)) else (some (-1))))))))))))) = some r := by rw [if_pos rfl] at H; exact H
  clear H; have H := H1; clear H1; replace H := Option.bind_eq_some_iff.mp H; obtain ⟨t177, A50, H⟩ := H; replace H : (if a0.toList = ([111, 110, 115, 101, 116] : List UInt8) then ((spec_CountOnsetless.f k t177).bind fun t178 => (some t178)) else (if a0.toList = ([110, 111, 99, 111, 100, 97] : List UInt8) then ((spec_CountCodas.f k t177).bind fun t179 => (some t179)) else (if a0.toList = ([99, 108, 117, 115, 116, 101, 114] : List UInt8) then ((spec_CountClusters.f k t177).bind fun t180 => (some t180)) else (if a0.toList = ([118, 111, 105, 99, 101] : List UInt8) then ((spec_CountVoiced.f k t177).bind fun t181 => (some t181)) else (if a0.toList = ([102, 105, 110, 97, 108] : List UInt8) then ((spec_CountFinalVoiced.f k t177).bind fun t182 => (some t182)) else (if a0.toList = ([110, 97, 115, 97, 108] : List UInt8) then ((spec_CountNasalVoiceless.f k t177).bind fun t183 => (some t183)) else (if a0.toList = ([109, 97, 120] : List UInt8) then ((spec_CountDeleted.f k l1_0).bind fun t184 => (some t184)) else (if a0.toList = ([100, 101, 112] : List UInt8) then ((spec_CountInserted.f k l1_0).bind fun t185 => (some t185)) else (if a0.toList = ([105, 100, 101, 110, 116] : List UInt8) then ((spec_CountVoiceChanged.f k l1_0).bind fun t186 => (some t186)) else (if a0.toList = ([99, 111, 110, 116, 105, 103] : List UInt8) then ((spec_CountBreaks.f k l1_0).bind fun t187 => (some t187)) else (some (-1)))))))))))) = some r := H; have A5 := Aside0.mk A50; clear A50
  by_cases c6 : a0.toList = ([111, 110, 115, 101, 116] : List UInt8)
  ·rw [if_pos c6] at H
   have c6b0 : (a0.toList == ([111, 110, 115, 101, 116] : List UInt8)) = true := beq_iff_eq.mpr c6
   have c6b1 : (a0.toList != ([111, 110, 115, 101, 116] : List UInt8)) = false := bne_eq_false_iff_eq.mpr c6
   clear c6; replace H := Option.bind_eq_some_iff.mp H; obtain ⟨t178, A70, H⟩ := H; replace H : (some t178) = some r := H; have A7 := Aside0.mk A70; clear A70
   obtain rfl := Option.some.inj H
   go_enter Try.func14, Try.ntmps14
   go_wp2_with (first | ((with_reducible refine gate_dst (N := 3) rfl ?_); refine boxT (N := 3) (cs := #[.slice A1_0 l1_0.length c1_0]) (t := 34) ?_; intro gb175 hg w8 hbox hb; have n0_ := asT (below_step (hbT HB.out) hb); have n1_ := asT (hbox); have n2_ := asT (geT hg HB.out); have n3_ := asT (geT hg HB.out); clear HB; have HB := n0_; have BK175 := n1_; have GW175 := n2_; have GE175 := n3_; clear n0_ n1_ n2_ n3_ hb hbox hg; have hcz9_0 : w8.cell? ⟨gb175, 0, none⟩ = some (.slice A1_0 l1_0.length c1_0) := (blk_cell BK175.out 0).trans rfl; have hfz9_0 := blk_frozen BK175.out 0) | ((with_reducible refine gate_callee (f := 42) rfl ?_); refine goesL_ (some 7) rfl rfl Try.func42 (by kernel_rfl) rfl #[.agg #[.slice A1_0 l1_0.length c1_0]] rfl eqT ?_; (with_reducible refine (spec_IsCandidate.calls k _ _ l1_0 true _ ?side1 ?side2 A3.out).mono ?_); (case side1 => exact crT HR1_0.out HB.out); (case side2 => exact HC1_0.out); rintro e w10 ⟨rfl, hb⟩; refine ⟨_, rfl, ?_⟩; have n0_ := asT (blk_below (bkT BK175.out) hb); have n1_ := asT (below_step (hbT HB.out) hb); clear BK175 HB; have BK175 := n0_; have HB := n1_; clear n0_ n1_; (try clear hb); (try clear hb2); (try clear hk); (try clear hi); have hcz11_0 : w10.cell? ⟨gb175, 0, none⟩ = some (.slice A1_0 l1_0.length c1_0) := (blk_cell BK175.out 0).trans rfl; have hfz11_0 := blk_frozen BK175.out 0) | ((with_reducible refine gate_callee (f := 43) rfl ?_); refine goesL_ (some 10) rfl rfl Try.func43 (by kernel_rfl) rfl #[.agg #[.slice A1_0 l1_0.length c1_0]] rfl eqT ?_; (with_reducible refine (spec_OutputOf.calls k _ _ l1_0 t177 _ ?side1 ?side2 A5.out).mono ?_); (case side1 => exact crT HR1_0.out HB.out); (case side2 => exact HC1_0.out); rintro e w12 ⟨rfl, hb⟩; refine ⟨_, rfl, ?_⟩; have n0_ := asT (blk_below (bkT BK175.out) hb); have n1_ := asT (below_step (hbT HB.out) hb); clear BK175 HB; have BK175 := n0_; have HB := n1_; clear n0_ n1_; (try clear hb); (try clear hb2); (try clear hk); (try clear hi)) | ((with_reducible refine gate_callee (f := 44) rfl ?_); refine goesL_ (some 15) rfl rfl Try.func44 (by kernel_rfl) rfl #[.string t177] rfl eqT ?_; (with_reducible refine (spec_CountOnsetless.calls k t177 t178 _ A7.out).mono ?_); rintro e w' ⟨rfl, ⟨nd, rfl⟩⟩; refine ⟨_, rfl, ?_⟩))
   go_ret
   exact ⟨rlT, hbT HB.out⟩
  ·rw [if_neg c6] at H
   have c6b0 : (a0.toList == ([111, 110, 115, 101, 116] : List UInt8)) = false := beq_eq_false_iff_ne.mpr c6
   have c6b1 : (a0.toList != ([111, 110, 115, 101, 116] : List UInt8)) = true := bne_iff_ne.mpr c6
   by_cases c13 : a0.toList = ([110, 111, 99, 111, 100, 97] : List UInt8)
   ·rw [if_pos c13] at H
    have c13b0 : (a0.toList == ([110, 111, 99, 111, 100, 97] : List UInt8)) = true := beq_iff_eq.mpr c13
    have c13b1 : (a0.toList != ([110, 111, 99, 111, 100, 97] : List UInt8)) = false := bne_eq_false_iff_eq.mpr c13
    clear c13; replace H := Option.bind_eq_some_iff.mp H; obtain ⟨t179, A140, H⟩ := H; replace H : (some t179) = some r := H; have A14 := Aside0.mk A140; clear A140
    obtain rfl := Option.some.inj H
    go_enter Try.func14, Try.ntmps14
    go_wp2_with (first | ((with_reducible refine gate_dst (N := 3) rfl ?_); refine boxT (N := 3) (cs := #[.slice A1_0 l1_0.length c1_0]) (t := 34) ?_; intro gb175 hg w15 hbox hb; have n0_ := asT (below_step (hbT HB.out) hb); have n1_ := asT (hbox); have n2_ := asT (geT hg HB.out); have n3_ := asT (geT hg HB.out); clear HB; have HB := n0_; have BK175 := n1_; have GW175 := n2_; have GE175 := n3_; clear n0_ n1_ n2_ n3_ hb hbox hg; have hcz16_0 : w15.cell? ⟨gb175, 0, none⟩ = some (.slice A1_0 l1_0.length c1_0) := (blk_cell BK175.out 0).trans rfl; have hfz16_0 := blk_frozen BK175.out 0) | ((with_reducible refine gate_callee (f := 42) rfl ?_); refine goesL_ (some 7) rfl rfl Try.func42 (by kernel_rfl) rfl #[.agg #[.slice A1_0 l1_0.length c1_0]] rfl eqT ?_; (with_reducible refine (spec_IsCandidate.calls k _ _ l1_0 true _ ?side1 ?side2 A3.out).mono ?_); (case side1 => exact crT HR1_0.out HB.out); (case side2 => exact HC1_0.out); rintro e w17 ⟨rfl, hb⟩; refine ⟨_, rfl, ?_⟩; have n0_ := asT (blk_below (bkT BK175.out) hb); have n1_ := asT (below_step (hbT HB.out) hb); clear BK175 HB; have BK175 := n0_; have HB := n1_; clear n0_ n1_; (try clear hb); (try clear hb2); (try clear hk); (try clear hi); have hcz18_0 : w17.cell? ⟨gb175, 0, none⟩ = some (.slice A1_0 l1_0.length c1_0) := (blk_cell BK175.out 0).trans rfl; have hfz18_0 := blk_frozen BK175.out 0) | ((with_reducible refine gate_callee (f := 43) rfl ?_); refine goesL_ (some 10) rfl rfl Try.func43 (by kernel_rfl) rfl #[.agg #[.slice A1_0 l1_0.length c1_0]] rfl eqT ?_; (with_reducible refine (spec_OutputOf.calls k _ _ l1_0 t177 _ ?side1 ?side2 A5.out).mono ?_); (case side1 => exact crT HR1_0.out HB.out); (case side2 => exact HC1_0.out); rintro e w19 ⟨rfl, hb⟩; refine ⟨_, rfl, ?_⟩; have n0_ := asT (blk_below (bkT BK175.out) hb); have n1_ := asT (below_step (hbT HB.out) hb); clear BK175 HB; have BK175 := n0_; have HB := n1_; clear n0_ n1_; (try clear hb); (try clear hb2); (try clear hk); (try clear hi)) | ((with_reducible refine gate_callee (f := 45) rfl ?_); refine goesL_ (some 19) rfl rfl Try.func45 (by kernel_rfl) rfl #[.string t177] rfl eqT ?_; (with_reducible refine (spec_CountCodas.calls k t177 t179 _ A14.out).mono ?_); rintro e w' ⟨rfl, ⟨nd, rfl⟩⟩; refine ⟨_, rfl, ?_⟩))
    go_ret
    exact ⟨rlT, hbT HB.out⟩
   ·rw [if_neg c13] at H
    have c13b0 : (a0.toList == ([110, 111, 99, 111, 100, 97] : List UInt8)) = false := beq_eq_false_iff_ne.mpr c13
    have c13b1 : (a0.toList != ([110, 111, 99, 111, 100, 97] : List UInt8)) = true := bne_iff_ne.mpr c13
    by_cases c20 : a0.toList = ([99, 108, 117, 115, 116, 101, 114] : List UInt8)
    ·rw [if_pos c20] at H
     have c20b0 : (a0.toList == ([99, 108, 117, 115, 116, 101, 114] : List UInt8)) = true := beq_iff_eq.mpr c20
     have c20b1 : (a0.toList != ([99, 108, 117, 115, 116, 101, 114] : List UInt8)) = false := bne_eq_false_iff_eq.mpr c20
     clear c20; replace H := Option.bind_eq_some_iff.mp H; obtain ⟨t180, A210, H⟩ := H; replace H : (some t180) = some r := H; have A21 := Aside0.mk A210; clear A210
     obtain rfl := Option.some.inj H
     go_enter Try.func14, Try.ntmps14
     go_wp2_with (first | ((with_reducible refine gate_dst (N := 3) rfl ?_); refine boxT (N := 3) (cs := #[.slice A1_0 l1_0.length c1_0]) (t := 34) ?_; intro gb175 hg w22 hbox hb; have n0_ := asT (below_step (hbT HB.out) hb); have n1_ := asT (hbox); have n2_ := asT (geT hg HB.out); have n3_ := asT (geT hg HB.out); clear HB; have HB := n0_; have BK175 := n1_; have GW175 := n2_; have GE175 := n3_; clear n0_ n1_ n2_ n3_ hb hbox hg; have hcz23_0 : w22.cell? ⟨gb175, 0, none⟩ = some (.slice A1_0 l1_0.length c1_0) := (blk_cell BK175.out 0).trans rfl; have hfz23_0 := blk_frozen BK175.out 0) | ((with_reducible refine gate_callee (f := 42) rfl ?_); refine goesL_ (some 7) rfl rfl Try.func42 (by kernel_rfl) rfl #[.agg #[.slice A1_0 l1_0.length c1_0]] rfl eqT ?_; (with_reducible refine (spec_IsCandidate.calls k _ _ l1_0 true _ ?side1 ?side2 A3.out).mono ?_); (case side1 => exact crT HR1_0.out HB.out); (case side2 => exact HC1_0.out); rintro e w24 ⟨rfl, hb⟩; refine ⟨_, rfl, ?_⟩; have n0_ := asT (blk_below (bkT BK175.out) hb); have n1_ := asT (below_step (hbT HB.out) hb); clear BK175 HB; have BK175 := n0_; have HB := n1_; clear n0_ n1_; (try clear hb); (try clear hb2); (try clear hk); (try clear hi); have hcz25_0 : w24.cell? ⟨gb175, 0, none⟩ = some (.slice A1_0 l1_0.length c1_0) := (blk_cell BK175.out 0).trans rfl; have hfz25_0 := blk_frozen BK175.out 0) | ((with_reducible refine gate_callee (f := 43) rfl ?_); refine goesL_ (some 10) rfl rfl Try.func43 (by kernel_rfl) rfl #[.agg #[.slice A1_0 l1_0.length c1_0]] rfl eqT ?_; (with_reducible refine (spec_OutputOf.calls k _ _ l1_0 t177 _ ?side1 ?side2 A5.out).mono ?_); (case side1 => exact crT HR1_0.out HB.out); (case side2 => exact HC1_0.out); rintro e w26 ⟨rfl, hb⟩; refine ⟨_, rfl, ?_⟩; have n0_ := asT (blk_below (bkT BK175.out) hb); have n1_ := asT (below_step (hbT HB.out) hb); clear BK175 HB; have BK175 := n0_; have HB := n1_; clear n0_ n1_; (try clear hb); (try clear hb2); (try clear hk); (try clear hi)) | ((with_reducible refine gate_callee (f := 46) rfl ?_); refine goesL_ (some 23) rfl rfl Try.func46 (by kernel_rfl) rfl #[.string t177] rfl eqT ?_; (with_reducible refine (spec_CountClusters.calls k t177 t180 _ A21.out).mono ?_); rintro e w' ⟨rfl, ⟨nd, rfl⟩⟩; refine ⟨_, rfl, ?_⟩))
     go_ret
     exact ⟨rlT, hbT HB.out⟩
    ·rw [if_neg c20] at H
     have c20b0 : (a0.toList == ([99, 108, 117, 115, 116, 101, 114] : List UInt8)) = false := beq_eq_false_iff_ne.mpr c20
     have c20b1 : (a0.toList != ([99, 108, 117, 115, 116, 101, 114] : List UInt8)) = true := bne_iff_ne.mpr c20
     by_cases c27 : a0.toList = ([118, 111, 105, 99, 101] : List UInt8)
     ·rw [if_pos c27] at H
      have c27b0 : (a0.toList == ([118, 111, 105, 99, 101] : List UInt8)) = true := beq_iff_eq.mpr c27
      have c27b1 : (a0.toList != ([118, 111, 105, 99, 101] : List UInt8)) = false := bne_eq_false_iff_eq.mpr c27
      clear c27; replace H := Option.bind_eq_some_iff.mp H; obtain ⟨t181, A280, H⟩ := H; replace H : (some t181) = some r := H; have A28 := Aside0.mk A280; clear A280
      obtain rfl := Option.some.inj H
      go_enter Try.func14, Try.ntmps14
      go_wp2_with (first | ((with_reducible refine gate_dst (N := 3) rfl ?_); refine boxT (N := 3) (cs := #[.slice A1_0 l1_0.length c1_0]) (t := 34) ?_; intro gb175 hg w29 hbox hb; have n0_ := asT (below_step (hbT HB.out) hb); have n1_ := asT (hbox); have n2_ := asT (geT hg HB.out); have n3_ := asT (geT hg HB.out); clear HB; have HB := n0_; have BK175 := n1_; have GW175 := n2_; have GE175 := n3_; clear n0_ n1_ n2_ n3_ hb hbox hg; have hcz30_0 : w29.cell? ⟨gb175, 0, none⟩ = some (.slice A1_0 l1_0.length c1_0) := (blk_cell BK175.out 0).trans rfl; have hfz30_0 := blk_frozen BK175.out 0) | ((with_reducible refine gate_callee (f := 42) rfl ?_); refine goesL_ (some 7) rfl rfl Try.func42 (by kernel_rfl) rfl #[.agg #[.slice A1_0 l1_0.length c1_0]] rfl eqT ?_; (with_reducible refine (spec_IsCandidate.calls k _ _ l1_0 true _ ?side1 ?side2 A3.out).mono ?_); (case side1 => exact crT HR1_0.out HB.out); (case side2 => exact HC1_0.out); rintro e w31 ⟨rfl, hb⟩; refine ⟨_, rfl, ?_⟩; have n0_ := asT (blk_below (bkT BK175.out) hb); have n1_ := asT (below_step (hbT HB.out) hb); clear BK175 HB; have BK175 := n0_; have HB := n1_; clear n0_ n1_; (try clear hb); (try clear hb2); (try clear hk); (try clear hi); have hcz32_0 : w31.cell? ⟨gb175, 0, none⟩ = some (.slice A1_0 l1_0.length c1_0) := (blk_cell BK175.out 0).trans rfl; have hfz32_0 := blk_frozen BK175.out 0) | ((with_reducible refine gate_callee (f := 43) rfl ?_); refine goesL_ (some 10) rfl rfl Try.func43 (by kernel_rfl) rfl #[.agg #[.slice A1_0 l1_0.length c1_0]] rfl eqT ?_; (with_reducible refine (spec_OutputOf.calls k _ _ l1_0 t177 _ ?side1 ?side2 A5.out).mono ?_); (case side1 => exact crT HR1_0.out HB.out); (case side2 => exact HC1_0.out); rintro e w33 ⟨rfl, hb⟩; refine ⟨_, rfl, ?_⟩; have n0_ := asT (blk_below (bkT BK175.out) hb); have n1_ := asT (below_step (hbT HB.out) hb); clear BK175 HB; have BK175 := n0_; have HB := n1_; clear n0_ n1_; (try clear hb); (try clear hb2); (try clear hk); (try clear hi)) | ((with_reducible refine gate_callee (f := 47) rfl ?_); refine goesL_ (some 27) rfl rfl Try.func47 (by kernel_rfl) rfl #[.string t177] rfl eqT ?_; (with_reducible refine (spec_CountVoiced.calls k t177 t181 _ A28.out).mono ?_); rintro e w' ⟨rfl, ⟨nd, rfl⟩⟩; refine ⟨_, rfl, ?_⟩))
      go_ret
      exact ⟨rlT, hbT HB.out⟩
     ·rw [if_neg c27] at H
      have c27b0 : (a0.toList == ([118, 111, 105, 99, 101] : List UInt8)) = false := beq_eq_false_iff_ne.mpr c27
      have c27b1 : (a0.toList != ([118, 111, 105, 99, 101] : List UInt8)) = true := bne_iff_ne.mpr c27
      by_cases c34 : a0.toList = ([102, 105, 110, 97, 108] : List UInt8)
      ·rw [if_pos c34] at H
       have c34b0 : (a0.toList == ([102, 105, 110, 97, 108] : List UInt8)) = true := beq_iff_eq.mpr c34
       have c34b1 : (a0.toList != ([102, 105, 110, 97, 108] : List UInt8)) = false := bne_eq_false_iff_eq.mpr c34
       clear c34; replace H := Option.bind_eq_some_iff.mp H; obtain ⟨t182, A350, H⟩ := H; replace H : (some t182) = some r := H; have A35 := Aside0.mk A350; clear A350
       obtain rfl := Option.some.inj H
       go_enter Try.func14, Try.ntmps14
       go_wp2_with (first | ((with_reducible refine gate_dst (N := 3) rfl ?_); refine boxT (N := 3) (cs := #[.slice A1_0 l1_0.length c1_0]) (t := 34) ?_; intro gb175 hg w36 hbox hb; have n0_ := asT (below_step (hbT HB.out) hb); have n1_ := asT (hbox); have n2_ := asT (geT hg HB.out); have n3_ := asT (geT hg HB.out); clear HB; have HB := n0_; have BK175 := n1_; have GW175 := n2_; have GE175 := n3_; clear n0_ n1_ n2_ n3_ hb hbox hg; have hcz37_0 : w36.cell? ⟨gb175, 0, none⟩ = some (.slice A1_0 l1_0.length c1_0) := (blk_cell BK175.out 0).trans rfl; have hfz37_0 := blk_frozen BK175.out 0) | ((with_reducible refine gate_callee (f := 42) rfl ?_); refine goesL_ (some 7) rfl rfl Try.func42 (by kernel_rfl) rfl #[.agg #[.slice A1_0 l1_0.length c1_0]] rfl eqT ?_; (with_reducible refine (spec_IsCandidate.calls k _ _ l1_0 true _ ?side1 ?side2 A3.out).mono ?_); (case side1 => exact crT HR1_0.out HB.out); (case side2 => exact HC1_0.out); rintro e w38 ⟨rfl, hb⟩; refine ⟨_, rfl, ?_⟩; have n0_ := asT (blk_below (bkT BK175.out) hb); have n1_ := asT (below_step (hbT HB.out) hb); clear BK175 HB; have BK175 := n0_; have HB := n1_; clear n0_ n1_; (try clear hb); (try clear hb2); (try clear hk); (try clear hi); have hcz39_0 : w38.cell? ⟨gb175, 0, none⟩ = some (.slice A1_0 l1_0.length c1_0) := (blk_cell BK175.out 0).trans rfl; have hfz39_0 := blk_frozen BK175.out 0) | ((with_reducible refine gate_callee (f := 43) rfl ?_); refine goesL_ (some 10) rfl rfl Try.func43 (by kernel_rfl) rfl #[.agg #[.slice A1_0 l1_0.length c1_0]] rfl eqT ?_; (with_reducible refine (spec_OutputOf.calls k _ _ l1_0 t177 _ ?side1 ?side2 A5.out).mono ?_); (case side1 => exact crT HR1_0.out HB.out); (case side2 => exact HC1_0.out); rintro e w40 ⟨rfl, hb⟩; refine ⟨_, rfl, ?_⟩; have n0_ := asT (blk_below (bkT BK175.out) hb); have n1_ := asT (below_step (hbT HB.out) hb); clear BK175 HB; have BK175 := n0_; have HB := n1_; clear n0_ n1_; (try clear hb); (try clear hb2); (try clear hk); (try clear hi)) | ((with_reducible refine gate_callee (f := 48) rfl ?_); refine goesL_ (some 31) rfl rfl Try.func48 (by kernel_rfl) rfl #[.string t177] rfl eqT ?_; (with_reducible refine (spec_CountFinalVoiced.calls k t177 t182 _ A35.out).mono ?_); rintro e w' ⟨rfl, ⟨nd, rfl⟩⟩; refine ⟨_, rfl, ?_⟩))
       go_ret
       exact ⟨rlT, hbT HB.out⟩
      ·rw [if_neg c34] at H
       have c34b0 : (a0.toList == ([102, 105, 110, 97, 108] : List UInt8)) = false := beq_eq_false_iff_ne.mpr c34
       have c34b1 : (a0.toList != ([102, 105, 110, 97, 108] : List UInt8)) = true := bne_iff_ne.mpr c34
       by_cases c41 : a0.toList = ([110, 97, 115, 97, 108] : List UInt8)
       ·rw [if_pos c41] at H
        have c41b0 : (a0.toList == ([110, 97, 115, 97, 108] : List UInt8)) = true := beq_iff_eq.mpr c41
        have c41b1 : (a0.toList != ([110, 97, 115, 97, 108] : List UInt8)) = false := bne_eq_false_iff_eq.mpr c41
        clear c41; replace H := Option.bind_eq_some_iff.mp H; obtain ⟨t183, A420, H⟩ := H; replace H : (some t183) = some r := H; have A42 := Aside0.mk A420; clear A420
        obtain rfl := Option.some.inj H
        go_enter Try.func14, Try.ntmps14
        go_wp2_with (first | ((with_reducible refine gate_dst (N := 3) rfl ?_); refine boxT (N := 3) (cs := #[.slice A1_0 l1_0.length c1_0]) (t := 34) ?_; intro gb175 hg w43 hbox hb; have n0_ := asT (below_step (hbT HB.out) hb); have n1_ := asT (hbox); have n2_ := asT (geT hg HB.out); have n3_ := asT (geT hg HB.out); clear HB; have HB := n0_; have BK175 := n1_; have GW175 := n2_; have GE175 := n3_; clear n0_ n1_ n2_ n3_ hb hbox hg; have hcz44_0 : w43.cell? ⟨gb175, 0, none⟩ = some (.slice A1_0 l1_0.length c1_0) := (blk_cell BK175.out 0).trans rfl; have hfz44_0 := blk_frozen BK175.out 0) | ((with_reducible refine gate_callee (f := 42) rfl ?_); refine goesL_ (some 7) rfl rfl Try.func42 (by kernel_rfl) rfl #[.agg #[.slice A1_0 l1_0.length c1_0]] rfl eqT ?_; (with_reducible refine (spec_IsCandidate.calls k _ _ l1_0 true _ ?side1 ?side2 A3.out).mono ?_); (case side1 => exact crT HR1_0.out HB.out); (case side2 => exact HC1_0.out); rintro e w45 ⟨rfl, hb⟩; refine ⟨_, rfl, ?_⟩; have n0_ := asT (blk_below (bkT BK175.out) hb); have n1_ := asT (below_step (hbT HB.out) hb); clear BK175 HB; have BK175 := n0_; have HB := n1_; clear n0_ n1_; (try clear hb); (try clear hb2); (try clear hk); (try clear hi); have hcz46_0 : w45.cell? ⟨gb175, 0, none⟩ = some (.slice A1_0 l1_0.length c1_0) := (blk_cell BK175.out 0).trans rfl; have hfz46_0 := blk_frozen BK175.out 0) | ((with_reducible refine gate_callee (f := 43) rfl ?_); refine goesL_ (some 10) rfl rfl Try.func43 (by kernel_rfl) rfl #[.agg #[.slice A1_0 l1_0.length c1_0]] rfl eqT ?_; (with_reducible refine (spec_OutputOf.calls k _ _ l1_0 t177 _ ?side1 ?side2 A5.out).mono ?_); (case side1 => exact crT HR1_0.out HB.out); (case side2 => exact HC1_0.out); rintro e w47 ⟨rfl, hb⟩; refine ⟨_, rfl, ?_⟩; have n0_ := asT (blk_below (bkT BK175.out) hb); have n1_ := asT (below_step (hbT HB.out) hb); clear BK175 HB; have BK175 := n0_; have HB := n1_; clear n0_ n1_; (try clear hb); (try clear hb2); (try clear hk); (try clear hi)) | ((with_reducible refine gate_callee (f := 49) rfl ?_); refine goesL_ (some 35) rfl rfl Try.func49 (by kernel_rfl) rfl #[.string t177] rfl eqT ?_; (with_reducible refine (spec_CountNasalVoiceless.calls k t177 t183 _ A42.out).mono ?_); rintro e w' ⟨rfl, ⟨nd, rfl⟩⟩; refine ⟨_, rfl, ?_⟩))
        go_ret
        exact ⟨rlT, hbT HB.out⟩
       ·rw [if_neg c41] at H
        have c41b0 : (a0.toList == ([110, 97, 115, 97, 108] : List UInt8)) = false := beq_eq_false_iff_ne.mpr c41
        have c41b1 : (a0.toList != ([110, 97, 115, 97, 108] : List UInt8)) = true := bne_iff_ne.mpr c41
        by_cases c48 : a0.toList = ([109, 97, 120] : List UInt8)
        ·rw [if_pos c48] at H
         have c48b0 : (a0.toList == ([109, 97, 120] : List UInt8)) = true := beq_iff_eq.mpr c48
         have c48b1 : (a0.toList != ([109, 97, 120] : List UInt8)) = false := bne_eq_false_iff_eq.mpr c48
         clear c48; replace H := Option.bind_eq_some_iff.mp H; obtain ⟨t184, A490, H⟩ := H; replace H : (some t184) = some r := H; have A49 := Aside0.mk A490; clear A490
         obtain rfl := Option.some.inj H
         go_enter Try.func14, Try.ntmps14
         go_wp2_with (first | ((with_reducible refine gate_dst (N := 3) rfl ?_); refine boxT (N := 3) (cs := #[.slice A1_0 l1_0.length c1_0]) (t := 34) ?_; intro gb175 hg w50 hbox hb; have n0_ := asT (below_step (hbT HB.out) hb); have n1_ := asT (hbox); have n2_ := asT (geT hg HB.out); have n3_ := asT (geT hg HB.out); clear HB; have HB := n0_; have BK175 := n1_; have GW175 := n2_; have GE175 := n3_; clear n0_ n1_ n2_ n3_ hb hbox hg; have hcz51_0 : w50.cell? ⟨gb175, 0, none⟩ = some (.slice A1_0 l1_0.length c1_0) := (blk_cell BK175.out 0).trans rfl; have hfz51_0 := blk_frozen BK175.out 0) | ((with_reducible refine gate_callee (f := 42) rfl ?_); refine goesL_ (some 7) rfl rfl Try.func42 (by kernel_rfl) rfl #[.agg #[.slice A1_0 l1_0.length c1_0]] rfl eqT ?_; (with_reducible refine (spec_IsCandidate.calls k _ _ l1_0 true _ ?side1 ?side2 A3.out).mono ?_); (case side1 => exact crT HR1_0.out HB.out); (case side2 => exact HC1_0.out); rintro e w52 ⟨rfl, hb⟩; refine ⟨_, rfl, ?_⟩; have n0_ := asT (blk_below (bkT BK175.out) hb); have n1_ := asT (below_step (hbT HB.out) hb); clear BK175 HB; have BK175 := n0_; have HB := n1_; clear n0_ n1_; (try clear hb); (try clear hb2); (try clear hk); (try clear hi); have hcz53_0 : w52.cell? ⟨gb175, 0, none⟩ = some (.slice A1_0 l1_0.length c1_0) := (blk_cell BK175.out 0).trans rfl; have hfz53_0 := blk_frozen BK175.out 0) | ((with_reducible refine gate_callee (f := 43) rfl ?_); refine goesL_ (some 10) rfl rfl Try.func43 (by kernel_rfl) rfl #[.agg #[.slice A1_0 l1_0.length c1_0]] rfl eqT ?_; (with_reducible refine (spec_OutputOf.calls k _ _ l1_0 t177 _ ?side1 ?side2 A5.out).mono ?_); (case side1 => exact crT HR1_0.out HB.out); (case side2 => exact HC1_0.out); rintro e w54 ⟨rfl, hb⟩; refine ⟨_, rfl, ?_⟩; have n0_ := asT (blk_below (bkT BK175.out) hb); have n1_ := asT (below_step (hbT HB.out) hb); clear BK175 HB; have BK175 := n0_; have HB := n1_; clear n0_ n1_; (try clear hb); (try clear hb2); (try clear hk); (try clear hi); have hcz55_0 : w54.cell? ⟨gb175, 0, none⟩ = some (.slice A1_0 l1_0.length c1_0) := (blk_cell BK175.out 0).trans rfl; have hfz55_0 := blk_frozen BK175.out 0) | ((with_reducible refine gate_callee (f := 50) rfl ?_); refine goesL_ (some 39) rfl rfl Try.func50 (by kernel_rfl) rfl #[.agg #[.slice A1_0 l1_0.length c1_0]] rfl eqT ?_; (with_reducible refine (spec_CountDeleted.calls k _ _ l1_0 t184 _ ?side1 ?side2 A49.out).mono ?_); (case side1 => exact crT HR1_0.out HB.out); (case side2 => exact HC1_0.out); rintro e w56 ⟨rfl, hb⟩; refine ⟨_, rfl, ?_⟩; have n0_ := asT (blk_below (bkT BK175.out) hb); have n1_ := asT (below_step (hbT HB.out) hb); clear BK175 HB; have BK175 := n0_; have HB := n1_; clear n0_ n1_; (try clear hb); (try clear hb2); (try clear hk); (try clear hi)))
         go_ret
         exact ⟨rlT, hbT HB.out⟩
        ·rw [if_neg c48] at H
         have c48b0 : (a0.toList == ([109, 97, 120] : List UInt8)) = false := beq_eq_false_iff_ne.mpr c48
         have c48b1 : (a0.toList != ([109, 97, 120] : List UInt8)) = true := bne_iff_ne.mpr c48
         by_cases c57 : a0.toList = ([100, 101, 112] : List UInt8)
         ·rw [if_pos c57] at H
          have c57b0 : (a0.toList == ([100, 101, 112] : List UInt8)) = true := beq_iff_eq.mpr c57
          have c57b1 : (a0.toList != ([100, 101, 112] : List UInt8)) = false := bne_eq_false_iff_eq.mpr c57
          clear c57; replace H := Option.bind_eq_some_iff.mp H; obtain ⟨t185, A580, H⟩ := H; replace H : (some t185) = some r := H; have A58 := Aside0.mk A580; clear A580
          obtain rfl := Option.some.inj H
          go_enter Try.func14, Try.ntmps14
          go_wp2_with (first | ((with_reducible refine gate_dst (N := 3) rfl ?_); refine boxT (N := 3) (cs := #[.slice A1_0 l1_0.length c1_0]) (t := 34) ?_; intro gb175 hg w59 hbox hb; have n0_ := asT (below_step (hbT HB.out) hb); have n1_ := asT (hbox); have n2_ := asT (geT hg HB.out); have n3_ := asT (geT hg HB.out); clear HB; have HB := n0_; have BK175 := n1_; have GW175 := n2_; have GE175 := n3_; clear n0_ n1_ n2_ n3_ hb hbox hg; have hcz60_0 : w59.cell? ⟨gb175, 0, none⟩ = some (.slice A1_0 l1_0.length c1_0) := (blk_cell BK175.out 0).trans rfl; have hfz60_0 := blk_frozen BK175.out 0) | ((with_reducible refine gate_callee (f := 42) rfl ?_); refine goesL_ (some 7) rfl rfl Try.func42 (by kernel_rfl) rfl #[.agg #[.slice A1_0 l1_0.length c1_0]] rfl eqT ?_; (with_reducible refine (spec_IsCandidate.calls k _ _ l1_0 true _ ?side1 ?side2 A3.out).mono ?_); (case side1 => exact crT HR1_0.out HB.out); (case side2 => exact HC1_0.out); rintro e w61 ⟨rfl, hb⟩; refine ⟨_, rfl, ?_⟩; have n0_ := asT (blk_below (bkT BK175.out) hb); have n1_ := asT (below_step (hbT HB.out) hb); clear BK175 HB; have BK175 := n0_; have HB := n1_; clear n0_ n1_; (try clear hb); (try clear hb2); (try clear hk); (try clear hi); have hcz62_0 : w61.cell? ⟨gb175, 0, none⟩ = some (.slice A1_0 l1_0.length c1_0) := (blk_cell BK175.out 0).trans rfl; have hfz62_0 := blk_frozen BK175.out 0) | ((with_reducible refine gate_callee (f := 43) rfl ?_); refine goesL_ (some 10) rfl rfl Try.func43 (by kernel_rfl) rfl #[.agg #[.slice A1_0 l1_0.length c1_0]] rfl eqT ?_; (with_reducible refine (spec_OutputOf.calls k _ _ l1_0 t177 _ ?side1 ?side2 A5.out).mono ?_); (case side1 => exact crT HR1_0.out HB.out); (case side2 => exact HC1_0.out); rintro e w63 ⟨rfl, hb⟩; refine ⟨_, rfl, ?_⟩; have n0_ := asT (blk_below (bkT BK175.out) hb); have n1_ := asT (below_step (hbT HB.out) hb); clear BK175 HB; have BK175 := n0_; have HB := n1_; clear n0_ n1_; (try clear hb); (try clear hb2); (try clear hk); (try clear hi); have hcz64_0 : w63.cell? ⟨gb175, 0, none⟩ = some (.slice A1_0 l1_0.length c1_0) := (blk_cell BK175.out 0).trans rfl; have hfz64_0 := blk_frozen BK175.out 0) | ((with_reducible refine gate_callee (f := 51) rfl ?_); refine goesL_ (some 43) rfl rfl Try.func51 (by kernel_rfl) rfl #[.agg #[.slice A1_0 l1_0.length c1_0]] rfl eqT ?_; (with_reducible refine (spec_CountInserted.calls k _ _ l1_0 t185 _ ?side1 ?side2 A58.out).mono ?_); (case side1 => exact crT HR1_0.out HB.out); (case side2 => exact HC1_0.out); rintro e w65 ⟨rfl, hb⟩; refine ⟨_, rfl, ?_⟩; have n0_ := asT (blk_below (bkT BK175.out) hb); have n1_ := asT (below_step (hbT HB.out) hb); clear BK175 HB; have BK175 := n0_; have HB := n1_; clear n0_ n1_; (try clear hb); (try clear hb2); (try clear hk); (try clear hi)))
          go_ret
          exact ⟨rlT, hbT HB.out⟩
         ·rw [if_neg c57] at H
          have c57b0 : (a0.toList == ([100, 101, 112] : List UInt8)) = false := beq_eq_false_iff_ne.mpr c57
          have c57b1 : (a0.toList != ([100, 101, 112] : List UInt8)) = true := bne_iff_ne.mpr c57
          by_cases c66 : a0.toList = ([105, 100, 101, 110, 116] : List UInt8)
          ·rw [if_pos c66] at H
           have c66b0 : (a0.toList == ([105, 100, 101, 110, 116] : List UInt8)) = true := beq_iff_eq.mpr c66
           have c66b1 : (a0.toList != ([105, 100, 101, 110, 116] : List UInt8)) = false := bne_eq_false_iff_eq.mpr c66
           clear c66; replace H := Option.bind_eq_some_iff.mp H; obtain ⟨t186, A670, H⟩ := H; replace H : (some t186) = some r := H; have A67 := Aside0.mk A670; clear A670
           obtain rfl := Option.some.inj H
           go_enter Try.func14, Try.ntmps14
           go_wp2_with (first | ((with_reducible refine gate_dst (N := 3) rfl ?_); refine boxT (N := 3) (cs := #[.slice A1_0 l1_0.length c1_0]) (t := 34) ?_; intro gb175 hg w68 hbox hb; have n0_ := asT (below_step (hbT HB.out) hb); have n1_ := asT (hbox); have n2_ := asT (geT hg HB.out); have n3_ := asT (geT hg HB.out); clear HB; have HB := n0_; have BK175 := n1_; have GW175 := n2_; have GE175 := n3_; clear n0_ n1_ n2_ n3_ hb hbox hg; have hcz69_0 : w68.cell? ⟨gb175, 0, none⟩ = some (.slice A1_0 l1_0.length c1_0) := (blk_cell BK175.out 0).trans rfl; have hfz69_0 := blk_frozen BK175.out 0) | ((with_reducible refine gate_callee (f := 42) rfl ?_); refine goesL_ (some 7) rfl rfl Try.func42 (by kernel_rfl) rfl #[.agg #[.slice A1_0 l1_0.length c1_0]] rfl eqT ?_; (with_reducible refine (spec_IsCandidate.calls k _ _ l1_0 true _ ?side1 ?side2 A3.out).mono ?_); (case side1 => exact crT HR1_0.out HB.out); (case side2 => exact HC1_0.out); rintro e w70 ⟨rfl, hb⟩; refine ⟨_, rfl, ?_⟩; have n0_ := asT (blk_below (bkT BK175.out) hb); have n1_ := asT (below_step (hbT HB.out) hb); clear BK175 HB; have BK175 := n0_; have HB := n1_; clear n0_ n1_; (try clear hb); (try clear hb2); (try clear hk); (try clear hi); have hcz71_0 : w70.cell? ⟨gb175, 0, none⟩ = some (.slice A1_0 l1_0.length c1_0) := (blk_cell BK175.out 0).trans rfl; have hfz71_0 := blk_frozen BK175.out 0) | ((with_reducible refine gate_callee (f := 43) rfl ?_); refine goesL_ (some 10) rfl rfl Try.func43 (by kernel_rfl) rfl #[.agg #[.slice A1_0 l1_0.length c1_0]] rfl eqT ?_; (with_reducible refine (spec_OutputOf.calls k _ _ l1_0 t177 _ ?side1 ?side2 A5.out).mono ?_); (case side1 => exact crT HR1_0.out HB.out); (case side2 => exact HC1_0.out); rintro e w72 ⟨rfl, hb⟩; refine ⟨_, rfl, ?_⟩; have n0_ := asT (blk_below (bkT BK175.out) hb); have n1_ := asT (below_step (hbT HB.out) hb); clear BK175 HB; have BK175 := n0_; have HB := n1_; clear n0_ n1_; (try clear hb); (try clear hb2); (try clear hk); (try clear hi); have hcz73_0 : w72.cell? ⟨gb175, 0, none⟩ = some (.slice A1_0 l1_0.length c1_0) := (blk_cell BK175.out 0).trans rfl; have hfz73_0 := blk_frozen BK175.out 0) | ((with_reducible refine gate_callee (f := 52) rfl ?_); refine goesL_ (some 47) rfl rfl Try.func52 (by kernel_rfl) rfl #[.agg #[.slice A1_0 l1_0.length c1_0]] rfl eqT ?_; (with_reducible refine (spec_CountVoiceChanged.calls k _ _ l1_0 t186 _ ?side1 ?side2 A67.out).mono ?_); (case side1 => exact crT HR1_0.out HB.out); (case side2 => exact HC1_0.out); rintro e w74 ⟨rfl, hb⟩; refine ⟨_, rfl, ?_⟩; have n0_ := asT (blk_below (bkT BK175.out) hb); have n1_ := asT (below_step (hbT HB.out) hb); clear BK175 HB; have BK175 := n0_; have HB := n1_; clear n0_ n1_; (try clear hb); (try clear hb2); (try clear hk); (try clear hi)))
           go_ret
           exact ⟨rlT, hbT HB.out⟩
          ·rw [if_neg c66] at H
           have c66b0 : (a0.toList == ([105, 100, 101, 110, 116] : List UInt8)) = false := beq_eq_false_iff_ne.mpr c66
           have c66b1 : (a0.toList != ([105, 100, 101, 110, 116] : List UInt8)) = true := bne_iff_ne.mpr c66
           by_cases c75 : a0.toList = ([99, 111, 110, 116, 105, 103] : List UInt8)
           ·rw [if_pos c75] at H
            have c75b0 : (a0.toList == ([99, 111, 110, 116, 105, 103] : List UInt8)) = true := beq_iff_eq.mpr c75
            have c75b1 : (a0.toList != ([99, 111, 110, 116, 105, 103] : List UInt8)) = false := bne_eq_false_iff_eq.mpr c75
            clear c75; replace H := Option.bind_eq_some_iff.mp H; obtain ⟨t187, A760, H⟩ := H; replace H : (some t187) = some r := H; have A76 := Aside0.mk A760; clear A760
            obtain rfl := Option.some.inj H
            go_enter Try.func14, Try.ntmps14
            go_wp2_with (first | ((with_reducible refine gate_dst (N := 3) rfl ?_); refine boxT (N := 3) (cs := #[.slice A1_0 l1_0.length c1_0]) (t := 34) ?_; intro gb175 hg w77 hbox hb; have n0_ := asT (below_step (hbT HB.out) hb); have n1_ := asT (hbox); have n2_ := asT (geT hg HB.out); have n3_ := asT (geT hg HB.out); clear HB; have HB := n0_; have BK175 := n1_; have GW175 := n2_; have GE175 := n3_; clear n0_ n1_ n2_ n3_ hb hbox hg; have hcz78_0 : w77.cell? ⟨gb175, 0, none⟩ = some (.slice A1_0 l1_0.length c1_0) := (blk_cell BK175.out 0).trans rfl; have hfz78_0 := blk_frozen BK175.out 0) | ((with_reducible refine gate_callee (f := 42) rfl ?_); refine goesL_ (some 7) rfl rfl Try.func42 (by kernel_rfl) rfl #[.agg #[.slice A1_0 l1_0.length c1_0]] rfl eqT ?_; (with_reducible refine (spec_IsCandidate.calls k _ _ l1_0 true _ ?side1 ?side2 A3.out).mono ?_); (case side1 => exact crT HR1_0.out HB.out); (case side2 => exact HC1_0.out); rintro e w79 ⟨rfl, hb⟩; refine ⟨_, rfl, ?_⟩; have n0_ := asT (blk_below (bkT BK175.out) hb); have n1_ := asT (below_step (hbT HB.out) hb); clear BK175 HB; have BK175 := n0_; have HB := n1_; clear n0_ n1_; (try clear hb); (try clear hb2); (try clear hk); (try clear hi); have hcz80_0 : w79.cell? ⟨gb175, 0, none⟩ = some (.slice A1_0 l1_0.length c1_0) := (blk_cell BK175.out 0).trans rfl; have hfz80_0 := blk_frozen BK175.out 0) | ((with_reducible refine gate_callee (f := 43) rfl ?_); refine goesL_ (some 10) rfl rfl Try.func43 (by kernel_rfl) rfl #[.agg #[.slice A1_0 l1_0.length c1_0]] rfl eqT ?_; (with_reducible refine (spec_OutputOf.calls k _ _ l1_0 t177 _ ?side1 ?side2 A5.out).mono ?_); (case side1 => exact crT HR1_0.out HB.out); (case side2 => exact HC1_0.out); rintro e w81 ⟨rfl, hb⟩; refine ⟨_, rfl, ?_⟩; have n0_ := asT (blk_below (bkT BK175.out) hb); have n1_ := asT (below_step (hbT HB.out) hb); clear BK175 HB; have BK175 := n0_; have HB := n1_; clear n0_ n1_; (try clear hb); (try clear hb2); (try clear hk); (try clear hi); have hcz82_0 : w81.cell? ⟨gb175, 0, none⟩ = some (.slice A1_0 l1_0.length c1_0) := (blk_cell BK175.out 0).trans rfl; have hfz82_0 := blk_frozen BK175.out 0) | ((with_reducible refine gate_callee (f := 53) rfl ?_); refine goesL_ (some 51) rfl rfl Try.func53 (by kernel_rfl) rfl #[.agg #[.slice A1_0 l1_0.length c1_0]] rfl eqT ?_; (with_reducible refine (spec_CountBreaks.calls k _ _ l1_0 t187 _ ?side1 ?side2 A76.out).mono ?_); (case side1 => exact crT HR1_0.out HB.out); (case side2 => exact HC1_0.out); rintro e w83 ⟨rfl, hb⟩; refine ⟨_, rfl, ?_⟩; have n0_ := asT (blk_below (bkT BK175.out) hb); have n1_ := asT (below_step (hbT HB.out) hb); clear BK175 HB; have BK175 := n0_; have HB := n1_; clear n0_ n1_; (try clear hb); (try clear hb2); (try clear hk); (try clear hi)))
            go_ret
            exact ⟨rlT, hbT HB.out⟩
           ·rw [if_neg c75] at H
            have c75b0 : (a0.toList == ([99, 111, 110, 116, 105, 103] : List UInt8)) = false := beq_eq_false_iff_ne.mpr c75
            have c75b1 : (a0.toList != ([99, 111, 110, 116, 105, 103] : List UInt8)) = true := bne_iff_ne.mpr c75
            obtain rfl := Option.some.inj H
            go_enter Try.func14, Try.ntmps14
            go_wp2_with (first | ((with_reducible refine gate_dst (N := 3) rfl ?_); refine boxT (N := 3) (cs := #[.slice A1_0 l1_0.length c1_0]) (t := 34) ?_; intro gb175 hg w84 hbox hb; have n0_ := asT (below_step (hbT HB.out) hb); have n1_ := asT (hbox); have n2_ := asT (geT hg HB.out); have n3_ := asT (geT hg HB.out); clear HB; have HB := n0_; have BK175 := n1_; have GW175 := n2_; have GE175 := n3_; clear n0_ n1_ n2_ n3_ hb hbox hg; have hcz85_0 : w84.cell? ⟨gb175, 0, none⟩ = some (.slice A1_0 l1_0.length c1_0) := (blk_cell BK175.out 0).trans rfl; have hfz85_0 := blk_frozen BK175.out 0) | ((with_reducible refine gate_callee (f := 42) rfl ?_); refine goesL_ (some 7) rfl rfl Try.func42 (by kernel_rfl) rfl #[.agg #[.slice A1_0 l1_0.length c1_0]] rfl eqT ?_; (with_reducible refine (spec_IsCandidate.calls k _ _ l1_0 true _ ?side1 ?side2 A3.out).mono ?_); (case side1 => exact crT HR1_0.out HB.out); (case side2 => exact HC1_0.out); rintro e w86 ⟨rfl, hb⟩; refine ⟨_, rfl, ?_⟩; have n0_ := asT (blk_below (bkT BK175.out) hb); have n1_ := asT (below_step (hbT HB.out) hb); clear BK175 HB; have BK175 := n0_; have HB := n1_; clear n0_ n1_; (try clear hb); (try clear hb2); (try clear hk); (try clear hi); have hcz87_0 : w86.cell? ⟨gb175, 0, none⟩ = some (.slice A1_0 l1_0.length c1_0) := (blk_cell BK175.out 0).trans rfl; have hfz87_0 := blk_frozen BK175.out 0) | ((with_reducible refine gate_callee (f := 43) rfl ?_); refine goesL_ (some 10) rfl rfl Try.func43 (by kernel_rfl) rfl #[.agg #[.slice A1_0 l1_0.length c1_0]] rfl eqT ?_; (with_reducible refine (spec_OutputOf.calls k _ _ l1_0 t177 _ ?side1 ?side2 A5.out).mono ?_); (case side1 => exact crT HR1_0.out HB.out); (case side2 => exact HC1_0.out); rintro e w88 ⟨rfl, hb⟩; refine ⟨_, rfl, ?_⟩; have n0_ := asT (blk_below (bkT BK175.out) hb); have n1_ := asT (below_step (hbT HB.out) hb); clear BK175 HB; have BK175 := n0_; have HB := n1_; clear n0_ n1_; (try clear hb); (try clear hb2); (try clear hk); (try clear hi)))
            go_ret
            exact ⟨rlT, hbT HB.out⟩
 ·replace c4 := Bool.eq_false_iff.mpr c4
  subst c4
  have H1 : (some (-1)) = some r := by rw [if_neg (show ¬ (false = true) by decide)] at H; exact H
  clear H; have H := H1; clear H1
  obtain rfl := Option.some.inj H
  go_enter Try.func14, Try.ntmps14
  go_wp2_with (first | ((with_reducible refine gate_dst (N := 3) rfl ?_); refine boxT (N := 3) (cs := #[.slice A1_0 l1_0.length c1_0]) (t := 34) ?_; intro gb175 hg w89 hbox hb; have n0_ := asT (below_step (hbT HB.out) hb); have n1_ := asT (hbox); have n2_ := asT (geT hg HB.out); have n3_ := asT (geT hg HB.out); clear HB; have HB := n0_; have BK175 := n1_; have GW175 := n2_; have GE175 := n3_; clear n0_ n1_ n2_ n3_ hb hbox hg; have hcz90_0 : w89.cell? ⟨gb175, 0, none⟩ = some (.slice A1_0 l1_0.length c1_0) := (blk_cell BK175.out 0).trans rfl; have hfz90_0 := blk_frozen BK175.out 0) | ((with_reducible refine gate_callee (f := 42) rfl ?_); refine goesL_ (some 7) rfl rfl Try.func42 (by kernel_rfl) rfl #[.agg #[.slice A1_0 l1_0.length c1_0]] rfl eqT ?_; (with_reducible refine (spec_IsCandidate.calls k _ _ l1_0 false _ ?side1 ?side2 A3.out).mono ?_); (case side1 => exact crT HR1_0.out HB.out); (case side2 => exact HC1_0.out); rintro e w91 ⟨rfl, hb⟩; refine ⟨_, rfl, ?_⟩; have n0_ := asT (blk_below (bkT BK175.out) hb); have n1_ := asT (below_step (hbT HB.out) hb); clear BK175 HB; have BK175 := n0_; have HB := n1_; clear n0_ n1_; (try clear hb); (try clear hb2); (try clear hk); (try clear hi)))
  go_ret
  exact ⟨rlT, hbT HB.out⟩

/-! ### laws_toLink: function 92 -/
def laws_toLink.f (a0_0 : Int) (a0_1 : Int) : Option (Int × Int) := some (a0_0, a0_1)
set_option maxHeartbeats 8000000 in
set_option maxRecDepth 100000 in
theorem laws_toLink.calls (a0_0 : Int) (a0_1 : Int) (r1 : Int) (r2 : Int) (w : World) (h : laws_toLink.f a0_0 a0_1 = some (r1, r2)) :
  Calls Try.prog 92 #[.agg #[.int .u8 a0_0, .int .u8 a0_1]] w fun e w' => e = .returned (.agg #[.int .u8 r1, .int .u8 r2]) ∧ Below w.heap.size w w' := by
 have hu92 := Try.underlying92; have hu83 := Try.underlying83; have HB := asT (Below.refl w.heap.size w)
 have H : (some (a0_0, a0_1)) = some (r1, r2) := h
 clear h
 simp only [Option.some.injEq, Prod.mk.injEq] at H
 obtain ⟨rfl, rfl⟩ := H
 go_enter Try.func92, Try.ntmps92
 go_wp2_with (first | ((with_reducible refine gate_dst (N := 1) rfl ?_); refine boxT (N := 1) (cs := #[.int .u8 a0_0, .int .u8 a0_1]) (t := 92) ?_; intro gb188 hg w2 hbox hb; have n0_ := asT (below_step (hbT HB.out) hb); have n1_ := asT (hbox); have n2_ := asT (geT hg HB.out); have n3_ := asT (geT hg HB.out); clear HB; have HB := n0_; have BK188 := n1_; have GW188 := n2_; have GE188 := n3_; clear n0_ n1_ n2_ n3_ hb hbox hg) | ((with_reducible refine gate_dst (N := 2) rfl ?_); refine boxT (N := 2) (cs := #[.int .u8 0, .int .u8 0]) (t := 83) ?_; intro gb189 hg w3 hbox hb; have n0_ := asT (blk_below (bkT BK188.out) hb); have n1_ := asT (below_step (hbT HB.out) hb); have n2_ := asT (hbox); have n3_ := asT (geT hg HB.out); have n4_ := asT (geT hg HB.out); have n5_ := asT ((by rw [hg]; exact Nat.ne_of_lt (blk_lt (bkT BK188.out)) : gb188 ≠ gb189)); have n6_ := asT ((by rw [hg]; exact Nat.ne_of_gt (blk_lt (bkT BK188.out)) : gb189 ≠ gb188)); clear BK188 HB; have BK188 := n0_; have HB := n1_; have BK189 := n2_; have GW189 := n3_; have GE189 := n4_; have NB188_189 := n5_; have NB189_188 := n6_; clear n0_ n1_ n2_ n3_ n4_ n5_ n6_ hb hbox hg) | ((with_reducible refine gate_dst (N := 3) rfl ?_); refine boxT (N := 3) (cs := #[.int .u8 0, .int .u8 0]) (t := 83) ?_; intro gb190 hg w4 hbox hb; have n0_ := asT (blk_below (bkT BK188.out) hb); have n1_ := asT (blk_below (bkT BK189.out) hb); have n2_ := asT (below_step (hbT HB.out) hb); have n3_ := asT (hbox); have n4_ := asT (geT hg HB.out); have n5_ := asT (geT hg HB.out); have n6_ := asT ((by rw [hg]; exact Nat.ne_of_lt (blk_lt (bkT BK188.out)) : gb188 ≠ gb190)); have n7_ := asT ((by rw [hg]; exact Nat.ne_of_gt (blk_lt (bkT BK188.out)) : gb190 ≠ gb188)); have n8_ := asT ((by rw [hg]; exact Nat.ne_of_lt (blk_lt (bkT BK189.out)) : gb189 ≠ gb190)); have n9_ := asT ((by rw [hg]; exact Nat.ne_of_gt (blk_lt (bkT BK189.out)) : gb190 ≠ gb189)); clear BK188 BK189 HB; have BK188 := n0_; have BK189 := n1_; have HB := n2_; have BK190 := n3_; have GW190 := n4_; have GE190 := n5_; have NB188_190 := n6_; have NB190_188 := n7_; have NB189_190 := n8_; have NB190_189 := n9_; clear n0_ n1_ n2_ n3_ n4_ n5_ n6_ n7_ n8_ n9_ hb hbox hg; have hnb5 := NB188_189.out; have hnc5 := NB189_188.out; have hnb6 := NB188_190.out; have hnc6 := NB190_188.out; have hcz7_0 : w4.cell? ⟨gb188, 0, none⟩ = some (.int .u8 a0_0) := (blk_cell BK188.out 0).trans rfl; have hcz7_1 : w4.cell? ⟨gb188, 1, none⟩ = some (.int .u8 a0_1) := (blk_cell BK188.out 1).trans rfl; have hfz7_0 := blk_frozen BK188.out 0; have hfz7_1 := blk_frozen BK188.out 1; have hnb8 := NB190_189.out; have hnc8 := NB189_190.out; have hcz9_0 : w4.cell? ⟨gb190, 0, none⟩ = some (.int .u8 0) := (blk_cell BK190.out 0).trans rfl; have hcz9_1 : w4.cell? ⟨gb190, 1, none⟩ = some (.int .u8 0) := (blk_cell BK190.out 1).trans rfl; have hfz9_0 := blk_frozen BK190.out 0; have hfz9_1 := blk_frozen BK190.out 1; have hcz10_0 : w4.cell? ⟨gb189, 0, none⟩ = some (.int .u8 0) := (blk_cell BK189.out 0).trans rfl; have hcz10_1 : w4.cell? ⟨gb189, 1, none⟩ = some (.int .u8 0) := (blk_cell BK189.out 1).trans rfl; have hfz10_0 := blk_frozen BK189.out 0; have hfz10_1 := blk_frozen BK189.out 1))
 refine bodyPost_ret (results_cell_row rfl _ _ gb189 83 #[.int .u8 a0_0, .int .u8 a0_1] (0, 0) _ rfl (by (with_reducible repeat (first | refine blk_drewN ?_ _ | refine blk_drew ?_ | refine blk_alloc ?_ _)); refine blk_put (cs := #[.int .u8 a0_0, .int .u8 0]) ?_ 1 _ rfl; (with_reducible repeat (first | refine blk_drewN ?_ _ | refine blk_drew ?_ | refine blk_alloc ?_ _)); refine blk_put (cs := #[.int .u8 0, .int .u8 0]) ?_ 0 _ rfl; (with_reducible repeat (first | refine blk_drewN ?_ _ | refine blk_drew ?_ | refine blk_alloc ?_ _)); refine blk_far ?_ NB189_190.out _; (with_reducible repeat (first | refine blk_drewN ?_ _ | refine blk_drew ?_ | refine blk_alloc ?_ _)); refine blk_far ?_ NB189_190.out _; (with_reducible repeat (first | refine blk_drewN ?_ _ | refine blk_drew ?_ | refine blk_alloc ?_ _)); exact BK189.out) Try.underlying83 rfl (by kernel_rfl)) rfl ?_
 exact ⟨rlT, hbT HB.out⟩

/-! ### laws_toLinkS: function 54 -/
def laws_toLinkS.l0 : Nat → List (S92) → List (S83) → Int → Option ((List (S83)))
 | 0, _, _, _ => none
 | k + 1, x0, x3, x4 => if x4 < (x0.length : Int) then (if 0 ≤ x4 then ((laws_toLink.f ((rd_T92 x0 x4).f0) ((rd_T92 x0 x4).f1)).bind fun bt195 => (if x4 < (x3.length : Int) then (laws_toLinkS.l0 k x0 (x3.set (x4 : Int).toNat (⟨bt195.1, bt195.2⟩ : S83)) (wrap64 (x4 + 1))) else (none))) else (none)) else (some x3)
def laws_toLinkS.f (k : Nat) (l0 : List (S92)) : Option ((List (S83))) := if 0 ≤ (l0.length : Int) then (if ((l0.length : Int) : Int).toNat ≤ 140737488355328 then (laws_toLinkS.l0 k l0 (List.replicate ((l0.length : Int) : Int).toNat z83) 0) else (none)) else (none)
theorem laws_toLinkS.mono_l : ∀ k, (∀ y0 y1 y2, LeO (laws_toLinkS.l0 k y0 y1 y2) (laws_toLinkS.l0 (k + 1) y0 y1 y2))
 | 0 => fun _ _ _ r h => by simp [laws_toLinkS.l0] at h
 | k + 1 => by
  have ih0 := laws_toLinkS.mono_l k
  ·intro y0 y1 y2
   unfold laws_toLinkS.l0
   repeat' first
   | (with_reducible exact ih0 _ _ _)
   | (with_reducible exact LeO.refl _)
   | (with_reducible exact LeO.none _)
   | (with_reducible refine LeO.ite ?_ ?_)
   | (with_reducible refine LeO.bind ?_ (fun _ => ?_))
   | exact ih0 _ _ _
   | exact LeO.none _
   | refine LeO.ite ?_ ?_
   | refine LeO.bind ?_ (fun _ => ?_)
theorem laws_toLinkS.mono : ∀ a0 k, LeO (laws_toLinkS.f k a0) (laws_toLinkS.f (k + 1) a0) := by
 intro a0 k
 have ih0 := laws_toLinkS.mono_l k
 unfold laws_toLinkS.f
 repeat' first
   | (with_reducible exact ih0 _ _ _)
   | (with_reducible exact LeO.refl _)
   | (with_reducible exact LeO.none _)
   | (with_reducible refine LeO.ite ?_ ?_)
   | (with_reducible refine LeO.bind ?_ (fun _ => ?_))
   | exact ih0 _ _ _
   | exact LeO.none _
   | refine LeO.ite ?_ ?_
   | refine LeO.bind ?_ (fun _ => ?_)
set_option maxHeartbeats 8000000 in
set_option maxRecDepth 100000 in
theorem laws_toLinkS.calls (k : Nat) (A0 : Option Addr) (c0 : Nat) (l0 : List (S92)) (r : List (S83)) (w : World) (hr0 : Kd.C k92 w A0 l0.length l0) (hc0 : l0.length ≤ c0) (h : laws_toLinkS.f k l0 = some r) :
  Calls Try.prog 54 #[.slice A0 l0.length c0] w fun e w' => ∃ v0_ : Value, e = .returned (v0_) ∧ Kd.R k83 83 w' w.heap.size (fun _ => True) v0_ r ∧ Below w.heap.size w w' := by
 have hu92 := Try.underlying92; have hu83 := Try.underlying83; have HR0 := Aside0.mk hr0; have HC0 := Aside0.mk hc0; clear hr0 hc0; have HB := asT (Below.refl w.heap.size w)
 have H : (if 0 ≤ (l0.length : Int) then (if ((l0.length : Int) : Int).toNat ≤ 140737488355328 then (laws_toLinkS.l0 k l0 (List.replicate ((l0.length : Int) : Int).toNat z83) 0) else (none)) else (none)) = some r := h
 clear h
 by_cases c2 : 0 ≤ (l0.length : Int)
 ·rw [if_pos c2] at H
  have c2b0 := eq_true c2
  have c2b1 : decide (0 ≤ (l0.length : Int)) = true := decide_eq_true c2
  clear c2
  by_cases c3 : ((l0.length : Int) : Int).toNat ≤ 140737488355328
  ·rw [if_pos c3] at H
   have c3b0 := eq_true c3
   have c3b1 : decide (((l0.length : Int) : Int).toNat ≤ 140737488355328) = true := decide_eq_true c3
   clear c3; obtain ⟨y191, hy191⟩ : ∃ y_ : List (S83), y_ = (List.replicate ((l0.length : Int) : Int).toNat z83) := ⟨_, rfl⟩
   replace H : (laws_toLinkS.l0 k l0 y191 0) = some r := by first | (rw [hy191]; with_reducible exact H) | (have H2_ := (Option.bind_some _ _).symm.trans H; rw [hy191]; with_reducible exact H2_) | (have H2_ := (Option.bind_some _ _).symm.trans H; with_reducible exact H2_) | with_reducible exact H | (rw [hy191]; exact H) | exact H
   have Ny191 := Aside0.mk hy191; clear hy191; have H' := Aside0.mk H; clear H
   go_enter Try.func54, Try.ntmps54
   go_wp2_with (first | ((with_reducible refine gate_dst (N := 7) rfl ?_); refine Kd.R_make k83 _ 83 rfl (N := 7) rfl 32 _ _ rfl (l0.length : Int) rfl rfl Try.underlying32 (.agg #[(.int .u8 0), (.int .u8 0)]) 2 info83 rfl (by decide) (by omega) z83 (ok := fun _ => True) (okp := fun _ => True) (k83_mkM _ _ _ z83 ) (fun _ hk => hk) trivial (of_decide_eq_true asmT) (Nat.le_trans (Nat.mul_le_mul_right _ (of_decide_eq_true asmT : (l0.length : Int).toNat ≤ 140737488355328)) (by omega)) (Below.refl _ _) (Nat.le_refl _) ?_; intro v192 w4 ho5 hb hg_ hnew_; clear hg_ hnew_; (first | rw [← Ny191.out] at ho5 | (simp only [Int.reduceToNat] at ho5; rw [← Ny191.out] at ho5)); have n0_ := asT (Kd.R_lower ho5 (below_size (hbT HB.out))); have n1_ := asT (below_step (hbT HB.out) hb); clear HB; have HO193 := n0_; have HB := n1_; clear n0_ n1_ hb ho5))
   go_loopg [4] k (fun kq v4 w' => ∃ (x3_1 : List (S83)) (x4_1 : Int), v4 = .int .i64 x4_1 ∧ Aside0 (laws_toLinkS.l0 kq l0 x3_1 x4_1 = some r) ∧ Aside0 (kq ≤ k) ∧ Aside0 (Kd.R k83 83 w' w.heap.size (fun _ => True) v192 x3_1) ∧ Aside0 (Below w.heap.size w w'))
   case atStart => exact ⟨(y191), (0), rdT, H', ⟨Nat.le_refl _⟩, ⟨by (with_reducible repeat (first | apply Kd.R_alloc | apply Kd.R_drewN | apply Kd.R_drew)); exact HO193.out⟩, ⟨hbT HB.out⟩⟩
   case round =>
    clear H'; (try clear c2); (try clear c2b0); (try clear c2b1); (try clear p2); (try clear c3); (try clear c3b0); (try clear c3b1); (try clear c5); obtain ⟨x3_1, x4_1, rfl, HA, HK1, HO_3, HB⟩ := hrel
    cases gk with
    | zero => exact absurd HA.out (by simp [laws_toLinkS.l0])
    | succ k1 =>
     have H := HA.out; clear HA
     simp only [laws_toLinkS.l0] at H
     by_cases c6 : x4_1 < (l0.length : Int)
     ·rw [if_pos c6] at H
      have c6b0 : decide (x4_1 < (l0.length : Int)) = true := decide_eq_true c6
      clear c6
      by_cases c7 : 0 ≤ x4_1
      ·rw [if_pos c7] at H
       have c7b0 : decide (0 ≤ x4_1) = true := decide_eq_true c7
       clear c7; replace H := Option.bind_eq_some_iff.mp H; obtain ⟨⟨t195, t196⟩, A80, H⟩ := H; replace H : (if x4_1 < (x3_1.length : Int) then (laws_toLinkS.l0 k1 l0 (x3_1.set (x4_1 : Int).toNat (⟨t195, t196⟩ : S83)) (wrap64 (x4_1 + 1))) else (none)) = some r := H; have A8 := Aside0.mk A80; clear A80
       by_cases c9 : x4_1 < (x3_1.length : Int)
       ·rw [if_pos c9] at H
        have c9b0 : decide (x4_1 < (x3_1.length : Int)) = true := decide_eq_true c9
        clear c9; obtain ⟨y197, hy197⟩ : ∃ y_ : List (S83), y_ = (x3_1.set (x4_1 : Int).toNat (⟨t195, t196⟩ : S83)) := ⟨_, rfl⟩
        replace H : (laws_toLinkS.l0 k1 l0 y197 (wrap64 (x4_1 + 1))) = some r := by first | (rw [hy197]; with_reducible exact H) | (have H2_ := (Option.bind_some _ _).symm.trans H; rw [hy197]; with_reducible exact H2_) | (have H2_ := (Option.bind_some _ _).symm.trans H; with_reducible exact H2_) | with_reducible exact H | (rw [hy197]; exact H) | exact H
        have Ny197 := Aside0.mk hy197; clear hy197; have H' := Aside0.mk H; clear H
        have p194 : 0 ≤ (x4_1 : Int) := of_decide_eq_true asmT
        have q194 : x4_1 < (l0.length : Int) := of_decide_eq_true asmT
        obtain ⟨ad194, e194, hx194_0, hx194_1⟩ := at_T92 HR0.out x4_1 p194 q194
        cases e194
        replace hx194_0 := (HB.out.cell (World.block_lt_of_cell? w _ hx194_0)).trans hx194_0; replace hx194_1 := (HB.out.cell (World.block_lt_of_cell? w _ hx194_1)).trans hx194_1; replace p194 := eq_true p194; replace q194 := eq_true q194
        go_wp2_with (first | ((with_reducible refine gate_callee (f := 92) rfl ?_); refine goesL_ (some 20) rfl rfl Try.func92 (by kernel_rfl) rfl #[.agg #[.int .u8 ((rd_T92 l0 x4_1).f0), .int .u8 ((rd_T92 l0 x4_1).f1)]] rfl eqT ?_; (with_reducible refine (laws_toLink.calls ((rd_T92 l0 x4_1).f0) ((rd_T92 l0 x4_1).f1) t195 t196 _ A8.out).mono ?_); rintro e w11 ⟨rfl, hb⟩; refine ⟨_, rfl, ?_⟩; have n0_ := asT (Kd.R_below (roT HO_3.out) hb); have n1_ := asT (below_step (hbT HB.out) hb); clear HO_3 HB; have HO_3 := n0_; have HB := n1_; clear n0_ n1_; (try clear hb); (try clear hb2); (try clear hk); (try clear hi); have p10 : 0 ≤ (x4_1 : Int) := of_decide_eq_true asmT; have q10 : (x4_1 : Int) < ((x3_1.length : Int) : Int) := of_decide_eq_true asmT; obtain ⟨go10, co10, eo10, gb10, gl10, cl10, HG10⟩ := Kd.R_form HO_3.out (by omega); (first | cases eo10 | (injection eo10 with ea_ en_ ec_; (first | subst ea_ | (injection ea_ with ea_; subst ea_)); subst ec_; clear en_)); have GB10 := Aside0.mk gb10; have GG10 := Aside0.mk HG10; clear gb10 gl10 HG10; obtain ⟨ce10, hcl10, hM10, hcc10, hfr10⟩ := Kd.R_elem HO_3.out z83 (x4_1 : Int) p10 q10; obtain rfl := k83_openM hM10; have hx10_0 : w11.cell? ⟨go10, (x4_1 : Int).toNat * 2, none⟩ = some (.int .u8 ((rd_T83 x3_1 x4_1).f0)) := hcc10 0 _ rfl; have hx10_1 : w11.cell? ⟨go10, (x4_1 : Int).toNat * 2 + 1, none⟩ = some (.int .u8 ((rd_T83 x3_1 x4_1).f1)) := hcc10 1 _ rfl; have hf10_0 : w11.frozen? ⟨go10, (x4_1 : Int).toNat * 2, none⟩ = false := hfr10 0; have hf10_1 : w11.frozen? ⟨go10, (x4_1 : Int).toNat * 2 + 1, none⟩ = false := hfr10 1; clear hcl10 hcc10 hfr10 hM10; replace p10 := eq_true p10; replace q10 := eq_true q10; have HX12 := asT (show Kd.R k83 83 w11 w.heap.size (fun _ => True) (.slice (some ⟨go10, 0, none⟩) x3_1.length co10) x3_1 from (roT HO_3.out)); obtain ⟨ce12, hcl12, hM12, hcc12, hfr12⟩ := Kd.R_elem HX12.out z83 (x4_1 : Int) (of_decide_eq_true asmT) (by have h_ : (x4_1 : Int) < ((x3_1.length : Int) : Int) := of_decide_eq_true asmT; first | exact h_ | (have e_ := (Kd.R_reads' HO_3.out).1; omega) | simpa using h_); obtain rfl := k83_openM hM12; have HP12 := Kd.R_seg HX12.out (x4_1 : Int) (of_decide_eq_true asmT) (by have h_ : (x4_1 : Int) < ((x3_1.length : Int) : Int) := of_decide_eq_true asmT; first | exact h_ | (have e_ := (Kd.R_reads' HO_3.out).1; omega) | simpa using h_) (seg := [.int .u8 t195, .int .u8 t196]) (j := 0) hcl12 hcc12 (show 2 ≤ 2 from by decide) (x' := (⟨t195, t196⟩ : S83)) (k83_mkM _ _ _ (⟨t195, t196⟩ : S83) ) (fun _ hk => hk); have hx12_0 := hcc12 0 _ rfl; (try simp only [show (k83).sz = 2 from rfl, Nat.mul_one, Nat.add_zero] at hx12_0); have hf12_0 := hfr12 0; (try simp only [show (k83).sz = 2 from rfl, Nat.mul_one, Nat.add_zero] at hf12_0); have hx12_1 := hcc12 1 _ rfl; (try simp only [show (k83).sz = 2 from rfl, Nat.mul_one, Nat.add_zero] at hx12_1); have hf12_1 := hfr12 1; (try simp only [show (k83).sz = 2 from rfl, Nat.mul_one, Nat.add_zero] at hf12_1); clear hcl12 hcc12 hfr12 hM12) | ((with_reducible refine gate_store (t := 83) (p := 21) rfl ?_); refine store_event (t := 83) (p := 21) (v := ?vo_w13) (w1 := ((w11.setCell ⟨go10, (x4_1 : Int).toNat * 2, none⟩ (.int .u8 t195)).setCell ⟨go10, (x4_1 : Int).toNat * 2 + 1, none⟩ (.int .u8 t196))) ?hg ?ho ?hn ?hr ?_; (case ho => rfl); (case hg => rfl); (case hn => rfl); (case hr => first | (go_simp; done) | (go_simp; rfl)); intro w13 hw; have hg : w11.grownBy w13 (some go10) := (by rw [hw]; exact HP12.2); have hp_ : Kd.R k83 83 w13 w.heap.size (fun _ => True) (.slice (some ⟨go10, 0, none⟩) x3_1.length co10) y197 := (by rw [hw, Ny197.out]; exact HP12.1); clear HP12; have n0_ := asT (hp_); have n1_ := asT ((by rw [hw]; exact below_set (below_set (HB.out) GB10.out) GB10.out : Below w.heap.size w w13)); clear HO_3 HB; have HO_3 := n0_; have HB := n1_; clear n0_ n1_ hg hw hp_))
        go_roundg k1
        case measure => have := HK1.out; omega
        case rel => exact ⟨(y197), (wrap64 (x4_1 + 1)), rdT, H', ⟨by have := HK1.out; omega⟩, ⟨by (with_reducible repeat (first | apply Kd.R_alloc | apply Kd.R_drewN | apply Kd.R_drew)); exact HO_3.out⟩, ⟨hbT HB.out⟩⟩
       ·rw [if_neg c9] at H
        exact absurd H (by simp)
      ·rw [if_neg c7] at H
       exact absurd H (by simp)
     ·rw [if_neg c6] at H
      have c6b0 : decide (x4_1 < (l0.length : Int)) = false := decide_eq_false c6
      clear c6
      obtain rfl := Option.some.inj H
      go_wp2
      go_ret
      exact ⟨_, rlT, by (with_reducible repeat (first | apply Kd.R_alloc | apply Kd.R_drewN | apply Kd.R_drew)); exact HO_3.out, hbT HB.out⟩
  ·rw [if_neg c3] at H
   exact absurd H (by simp)
 ·rw [if_neg c2] at H
  exact absurd H (by simp)

/-! ### laws_toCandidate: function 15 -/
def laws_toCandidate.f (k : Nat) (l0_0 : List (S92)) : Option ((List (S83))) := (laws_toLinkS.f k l0_0).bind fun t201 => (some t201)
theorem laws_toCandidate.mono : ∀ a0 k, LeO (laws_toCandidate.f k a0) (laws_toCandidate.f (k + 1) a0) := by
 intro a0 k
 unfold laws_toCandidate.f
 repeat' first
   | (with_reducible exact laws_toLinkS.mono _ _)
   | (with_reducible exact LeO.refl _)
   | (with_reducible exact LeO.none _)
   | (with_reducible refine LeO.ite ?_ ?_)
   | (with_reducible refine LeO.bind ?_ (fun _ => ?_))
   | exact laws_toLinkS.mono _ _
   | exact LeO.none _
   | refine LeO.ite ?_ ?_
   | refine LeO.bind ?_ (fun _ => ?_)
set_option maxHeartbeats 8000000 in
set_option maxRecDepth 100000 in
theorem laws_toCandidate.calls (k : Nat) (A0_0 : Option Addr) (c0_0 : Nat) (l0_0 : List (S92)) (r : List (S83)) (w : World) (hr0_0 : Kd.C k92 w A0_0 l0_0.length l0_0) (hc0_0 : l0_0.length ≤ c0_0) (h : laws_toCandidate.f k l0_0 = some r) :
  Calls Try.prog 15 #[.agg #[.slice A0_0 l0_0.length c0_0]] w fun e w' => ∃ v0_ : Value, e = .returned (.agg #[v0_]) ∧ Kd.R k83 83 w' w.heap.size (fun _ => True) v0_ r ∧ Below w.heap.size w w' := by
 have hu29 := Try.underlying29; have hu34 := Try.underlying34; have HR0_0 := Aside0.mk hr0_0; have HC0_0 := Aside0.mk hc0_0; clear hr0_0 hc0_0; have HB := asT (Below.refl w.heap.size w)
 have H : ((laws_toLinkS.f k l0_0).bind fun t201 => (some t201)) = some r := h
 clear h; replace H := Option.bind_eq_some_iff.mp H; obtain ⟨t201, A20, H⟩ := H; replace H : (some t201) = some r := H; have A2 := Aside0.mk A20; clear A20
 obtain rfl := Option.some.inj H
 go_enter Try.func15, Try.ntmps15
 go_wp2_with (first | ((with_reducible refine gate_dst (N := 1) rfl ?_); refine boxT (N := 1) (cs := #[.slice A0_0 l0_0.length c0_0]) (t := 29) ?_; intro gb198 hg w3 hbox hb; have n0_ := asT (below_step (hbT HB.out) hb); have n1_ := asT (hbox); have n2_ := asT (geT hg HB.out); have n3_ := asT (geT hg HB.out); clear HB; have HB := n0_; have BK198 := n1_; have GW198 := n2_; have GE198 := n3_; clear n0_ n1_ n2_ n3_ hb hbox hg) | ((with_reducible refine gate_dst (N := 2) rfl ?_); refine boxT (N := 2) (cs := #[.slice none 0 0]) (t := 34) ?_; intro gb199 hg w4 hbox hb; have n0_ := asT (blk_below (bkT BK198.out) hb); have n1_ := asT (below_step (hbT HB.out) hb); have n2_ := asT (hbox); have n3_ := asT (geT hg HB.out); have n4_ := asT (geT hg HB.out); have n5_ := asT ((by rw [hg]; exact Nat.ne_of_lt (blk_lt (bkT BK198.out)) : gb198 ≠ gb199)); have n6_ := asT ((by rw [hg]; exact Nat.ne_of_gt (blk_lt (bkT BK198.out)) : gb199 ≠ gb198)); clear BK198 HB; have BK198 := n0_; have HB := n1_; have BK199 := n2_; have GW199 := n3_; have GE199 := n4_; have NB198_199 := n5_; have NB199_198 := n6_; clear n0_ n1_ n2_ n3_ n4_ n5_ n6_ hb hbox hg) | ((with_reducible refine gate_dst (N := 3) rfl ?_); refine boxT (N := 3) (cs := #[.slice none 0 0]) (t := 34) ?_; intro gb200 hg w5 hbox hb; have n0_ := asT (blk_below (bkT BK198.out) hb); have n1_ := asT (blk_below (bkT BK199.out) hb); have n2_ := asT (below_step (hbT HB.out) hb); have n3_ := asT (hbox); have n4_ := asT (geT hg HB.out); have n5_ := asT (geT hg HB.out); have n6_ := asT ((by rw [hg]; exact Nat.ne_of_lt (blk_lt (bkT BK198.out)) : gb198 ≠ gb200)); have n7_ := asT ((by rw [hg]; exact Nat.ne_of_gt (blk_lt (bkT BK198.out)) : gb200 ≠ gb198)); have n8_ := asT ((by rw [hg]; exact Nat.ne_of_lt (blk_lt (bkT BK199.out)) : gb199 ≠ gb200)); have n9_ := asT ((by rw [hg]; exact Nat.ne_of_gt (blk_lt (bkT BK199.out)) : gb200 ≠ gb199)); clear BK198 BK199 HB; have BK198 := n0_; have BK199 := n1_; have HB := n2_; have BK200 := n3_; have GW200 := n4_; have GE200 := n5_; have NB198_200 := n6_; have NB200_198 := n7_; have NB199_200 := n8_; have NB200_199 := n9_; clear n0_ n1_ n2_ n3_ n4_ n5_ n6_ n7_ n8_ n9_ hb hbox hg; have hnb6 := NB198_199.out; have hnc6 := NB199_198.out; have hnb7 := NB198_200.out; have hnc7 := NB200_198.out; have hcz8_0 : w5.cell? ⟨gb198, 0, none⟩ = some (.slice A0_0 l0_0.length c0_0) := (blk_cell BK198.out 0).trans rfl; have hfz8_0 := blk_frozen BK198.out 0) | ((with_reducible refine gate_callee (f := 54) rfl ?_); refine goesL_ (some 6) rfl rfl Try.func54 (by kernel_rfl) rfl #[.slice A0_0 l0_0.length c0_0] rfl eqT ?_; (with_reducible refine (laws_toLinkS.calls k _ _ l0_0 t201 _ ?side1 ?side2 A2.out).mono ?_); (case side1 => exact crT HR0_0.out HB.out); (case side2 => exact HC0_0.out); rintro e w9 ⟨v202, rfl, ho0, hb⟩; refine ⟨_, rfl, ?_⟩; have n0_ := asT (Kd.R_lower ho0 (below_size (hbT HB.out))); have n1_ := asT (blk_below (bkT BK198.out) hb); have n2_ := asT (blk_below (bkT BK199.out) hb); have n3_ := asT (blk_below (bkT BK200.out) hb); have n4_ := asT (below_step (hbT HB.out) hb); clear BK198 BK199 BK200 HB; have HO203 := n0_; have BK198 := n1_; have BK199 := n2_; have BK200 := n3_; have HB := n4_; clear n0_ n1_ n2_ n3_ n4_; (try clear hb); (try clear hb2); (try clear hk); (try clear hi); (try clear ho0); obtain ⟨Ao10, co10, eo10⟩ := Kd.R_slice HO203.out; subst eo10; have hnb11 := NB200_199.out; have hnc11 := NB199_200.out; have hcz12_0 : w9.cell? ⟨gb200, 0, none⟩ = some (.slice none 0 0) := (blk_cell BK200.out 0).trans rfl; have hfz12_0 := blk_frozen BK200.out 0; have hcz13_0 : w9.cell? ⟨gb199, 0, none⟩ = some (.slice none 0 0) := (blk_cell BK199.out 0).trans rfl; have hfz13_0 := blk_frozen BK199.out 0))
 refine bodyPost_ret (results_cell_row rfl _ _ gb199 34 #[.slice Ao10 t201.length co10] (0, 0) _ rfl (by (with_reducible repeat (first | refine blk_drewN ?_ _ | refine blk_drew ?_ | refine blk_alloc ?_ _)); refine blk_put (cs := #[.slice none 0 0]) ?_ 0 _ rfl; (with_reducible repeat (first | refine blk_drewN ?_ _ | refine blk_drew ?_ | refine blk_alloc ?_ _)); refine blk_far ?_ NB199_200.out _; (with_reducible repeat (first | refine blk_drewN ?_ _ | refine blk_drew ?_ | refine blk_alloc ?_ _)); exact BK199.out) Try.underlying34 rfl (by kernel_rfl)) rfl ?_
 exact ⟨_, rlT, by (with_reducible repeat (first | apply Kd.R_alloc | apply Kd.R_drewN | apply Kd.R_drew)); exact Kd.R_mono (Kd.R_far (p := ⟨gb199, 0, none⟩) (Kd.R_far (p := ⟨gb200, 0, none⟩) (Kd.R_types (Kd.R_types HO203.out BK200.out (by decide)) BK199.out (by decide)) (fun _ hk => hk.1.2) (.slice Ao10 t201.length co10)) (fun _ hk => hk.2) (.slice Ao10 t201.length co10)) (fun _ hk => trivial), hbT HB.out⟩

/-! ### strings_IndexByte: function 129 -/
set_option maxRecDepth 100000 in
theorem stringslite_IndexByte.calls (s : ByteArray) (c : Int) (w : World) :
    Calls Try.prog 136 #[.string s, .int .u8 c] w fun e w' => e = .returned (.int .i64 (Lib.indexByte s.data.toList c.toNat.toUInt8)) ∧ w' = w := by
  go_enter Try.func136, Try.ntmps136
  go_wp2
  rw [run_callFunc_extern Try.func150 (by kernel_rfl) (by kernel_rfl) (by kernel_rfl) (e := Extern.BytealgIndexByte.indexByte) (by kernel_rfl), Lib.run_indexByteString]
  simp only [Result.andThen]
  rw [Oper.upon_value]
  go_wp2
  go_ret
  exact ⟨rfl, rfl⟩
def strings_IndexByte.f (a0 : ByteArray) (a1 : Int) : Option (Int) := some (Lib.indexByte a0.data.toList a1.toNat.toUInt8)
set_option maxRecDepth 100000 in
theorem strings_IndexByte.calls (a0 : ByteArray) (a1 : Int) (r : Int) (w : World) (h : strings_IndexByte.f a0 a1 = some r) :
    Calls Try.prog 129 #[.string a0, .int .u8 a1] w fun e w' => e = .returned (.int .i64 r) ∧ Drawn0 w w' := by
  obtain rfl := Option.some.inj h
  go_enter Try.func129, Try.ntmps129
  go_wp2_with (go_at_call 136; refine (stringslite_IndexByte.calls _ _ _).mono ?_; rintro e w' ⟨rfl, rfl⟩)
  go_ret
  exact ⟨rfl, Drawn0.refl _⟩

/-! ### impl_IsSound: function 125 -/
def impl_IsSound.f (a0 : Int) : Option (Bool) := (strings_IndexByte.f (⟨#[112, 116, 98, 100, 110, 97, 105]⟩ : ByteArray) a0).bind fun t204 => (some (decide (t204 ≥ 0)))
set_option maxHeartbeats 8000000 in
set_option maxRecDepth 100000 in
theorem impl_IsSound.calls (a0 : Int) (r : Bool) (w : World) (h : impl_IsSound.f a0 = some r) :
  Calls Try.prog 125 #[.int .u8 a0] w fun e w' => e = .returned (.bool r) ∧ Drawn0 w w' := by
 have H : ((strings_IndexByte.f (⟨#[112, 116, 98, 100, 110, 97, 105]⟩ : ByteArray) a0).bind fun t204 => (some (decide (t204 ≥ 0)))) = some r := h
 clear h; replace H := Option.bind_eq_some_iff.mp H; obtain ⟨t204, A20, H⟩ := H; replace H : (some (decide (t204 ≥ 0))) = some r := H; have A2 := Aside0.mk A20; clear A20
 obtain rfl := Option.some.inj H
 go_enter Try.func125, Try.ntmps125
 go_wp2_with (first | ((with_reducible refine gate_callee (f := 129) rfl ?_); refine goesL_ (some 4) rfl rfl Try.func129 (by kernel_rfl) rfl #[.string (⟨#[112, 116, 98, 100, 110, 97, 105]⟩ : ByteArray), .int .u8 a0] rfl eqT ?_; (with_reducible refine (strings_IndexByte.calls (⟨#[112, 116, 98, 100, 110, 97, 105]⟩ : ByteArray) a0 t204 _ A2.out).mono ?_); rintro e w' ⟨rfl, ⟨nd, rfl⟩⟩; refine ⟨_, rfl, ?_⟩))
 go_ret
 exact ⟨rdT, drT⟩

/-! ### impl_SwapVoice: function 126 -/
def impl_SwapVoice.f (a0 : Int) : Option (Int × Bool) := (strings_IndexByte.f (⟨#[112, 116, 98, 100]⟩ : ByteArray) a0).bind fun t205 => (if t205 < 0 then (some (a0, false)) else (if 0 ≤ t205 then (if t205 < 4 then (some (bt (⟨#[98, 100, 112, 116]⟩ : ByteArray) t205, true)) else (none)) else (none)))
set_option maxHeartbeats 8000000 in
set_option maxRecDepth 100000 in
theorem impl_SwapVoice.calls (a0 : Int) (r1 : Int) (r2 : Bool) (w : World) (h : impl_SwapVoice.f a0 = some (r1, r2)) :
  Calls Try.prog 126 #[.int .u8 a0] w fun e w' => e = .returned (.tuple #[.int .u8 r1, .bool r2]) ∧ Drawn0 w w' := by
 have H : ((strings_IndexByte.f (⟨#[112, 116, 98, 100]⟩ : ByteArray) a0).bind fun t205 => (if t205 < 0 then (some (a0, false)) else (if 0 ≤ t205 then (if t205 < 4 then (some (bt (⟨#[98, 100, 112, 116]⟩ : ByteArray) t205, true)) else (none)) else (none)))) = some (r1, r2) := h
 clear h; replace H := Option.bind_eq_some_iff.mp H; obtain ⟨t205, A20, H⟩ := H; replace H : (if t205 < 0 then (some (a0, false)) else (if 0 ≤ t205 then (if t205 < 4 then (some (bt (⟨#[98, 100, 112, 116]⟩ : ByteArray) t205, true)) else (none)) else (none))) = some (r1, r2) := H; have A2 := Aside0.mk A20; clear A20
 by_cases c3 : t205 < 0
 ·rw [if_pos c3] at H
  have c3b0 : decide (t205 < 0) = true := decide_eq_true c3
  clear c3
  simp only [Option.some.injEq, Prod.mk.injEq] at H
  obtain ⟨rfl, rfl⟩ := H
  go_enter Try.func126, Try.ntmps126
  go_wp2_with (first | ((with_reducible refine gate_callee (f := 129) rfl ?_); refine goesL_ (some 6) rfl rfl Try.func129 (by kernel_rfl) rfl #[.string (⟨#[112, 116, 98, 100]⟩ : ByteArray), .int .u8 a0] rfl eqT ?_; (with_reducible refine (strings_IndexByte.calls (⟨#[112, 116, 98, 100]⟩ : ByteArray) a0 t205 _ A2.out).mono ?_); rintro e w' ⟨rfl, ⟨nd, rfl⟩⟩; refine ⟨_, rfl, ?_⟩))
  go_ret2
  exact ⟨rdT, drT⟩
 ·rw [if_neg c3] at H
  have c3b0 : decide (t205 < 0) = false := decide_eq_false c3
  clear c3
  by_cases c4 : 0 ≤ t205
  ·rw [if_pos c4] at H
   have c4b0 : decide (0 ≤ t205) = true := decide_eq_true c4
   clear c4
   by_cases c5 : t205 < 4
   ·rw [if_pos c5] at H
    have c5b0 : decide (t205 < 4) = true := decide_eq_true c5
    clear c5
    simp only [Option.some.injEq, Prod.mk.injEq] at H
    obtain ⟨rfl, rfl⟩ := H
    go_enter Try.func126, Try.ntmps126
    go_wp2_with (first | ((with_reducible refine gate_callee (f := 129) rfl ?_); refine goesL_ (some 6) rfl rfl Try.func129 (by kernel_rfl) rfl #[.string (⟨#[112, 116, 98, 100]⟩ : ByteArray), .int .u8 a0] rfl eqT ?_; (with_reducible refine (strings_IndexByte.calls (⟨#[112, 116, 98, 100]⟩ : ByteArray) a0 t205 _ A2.out).mono ?_); rintro e w' ⟨rfl, ⟨nd, rfl⟩⟩; refine ⟨_, rfl, ?_⟩; have p6 : 0 ≤ (t205 : Int) := of_decide_eq_true asmT; have q6 : t205 < (4 : Int) := of_decide_eq_true asmT; have hx6 := bt_at (⟨#[98, 100, 112, 116]⟩ : ByteArray) t205; replace p6 := eq_true p6; replace q6 := eq_true q6))
    go_ret2
    exact ⟨rdT, drT⟩
   ·rw [if_neg c5] at H
    exact absurd H (by simp)
  ·rw [if_neg c4] at H
   exact absurd H (by simp)

/-! ### impl_isLink: function 93 -/
def impl_isLink.f (a0_0 : Int) (a0_1 : Int) : Option (Bool) := if a0_0 = 0 then ((impl_IsSound.f a0_1).bind fun t207 => (some t207)) else ((impl_IsSound.f a0_0).bind fun t208 => (if t208 = true then (if a0_1 = 0 then (some true) else (if a0_1 = a0_0 then (some true) else ((impl_SwapVoice.f a0_0).bind fun bt209 => (if bt209.2 = true then (some (bt209.1 == a0_1)) else (some false))))) else (some false)))
set_option maxHeartbeats 8000000 in
set_option maxRecDepth 100000 in
theorem impl_isLink.calls (a0_0 : Int) (a0_1 : Int) (r : Bool) (w : World) (h : impl_isLink.f a0_0 a0_1 = some r) :
  Calls Try.prog 93 #[.agg #[.int .u8 a0_0, .int .u8 a0_1]] w fun e w' => e = .returned (.bool r) ∧ Below w.heap.size w w' := by
 have hu83 := Try.underlying83; have HB := asT (Below.refl w.heap.size w)
 have H : (if a0_0 = 0 then ((impl_IsSound.f a0_1).bind fun t207 => (some t207)) else ((impl_IsSound.f a0_0).bind fun t208 => (if t208 = true then (if a0_1 = 0 then (some true) else (if a0_1 = a0_0 then (some true) else ((impl_SwapVoice.f a0_0).bind fun bt209 => (if bt209.2 = true then (some (bt209.1 == a0_1)) else (some false))))) else (some false)))) = some r := h
 clear h
 by_cases c2 : a0_0 = 0
 ·rw [if_pos c2] at H
  have c2b0 : (a0_0 == 0) = true := beq_iff_eq.mpr c2
  have c2b1 : (a0_0 != 0) = false := bne_eq_false_iff_eq.mpr c2
  clear c2; replace H := Option.bind_eq_some_iff.mp H; obtain ⟨t207, A30, H⟩ := H; replace H : (some t207) = some r := H; have A3 := Aside0.mk A30; clear A30
  obtain rfl := Option.some.inj H
  go_enter Try.func93, Try.ntmps93
  go_wp2_with (first | ((with_reducible refine gate_dst (N := 1) rfl ?_); refine boxT (N := 1) (cs := #[.int .u8 a0_0, .int .u8 a0_1]) (t := 83) ?_; intro gb206 hg w4 hbox hb; have n0_ := asT (below_step (hbT HB.out) hb); have n1_ := asT (hbox); have n2_ := asT (geT hg HB.out); have n3_ := asT (geT hg HB.out); clear HB; have HB := n0_; have BK206 := n1_; have GW206 := n2_; have GE206 := n3_; clear n0_ n1_ n2_ n3_ hb hbox hg; have hcz5_0 : w4.cell? ⟨gb206, 0, none⟩ = some (.int .u8 a0_0) := (blk_cell BK206.out 0).trans rfl; have hcz5_1 : w4.cell? ⟨gb206, 1, none⟩ = some (.int .u8 a0_1) := (blk_cell BK206.out 1).trans rfl; have hfz5_0 := blk_frozen BK206.out 0; have hfz5_1 := blk_frozen BK206.out 1) | ((with_reducible refine gate_callee (f := 125) rfl ?_); refine goesL_ (some 11) rfl rfl Try.func125 (by kernel_rfl) rfl #[.int .u8 a0_1] rfl eqT ?_; (with_reducible refine (impl_IsSound.calls a0_1 t207 _ A3.out).mono ?_); rintro e w' ⟨rfl, ⟨nd, rfl⟩⟩; refine ⟨_, rfl, ?_⟩))
  go_ret
  exact ⟨rlT, hbT HB.out⟩
 ·rw [if_neg c2] at H
  have c2b0 : (a0_0 == 0) = false := beq_eq_false_iff_ne.mpr c2
  have c2b1 : (a0_0 != 0) = true := bne_iff_ne.mpr c2
  replace H := Option.bind_eq_some_iff.mp H; obtain ⟨t208, A60, H⟩ := H; replace H : (if t208 = true then (if a0_1 = 0 then (some true) else (if a0_1 = a0_0 then (some true) else ((impl_SwapVoice.f a0_0).bind fun bt209 => (if bt209.2 = true then (some (bt209.1 == a0_1)) else (some false))))) else (some false)) = some r := H; have A6 := Aside0.mk A60; clear A60
  by_cases c7 : t208 = true
  ·subst c7
   have H1 : (if a0_1 = 0 then (some true) else (if a0_1 = a0_0 then (some true) else ((impl_SwapVoice.f a0_0).bind fun bt209 => (if bt209.2 = true then (some (bt209.1 == a0_1)) else (some false))))) = some r := by rw [if_pos rfl] at H; exact H
   clear H; have H := H1; clear H1
   by_cases c8 : a0_1 = 0
   ·rw [if_pos c8] at H
    have c8b0 : (a0_1 == 0) = true := beq_iff_eq.mpr c8
    have c8b1 : (a0_1 != 0) = false := bne_eq_false_iff_eq.mpr c8
    clear c8
    obtain rfl := Option.some.inj H
    go_enter Try.func93, Try.ntmps93
    go_wp2_with (first | ((with_reducible refine gate_dst (N := 1) rfl ?_); refine boxT (N := 1) (cs := #[.int .u8 a0_0, .int .u8 a0_1]) (t := 83) ?_; intro gb206 hg w9 hbox hb; have n0_ := asT (below_step (hbT HB.out) hb); have n1_ := asT (hbox); have n2_ := asT (geT hg HB.out); have n3_ := asT (geT hg HB.out); clear HB; have HB := n0_; have BK206 := n1_; have GW206 := n2_; have GE206 := n3_; clear n0_ n1_ n2_ n3_ hb hbox hg; have hcz10_0 : w9.cell? ⟨gb206, 0, none⟩ = some (.int .u8 a0_0) := (blk_cell BK206.out 0).trans rfl; have hcz10_1 : w9.cell? ⟨gb206, 1, none⟩ = some (.int .u8 a0_1) := (blk_cell BK206.out 1).trans rfl; have hfz10_0 := blk_frozen BK206.out 0; have hfz10_1 := blk_frozen BK206.out 1) | ((with_reducible refine gate_callee (f := 125) rfl ?_); refine goesL_ (some 15) rfl rfl Try.func125 (by kernel_rfl) rfl #[.int .u8 a0_0] rfl eqT ?_; (with_reducible refine (impl_IsSound.calls a0_0 true _ A6.out).mono ?_); rintro e w' ⟨rfl, ⟨nd, rfl⟩⟩; refine ⟨_, rfl, ?_⟩))
    go_ret
    exact ⟨rlT, hbT HB.out⟩
   ·rw [if_neg c8] at H
    have c8b0 : (a0_1 == 0) = false := beq_eq_false_iff_ne.mpr c8
    have c8b1 : (a0_1 != 0) = true := bne_iff_ne.mpr c8
    by_cases c11 : a0_1 = a0_0
    ·rw [if_pos c11] at H
     have c11b0 : (a0_1 == a0_0) = true := beq_iff_eq.mpr c11
     have c11b1 : (a0_1 != a0_0) = false := bne_eq_false_iff_eq.mpr c11
     clear c11
     obtain rfl := Option.some.inj H
     go_enter Try.func93, Try.ntmps93
     go_wp2_with (first | ((with_reducible refine gate_dst (N := 1) rfl ?_); refine boxT (N := 1) (cs := #[.int .u8 a0_0, .int .u8 a0_1]) (t := 83) ?_; intro gb206 hg w12 hbox hb; have n0_ := asT (below_step (hbT HB.out) hb); have n1_ := asT (hbox); have n2_ := asT (geT hg HB.out); have n3_ := asT (geT hg HB.out); clear HB; have HB := n0_; have BK206 := n1_; have GW206 := n2_; have GE206 := n3_; clear n0_ n1_ n2_ n3_ hb hbox hg; have hcz13_0 : w12.cell? ⟨gb206, 0, none⟩ = some (.int .u8 a0_0) := (blk_cell BK206.out 0).trans rfl; have hcz13_1 : w12.cell? ⟨gb206, 1, none⟩ = some (.int .u8 a0_1) := (blk_cell BK206.out 1).trans rfl; have hfz13_0 := blk_frozen BK206.out 0; have hfz13_1 := blk_frozen BK206.out 1) | ((with_reducible refine gate_callee (f := 125) rfl ?_); refine goesL_ (some 15) rfl rfl Try.func125 (by kernel_rfl) rfl #[.int .u8 a0_0] rfl eqT ?_; (with_reducible refine (impl_IsSound.calls a0_0 true _ A6.out).mono ?_); rintro e w' ⟨rfl, ⟨nd, rfl⟩⟩; refine ⟨_, rfl, ?_⟩))
     go_ret
     exact ⟨rlT, hbT HB.out⟩
    ·rw [if_neg c11] at H
     have c11b0 : (a0_1 == a0_0) = false := beq_eq_false_iff_ne.mpr c11
     have c11b1 : (a0_1 != a0_0) = true := bne_iff_ne.mpr c11
     replace H := Option.bind_eq_some_iff.mp H; obtain ⟨⟨t209, t210⟩, A140, H⟩ := H; replace H : (if t210 = true then (some (t209 == a0_1)) else (some false)) = some r := H; have A14 := Aside0.mk A140; clear A140
     by_cases c15 : t210 = true
     ·subst c15
      have H1 : (some (t209 == a0_1)) = some r := by rw [if_pos rfl] at H; exact H
      clear H; have H := H1; clear H1
      obtain rfl := Option.some.inj H
      go_enter Try.func93, Try.ntmps93
      go_wp2_with (first | ((with_reducible refine gate_dst (N := 1) rfl ?_); refine boxT (N := 1) (cs := #[.int .u8 a0_0, .int .u8 a0_1]) (t := 83) ?_; intro gb206 hg w16 hbox hb; have n0_ := asT (below_step (hbT HB.out) hb); have n1_ := asT (hbox); have n2_ := asT (geT hg HB.out); have n3_ := asT (geT hg HB.out); clear HB; have HB := n0_; have BK206 := n1_; have GW206 := n2_; have GE206 := n3_; clear n0_ n1_ n2_ n3_ hb hbox hg; have hcz17_0 : w16.cell? ⟨gb206, 0, none⟩ = some (.int .u8 a0_0) := (blk_cell BK206.out 0).trans rfl; have hcz17_1 : w16.cell? ⟨gb206, 1, none⟩ = some (.int .u8 a0_1) := (blk_cell BK206.out 1).trans rfl; have hfz17_0 := blk_frozen BK206.out 0; have hfz17_1 := blk_frozen BK206.out 1) | ((with_reducible refine gate_callee (f := 125) rfl ?_); refine goesL_ (some 15) rfl rfl Try.func125 (by kernel_rfl) rfl #[.int .u8 a0_0] rfl eqT ?_; (with_reducible refine (impl_IsSound.calls a0_0 true _ A6.out).mono ?_); rintro e w' ⟨rfl, ⟨nd, rfl⟩⟩; refine ⟨_, rfl, ?_⟩) | ((with_reducible refine gate_callee (f := 126) rfl ?_); refine goesL_ (some 31) rfl rfl Try.func126 (by kernel_rfl) rfl #[.int .u8 a0_0] rfl eqT ?_; (with_reducible refine (impl_SwapVoice.calls a0_0 t209 true _ A14.out).mono ?_); rintro e w' ⟨rfl, ⟨nd, rfl⟩⟩; refine ⟨_, rfl, ?_⟩))
      go_ret
      exact ⟨rlT, hbT HB.out⟩
     ·replace c15 := Bool.eq_false_iff.mpr c15
      subst c15
      have H1 : (some false) = some r := by rw [if_neg (show ¬ (false = true) by decide)] at H; exact H
      clear H; have H := H1; clear H1
      obtain rfl := Option.some.inj H
      go_enter Try.func93, Try.ntmps93
      go_wp2_with (first | ((with_reducible refine gate_dst (N := 1) rfl ?_); refine boxT (N := 1) (cs := #[.int .u8 a0_0, .int .u8 a0_1]) (t := 83) ?_; intro gb206 hg w18 hbox hb; have n0_ := asT (below_step (hbT HB.out) hb); have n1_ := asT (hbox); have n2_ := asT (geT hg HB.out); have n3_ := asT (geT hg HB.out); clear HB; have HB := n0_; have BK206 := n1_; have GW206 := n2_; have GE206 := n3_; clear n0_ n1_ n2_ n3_ hb hbox hg; have hcz19_0 : w18.cell? ⟨gb206, 0, none⟩ = some (.int .u8 a0_0) := (blk_cell BK206.out 0).trans rfl; have hcz19_1 : w18.cell? ⟨gb206, 1, none⟩ = some (.int .u8 a0_1) := (blk_cell BK206.out 1).trans rfl; have hfz19_0 := blk_frozen BK206.out 0; have hfz19_1 := blk_frozen BK206.out 1) | ((with_reducible refine gate_callee (f := 125) rfl ?_); refine goesL_ (some 15) rfl rfl Try.func125 (by kernel_rfl) rfl #[.int .u8 a0_0] rfl eqT ?_; (with_reducible refine (impl_IsSound.calls a0_0 true _ A6.out).mono ?_); rintro e w' ⟨rfl, ⟨nd, rfl⟩⟩; refine ⟨_, rfl, ?_⟩) | ((with_reducible refine gate_callee (f := 126) rfl ?_); refine goesL_ (some 31) rfl rfl Try.func126 (by kernel_rfl) rfl #[.int .u8 a0_0] rfl eqT ?_; (with_reducible refine (impl_SwapVoice.calls a0_0 t209 false _ A14.out).mono ?_); rintro e w' ⟨rfl, ⟨nd, rfl⟩⟩; refine ⟨_, rfl, ?_⟩))
      go_ret
      exact ⟨rlT, hbT HB.out⟩
  ·replace c7 := Bool.eq_false_iff.mpr c7
   subst c7
   have H1 : (some false) = some r := by rw [if_neg (show ¬ (false = true) by decide)] at H; exact H
   clear H; have H := H1; clear H1
   obtain rfl := Option.some.inj H
   go_enter Try.func93, Try.ntmps93
   go_wp2_with (first | ((with_reducible refine gate_dst (N := 1) rfl ?_); refine boxT (N := 1) (cs := #[.int .u8 a0_0, .int .u8 a0_1]) (t := 83) ?_; intro gb206 hg w20 hbox hb; have n0_ := asT (below_step (hbT HB.out) hb); have n1_ := asT (hbox); have n2_ := asT (geT hg HB.out); have n3_ := asT (geT hg HB.out); clear HB; have HB := n0_; have BK206 := n1_; have GW206 := n2_; have GE206 := n3_; clear n0_ n1_ n2_ n3_ hb hbox hg; have hcz21_0 : w20.cell? ⟨gb206, 0, none⟩ = some (.int .u8 a0_0) := (blk_cell BK206.out 0).trans rfl; have hcz21_1 : w20.cell? ⟨gb206, 1, none⟩ = some (.int .u8 a0_1) := (blk_cell BK206.out 1).trans rfl; have hfz21_0 := blk_frozen BK206.out 0; have hfz21_1 := blk_frozen BK206.out 1) | ((with_reducible refine gate_callee (f := 125) rfl ?_); refine goesL_ (some 15) rfl rfl Try.func125 (by kernel_rfl) rfl #[.int .u8 a0_0] rfl eqT ?_; (with_reducible refine (impl_IsSound.calls a0_0 false _ A6.out).mono ?_); rintro e w' ⟨rfl, ⟨nd, rfl⟩⟩; refine ⟨_, rfl, ?_⟩))
   go_ret
   exact ⟨rlT, hbT HB.out⟩

/-! ### impl_within: function 78 -/
def impl_within.f (a0 : Int) (a1 : Int) (a2 : Int) : Option (Bool) := if a1 ≤ a0 then (some (decide (a0 ≤ a2))) else (some false)
set_option maxHeartbeats 8000000 in
set_option maxRecDepth 100000 in
theorem impl_within.calls (a0 : Int) (a1 : Int) (a2 : Int) (r : Bool) (w : World) (h : impl_within.f a0 a1 a2 = some r) :
  Calls Try.prog 78 #[.int .i64 a0, .int .i64 a1, .int .i64 a2] w fun e w' => e = .returned (.bool r) ∧ Drawn0 w w' := by
 have H : (if a1 ≤ a0 then (some (decide (a0 ≤ a2))) else (some false)) = some r := h
 clear h
 by_cases c4 : a1 ≤ a0
 ·rw [if_pos c4] at H
  have c4b0 : decide (a1 ≤ a0) = true := decide_eq_true c4
  clear c4
  obtain rfl := Option.some.inj H
  go_enter Try.func78, Try.ntmps78
  go_wp2
  go_ret
  exact ⟨rdT, drT⟩
 ·rw [if_neg c4] at H
  have c4b0 : decide (a1 ≤ a0) = false := decide_eq_false c4
  clear c4
  obtain rfl := Option.some.inj H
  go_enter Try.func78, Try.ntmps78
  go_wp2
  go_ret
  exact ⟨rdT, drT⟩

/-! ### impl_areSounds: function 127 -/
def impl_areSounds.l0 : Nat → ByteArray → Int → Int → Option (Bool)
 | 0, _, _, _ => none
 | k + 1, x0, x5, x6 => if x6 < x5 then (if 0 ≤ x6 then (if x6 < (x0.size : Int) then ((impl_IsSound.f (bt x0 x6)).bind fun t211 => (if t211 = true then (impl_areSounds.l0 k x0 x5 (wrap64 (x6 + 1))) else (some false))) else (none)) else (none)) else ((impl_within.f (x0.size : Int) 1 20).bind fun t212 => (some t212))
def impl_areSounds.f (k : Nat) (a0 : ByteArray) : Option (Bool) := impl_areSounds.l0 k a0 (a0.size : Int) 0
theorem impl_areSounds.mono_l : ∀ k, (∀ y0 y1 y2, LeO (impl_areSounds.l0 k y0 y1 y2) (impl_areSounds.l0 (k + 1) y0 y1 y2))
 | 0 => fun _ _ _ r h => by simp [impl_areSounds.l0] at h
 | k + 1 => by
  have ih0 := impl_areSounds.mono_l k
  ·intro y0 y1 y2
   unfold impl_areSounds.l0
   repeat' first
   | (with_reducible exact ih0 _ _ _)
   | (with_reducible exact LeO.refl _)
   | (with_reducible exact LeO.none _)
   | (with_reducible refine LeO.ite ?_ ?_)
   | (with_reducible refine LeO.bind ?_ (fun _ => ?_))
   | exact ih0 _ _ _
   | exact LeO.none _
   | refine LeO.ite ?_ ?_
   | refine LeO.bind ?_ (fun _ => ?_)
theorem impl_areSounds.mono : ∀ a0 k, LeO (impl_areSounds.f k a0) (impl_areSounds.f (k + 1) a0) := by
 intro a0 k
 have ih0 := impl_areSounds.mono_l k
 unfold impl_areSounds.f
 repeat' first
   | (with_reducible exact ih0 _ _ _)
   | (with_reducible exact LeO.refl _)
   | (with_reducible exact LeO.none _)
   | (with_reducible refine LeO.ite ?_ ?_)
   | (with_reducible refine LeO.bind ?_ (fun _ => ?_))
   | exact ih0 _ _ _
   | exact LeO.none _
   | refine LeO.ite ?_ ?_
   | refine LeO.bind ?_ (fun _ => ?_)
set_option maxHeartbeats 8000000 in
set_option maxRecDepth 100000 in
theorem impl_areSounds.calls (k : Nat) (a0 : ByteArray) (r : Bool) (w : World) (h : impl_areSounds.f k a0 = some r) :
  Calls Try.prog 127 #[.string a0] w fun e w' => e = .returned (.bool r) ∧ Drawn0 w w' := by
 have H : (impl_areSounds.l0 k a0 (a0.size : Int) 0) = some r := h
 clear h; have H' := Aside0.mk H; clear H
 go_enter Try.func127, Try.ntmps127
 go_wp2
 go_loopg [6] k (fun kq v6 w' => ∃ (x6_1 : Int), v6 = .int .i64 x6_1 ∧ Aside0 (impl_areSounds.l0 kq a0 (a0.size : Int) x6_1 = some r) ∧ Aside0 (kq ≤ k) ∧ Drawn0 w w')
 case atStart => exact ⟨(0), rdT, H', ⟨Nat.le_refl _⟩, drT⟩
 case round =>
  clear H'; (try clear c1); obtain ⟨x6_1, rfl, HA, HK1, ⟨m1, rfl⟩⟩ := hrel
  cases gk with
  | zero => exact absurd HA.out (by simp [impl_areSounds.l0])
  | succ k1 =>
   have H := HA.out; clear HA
   simp only [impl_areSounds.l0] at H
   by_cases c2 : x6_1 < (a0.size : Int)
   ·rw [if_pos c2] at H
    have c2b0 : decide (x6_1 < (a0.size : Int)) = true := decide_eq_true c2
    clear c2
    by_cases c3 : 0 ≤ x6_1
    ·rw [if_pos c3] at H
     have c3b0 : decide (0 ≤ x6_1) = true := decide_eq_true c3
     clear c3
     by_cases c4 : x6_1 < (a0.size : Int)
     ·rw [if_pos c4] at H
      have c4b0 : decide (x6_1 < (a0.size : Int)) = true := decide_eq_true c4
      clear c4; replace H := Option.bind_eq_some_iff.mp H; obtain ⟨t211, A60, H⟩ := H; replace H : (if t211 = true then (impl_areSounds.l0 k1 a0 (a0.size : Int) (wrap64 (x6_1 + 1))) else (some false)) = some r := H; have A6 := Aside0.mk A60; clear A60
      by_cases c7 : t211 = true
      ·subst c7
       have H1 : (impl_areSounds.l0 k1 a0 (a0.size : Int) (wrap64 (x6_1 + 1))) = some r := by rw [if_pos rfl] at H; exact H
       clear H; have H := H1; clear H1; have H' := Aside0.mk H; clear H
       have p5 : 0 ≤ (x6_1 : Int) := of_decide_eq_true asmT
       have q5 : x6_1 < (a0.size : Int) := of_decide_eq_true asmT
       have hx5 := bt_at a0 x6_1; replace p5 := eq_true p5; replace q5 := eq_true q5
       go_wp2_with (first | ((with_reducible refine gate_callee (f := 125) rfl ?_); refine goesL_ (some 12) rfl rfl Try.func125 (by kernel_rfl) rfl #[.int .u8 (bt a0 x6_1)] rfl eqT ?_; (with_reducible refine (impl_IsSound.calls (bt a0 x6_1) true _ A6.out).mono ?_); rintro e w' ⟨rfl, ⟨nd, rfl⟩⟩; refine ⟨_, rfl, ?_⟩))
       go_roundg k1
       case measure => have := HK1.out; omega
       case rel => exact ⟨(wrap64 (x6_1 + 1)), rdT, H', ⟨by have := HK1.out; omega⟩, drT⟩
      ·replace c7 := Bool.eq_false_iff.mpr c7
       subst c7
       have H1 : (some false) = some r := by rw [if_neg (show ¬ (false = true) by decide)] at H; exact H
       clear H; have H := H1; clear H1
       obtain rfl := Option.some.inj H
       have p5 : 0 ≤ (x6_1 : Int) := of_decide_eq_true asmT
       have q5 : x6_1 < (a0.size : Int) := of_decide_eq_true asmT
       have hx5 := bt_at a0 x6_1; replace p5 := eq_true p5; replace q5 := eq_true q5
       go_wp2_with (first | ((with_reducible refine gate_callee (f := 125) rfl ?_); refine goesL_ (some 12) rfl rfl Try.func125 (by kernel_rfl) rfl #[.int .u8 (bt a0 x6_1)] rfl eqT ?_; (with_reducible refine (impl_IsSound.calls (bt a0 x6_1) false _ A6.out).mono ?_); rintro e w' ⟨rfl, ⟨nd, rfl⟩⟩; refine ⟨_, rfl, ?_⟩))
       go_ret
       exact ⟨rdT, drT⟩
     ·rw [if_neg c4] at H
      exact absurd H (by simp)
    ·rw [if_neg c3] at H
     exact absurd H (by simp)
   ·rw [if_neg c2] at H
    have c2b0 : decide (x6_1 < (a0.size : Int)) = false := decide_eq_false c2
    clear c2; replace H := Option.bind_eq_some_iff.mp H; obtain ⟨t212, A80, H⟩ := H; replace H : (some t212) = some r := H; have A8 := Aside0.mk A80; clear A80
    obtain rfl := Option.some.inj H
    go_wp2_with (first | ((with_reducible refine gate_callee (f := 78) rfl ?_); refine goesL_ (some 17) rfl rfl Try.func78 (by kernel_rfl) rfl #[.int .i64 (a0.size : Int), .int .i64 1, .int .i64 20] rfl eqT ?_; (with_reducible refine (impl_within.calls (a0.size : Int) 1 20 t212 _ A8.out).mono ?_); rintro e w' ⟨rfl, ⟨nd, rfl⟩⟩; refine ⟨_, rfl, ?_⟩))
    go_ret
    exact ⟨rdT, drT⟩

/-! ### impl_IsForm: function 94 -/
def impl_IsForm.f (k : Nat) (a0 : ByteArray) : Option (Bool) := if a0.toList = ([] : List UInt8) then (some true) else (if (a0.size : Int) ≤ 8 then ((impl_areSounds.f k a0).bind fun t213 => (some t213)) else (some false))
theorem impl_IsForm.mono : ∀ a0 k, LeO (impl_IsForm.f k a0) (impl_IsForm.f (k + 1) a0) := by
 intro a0 k
 unfold impl_IsForm.f
 repeat' first
   | (with_reducible exact impl_areSounds.mono _ _)
   | (with_reducible exact LeO.refl _)
   | (with_reducible exact LeO.none _)
   | (with_reducible refine LeO.ite ?_ ?_)
   | (with_reducible refine LeO.bind ?_ (fun _ => ?_))
   | exact impl_areSounds.mono _ _
   | exact LeO.none _
   | refine LeO.ite ?_ ?_
   | refine LeO.bind ?_ (fun _ => ?_)
set_option maxHeartbeats 8000000 in
set_option maxRecDepth 100000 in
theorem impl_IsForm.calls (k : Nat) (a0 : ByteArray) (r : Bool) (w : World) (h : impl_IsForm.f k a0 = some r) :
  Calls Try.prog 94 #[.string a0] w fun e w' => e = .returned (.bool r) ∧ Drawn0 w w' := by
 have H : (if a0.toList = ([] : List UInt8) then (some true) else (if (a0.size : Int) ≤ 8 then ((impl_areSounds.f k a0).bind fun t213 => (some t213)) else (some false))) = some r := h
 clear h
 by_cases c2 : a0.toList = ([] : List UInt8)
 ·rw [if_pos c2] at H
  have c2b0 : (a0.toList == ([] : List UInt8)) = true := beq_iff_eq.mpr c2
  have c2b1 : (a0.toList != ([] : List UInt8)) = false := bne_eq_false_iff_eq.mpr c2
  clear c2
  obtain rfl := Option.some.inj H
  go_enter Try.func94, Try.ntmps94
  go_wp2
  go_ret
  exact ⟨rdT, drT⟩
 ·rw [if_neg c2] at H
  have c2b0 : (a0.toList == ([] : List UInt8)) = false := beq_eq_false_iff_ne.mpr c2
  have c2b1 : (a0.toList != ([] : List UInt8)) = true := bne_iff_ne.mpr c2
  by_cases c3 : (a0.size : Int) ≤ 8
  ·rw [if_pos c3] at H
   have c3b0 : decide ((a0.size : Int) ≤ 8) = true := decide_eq_true c3
   have c3b1 : decide (a0.size ≤ 8) = true := decide_eq_true (by omega)
   clear c3; replace H := Option.bind_eq_some_iff.mp H; obtain ⟨t213, A40, H⟩ := H; replace H : (some t213) = some r := H; have A4 := Aside0.mk A40; clear A40
   obtain rfl := Option.some.inj H
   go_enter Try.func94, Try.ntmps94
   go_wp2_with (first | (go_at_call 127; (with_reducible refine (impl_areSounds.calls k a0 t213 _ A4.out).mono ?_); rintro e w' ⟨rfl, ⟨nd, rfl⟩⟩))
   go_ret
   exact ⟨rdT, drT⟩
  ·rw [if_neg c3] at H
   have c3b0 : decide ((a0.size : Int) ≤ 8) = false := decide_eq_false c3
   have c3b1 : decide (a0.size ≤ 8) = false := decide_eq_false (by omega)
   clear c3
   obtain rfl := Option.some.inj H
   go_enter Try.func94, Try.ntmps94
   go_wp2
   go_ret
   exact ⟨rdT, drT⟩

/-! ### impl_sounds: function 95 -/
def impl_sounds.l0 : Nat → Bool → List Int → List (S83) → Int → Int → Option (ByteArray)
 | 0, _, _, _, _, _ => none
 | k + 1, x1, x5, x11, x12, x13 => if x13 < x12 then (if 0 ≤ x13 then (if x13 < (x11.length : Int) then (if x1 = true then (if ((rd_T83 x11 x13).f1) = 0 then (impl_sounds.l0 k x1 x5 x11 x12 (wrap64 (x13 + 1))) else (if x5.length < 140737488355328 then (impl_sounds.l0 k x1 (x5 ++ [(rd_T83 x11 x13).f1]) x11 x12 (wrap64 (x13 + 1))) else (none))) else (if ((rd_T83 x11 x13).f0) = 0 then (impl_sounds.l0 k x1 x5 x11 x12 (wrap64 (x13 + 1))) else (if x5.length < 140737488355328 then (impl_sounds.l0 k x1 (x5 ++ [(rd_T83 x11 x13).f0]) x11 x12 (wrap64 (x13 + 1))) else (none)))) else (none)) else (none)) else (some (strOfNums x5))
def impl_sounds.f (k : Nat) (l0_0 : List (S83)) (a1 : Bool) : Option (ByteArray) := impl_sounds.l0 k a1 (([] : List Int)) l0_0 (l0_0.length : Int) 0
theorem impl_sounds.mono_l : ∀ k, (∀ y0 y1 y2 y3 y4, LeO (impl_sounds.l0 k y0 y1 y2 y3 y4) (impl_sounds.l0 (k + 1) y0 y1 y2 y3 y4))
 | 0 => fun _ _ _ _ _ r h => by simp [impl_sounds.l0] at h
 | k + 1 => by
  have ih0 := impl_sounds.mono_l k
  ·intro y0 y1 y2 y3 y4
   unfold impl_sounds.l0
   repeat' first
   | (with_reducible exact ih0 _ _ _ _ _)
   | (with_reducible exact LeO.refl _)
   | (with_reducible exact LeO.none _)
   | (with_reducible refine LeO.ite ?_ ?_)
   | (with_reducible refine LeO.bind ?_ (fun _ => ?_))
   | exact ih0 _ _ _ _ _
   | exact LeO.none _
   | refine LeO.ite ?_ ?_
   | refine LeO.bind ?_ (fun _ => ?_)
theorem impl_sounds.mono : ∀ a0 a1 k, LeO (impl_sounds.f k a0 a1) (impl_sounds.f (k + 1) a0 a1) := by
 intro a0 a1 k
 have ih0 := impl_sounds.mono_l k
 unfold impl_sounds.f
 repeat' first
   | (with_reducible exact ih0 _ _ _ _ _)
   | (with_reducible exact LeO.refl _)
   | (with_reducible exact LeO.none _)
   | (with_reducible refine LeO.ite ?_ ?_)
   | (with_reducible refine LeO.bind ?_ (fun _ => ?_))
   | exact ih0 _ _ _ _ _
   | exact LeO.none _
   | refine LeO.ite ?_ ?_
   | refine LeO.bind ?_ (fun _ => ?_)
set_option maxHeartbeats 8000000 in
set_option maxRecDepth 100000 in
theorem impl_sounds.calls (k : Nat) (A0_0 : Option Addr) (c0_0 : Nat) (l0_0 : List (S83)) (a1 : Bool) (r : ByteArray) (w : World) (hr0_0 : Kd.C k83 w A0_0 l0_0.length l0_0) (hc0_0 : l0_0.length ≤ c0_0) (h : impl_sounds.f k l0_0 a1 = some r) :
  Calls Try.prog 95 #[.agg #[.slice A0_0 l0_0.length c0_0], .bool a1] w fun e w' => e = .returned (.string r) ∧ Below w.heap.size w w' := by
 have hu34 := Try.underlying34; have hu83 := Try.underlying83; have HR0_0 := Aside0.mk hr0_0; have HC0_0 := Aside0.mk hc0_0; clear hr0_0 hc0_0; have HB := asT (Below.refl w.heap.size w)
 have H : (impl_sounds.l0 k a1 (([] : List Int)) l0_0 (l0_0.length : Int) 0) = some r := h
 clear h; obtain ⟨y215, hy215⟩ : ∃ y_ : List Int, y_ = (([] : List Int)) := ⟨_, rfl⟩
 replace H : (impl_sounds.l0 k a1 y215 l0_0 (l0_0.length : Int) 0) = some r := by first | (rw [hy215]; with_reducible exact H) | (have H2_ := (Option.bind_some _ _).symm.trans H; rw [hy215]; with_reducible exact H2_) | (have H2_ := (Option.bind_some _ _).symm.trans H; with_reducible exact H2_) | with_reducible exact H | (rw [hy215]; exact H) | exact H
 have Ny215 := Aside0.mk hy215; clear hy215; have H' := Aside0.mk H; clear H
 go_enter Try.func95, Try.ntmps95
 go_wp2_with (first | ((with_reducible refine gate_dst (N := 2) rfl ?_); refine boxT (N := 2) (cs := #[.slice A0_0 l0_0.length c0_0]) (t := 34) ?_; intro gb214 hg w3 hbox hb; have n0_ := asT (below_step (hbT HB.out) hb); have n1_ := asT (hbox); have n2_ := asT (geT hg HB.out); have n3_ := asT (geT hg HB.out); clear HB; have HB := n0_; have BK214 := n1_; have GW214 := n2_; have GE214 := n3_; clear n0_ n1_ n2_ n3_ hb hbox hg) | ((with_reducible refine gate_dst (N := 9) rfl ?_); refine Kd.R_lit (Kd.int .u8) _ 5 ?hg (N := 9) ?hd (xs := ([] : List Int)) (inner := []) (ok := fun _ => True) (okp := fun _ => True) ?hr ?hp (fun _ hk => hk) trivial (Below.refl _ _) (Nat.le_refl _) (by simp) ?_; (case hd => rfl); (case hg => rfl); (case hr => first | (go_simp; done) | (go_simp; rfl)); (case hp => exact (Reps.none _ _)); intro v216 w4 ho5 hb hg_ hnew_; clear hg_ hnew_; (first | rw [← Ny215.out] at ho5 | (simp only [Int.reduceToNat] at ho5; rw [← Ny215.out] at ho5)); have n0_ := asT (Kd.R_lower ho5 (below_size (hbT HB.out))); have n1_ := asT (blk_below (bkT BK214.out) hb); have n2_ := asT (below_step (hbT HB.out) hb); clear BK214 HB; have HO217 := n0_; have BK214 := n1_; have HB := n2_; clear n0_ n1_ n2_ hb ho5; have hcz6_0 : w4.cell? ⟨gb214, 0, none⟩ = some (.slice A0_0 l0_0.length c0_0) := (blk_cell BK214.out 0).trans rfl; have hfz6_0 := blk_frozen BK214.out 0))
 go_loopg [5, 13] k (fun kq v5 v13 w' => ∃ (x5_1 : List Int) (x13_1 : Int), v13 = .int .i64 x13_1 ∧ Aside0 (impl_sounds.l0 kq a1 x5_1 l0_0 (l0_0.length : Int) x13_1 = some r) ∧ Aside0 (kq ≤ k) ∧ Aside0 (Kd.R (Kd.int .u8) 5 w' w.heap.size (fun _ => True) v5 x5_1) ∧ Aside0 (w'.heap[gb214]? = some (.cells #[(.slice A0_0 l0_0.length c0_0)] 34 (0, 0))) ∧ Aside0 (Below w.heap.size w w'))
 case atStart => exact ⟨(y215), (0), rdT, H', ⟨Nat.le_refl _⟩, ⟨by (with_reducible repeat (first | apply Kd.R_alloc | apply Kd.R_drewN | apply Kd.R_drew)); exact HO217.out⟩, ⟨by (with_reducible repeat (first | refine blk_drewN ?_ _ | refine blk_drew ?_ | refine blk_alloc ?_ _)); exact BK214.out⟩, ⟨hbT HB.out⟩⟩
 case round =>
  clear H'; (try clear p2); (try clear hcz6_0); (try clear hfz6_0); obtain ⟨x5_1, x13_1, rfl, HA, HK1, HO_5, BK214, HB⟩ := hrel
  cases gk with
  | zero => exact absurd HA.out (by simp [impl_sounds.l0])
  | succ k1 =>
   have H := HA.out; clear HA
   simp only [impl_sounds.l0] at H
   by_cases c7 : x13_1 < (l0_0.length : Int)
   ·rw [if_pos c7] at H
    have c7b0 : decide (x13_1 < (l0_0.length : Int)) = true := decide_eq_true c7
    clear c7
    by_cases c8 : 0 ≤ x13_1
    ·rw [if_pos c8] at H
     have c8b0 : decide (0 ≤ x13_1) = true := decide_eq_true c8
     clear c8
     by_cases c9 : x13_1 < (l0_0.length : Int)
     ·rw [if_pos c9] at H
      have c9b0 : decide (x13_1 < (l0_0.length : Int)) = true := decide_eq_true c9
      clear c9
      by_cases c10 : a1 = true
      ·subst c10
       have H1 : (if ((rd_T83 l0_0 x13_1).f1) = 0 then (impl_sounds.l0 k1 true x5_1 l0_0 (l0_0.length : Int) (wrap64 (x13_1 + 1))) else (if x5_1.length < 140737488355328 then (impl_sounds.l0 k1 true (x5_1 ++ [(rd_T83 l0_0 x13_1).f1]) l0_0 (l0_0.length : Int) (wrap64 (x13_1 + 1))) else (none))) = some r := by rw [if_pos rfl] at H; exact H
       clear H; have H := H1; clear H1
       by_cases c11 : ((rd_T83 l0_0 x13_1).f1) = 0
       ·rw [if_pos c11] at H
        have c11b0 : (((rd_T83 l0_0 x13_1).f1) == 0) = true := beq_iff_eq.mpr c11
        have c11b1 : (((rd_T83 l0_0 x13_1).f1) != 0) = false := bne_eq_false_iff_eq.mpr c11
        clear c11; have H' := Aside0.mk H; clear H
        have p218 : 0 ≤ (x13_1 : Int) := of_decide_eq_true asmT
        have q218 : x13_1 < (l0_0.length : Int) := of_decide_eq_true asmT
        obtain ⟨ad218, e218, hx218_0, hx218_1⟩ := at_T83 HR0_0.out x13_1 p218 q218
        cases e218
        replace hx218_0 := (HB.out.cell (World.block_lt_of_cell? w _ hx218_0)).trans hx218_0; replace hx218_1 := (HB.out.cell (World.block_lt_of_cell? w _ hx218_1)).trans hx218_1; replace p218 := eq_true p218; replace q218 := eq_true q218
        go_wp2_with (first | ((with_reducible refine gate_dst (N := 7) rfl ?_); refine boxT (N := 7) (cs := #[.int .u8 0, .int .u8 0]) (t := 83) ?_; intro gb219 hg w12 hbox hb; have n0_ := asT (Kd.R_below (roT HO_5.out) hb); have n1_ := asT (blk_below (g := gb214) (o := .cells #[.slice (some ad218) l0_0.length c0_0] 34 (0, 0)) (bkT BK214.out) hb); have n2_ := asT (below_step (hbT HB.out) hb); have n3_ := asT (hbox); have n4_ := asT (geT hg HB.out); have n5_ := asT (geT hg HB.out); have n6_ := asT ((by rw [hg]; exact Nat.ne_of_lt (blk_lt (g := gb214) (o := .cells #[.slice (some ad218) l0_0.length c0_0] 34 (0, 0)) (bkT BK214.out)) : gb214 ≠ gb219)); have n7_ := asT ((by rw [hg]; exact Nat.ne_of_gt (blk_lt (g := gb214) (o := .cells #[.slice (some ad218) l0_0.length c0_0] 34 (0, 0)) (bkT BK214.out)) : gb219 ≠ gb214)); clear HO_5 BK214 HB; have HO_5 := n0_; have BK214 := n1_; have HB := n2_; have BK219 := n3_; have GW219 := n4_; have GE219 := n5_; have NB214_219 := n6_; have NB219_214 := n7_; clear n0_ n1_ n2_ n3_ n4_ n5_ n6_ n7_ hb hbox hg; have hnb13 := NB219_214.out; have hnc13 := NB214_219.out; have hcz14_0 : w12.cell? ⟨gb219, 0, none⟩ = some (.int .u8 0) := (blk_cell BK219.out 0).trans rfl; have hcz14_1 : w12.cell? ⟨gb219, 1, none⟩ = some (.int .u8 0) := (blk_cell BK219.out 1).trans rfl; have hfz14_0 := blk_frozen BK219.out 0; have hfz14_1 := blk_frozen BK219.out 1))
        go_roundg k1
        case measure => have := HK1.out; omega
        case rel => exact ⟨(x5_1), (wrap64 (x13_1 + 1)), rdT, H', ⟨by have := HK1.out; omega⟩, ⟨by (with_reducible repeat (first | apply Kd.R_alloc | apply Kd.R_drewN | apply Kd.R_drew)); exact Kd.R_mono (Kd.R_far (p := ⟨gb219, 1, none⟩) (Kd.R_far (p := ⟨gb219, 0, none⟩) (Kd.R_types HO_5.out BK219.out (by decide)) (fun _ hk => hk.2) (.int .u8 ((rd_T83 l0_0 x13_1).f0))) (fun _ hk => hk.2) (.int .u8 ((rd_T83 l0_0 x13_1).f1))) (fun _ hk => trivial)⟩, ⟨by (with_reducible repeat (first | refine blk_drewN ?_ _ | refine blk_drew ?_ | refine blk_alloc ?_ _)); refine blk_far ?_ NB214_219.out _; (with_reducible repeat (first | refine blk_drewN ?_ _ | refine blk_drew ?_ | refine blk_alloc ?_ _)); refine blk_far ?_ NB214_219.out _; (with_reducible repeat (first | refine blk_drewN ?_ _ | refine blk_drew ?_ | refine blk_alloc ?_ _)); exact BK214.out⟩, ⟨hbT HB.out⟩⟩
       ·rw [if_neg c11] at H
        have c11b0 : (((rd_T83 l0_0 x13_1).f1) == 0) = false := beq_eq_false_iff_ne.mpr c11
        have c11b1 : (((rd_T83 l0_0 x13_1).f1) != 0) = true := bne_iff_ne.mpr c11
        by_cases c15 : x5_1.length < 140737488355328
        ·rw [if_pos c15] at H
         have LMc15 := Aside0.mk c15; clear c15; obtain ⟨y220, hy220⟩ : ∃ y_ : List Int, y_ = (x5_1 ++ [(rd_T83 l0_0 x13_1).f1]) := ⟨_, rfl⟩
         replace H : (impl_sounds.l0 k1 true y220 l0_0 (l0_0.length : Int) (wrap64 (x13_1 + 1))) = some r := by first | (rw [hy220]; with_reducible exact H) | (have H2_ := (Option.bind_some _ _).symm.trans H; rw [hy220]; with_reducible exact H2_) | (have H2_ := (Option.bind_some _ _).symm.trans H; with_reducible exact H2_) | with_reducible exact H | (rw [hy220]; exact H) | exact H
         have Ny220 := Aside0.mk hy220; clear hy220; have H' := Aside0.mk H; clear H
         have p218 : 0 ≤ (x13_1 : Int) := of_decide_eq_true asmT
         have q218 : x13_1 < (l0_0.length : Int) := of_decide_eq_true asmT
         obtain ⟨ad218, e218, hx218_0, hx218_1⟩ := at_T83 HR0_0.out x13_1 p218 q218
         cases e218
         replace hx218_0 := (HB.out.cell (World.block_lt_of_cell? w _ hx218_0)).trans hx218_0; replace hx218_1 := (HB.out.cell (World.block_lt_of_cell? w _ hx218_1)).trans hx218_1; replace p218 := eq_true p218; replace q218 := eq_true q218
         go_wp2_with (first | ((with_reducible refine gate_dst (N := 7) rfl ?_); refine boxT (N := 7) (cs := #[.int .u8 0, .int .u8 0]) (t := 83) ?_; intro gb219 hg w16 hbox hb; have n0_ := asT (Kd.R_below (roT HO_5.out) hb); have n1_ := asT (blk_below (g := gb214) (o := .cells #[.slice (some ad218) l0_0.length c0_0] 34 (0, 0)) (bkT BK214.out) hb); have n2_ := asT (below_step (hbT HB.out) hb); have n3_ := asT (hbox); have n4_ := asT (geT hg HB.out); have n5_ := asT (geT hg HB.out); have n6_ := asT ((by rw [hg]; exact Nat.ne_of_lt (blk_lt (g := gb214) (o := .cells #[.slice (some ad218) l0_0.length c0_0] 34 (0, 0)) (bkT BK214.out)) : gb214 ≠ gb219)); have n7_ := asT ((by rw [hg]; exact Nat.ne_of_gt (blk_lt (g := gb214) (o := .cells #[.slice (some ad218) l0_0.length c0_0] 34 (0, 0)) (bkT BK214.out)) : gb219 ≠ gb214)); clear HO_5 BK214 HB; have HO_5 := n0_; have BK214 := n1_; have HB := n2_; have BK219 := n3_; have GW219 := n4_; have GE219 := n5_; have NB214_219 := n6_; have NB219_214 := n7_; clear n0_ n1_ n2_ n3_ n4_ n5_ n6_ n7_ hb hbox hg; have hnb17 := NB219_214.out; have hnc17 := NB214_219.out; have hcz18_0 : w16.cell? ⟨gb219, 0, none⟩ = some (.int .u8 0) := (blk_cell BK219.out 0).trans rfl; have hcz18_1 : w16.cell? ⟨gb219, 1, none⟩ = some (.int .u8 0) := (blk_cell BK219.out 1).trans rfl; have hfz18_0 := blk_frozen BK219.out 0; have hfz18_1 := blk_frozen BK219.out 1) | ((with_reducible refine gate_builtin (b := .append) (xs := #[.tmp 24, .tmp 26]) rfl ?_); at_builtin; refine Kd.R_append (Kd.int .u8) (w0 := w) w.heap.size rfl (.tmp 24) (.tmp 26) 101 5 (.int .u8 0) 1 rfl Try.underlying101 info5 rfl (by decide) (by omega) u5 x5_1 ((rd_T83 l0_0 x13_1).f1) [.int .u8 ((rd_T83 l0_0 x13_1).f1)] (fun _ => True) (fun _ => False) rfl (by first | (go_simp; done) | (go_simp; rfl)) ?aP (fun _ hk => hk.elim) ?aF ?aO ?aB ?aS ?aL ?_; (case aP => exact rfl); (case aB => exact (hbT HB.out)); (case aF => exact (fun _ _ => trivial)); (case aO => exact (by (with_reducible repeat (first | apply Kd.R_alloc | apply Kd.R_drewN | apply Kd.R_drew)); exact Kd.R_mono (Kd.R_far (p := ⟨gb219, 1, none⟩) (Kd.R_far (p := ⟨gb219, 0, none⟩) (Kd.R_types HO_5.out BK219.out (by decide)) (fun _ hk => hk.2) (.int .u8 ((rd_T83 l0_0 x13_1).f0))) (fun _ hk => hk.2) (.int .u8 ((rd_T83 l0_0 x13_1).f1))) (fun _ hk => trivial))); (case aS => exact (below_size (hbT HB.out))); (case aL => have := LMc15.out; omega); intro v221 w19 ho hb hg hat; rw [← Ny220.out] at ho; have n0_ := asT (blk_grown (g := gb214) (o := .cells #[.slice (some ad218) l0_0.length c0_0] 34 (0, 0)) (by (with_reducible repeat (first | refine blk_drewN ?_ _ | refine blk_drew ?_ | refine blk_alloc ?_ _)); refine blk_far ?_ NB214_219.out _; (with_reducible repeat (first | refine blk_drewN ?_ _ | refine blk_drew ?_ | refine blk_alloc ?_ _)); refine blk_far ?_ NB214_219.out _; (with_reducible repeat (first | refine blk_drewN ?_ _ | refine blk_drew ?_ | refine blk_alloc ?_ _)); exact BK214.out) hg (Kd.R_ne HO_5.out BK214.out (by decide))); have n1_ := asT (blk_grown (g := gb219) (o := .cells #[.int .u8 ((rd_T83 l0_0 x13_1).f0), .int .u8 ((rd_T83 l0_0 x13_1).f1)] 83 (0, 0)) (by (with_reducible repeat (first | refine blk_drewN ?_ _ | refine blk_drew ?_ | refine blk_alloc ?_ _)); refine blk_put (cs := #[.int .u8 ((rd_T83 l0_0 x13_1).f0), .int .u8 0]) ?_ 1 _ rfl; (with_reducible repeat (first | refine blk_drewN ?_ _ | refine blk_drew ?_ | refine blk_alloc ?_ _)); refine blk_put (cs := #[.int .u8 0, .int .u8 0]) ?_ 0 _ rfl; (with_reducible repeat (first | refine blk_drewN ?_ _ | refine blk_drew ?_ | refine blk_alloc ?_ _)); exact BK219.out) hg (Kd.R_ne HO_5.out BK219.out (by decide))); have n2_ := asT (hb); have n3_ := asT (ho); clear BK214 BK219 HB HO_5; have BK214 := n0_; have BK219 := n1_; have HB := n2_; have HO222 := n3_; clear n0_ n1_ n2_ n3_ ho hb hg hat))
         go_roundg k1
         case measure => have := HK1.out; omega
         case rel => exact ⟨(y220), (wrap64 (x13_1 + 1)), rdT, H', ⟨by have := HK1.out; omega⟩, ⟨by (with_reducible repeat (first | apply Kd.R_alloc | apply Kd.R_drewN | apply Kd.R_drew)); exact HO222.out⟩, ⟨by (with_reducible repeat (first | refine blk_drewN ?_ _ | refine blk_drew ?_ | refine blk_alloc ?_ _)); exact BK214.out⟩, ⟨hbT HB.out⟩⟩
        ·rw [if_neg c15] at H
         exact absurd H (by simp)
      ·replace c10 := Bool.eq_false_iff.mpr c10
       subst c10
       have H1 : (if ((rd_T83 l0_0 x13_1).f0) = 0 then (impl_sounds.l0 k1 false x5_1 l0_0 (l0_0.length : Int) (wrap64 (x13_1 + 1))) else (if x5_1.length < 140737488355328 then (impl_sounds.l0 k1 false (x5_1 ++ [(rd_T83 l0_0 x13_1).f0]) l0_0 (l0_0.length : Int) (wrap64 (x13_1 + 1))) else (none))) = some r := by rw [if_neg (show ¬ (false = true) by decide)] at H; exact H
       clear H; have H := H1; clear H1
       by_cases c20 : ((rd_T83 l0_0 x13_1).f0) = 0
       ·rw [if_pos c20] at H
        have c20b0 : (((rd_T83 l0_0 x13_1).f0) == 0) = true := beq_iff_eq.mpr c20
        have c20b1 : (((rd_T83 l0_0 x13_1).f0) != 0) = false := bne_eq_false_iff_eq.mpr c20
        clear c20; have H' := Aside0.mk H; clear H
        have p218 : 0 ≤ (x13_1 : Int) := of_decide_eq_true asmT
        have q218 : x13_1 < (l0_0.length : Int) := of_decide_eq_true asmT
        obtain ⟨ad218, e218, hx218_0, hx218_1⟩ := at_T83 HR0_0.out x13_1 p218 q218
        cases e218
        replace hx218_0 := (HB.out.cell (World.block_lt_of_cell? w _ hx218_0)).trans hx218_0; replace hx218_1 := (HB.out.cell (World.block_lt_of_cell? w _ hx218_1)).trans hx218_1; replace p218 := eq_true p218; replace q218 := eq_true q218
        go_wp2_with (first | ((with_reducible refine gate_dst (N := 7) rfl ?_); refine boxT (N := 7) (cs := #[.int .u8 0, .int .u8 0]) (t := 83) ?_; intro gb219 hg w21 hbox hb; have n0_ := asT (Kd.R_below (roT HO_5.out) hb); have n1_ := asT (blk_below (g := gb214) (o := .cells #[.slice (some ad218) l0_0.length c0_0] 34 (0, 0)) (bkT BK214.out) hb); have n2_ := asT (below_step (hbT HB.out) hb); have n3_ := asT (hbox); have n4_ := asT (geT hg HB.out); have n5_ := asT (geT hg HB.out); have n6_ := asT ((by rw [hg]; exact Nat.ne_of_lt (blk_lt (g := gb214) (o := .cells #[.slice (some ad218) l0_0.length c0_0] 34 (0, 0)) (bkT BK214.out)) : gb214 ≠ gb219)); have n7_ := asT ((by rw [hg]; exact Nat.ne_of_gt (blk_lt (g := gb214) (o := .cells #[.slice (some ad218) l0_0.length c0_0] 34 (0, 0)) (bkT BK214.out)) : gb219 ≠ gb214)); clear HO_5 BK214 HB; have HO_5 := n0_; have BK214 := n1_; have HB := n2_; have BK219 := n3_; have GW219 := n4_; have GE219 := n5_; have NB214_219 := n6_; have NB219_214 := n7_; clear n0_ n1_ n2_ n3_ n4_ n5_ n6_ n7_ hb hbox hg; have hnb22 := NB219_214.out; have hnc22 := NB214_219.out; have hcz23_0 : w21.cell? ⟨gb219, 0, none⟩ = some (.int .u8 0) := (blk_cell BK219.out 0).trans rfl; have hcz23_1 : w21.cell? ⟨gb219, 1, none⟩ = some (.int .u8 0) := (blk_cell BK219.out 1).trans rfl; have hfz23_0 := blk_frozen BK219.out 0; have hfz23_1 := blk_frozen BK219.out 1))
        go_roundg k1
        case measure => have := HK1.out; omega
        case rel => exact ⟨(x5_1), (wrap64 (x13_1 + 1)), rdT, H', ⟨by have := HK1.out; omega⟩, ⟨by (with_reducible repeat (first | apply Kd.R_alloc | apply Kd.R_drewN | apply Kd.R_drew)); exact Kd.R_mono (Kd.R_far (p := ⟨gb219, 1, none⟩) (Kd.R_far (p := ⟨gb219, 0, none⟩) (Kd.R_types HO_5.out BK219.out (by decide)) (fun _ hk => hk.2) (.int .u8 ((rd_T83 l0_0 x13_1).f0))) (fun _ hk => hk.2) (.int .u8 ((rd_T83 l0_0 x13_1).f1))) (fun _ hk => trivial)⟩, ⟨by (with_reducible repeat (first | refine blk_drewN ?_ _ | refine blk_drew ?_ | refine blk_alloc ?_ _)); refine blk_far ?_ NB214_219.out _; (with_reducible repeat (first | refine blk_drewN ?_ _ | refine blk_drew ?_ | refine blk_alloc ?_ _)); refine blk_far ?_ NB214_219.out _; (with_reducible repeat (first | refine blk_drewN ?_ _ | refine blk_drew ?_ | refine blk_alloc ?_ _)); exact BK214.out⟩, ⟨hbT HB.out⟩⟩
       ·rw [if_neg c20] at H
        have c20b0 : (((rd_T83 l0_0 x13_1).f0) == 0) = false := beq_eq_false_iff_ne.mpr c20
        have c20b1 : (((rd_T83 l0_0 x13_1).f0) != 0) = true := bne_iff_ne.mpr c20
        by_cases c24 : x5_1.length < 140737488355328
        ·rw [if_pos c24] at H
         have LMc24 := Aside0.mk c24; clear c24; obtain ⟨y223, hy223⟩ : ∃ y_ : List Int, y_ = (x5_1 ++ [(rd_T83 l0_0 x13_1).f0]) := ⟨_, rfl⟩
         replace H : (impl_sounds.l0 k1 false y223 l0_0 (l0_0.length : Int) (wrap64 (x13_1 + 1))) = some r := by first | (rw [hy223]; with_reducible exact H) | (have H2_ := (Option.bind_some _ _).symm.trans H; rw [hy223]; with_reducible exact H2_) | (have H2_ := (Option.bind_some _ _).symm.trans H; with_reducible exact H2_) | with_reducible exact H | (rw [hy223]; exact H) | exact H
         have Ny223 := Aside0.mk hy223; clear hy223; have H' := Aside0.mk H; clear H
         have p218 : 0 ≤ (x13_1 : Int) := of_decide_eq_true asmT
         have q218 : x13_1 < (l0_0.length : Int) := of_decide_eq_true asmT
         obtain ⟨ad218, e218, hx218_0, hx218_1⟩ := at_T83 HR0_0.out x13_1 p218 q218
         cases e218
         replace hx218_0 := (HB.out.cell (World.block_lt_of_cell? w _ hx218_0)).trans hx218_0; replace hx218_1 := (HB.out.cell (World.block_lt_of_cell? w _ hx218_1)).trans hx218_1; replace p218 := eq_true p218; replace q218 := eq_true q218
         go_wp2_with (first | ((with_reducible refine gate_dst (N := 7) rfl ?_); refine boxT (N := 7) (cs := #[.int .u8 0, .int .u8 0]) (t := 83) ?_; intro gb219 hg w25 hbox hb; have n0_ := asT (Kd.R_below (roT HO_5.out) hb); have n1_ := asT (blk_below (g := gb214) (o := .cells #[.slice (some ad218) l0_0.length c0_0] 34 (0, 0)) (bkT BK214.out) hb); have n2_ := asT (below_step (hbT HB.out) hb); have n3_ := asT (hbox); have n4_ := asT (geT hg HB.out); have n5_ := asT (geT hg HB.out); have n6_ := asT ((by rw [hg]; exact Nat.ne_of_lt (blk_lt (g := gb214) (o := .cells #[.slice (some ad218) l0_0.length c0_0] 34 (0, 0)) (bkT BK214.out)) : gb214 ≠ gb219)); have n7_ := asT ((by rw [hg]; exact Nat.ne_of_gt (blk_lt (g := gb214) (o := .cells #[.slice (some ad218) l0_0.length c0_0] 34 (0, 0)) (bkT BK214.out)) : gb219 ≠ gb214)); clear HO_5 BK214 HB; have HO_5 := n0_; have BK214 := n1_; have HB := n2_; have BK219 := n3_; have GW219 := n4_; have GE219 := n5_; have NB214_219 := n6_; have NB219_214 := n7_; clear n0_ n1_ n2_ n3_ n4_ n5_ n6_ n7_ hb hbox hg; have hnb26 := NB219_214.out; have hnc26 := NB214_219.out; have hcz27_0 : w25.cell? ⟨gb219, 0, none⟩ = some (.int .u8 0) := (blk_cell BK219.out 0).trans rfl; have hcz27_1 : w25.cell? ⟨gb219, 1, none⟩ = some (.int .u8 0) := (blk_cell BK219.out 1).trans rfl; have hfz27_0 := blk_frozen BK219.out 0; have hfz27_1 := blk_frozen BK219.out 1) | ((with_reducible refine gate_builtin (b := .append) (xs := #[.tmp 24, .tmp 26]) rfl ?_); at_builtin; refine Kd.R_append (Kd.int .u8) (w0 := w) w.heap.size rfl (.tmp 24) (.tmp 26) 101 5 (.int .u8 0) 1 rfl Try.underlying101 info5 rfl (by decide) (by omega) u5 x5_1 ((rd_T83 l0_0 x13_1).f0) [.int .u8 ((rd_T83 l0_0 x13_1).f0)] (fun _ => True) (fun _ => False) rfl (by first | (go_simp; done) | (go_simp; rfl)) ?aP (fun _ hk => hk.elim) ?aF ?aO ?aB ?aS ?aL ?_; (case aP => exact rfl); (case aB => exact (hbT HB.out)); (case aF => exact (fun _ _ => trivial)); (case aO => exact (by (with_reducible repeat (first | apply Kd.R_alloc | apply Kd.R_drewN | apply Kd.R_drew)); exact Kd.R_mono (Kd.R_far (p := ⟨gb219, 1, none⟩) (Kd.R_far (p := ⟨gb219, 0, none⟩) (Kd.R_types HO_5.out BK219.out (by decide)) (fun _ hk => hk.2) (.int .u8 ((rd_T83 l0_0 x13_1).f0))) (fun _ hk => hk.2) (.int .u8 ((rd_T83 l0_0 x13_1).f1))) (fun _ hk => trivial))); (case aS => exact (below_size (hbT HB.out))); (case aL => have := LMc24.out; omega); intro v224 w28 ho hb hg hat; rw [← Ny223.out] at ho; have n0_ := asT (blk_grown (g := gb214) (o := .cells #[.slice (some ad218) l0_0.length c0_0] 34 (0, 0)) (by (with_reducible repeat (first | refine blk_drewN ?_ _ | refine blk_drew ?_ | refine blk_alloc ?_ _)); refine blk_far ?_ NB214_219.out _; (with_reducible repeat (first | refine blk_drewN ?_ _ | refine blk_drew ?_ | refine blk_alloc ?_ _)); refine blk_far ?_ NB214_219.out _; (with_reducible repeat (first | refine blk_drewN ?_ _ | refine blk_drew ?_ | refine blk_alloc ?_ _)); exact BK214.out) hg (Kd.R_ne HO_5.out BK214.out (by decide))); have n1_ := asT (blk_grown (g := gb219) (o := .cells #[.int .u8 ((rd_T83 l0_0 x13_1).f0), .int .u8 ((rd_T83 l0_0 x13_1).f1)] 83 (0, 0)) (by (with_reducible repeat (first | refine blk_drewN ?_ _ | refine blk_drew ?_ | refine blk_alloc ?_ _)); refine blk_put (cs := #[.int .u8 ((rd_T83 l0_0 x13_1).f0), .int .u8 0]) ?_ 1 _ rfl; (with_reducible repeat (first | refine blk_drewN ?_ _ | refine blk_drew ?_ | refine blk_alloc ?_ _)); refine blk_put (cs := #[.int .u8 0, .int .u8 0]) ?_ 0 _ rfl; (with_reducible repeat (first | refine blk_drewN ?_ _ | refine blk_drew ?_ | refine blk_alloc ?_ _)); exact BK219.out) hg (Kd.R_ne HO_5.out BK219.out (by decide))); have n2_ := asT (hb); have n3_ := asT (ho); clear BK214 BK219 HB HO_5; have BK214 := n0_; have BK219 := n1_; have HB := n2_; have HO225 := n3_; clear n0_ n1_ n2_ n3_ ho hb hg hat))
         go_roundg k1
         case measure => have := HK1.out; omega
         case rel => exact ⟨(y223), (wrap64 (x13_1 + 1)), rdT, H', ⟨by have := HK1.out; omega⟩, ⟨by (with_reducible repeat (first | apply Kd.R_alloc | apply Kd.R_drewN | apply Kd.R_drew)); exact HO225.out⟩, ⟨by (with_reducible repeat (first | refine blk_drewN ?_ _ | refine blk_drew ?_ | refine blk_alloc ?_ _)); exact BK214.out⟩, ⟨hbT HB.out⟩⟩
        ·rw [if_neg c24] at H
         exact absurd H (by simp)
     ·rw [if_neg c9] at H
      exact absurd H (by simp)
    ·rw [if_neg c8] at H
     exact absurd H (by simp)
   ·rw [if_neg c7] at H
    have c7b0 : decide (x13_1 < (l0_0.length : Int)) = false := decide_eq_false c7
    clear c7
    obtain rfl := Option.some.inj H
    have hcv29 := own_string (P := Try.prog) Try.underlying101 Try.underlying5 Try.underlying9 (Kd.own_of_R HO_5.out)
    go_wp2
    go_ret
    exact ⟨rlT, hbT HB.out⟩

end Go.Proofs.Ytdamagcfmhimfad.PFnExactViolationsOf
