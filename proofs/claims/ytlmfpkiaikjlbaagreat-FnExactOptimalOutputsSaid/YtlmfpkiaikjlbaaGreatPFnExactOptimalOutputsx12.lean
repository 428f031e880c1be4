-- Made by gen.py (a program of this session) out of the translation; Lean checks it.
import Derived.Test.YtlmfpkiaikjlbaaGreatPFnExactOptimalOutputsx0
import Derived.Test.YtlmfpkiaikjlbaaGreatPFnExactOptimalOutputsx8
import Derived.Test.YtlmfpkiaikjlbaaGreatPFnExactOptimalOutputsx11
namespace Go.Proofs.YtlmfpkiaikjlbaaGreat.PFnExactOptimalOutputs
open Go.RowKit Go.Proofs.YtlmfpkiaikjlbaaGreatB Go.Proofs.YtlmfpkiaikjlbaaGreatW.PrintWords Go.Proofs.YtlmfpkiaikjlbaaGreatW.PrintLast Go.Proofs.YtlmfpkiaikjlbaaGreatW.PrintMore
attribute [local go_sem] max2_int min2_int max_two min_two max_three min_three max_four min_four   -- for this text's walks alone
set_option linter.unusedVariables false
set_option maxHeartbeats 8000000
set_option maxRecDepth 100000
set_option linter.unusedSimpArgs false
theorem len64_few (n : Nat) (hn : n = 1 ∨ n = 2 ∨ n = 3 ∨ n = 4 ∨ n = 5) : ∃ m : Int, ∀ w, Calls Tryz.prog 193 #[.int .u64 n] w fun e w' => e = .returned (.int .i64 m) ∧ w' = w := by
  rcases hn with rfl | rfl | rfl | rfl | rfl
  · refine ⟨1, fun w => ?_⟩; go_enter Tryz.func193, Tryz.ntmps193
    go_wp2
    go_ret; exact ⟨by kernel_rfl, rfl⟩
  · refine ⟨2, fun w => ?_⟩; go_enter Tryz.func193, Tryz.ntmps193
    go_wp2
    go_ret; exact ⟨by kernel_rfl, rfl⟩
  · refine ⟨2, fun w => ?_⟩; go_enter Tryz.func193, Tryz.ntmps193
    go_wp2
    go_ret; exact ⟨by kernel_rfl, rfl⟩
  · refine ⟨3, fun w => ?_⟩; go_enter Tryz.func193, Tryz.ntmps193
    go_wp2
    go_ret; exact ⟨by kernel_rfl, rfl⟩
  · refine ⟨3, fun w => ?_⟩; go_enter Tryz.func193, Tryz.ntmps193
    go_wp2
    go_ret; exact ⟨by kernel_rfl, rfl⟩
theorem len_few (n : Nat) (hn : n = 1 ∨ n = 2 ∨ n = 3 ∨ n = 4 ∨ n = 5) : ∃ m : Int, ∀ w, Calls Tryz.prog 180 #[.int .u64 n] w fun e w' => e = .returned (.int .i64 m) ∧ Drawn0 w w' := by
  obtain ⟨m, hm⟩ := len64_few n hn; refine ⟨m, fun w => ?_⟩; go_enter Tryz.func180, Tryz.ntmps180
  go_wp2_with (go_at_call 193; refine (hm _).mono ?_; rintro e w1 ⟨rfl, rfl⟩)
  go_ret; exact ⟨rfl, Drawn0.refl _⟩
theorem infoI : (Tryz.prog.info? 3).map (fun i => (i.zero, i.size, i.bytes)) = some (some (.int .i64 0), 1, 8) := by kernel_rfl
attribute [local go_sem] Oper.semAt_some
/-- the first k of the numbers -/
theorem take_snoc_getD (zs : List Int) (k : Nat) (h : k < zs.length) : zs.take (k + 1) = zs.take k ++ [zs[k]] := List.take_succ_eq_append_getElem h
theorem values_each (n : Nat) (hn : 1 ≤ n) (l Bs n₀ : Nat) (sv : Value) (zs : List Int) (hreach : zs.length * 8 ≤ 140737488351232) (J Jx : List Int → World → Prop)
    (hY : ∀ pre x W, J pre W → pre.length < zs.length → YieldAt Fence.wide (n - 1) Tryz.prog l #[.int .i64 x] W fun e W' =>
      (e = .returned (.bool true) ∧ J (pre ++ [x]) W' ∧ Below n₀ W W') ∨ (e = .returned (.bool false) ∧ Jx (pre ++ [x]) W'))
    (W : World) (A : Option Addr) (c : Nat) (hsv : sv = .slice A zs.length c) (hBs : W.cell? ⟨Bs, 0, none⟩ = some sv)
    (hc : ∀ (j : Nat) (hj : j < zs.length), ∃ ad, A = some ad ∧ (ad.add j).block < n₀ ∧ W.cell? (ad.add j) = some (.int .i64 zs[j])) (h0 : J [] W) :
    CallsIn Fence.wide n Tryz.prog 150 #[.func (.yield l) #[] #[], .pointer (some ⟨Bs, 0, none⟩)] W fun e W' => (∃ v, e = .returned v) ∧
      (J zs W' ∨ (∃ pre, pre <+: zs ∧ Jx pre W')) := by
  subst hsv; refine callsIn_of_wp Tryz.func150 rfl trivial ?_ rfl
  simp only [Tryz.ntmps150, List.size_toArray, List.length_cons, List.length_nil, Nat.reduceAdd, Nat.reduceSub, Array.replicate_succ, Array.replicate_zero, List.push_toArray, List.append_toArray, List.nil_append, List.cons_append]
  gi_wp2
  gi_loopw [7] (fun i wr => ∃ k : Nat, k ≤ zs.length ∧ i = .int .i64 k ∧ J (zs.take k) wr ∧ Below n₀ W wr)
    (fun i _ => zs.length - (intOf i).toNat)
  case atStart => exact ⟨0, Nat.zero_le _, rfl, by simpa using h0, Below.refl _ _⟩
  case round =>
    obtain ⟨k, hk, rfl, hJs, hnx⟩ := hrel; by_cases hlt : k < zs.length
    · obtain ⟨ad, rfl, hb, hcl⟩ := hc k hlt; have hcx : wr.cell? (ad.add k) = some (.int .i64 zs[k]) := (hnx.cell (p := ad.add k) hb).trans hcl; obtain ⟨fn, tmps, assign, body, hy, hR⟩ := hY _ zs[k] wr hJs (by rw [List.length_take]; omega)
      gi_wp2
      refine hR.mono ?_; rintro e W3 (⟨rfl, hJ3, hk3⟩ | ⟨rfl, hJx3⟩)
      · gi_wp2
        go_roundw
        case rel => exact ⟨k + 1, by omega, by simp, by rw [take_snoc_getD zs k hlt]; exact hJ3, hnx.trans hk3⟩
        case measure => simp [intOf]; omega
      · gi_wp2
        refine bodyPost_ret (results_none rfl _ _ _) rfl ?_; exact ⟨⟨_, rfl⟩, .inr ⟨_, by rw [← take_snoc_getD zs k hlt]; exact List.take_prefix _ _, hJx3⟩⟩
    · obtain rfl : k = zs.length := by omega
      gi_wp2
      go_end0
      exact ⟨⟨_, rfl⟩, .inl (by simpa using hJs)⟩
theorem heap_setCell_box {W : World} {B : Nat} {v : Value} {t : TypeId} (h : W.heap[B]? = some (.cells #[v] t (0, 0))) (v' : Value) : (W.setCell ⟨B, 0, none⟩ v').heap[B]? = some (.cells #[v'] t (0, 0)) := Boxed.set v' h
theorem heap_setCell_ne {W : World} {B k : Nat} (v' : Value) (h : k ≠ B) : (W.setCell ⟨B, 0, none⟩ v').heap[k]? = W.heap[k]? := Below.heap_setCell W ⟨B, 0, none⟩ v' k h
/-- what the row that is being built is, in the box Bs -/
def Built (base Bs : Nat) (pre : List Int) (W : World) : Prop := ∃ v, W.heap[Bs]? = some (.cells #[v] 39 (0, 0)) ∧ W.ownsRow base 3 1 v pre.length (encs (Value.int .i64) pre)
theorem built_kept {base Bs : Nat} {pre : List Int} {W W' : World} {row : Option Nat} (h : Built base Bs pre W) (hg : W.grownBy W' row) (hr : ∀ r, row = some r → ∃ o : Obj, W.heap[r]? = some o ∧ o.isCells = false) : Built base Bs pre W' := by
  obtain ⟨v, hv, ho⟩ := h; refine ⟨v, (grownBy_keeps_cells hg hr hv rfl).trans hv, own_move ho ?_⟩; intro k hk; obtain ⟨cells, hc⟩ := own_typed ho k hk; exact grownBy_keeps_cells hg hr hc rfl
theorem appendSeq_each (n : Nat) (hn : 3 ≤ n) (g : Nat) (lb : Array Value) (eg : ∀ args w, (callFunc g args).run Tryz.prog w = .ok (.enter g args) w) (zs : List Int) (hz : zs.length ≤ 1000) (w : World)
    (hseq : SeqStopsK Fence.wide (n - 1) Tryz.prog g lb (fun x : Int => #[Value.int .i64 x]) (Below w.heap.size) (fun ys => ys = zs) (fun pre => pre <+: zs) zs.length w) :
    CallsIn Fence.wide n Tryz.prog 178 #[.slice none 0 0, .func (.func g) #[] lb] w fun e w' => ∃ v, e = .returned v ∧ w'.ownsRow w.heap.size 3 1 v zs.length (encs (Value.int .i64) zs) ∧ Below w.heap.size w w' := by
  have h1 : 1 ≤ n := by omega
  obtain ⟨i0, hi, hzz⟩ := Option.map_eq_some_iff.1 infoI
  simp only [Prod.mk.injEq] at hzz
  obtain ⟨hz0, hz1, hz2⟩ := hzz; refine callsIn_of_wp_marks Tryz.func178 rfl trivial ?_ rfl
  simp only [Tryz.ntmps178, List.size_toArray, List.length_cons, List.length_nil, Nat.reduceAdd, Nat.reduceSub, Array.replicate_succ, Array.replicate_zero, List.push_toArray, List.append_toArray, List.nil_append, List.cons_append]
  gi_wp2
  have hB0 : Below w.heap.size w (w.alloc (.cells #[.slice none 0 0] 39)) := (Below.refl _ w).alloc (Nat.le_refl _) _; refine wpIn_rangeFunc_ownG rfl h1 (gf := g) (lb := lb) rfl trivial eg hseq belowK_t (belowK_b (by simp)) hB0 (fun _ => rfl)
    (fun pre W => Built w.heap.size w.heap.size pre W ∧ Below w.heap.size w W)
    (fun _ _ _ => False)
    (OwnFrom.and (fun s A B row hs hg hr => built_kept hs hg (fun r e => (hr r e).2)) (ownFrom_below (Nat.le_refl _) (by simp)))
    (fun _ _ _ _ _ hs _ _ => hs)
    ⟨⟨_, World.alloc_heap_new w _, ⟨rfl, .inl ⟨rfl, rfl⟩⟩⟩, hB0⟩
    (fun x => { tmps := #[.slice none 0 0, .func (.func g) #[] lb, .pointer (some ⟨w.heap.size, 0, none⟩), undef, .slice none 0 0, .int .i64 x, .func (.func g) #[] lb, .int .i64 x, undef, undef, undef, undef, undef], defers := [] }) ?assign ?body ?done ?stop
  case assign =>
    intro l x W K hK
    gi_wp2
    exact hK
  case body =>
    rintro l pre x W ⟨⟨v, hv, ho⟩, hB⟩ hlen
    have hc : W.cell? ⟨w.heap.size, 0, none⟩ = some v := by simp [World.cell?, hv]
    have hW := hB.size; have hBs : w.heap.size < W.heap.size := (Array.getElem?_eq_some_iff.1 hv).1
    have hnb : some w.heap.size ≠ v.ownBlock := by
      intro e; obtain ⟨cells, hcc⟩ := own_typed ho _ e.symm; rw [hv] at hcc; exact absurd (Obj.cells.inj (oI hcc)).2.1 (by decide)
    gi_wp2_with (first
    | (gi_at_builtin; refine wpListIn_append_own _ rfl _ _ 39 rfl w.heap.size 3 i0 (.int .i64 0) 1 8 Tryz.underlying39 hi hz0 hz1 hz2 rfl (by decide) _ _ _ rfl (ho.alloc _) ⟨W.heap.size, 0, none⟩ 1 1 [.int .i64 x] rfl rfl (cell_one_new _ _ _) (by simp [Value.oneCell']) (by simp only [maxLen]; omega) (by omega) (by simp; omega) ?_; intro v' w3 hown' hg3 _
       have hv3 : w3.heap[w.heap.size]? = some (.cells #[v] 39 (0, 0)) := (hg3.block _ (by simp; omega) hnb).trans ((Below.heap_alloc _ _ _ hBs).trans hv)
       have hc3 : w3.cell? ⟨w.heap.size, 0, none⟩ = some v := by simp [World.cell?, hv3]
       have hf3 : w3.frozen? ⟨w.heap.size, 0, none⟩ = false := by simp [World.frozen?, hv3]
       obtain ⟨g', cap', cur', rfl, _⟩ : ∃ (g' cap' : Nat) (cur' : Array Value), v' = .slice (some ⟨g', 0, none⟩) (pre.length + 1) cap' ∧ cur' = cur' := by
         rcases hown'.2 with ⟨_, h0⟩ | ⟨g', cap', cur', rfl, _⟩
         · exact absurd h0 (by omega)
         · exact ⟨g', cap', cur', rfl, rfl⟩
       go_frame))
    have hg3' : (W.alloc (.cells #[.int .i64 x] 3)).grownBy w3 v.ownBlock := hg3
    have hl3 : (pre ++ [x]).length = pre.length + 1 := by simp
    have hB3 : Below w.heap.size W w3 := ((Below.refl _ W).alloc hW _).grown hg3' (by simp; omega) (fun k e => own_base ho k e)
    have hK3 : KeepsFrom (w.heap.size + 1) W w3 := (((KeepsOthers.alloc W (.cells #[.int .i64 x] 3)).trans (KeepsOthers.of_grownBy hg3' (fun j o e ho' => by
      obtain ⟨cells, hcc⟩ := own_typed (ho.alloc (.cells #[.int .i64 x] 3)) j e; rw [ho'] at hcc; obtain rfl := oI hcc
      rfl))).from _)
    have hne' : some w.heap.size ≠ (Value.slice (some ⟨g', 0, none⟩) (pre.length + 1) cap').ownBlock := by
      intro e; obtain ⟨cells, hcc⟩ := own_typed hown' _ e.symm; rw [hv3] at hcc; exact absurd (Obj.cells.inj (oI hcc)).2.1 (by decide)
    refine ⟨hK3.trans ((KeepsOthers.setCell _ _ _).from _), hB3.setCell (p := ⟨w.heap.size, 0, none⟩) (Nat.le_refl _) _, ⟨_, heap_setCell_box hv3 _, ?_⟩, (hB.trans hB3).setCell (p := ⟨w.heap.size, 0, none⟩) (Nat.le_refl _) _⟩; rw [hl3, show encs (Value.int .i64) (pre ++ [x]) = encs (Value.int .i64) pre ++ [.int .i64 x] by simp [encs]]; refine own_move hown' (fun k hk => ?_); exact heap_setCell_ne _ (fun e => hne' (by rw [hk, e]))
  case done =>
    rintro D ys W hD rfl ⟨⟨v, hv, ho⟩, hB⟩ hK
    have hc : W.cell? ⟨w.heap.size, 0, none⟩ = some v := by simp [World.cell?, hv]
    have hf : W.frozen? ⟨w.heap.size, 0, none⟩ = false := by simp [World.frozen?, hv]
    obtain ⟨v2, hv2, ho2⟩ := built_kept (W' := W.putObj D (.deferred none)) ⟨_, hv, ho⟩ (grownBy_putObj' _ D _) (fun r e => by cases e; exact ⟨_, hK, rfl⟩); rw [World.putObj_heap_other (by simp at hD; omega), hv] at hv2
    obtain rfl : v = v2 := by simpa using hv2
    have hb2 := hB.trans (belowK_b (w := w) (Nat.le_refl _) W D _ (.deferred none) (by simp at hD; omega) hK rfl rfl)
    rcases ho.2 with ⟨rfl, hz0⟩ | ⟨g', cap', cur', rfl, _⟩
    · obtain rfl : ys = [] := List.eq_nil_of_length_eq_zero hz0
      gi_wp2
      refine ⟨by simp, .inl ⟨_, _, rfl, run_takeDeferred hK, ?_⟩⟩; refine ⟨_, results_tmp (t := 4) rfl _ _ _, ?_⟩; exact ⟨_, rfl, ho2, hb2⟩
    · gi_wp2
      refine ⟨by simp, .inl ⟨_, _, rfl, run_takeDeferred hK, ?_⟩⟩; refine ⟨_, results_tmp (t := 4) rfl _ _ _, ?_⟩; exact ⟨_, rfl, ho2, hb2⟩
  case stop =>
    rintro D c pre W _ _ h _; exact h.elim
theorem collect_each (n : Nat) (hn : 4 ≤ n) (g : Nat) (lb : Array Value) (eg : ∀ args w, (callFunc g args).run Tryz.prog w = .ok (.enter g args) w) (zs : List Int) (hz : zs.length ≤ 1000) (w : World)
    (hseq : SeqStopsK Fence.wide (n - 1 - 1) Tryz.prog g lb (fun x : Int => #[Value.int .i64 x]) (Below w.heap.size) (fun ys => ys = zs) (fun pre => pre <+: zs) zs.length w) :
    CallsIn Fence.wide n Tryz.prog 148 #[.func (.func g) #[] lb] w fun e w' => ∃ v, e = .returned v ∧ w'.ownsRow w.heap.size 3 1 v zs.length (encs (Value.int .i64) zs) ∧ Below w.heap.size w w' := by
  refine callsIn_of_wp Tryz.func148 rfl trivial ?_ rfl
  simp only [Tryz.ntmps148, List.size_toArray, List.length_cons, List.length_nil, Nat.reduceAdd, Nat.reduceSub, Array.replicate_succ, Array.replicate_zero, List.push_toArray, List.append_toArray, List.nil_append, List.cons_append]
  have hf : Fence.wide.fn 178 := trivial
  have h1 : 1 ≤ n := by omega
  gi_wp2_with (gi_at_call 178; refine (appendSeq_each (n - 1) (by omega) g lb eg zs hz _ hseq).mono ?_; rintro e w' ⟨v, rfl, ho, hb⟩)
  go_ret; exact ⟨v, rfl, ho, hb⟩
/-- the sort of a few numbers: insertion -/
theorem pdq_few (k : Nat) (P0_ : Nat → Prop) (u : Value) (l0 r : List Int) (a1 : Int) (hl : l0.length ≤ 12) (w0 w : World) (hB : Below w0.heap.size w0 w) (ho0 : Kd.R (Kd.int .i64) 3 w w0.heap.size P0_ u l0) (h : slices_insertionSortOrdered_int.f k l0 0 l0.length = some r) :
    Calls Tryz.prog 179 #[u, .int .i64 0, .int .i64 l0.length, .int .i64 a1] w fun e w' => e = .returned (.tuple #[]) ∧ Kd.R (Kd.int .i64) 3 w' w0.heap.size (fun k_ => (P0_ k_ ∨ w.heap.size ≤ k_)) u r ∧ Below w0.heap.size w0 w' ∧ Kept w w' (fun k_ => P0_ k_) := by
  go_enter Tryz.func179, Tryz.ntmps179
  go_wp2
  go_loopw [1, 2] (fun x y wr => x = .int .i64 0 ∧ y = .int .i64 l0.length ∧ wr = w) (fun _ _ _ => 0)
  case atStart => exact ⟨rfl, rfl, rfl⟩
  case round =>
    obtain ⟨rfl, rfl, rfl⟩ := hrel
    have hw : wrap64 ((l0.length : Int) - 0) = l0.length := by unfold wrap64; omega
    have hd : decide ((l0.length : Int) ≤ 12) = true := dt (by omega)
    go_wp2_with (go_at_call 183; refine (slices_insertionSortOrdered_int.calls k P0_ u l0 0 l0.length r w0 _ hB ho0 h).mono ?_; rintro e w' ⟨rfl, hpost⟩)
    refine bodyPost_ret (results_none rfl _ _ _) rfl ?_; exact ⟨rfl, hpost⟩
theorem sort_few (k : Nat) (P0_ : Nat → Prop) (A : Option Addr) (c : Nat) (l0 r : List Int) (hl : l0.length ≤ 12) (hLen : ∃ m : Int, ∀ w, Calls Tryz.prog 180 #[.int .u64 l0.length] w fun e w' => e = .returned (.int .i64 m) ∧ Drawn0 w w') (w0 w : World) (hB : Below w0.heap.size w0 w) (ho0 : Kd.R (Kd.int .i64) 3 w w0.heap.size P0_ (.slice A l0.length c) l0) (h : slices_insertionSortOrdered_int.f k l0 0 l0.length = some r) :
    Calls Tryz.prog 149 #[.slice A l0.length c] w fun e w' => e = .returned (.tuple #[]) ∧ Kd.R (Kd.int .i64) 3 w' w0.heap.size (fun _ => True) (.slice A l0.length c) r ∧ Below w0.heap.size w0 w' := by
  obtain ⟨m, hm⟩ := hLen; go_enter Tryz.func149, Tryz.ntmps149
  go_wp2_with (first | (go_at_call 180; refine (hm _).mono ?_; rintro e w1 ⟨rfl, ⟨q, rfl⟩⟩) | (go_at_call 179; refine (pdq_few k P0_ _ l0 r m hl w0 _ (pw_below_drewN hB q) (Kd.R_drewN ho0 q) h).mono ?_; rintro e w2 ⟨rfl, hR, hb, _⟩))
  go_end0
  exact ⟨rfl, Kd.R_mono hR (fun _ _ => trivial), hb⟩
theorem lt_of_cell {w : World} {a : Addr} {v : Value} (h : w.cell? a = some v) : a.block < w.heap.size := by
  obtain ⟨o, ho, _⟩ := cells_of_cell h; exact (Array.getElem?_eq_some_iff.1 ho).1
theorem sorted_few (k : Nat) (l0 r : List Int) (hl : l0.length ≤ 12) (hLen : ∃ m : Int, ∀ w, Calls Tryz.prog 180 #[.int .u64 l0.length] w fun e w' => e = .returned (.int .i64 m) ∧ Drawn0 w w') (h : slices_insertionSortOrdered_int.f k l0 0 l0.length = some r)
    (A0 : Option Addr) (c0 : Nat) (w : World) (hr0 : Kd.C (Kd.int .i64) w A0 l0.length l0) :
    Calls Tryz.prog 103 #[.func (.func 150) #[] #[.pointer (some ⟨w.heap.size, 0, none⟩)]] (w.alloc (.cells #[.slice A0 l0.length c0] 39)) fun e w' => ∃ v, e = .returned v ∧ Kd.R (Kd.int .i64) 3 w' w.heap.size (fun _ => True) v r ∧ Below w.heap.size w w' := by
  obtain ⟨w1, hw1⟩ : ∃ w1, w.alloc (.cells #[.slice A0 l0.length c0] 39) = w1 := ⟨_, rfl⟩
  have hB1 : Below w.heap.size w w1 := by rw [← hw1]; exact (Below.refl _ w).alloc (Nat.le_refl _) _
  have hs1 : w1.heap.size = w.heap.size + 1 := by rw [← hw1]; simp
  have hbox : w1.heap[w.heap.size]? = some (.cells #[.slice A0 l0.length c0] 39 (0, 0)) := by rw [← hw1]; exact World.alloc_heap_new w _
  have hseq : SeqStopsK Fence.wide 8 Tryz.prog 150 #[.pointer (some ⟨w.heap.size, 0, none⟩)] (fun x : Int => #[Value.int .i64 x]) (Below w1.heap.size) (fun ys => ys = l0) (fun pre => pre <+: l0) l0.length w1 := by
    intro l J Jx W hW _ _ hY h0
    have hbW : W.cell? ⟨w.heap.size, 0, none⟩ = some (.slice A0 l0.length c0) := by
      rw [hW.cell (p := ⟨w.heap.size, 0, none⟩) (by simp; omega)]
      simp [World.cell?, hbox]
    refine (values_each 8 (by omega) l w.heap.size w1.heap.size _ l0 (by omega) J Jx hY W A0 c0 rfl hbW ?_ h0).mono ?_
    · intro j hj; obtain ⟨ad, rfl, hc⟩ := Kd.at_int hr0 (j : Int) (by omega) (by omega); rw [Int.toNat_natCast] at hc; have hlt := lt_of_cell hc; refine ⟨ad, rfl, by omega, ?_⟩; rw [hW.cell (p := ad.add j) (by omega), hB1.cell (p := ad.add j) hlt, hc]
      simp [rd, hj]
    · rintro e W' ⟨he, h' | ⟨pre, hp, hx⟩⟩
      · exact ⟨he, .inl ⟨_, rfl, h'⟩⟩
      · exact ⟨he, .inr ⟨_, hp, hx⟩⟩
  rw [hw1]; have cC := callsIn_wide.1 (collect_each 10 (by omega) 150 _ (enters_of Tryz.func150 (by kernel_rfl) rfl) l0 (by omega) w1 hseq); clear hw1 hseq hbox; go_enter Tryz.func103, Tryz.ntmps103
  go_wp2_with (go_at_call 148; refine cC.mono ?_; rintro e w2 ⟨v, rfl, ho, hb⟩)
  have hR := Kd.R_of_own (enc := Value.int .i64) (h1 := fun _ => rfl) (ok := fun _ => True) ho (fun _ _ => trivial)
  obtain ⟨A, c, rfl⟩ : ∃ A c, v = .slice A l0.length c := by
    rcases ho.2 with ⟨rfl, hz⟩ | ⟨g', cap', cur', rfl, _⟩
    · exact ⟨none, 0, by rw [hz]⟩
    · exact ⟨_, _, rfl⟩
  have cS := sort_few k (fun _ => True) A c l0 r hl hLen w1 w2 hb hR h
  go_wp2_with (go_at_call 149; refine cS.mono ?_; rintro e w3 ⟨rfl, hR3, hb3⟩)
  go_ret; exact ⟨_, rfl, Kd.R_lower hR3 hB1.size, hB1.trans (hb3.mono hB1.size)⟩
theorem values_make (A : Option Addr) (n c : Nat) (w : World) : Calls Tryz.prog 104 #[.slice A n c] w fun e w' => e = .returned (.func (.func 150) #[] #[.pointer (some ⟨w.heap.size, 0, none⟩)]) ∧ w' = w.alloc (.cells #[.slice A n c] 39) := by
  go_enter Tryz.func104, Tryz.ntmps104
  go_wp2
  go_ret; exact ⟨rfl, rfl⟩
def impl_IsRanking.f (k : Nat) (l0 : List Int) (a1 : Int) : Option (Bool) := (impl_within.f a1 1 5).bind fun t => if t = true then (if (l0.length : Int) = a1 then ((slices_insertionSortOrdered_int.f k l0 0 l0.length).bind fun s => impl_isStrict.f k s a1) else some false) else some false
theorem impl_IsRanking.mono : ∀ a0 a1 k, LeO (impl_IsRanking.f k a0 a1) (impl_IsRanking.f (k + 1) a0 a1) := by
  intro a0 a1 k; unfold impl_IsRanking.f; refine LeO.bind (LeO.refl _) (fun t => LeO.ite (LeO.ite (LeO.bind (slices_insertionSortOrdered_int.mono _ _ _ k) (fun s => impl_isStrict.mono _ _ k)) (LeO.refl _)) (LeO.refl _))
theorem impl_IsRanking.calls (k : Nat) (A0 : Option Addr) (c0 : Nat) (l0 : List Int) (a1 : Int) (r : Bool) (w : World) (hr0 : Kd.C (Kd.int .i64) w A0 l0.length l0) (hc0 : l0.length ≤ c0) (h : impl_IsRanking.f k l0 a1 = some r) :
    Calls Tryz.prog 69 #[.slice A0 l0.length c0, .int .i64 a1] w fun e w' => e = .returned (.bool r) ∧ Below w.heap.size w w' := by
  unfold impl_IsRanking.f at h; obtain ⟨t, ht, h⟩ := Option.bind_eq_some_iff.1 h
  cases t
  · simp only [Bool.false_eq_true, if_false] at h
    obtain rfl := oI h; go_enter Tryz.func69, Tryz.ntmps69
    go_wp2_with (go_at_call 82; refine (impl_within.calls a1 1 5 false _ ht).mono ?_; rintro e w1 ⟨rfl, ⟨q, rfl⟩⟩)
    go_ret; exact ⟨rfl, pw_below_drewN (Below.refl _ _) q⟩
  · simp only [if_true] at h
    by_cases hl : (l0.length : Int) = a1
    · rw [if_pos hl] at h; obtain ⟨s, hs, hst⟩ := Option.bind_eq_some_iff.1 h; clear h
      have h5 : 1 ≤ l0.length ∧ l0.length ≤ 5 := by
        unfold impl_within.f at ht
        split at ht
        · have := dT (oI ht); exact ⟨by omega, by omega⟩
        · exact absurd ht (by simp)
      have hLen : ∃ m : Int, ∀ w, Calls Tryz.prog 180 #[.int .u64 l0.length] w fun e w' => e = .returned (.int .i64 m) ∧ Drawn0 w w' := by
        exact len_few _ (by omega)
      subst hl; go_enter Tryz.func69, Tryz.ntmps69
      go_wp2_with (first
        | (go_at_call 82; refine (impl_within.calls _ 1 5 true _ ht).mono ?_; rintro e w1 ⟨rfl, ⟨q, rfl⟩⟩)
        | (go_at_call 104; refine (values_make A0 _ c0 (w.drewN q)).mono ?_; rintro e w1 ⟨rfl, rfl⟩)
        | (go_at_call 103; refine (sorted_few k l0 s (by omega) hLen hs A0 c0 (w.drewN q) (Kd.C_below hr0 (pw_below_drewN (Below.refl _ _) q))).mono ?_; rintro e w1 ⟨v, rfl, hR, hb⟩; obtain ⟨A1, c1, rfl, hc1, hC1⟩ := Kd.R_reads hR)
        | (go_at_call 102; refine (impl_isStrict.calls k A1 c1 s _ r w1 hC1 hc1 hst).mono ?_; rintro e w2 ⟨rfl, ⟨q2, rfl⟩⟩))
      go_ret; exact ⟨rfl, pw_below_drewN ((pw_below_drewN (Below.refl _ _) q).trans hb) q2⟩
    · rw [if_neg hl] at h; obtain rfl := oI h; have hd : decide ((l0.length : Int) = a1) = false := df hl; go_enter Tryz.func69, Tryz.ntmps69
      go_wp2_with (go_at_call 82; refine (impl_within.calls a1 1 5 true _ ht).mono ?_; rintro e w1 ⟨rfl, ⟨q, rfl⟩⟩)
      go_ret; exact ⟨rfl, pw_below_drewN (Below.refl _ _) q⟩
mutual
def impl_CompareMarks.j0 : Nat → List Int → List Int → List Int → Bool → Option (Int)
 | 0, _, _, _, _ => none
 | k + 1, x0, x1, x2, x20 => if x20 = true then (some 0) else (impl_CompareMarks.l0 k x0 x1 x2 (x2.length : Int) 0)
def impl_CompareMarks.l0 : Nat → List Int → List Int → List Int → Int → Int → Option (Int)
 | 0, _, _, _, _, _ => none
 | k + 1, x0, x1, x21, x22, x23 => if x23 < x22 then (if 0 ≤ x23 then (if x23 < (x21.length : Int) then (if 0 ≤ (rd x21 x23) then (if (rd x21 x23) < (x0.length : Int) then (if (rd x21 x23) < (x1.length : Int) then (if (rd x0 (rd x21 x23)) < (rd x1 (rd x21 x23)) then (some (-1)) else (if (rd x0 (rd x21 x23)) > (rd x1 (rd x21 x23)) then (some 1) else (impl_CompareMarks.l0 k x0 x1 x21 x22 (wrap64 (x23 + 1))))) else (none)) else (none)) else (none)) else (none)) else (none)) else (some 0)
end
def impl_CompareMarks.f (k : Nat) (l0 : List Int) (l1 : List Int) (l2 : List Int) : Option (Int) := if (l0.length : Int) = (l1.length : Int) then ((impl_IsRanking.f k l2 (l0.length : Int)).bind fun t538 => (impl_CompareMarks.j0 k l0 l1 l2 (!t538))) else (impl_CompareMarks.j0 k l0 l1 l2 true)
theorem impl_CompareMarks.mono_l : ∀ k, (∀ y0 y1 y2 y3, LeO (impl_CompareMarks.j0 k y0 y1 y2 y3) (impl_CompareMarks.j0 (k + 1) y0 y1 y2 y3)) ∧ (∀ y0 y1 y2 y3 y4, LeO (impl_CompareMarks.l0 k y0 y1 y2 y3 y4) (impl_CompareMarks.l0 (k + 1) y0 y1 y2 y3 y4))
 | 0 => ⟨fun _ _ _ _ r h => by simp [impl_CompareMarks.j0] at h, fun _ _ _ _ _ r h => by simp [impl_CompareMarks.l0] at h⟩
 | k + 1 => by
  obtain ⟨ih0, ih1⟩ := impl_CompareMarks.mono_l k; refine ⟨?_, ?_⟩
  ·intro y0 y1 y2 y3; unfold impl_CompareMarks.j0
   with_reducible repeat' first | exact ih0 _ _ _ _ | exact ih1 _ _ _ _ _ | exact impl_IsRanking.mono _ _ _ | exact LeO.refl _ | exact LeO.none _ | refine LeO.ite ?_ ?_ | refine LeO.bind ?_ (fun _ => ?_)
  ·intro y0 y1 y2 y3 y4; unfold impl_CompareMarks.l0
   with_reducible repeat' first | exact ih0 _ _ _ _ | exact ih1 _ _ _ _ _ | exact impl_IsRanking.mono _ _ _ | exact LeO.refl _ | exact LeO.none _ | refine LeO.ite ?_ ?_ | refine LeO.bind ?_ (fun _ => ?_)
theorem impl_CompareMarks.mono : ∀ a0 a1 a2 k, LeO (impl_CompareMarks.f k a0 a1 a2) (impl_CompareMarks.f (k + 1) a0 a1 a2) := by
 intro a0 a1 a2 k; obtain ⟨ih0, ih1⟩ := impl_CompareMarks.mono_l k; unfold impl_CompareMarks.f
 with_reducible repeat' first | exact ih0 _ _ _ _ | exact ih1 _ _ _ _ _ | exact impl_IsRanking.mono _ _ _ | exact LeO.refl _ | exact LeO.none _ | refine LeO.ite ?_ ?_ | refine LeO.bind ?_ (fun _ => ?_)
theorem impl_CompareMarks.calls (k : Nat) (A0 : Option Addr) (c0 : Nat) (l0 : List Int) (A1 : Option Addr) (c1 : Nat) (l1 : List Int) (A2 : Option Addr) (c2 : Nat) (l2 : List Int) (r : Int) (w : World) (hr0 : Kd.C (Kd.int .i64) w A0 l0.length l0) (hc0 : l0.length ≤ c0) (hr1 : Kd.C (Kd.int .i64) w A1 l1.length l1) (hc1 : l1.length ≤ c1) (hr2 : Kd.C (Kd.int .i64) w A2 l2.length l2) (hc2 : l2.length ≤ c2) (h : impl_CompareMarks.f k l0 l1 l2 = some r) :
  Calls Tryz.prog 70 #[.slice A0 l0.length c0, .slice A1 l1.length c1, .slice A2 l2.length c2] w fun e w' => e = .returned (.int .i64 r) ∧ Below w.heap.size w w' := by
 have HR0 := asT hr0; have HC0 := asT hc0; clear hr0 hc0; have HR1 := asT hr1; have HC1 := asT hc1; clear hr1 hc1; have HR2 := asT hr2; have HC2 := asT hc2; clear hr2 hc2; have HB := asT (Below.refl w.heap.size w); have H := h; unfold impl_CompareMarks.f at H; clear h; have HC4 := asT H; clear H; go_enter Tryz.func70, Tryz.ntmps70
 go_upto_region 1 with (fail)
 repeat (go_quiet (fail); go_upto_region 1 with (fail))
 go_cut [20] (fun v20 wc => ∃ (kq : Nat) (x20_3 : Bool), v20 = .bool x20_3 ∧ Aside0 (impl_CompareMarks.j0 kq l0 l1 l2 x20_3 = some r) ∧ Aside0 (kq ≤ k) ∧ Aside0 (Below w.heap.size w wc))
 case first =>
  have H := HC4.out; clear HC4; by_cases c5 : (l0.length : Int) = (l1.length : Int)
  ·rw [if_pos c5] at H; have c5b0 : ((l0.length : Int) == (l1.length : Int)) = true := eC c5; have c5b1 : ((l0.length : Int) != (l1.length : Int)) = false := eA c5
   have c5b2 : (l0.length == l1.length) = true := by first | simpa using c5 | (simp at c5 ⊢; omega)
   clear c5
   (first | rw [c5b0] | (simp only [i64_w, i32_w]; rw [c5b0]) | skip)
   obtain ⟨t538, A6, H⟩ := be H; have H' := asT H; clear H
   go_wp2_with (first | (go_at_call 69; (with_reducible refine (impl_IsRanking.calls k _ _ l2 (l0.length : Int) t538 _ ?side1 ?side2 A6.out).mono ?_); (case side1 => exact crT HR2.out HB.out); (case side2 => exact HC2.out); rintro e w7 ⟨rfl, hb⟩; replace HB := hS HB hb; (try clear hb hb2 hk hi)))
   repeat (go_quiet (first | (go_at_call 69; (with_reducible refine (impl_IsRanking.calls k _ _ l2 (l0.length : Int) t538 _ ?side1 ?side2 A6.out).mono ?_); (case side1 => exact crT HR2.out HB.out); (case side2 => exact HC2.out); rintro e w7 ⟨rfl, hb⟩; replace HB := hS HB hb; (try clear hb hb2 hk hi))); try go_wp2_with (first | (go_at_call 69; (with_reducible refine (impl_IsRanking.calls k _ _ l2 (l0.length : Int) t538 _ ?side1 ?side2 A6.out).mono ?_); (case side1 => exact crT HR2.out HB.out); (case side2 => exact HC2.out); rintro e w7 ⟨rfl, hb⟩; replace HB := hS HB hb; (try clear hb hb2 hk hi))))
   go_meet
   case rel => exact ⟨_, (!t538), rdT, H', ⟨by first | omega | exact Nat.le_refl _⟩, ⟨hbT HB.out⟩⟩
  ·rw [if_neg c5] at H; have c5b0 : ((l0.length : Int) == (l1.length : Int)) = false := eB c5; have c5b1 : ((l0.length : Int) != (l1.length : Int)) = true := eD c5
   have c5b2 : (l0.length == l1.length) = false := by first | simpa using c5 | (simp at c5 ⊢; omega)
   (first | rw [c5b0] | (simp only [i64_w, i32_w]; rw [c5b0]) | skip)
   have H' := asT H; clear H
   go_wp2
   repeat (go_quiet (fail); try go_wp2)
   go_meet
   case rel => exact ⟨_, (true), rdT, H', ⟨by first | omega | exact Nat.le_refl _⟩, ⟨hbT HB.out⟩⟩
 case rest =>
  clear HC4; (try clear c1 c2 p2 c5 c5b0 c5b1 c5b2 c7); obtain ⟨kq, x20_3, rfl, HA, HJ3, HB⟩ := hcut
  cases kq with
  | zero => exact absurd HA.out (by simp [impl_CompareMarks.j0])
  | succ kj3 =>
   have H := HA.out; clear HA
   simp only [impl_CompareMarks.j0] at H
   by_cases c8 : x20_3 = true
   ·subst c8; rw [if_pos rfl] at H; have H1 := H; clear H; have H := H1; clear H1; obtain rfl := oI H
    go_wp2
    repeat (go_quiet (fail); try go_wp2)
    go_ret; exact ⟨rlT, hbT HB.out⟩
   ·replace c8 := eE c8; subst c8; rw [if_neg nF] at H; have H' := asT H; clear H
    go_wp2
    repeat (go_quiet (fail); try go_wp2)
    go_loopg [23] kj3 (fun kq v23 w' => ∃ (x23_2 : Int), v23 = .int .i64 x23_2 ∧ Aside0 (impl_CompareMarks.l0 kq l0 l1 l2 (l2.length : Int) x23_2 = some r) ∧ Aside0 (kq ≤ kj3) ∧ Aside0 (Below w.heap.size w w'))
    case atStart => exact ⟨(0), rdT, H', ⟨Nat.le_refl _⟩, ⟨hbT HB.out⟩⟩
    case round =>
     clear H'; (try clear c1 c2 p2 c5 c5b0 c5b1 c5b2 c7 c8 p2); obtain ⟨x23_2, rfl, HA, HK2, HB⟩ := hrel
     cases gk with
     | zero => exact absurd HA.out (by simp [impl_CompareMarks.l0])
     | succ k2 =>
      have H := HA.out; clear HA
      simp only [impl_CompareMarks.l0] at H
      by_cases c9 : x23_2 < (l2.length : Int)
      ·rw [if_pos c9] at H; have c9b0 := dt c9; clear c9; by_cases c10 : 0 ≤ x23_2
       ·rw [if_pos c10] at H; have c10b0 := dt c10; clear c10; by_cases c11 : x23_2 < (l2.length : Int)
        ·rw [if_pos c11] at H; have c11b0 := dt c11; clear c11; by_cases c12 : 0 ≤ (rd l2 x23_2)
         ·rw [if_pos c12] at H; have c12b0 := dt c12; clear c12; by_cases c13 : (rd l2 x23_2) < (l0.length : Int)
          ·rw [if_pos c13] at H; have c13b0 := dt c13; clear c13; by_cases c14 : (rd l2 x23_2) < (l1.length : Int)
           ·rw [if_pos c14] at H; have c14b0 := dt c14; clear c14; by_cases c15 : (rd l0 (rd l2 x23_2)) < (rd l1 (rd l2 x23_2))
            ·rw [if_pos c15] at H; have c15b0 := dt c15; clear c15; obtain rfl := oI H; have p539 : 0 ≤ (x23_2 : Int) := dT asmT; have q539 : x23_2 < (l2.length : Int) := dT asmT; obtain ⟨ad539, e539, hx539_0⟩ := Kd.at_int HR2.out x23_2 p539 q539
             cases e539
             replace hx539_0 := hbc HB.out hx539_0; replace p539 := eq_true p539; replace q539 := eq_true q539; have p540 : 0 ≤ ((rd l2 x23_2) : Int) := dT asmT; have q540 : (rd l2 x23_2) < (l0.length : Int) := dT asmT; obtain ⟨ad540, e540, hx540_0⟩ := Kd.at_int HR0.out (rd l2 x23_2) p540 q540
             cases e540
             replace hx540_0 := hbc HB.out hx540_0; replace p540 := eq_true p540; replace q540 := eq_true q540; have p541 : 0 ≤ ((rd l2 x23_2) : Int) := dT asmT; have q541 : (rd l2 x23_2) < (l1.length : Int) := dT asmT; obtain ⟨ad541, e541, hx541_0⟩ := Kd.at_int HR1.out (rd l2 x23_2) p541 q541
             cases e541
             replace hx541_0 := hbc HB.out hx541_0; replace p541 := eq_true p541; replace q541 := eq_true q541
             go_wp2
             repeat (go_quiet (fail); try go_wp2)
             go_ret; exact ⟨rlT, hbT HB.out⟩
            ·rw [if_neg c15] at H; have c15b0 := df c15; clear c15; by_cases c16 : (rd l0 (rd l2 x23_2)) > (rd l1 (rd l2 x23_2))
             ·rw [if_pos c16] at H; have c16b0 : decide ((rd l1 (rd l2 x23_2)) < (rd l0 (rd l2 x23_2))) = true := dt c16; clear c16; obtain rfl := oI H; have p539 : 0 ≤ (x23_2 : Int) := dT asmT; have q539 : x23_2 < (l2.length : Int) := dT asmT; obtain ⟨ad539, e539, hx539_0⟩ := Kd.at_int HR2.out x23_2 p539 q539
              cases e539
              replace hx539_0 := hbc HB.out hx539_0; replace p539 := eq_true p539; replace q539 := eq_true q539; have p540 : 0 ≤ ((rd l2 x23_2) : Int) := dT asmT; have q540 : (rd l2 x23_2) < (l0.length : Int) := dT asmT; obtain ⟨ad540, e540, hx540_0⟩ := Kd.at_int HR0.out (rd l2 x23_2) p540 q540
              cases e540
              replace hx540_0 := hbc HB.out hx540_0; replace p540 := eq_true p540; replace q540 := eq_true q540; have p541 : 0 ≤ ((rd l2 x23_2) : Int) := dT asmT; have q541 : (rd l2 x23_2) < (l1.length : Int) := dT asmT; obtain ⟨ad541, e541, hx541_0⟩ := Kd.at_int HR1.out (rd l2 x23_2) p541 q541
              cases e541
              replace hx541_0 := hbc HB.out hx541_0; replace p541 := eq_true p541; replace q541 := eq_true q541; have p542 : 0 ≤ ((rd l2 x23_2) : Int) := dT asmT; have q542 : (rd l2 x23_2) < (l0.length : Int) := dT asmT; obtain ⟨ad542, e542, hx542_0⟩ := Kd.at_int HR0.out (rd l2 x23_2) p542 q542; obtain rfl : ad540 = ad542 := (by injection e542); replace hx542_0 := hbc HB.out hx542_0; replace p542 := eq_true p542; replace q542 := eq_true q542; have p543 : 0 ≤ ((rd l2 x23_2) : Int) := dT asmT; have q543 : (rd l2 x23_2) < (l1.length : Int) := dT asmT; obtain ⟨ad543, e543, hx543_0⟩ := Kd.at_int HR1.out (rd l2 x23_2) p543 q543; obtain rfl : ad541 = ad543 := (by injection e543); replace hx543_0 := hbc HB.out hx543_0; replace p543 := eq_true p543; replace q543 := eq_true q543
              go_wp2
              repeat (go_quiet (fail); try go_wp2)
              go_ret; exact ⟨rlT, hbT HB.out⟩
             ·rw [if_neg c16] at H; have c16b0 : decide ((rd l1 (rd l2 x23_2)) < (rd l0 (rd l2 x23_2))) = false := df c16; clear c16; have H' := asT H; clear H; have p539 : 0 ≤ (x23_2 : Int) := dT asmT; have q539 : x23_2 < (l2.length : Int) := dT asmT; obtain ⟨ad539, e539, hx539_0⟩ := Kd.at_int HR2.out x23_2 p539 q539
              cases e539
              replace hx539_0 := hbc HB.out hx539_0; replace p539 := eq_true p539; replace q539 := eq_true q539; have p540 : 0 ≤ ((rd l2 x23_2) : Int) := dT asmT; have q540 : (rd l2 x23_2) < (l0.length : Int) := dT asmT; obtain ⟨ad540, e540, hx540_0⟩ := Kd.at_int HR0.out (rd l2 x23_2) p540 q540
              cases e540
              replace hx540_0 := hbc HB.out hx540_0; replace p540 := eq_true p540; replace q540 := eq_true q540; have p541 : 0 ≤ ((rd l2 x23_2) : Int) := dT asmT; have q541 : (rd l2 x23_2) < (l1.length : Int) := dT asmT; obtain ⟨ad541, e541, hx541_0⟩ := Kd.at_int HR1.out (rd l2 x23_2) p541 q541
              cases e541
              replace hx541_0 := hbc HB.out hx541_0; replace p541 := eq_true p541; replace q541 := eq_true q541; have p542 : 0 ≤ ((rd l2 x23_2) : Int) := dT asmT; have q542 : (rd l2 x23_2) < (l0.length : Int) := dT asmT; obtain ⟨ad542, e542, hx542_0⟩ := Kd.at_int HR0.out (rd l2 x23_2) p542 q542; obtain rfl : ad540 = ad542 := (by injection e542); replace hx542_0 := hbc HB.out hx542_0; replace p542 := eq_true p542; replace q542 := eq_true q542; have p543 : 0 ≤ ((rd l2 x23_2) : Int) := dT asmT; have q543 : (rd l2 x23_2) < (l1.length : Int) := dT asmT; obtain ⟨ad543, e543, hx543_0⟩ := Kd.at_int HR1.out (rd l2 x23_2) p543 q543; obtain rfl : ad541 = ad543 := (by injection e543); replace hx543_0 := hbc HB.out hx543_0; replace p543 := eq_true p543; replace q543 := eq_true q543
              go_wp2
              repeat (go_quiet (fail); try go_wp2)
              go_roundg k2
              case measure => have := HJ3.out; have := HK2.out; omega
              case rel => exact ⟨(wrap64 (x23_2 + 1)), rdT, H', ⟨by have := HJ3.out; have := HK2.out; omega⟩, ⟨hbT HB.out⟩⟩
           ·rw [if_neg c14] at H; exact absurd H (by simp)
          ·rw [if_neg c13] at H; exact absurd H (by simp)
         ·rw [if_neg c12] at H; exact absurd H (by simp)
        ·rw [if_neg c11] at H; exact absurd H (by simp)
       ·rw [if_neg c10] at H; exact absurd H (by simp)
      ·rw [if_neg c9] at H; have c9b0 := df c9; clear c9; obtain rfl := oI H
       go_wp2
       repeat (go_quiet (fail); try go_wp2)
       go_ret; exact ⟨rlT, hbT HB.out⟩
end Go.Proofs.YtlmfpkiaikjlbaaGreat.PFnExactOptimalOutputs
