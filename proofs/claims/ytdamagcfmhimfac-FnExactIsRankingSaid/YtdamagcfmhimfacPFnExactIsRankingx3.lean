-- Made by gen.py (a program of this session) out of the translation; Lean checks it.
import Derived.Test.YtdamagcfmhimfacPFnExactIsRankingx0
import Derived.Test.YtdamagcfmhimfacPFnExactIsRankingx1
import Derived.Test.YtdamagcfmhimfacPFnExactIsRankingx2
namespace Go.Proofs.Ytdamagcfmhimfac.PFnExactIsRanking
open Go.RowKit Go.Proofs.YtdamagcfmhimfacB Go.Proofs.YtdamagcfmhimfacW.PrintWords Go.Proofs.YtdamagcfmhimfacW.PrintLast Go.Proofs.YtdamagcfmhimfacW.PrintMore
attribute [local go_sem] max2_int min2_int max_two min_two max_three min_three max_four min_four   -- for this text's walks alone
set_option linter.unusedVariables false
set_option linter.unusedSimpArgs false

/-! ### impl_IsRanking: function 47 -/
set_option maxRecDepth 100000 in
set_option maxHeartbeats 4000000 in
theorem len64_few (n : Nat) (hn : n = 1 ∨ n = 2 ∨ n = 3 ∨ n = 4 ∨ n = 5) : ∃ m : Int, ∀ w, Calls Try.prog 125 #[.int .u64 n] w fun e w' => e = .returned (.int .i64 m) ∧ w' = w := by
  rcases hn with rfl | rfl | rfl | rfl | rfl
  · refine ⟨1, fun w => ?_⟩
    go_enter Try.func125, Try.ntmps125
    go_wp2
    go_ret
    exact ⟨by kernel_rfl, rfl⟩
  · refine ⟨2, fun w => ?_⟩
    go_enter Try.func125, Try.ntmps125
    go_wp2
    go_ret
    exact ⟨by kernel_rfl, rfl⟩
  · refine ⟨2, fun w => ?_⟩
    go_enter Try.func125, Try.ntmps125
    go_wp2
    go_ret
    exact ⟨by kernel_rfl, rfl⟩
  · refine ⟨3, fun w => ?_⟩
    go_enter Try.func125, Try.ntmps125
    go_wp2
    go_ret
    exact ⟨by kernel_rfl, rfl⟩
  · refine ⟨3, fun w => ?_⟩
    go_enter Try.func125, Try.ntmps125
    go_wp2
    go_ret
    exact ⟨by kernel_rfl, rfl⟩
set_option maxRecDepth 100000 in
set_option maxHeartbeats 4000000 in
theorem len_few (n : Nat) (hn : n = 1 ∨ n = 2 ∨ n = 3 ∨ n = 4 ∨ n = 5) : ∃ m : Int, ∀ w, Calls Try.prog 113 #[.int .u64 n] w fun e w' => e = .returned (.int .i64 m) ∧ Drawn0 w w' := by
  obtain ⟨m, hm⟩ := len64_few n hn
  refine ⟨m, fun w => ?_⟩
  go_enter Try.func113, Try.ntmps113
  go_wp2_with (go_at_call 125; refine (hm _).mono ?_; rintro e w1 ⟨rfl, rfl⟩)
  go_ret
  exact ⟨rfl, Drawn0.refl _⟩
theorem infoI : (Try.prog.info? 3).map (fun i => (i.zero, i.size, i.bytes)) = some (some (.int .i64 0), 1, 8) := by kernel_rfl
attribute [local go_sem] Oper.semAt_some
/-- the first k of the numbers -/
theorem take_snoc_getD (zs : List Int) (k : Nat) (h : k < zs.length) : zs.take (k + 1) = zs.take k ++ [zs[k]] := List.take_succ_eq_append_getElem h

set_option maxRecDepth 100000 in
set_option maxHeartbeats 2000000 in
theorem values_each (n : Nat) (hn : 1 ≤ n) (l Bs n₀ : Nat) (sv : Value) (zs : List Int) (hreach : zs.length * 8 ≤ 140737488351232) (J Jx : List Int → World → Prop)
    (hY : ∀ pre x W, J pre W → pre.length < zs.length → YieldAt Fence.wide (n - 1) Try.prog l #[.int .i64 x] W fun e W' =>
      (e = .returned (.bool true) ∧ J (pre ++ [x]) W' ∧ Below n₀ W W') ∨ (e = .returned (.bool false) ∧ Jx (pre ++ [x]) W'))
    (W : World) (A : Option Addr) (c : Nat) (hsv : sv = .slice A zs.length c) (hBs : W.cell? ⟨Bs, 0, none⟩ = some sv)
    (hc : ∀ (j : Nat) (hj : j < zs.length), ∃ ad, A = some ad ∧ (ad.add j).block < n₀ ∧ W.cell? (ad.add j) = some (.int .i64 zs[j])) (h0 : J [] W) :
    CallsIn Fence.wide n Try.prog 107 #[.func (.yield l) #[] #[], .pointer (some ⟨Bs, 0, none⟩)] W fun e W' => (∃ v, e = .returned v) ∧
      (J zs W' ∨ (∃ pre, pre <+: zs ∧ Jx pre W')) := by
  subst hsv
  refine callsIn_of_wp Try.func107 rfl trivial ?_ rfl
  simp only [Try.ntmps107, List.size_toArray, List.length_cons, List.length_nil, Nat.reduceAdd, Nat.reduceSub, Array.replicate_succ, Array.replicate_zero, List.push_toArray, List.append_toArray, List.nil_append, List.cons_append]
  gi_wp2
  gi_loopw [7] (fun i wr => ∃ k : Nat, k ≤ zs.length ∧ i = .int .i64 k ∧ J (zs.take k) wr ∧ Below n₀ W wr)
    (fun i _ => zs.length - (intOf i).toNat)
  case atStart => exact ⟨0, Nat.zero_le _, rfl, by simpa using h0, Below.refl _ _⟩
  case round =>
    obtain ⟨k, hk, rfl, hJs, hnx⟩ := hrel
    by_cases hlt : k < zs.length
    · obtain ⟨ad, rfl, hb, hcl⟩ := hc k hlt
      have hcx : wr.cell? (ad.add k) = some (.int .i64 zs[k]) := (hnx.cell (p := ad.add k) hb).trans hcl
      obtain ⟨fn, tmps, assign, body, hy, hR⟩ := hY _ zs[k] wr hJs (by rw [List.length_take]; omega)
      gi_wp2
      refine hR.mono ?_
      rintro e W3 (⟨rfl, hJ3, hk3⟩ | ⟨rfl, hJx3⟩)
      · gi_wp2
        go_roundw
        case rel => exact ⟨k + 1, by omega, by simp, by rw [take_snoc_getD zs k hlt]; exact hJ3, hnx.trans hk3⟩
        case measure => simp [intOf]; omega
      · gi_wp2
        refine bodyPost_ret (results_none rfl _ _ _) rfl ?_
        exact ⟨⟨_, rfl⟩, .inr ⟨_, by rw [← take_snoc_getD zs k hlt]; exact List.take_prefix _ _, hJx3⟩⟩
    · obtain rfl : k = zs.length := by omega
      gi_wp2
      go_end0
      exact ⟨⟨_, rfl⟩, .inl (by simpa using hJs)⟩


theorem heap_setCell_box {W : World} {B : Nat} {v : Value} {t : TypeId} (h : W.heap[B]? = some (.cells #[v] t (0, 0))) (v' : Value) : (W.setCell ⟨B, 0, none⟩ v').heap[B]? = some (.cells #[v'] t (0, 0)) := Boxed.set v' h
theorem heap_setCell_ne {W : World} {B k : Nat} (v' : Value) (h : k ≠ B) : (W.setCell ⟨B, 0, none⟩ v').heap[k]? = W.heap[k]? := Below.heap_setCell W ⟨B, 0, none⟩ v' k h
/-- what the row that is being built is, in the box Bs -/
def Built (base Bs : Nat) (pre : List Int) (W : World) : Prop := ∃ v, W.heap[Bs]? = some (.cells #[v] 51 (0, 0)) ∧ W.ownsRow base 3 1 v pre.length (encs (Value.int .i64) pre)
theorem built_kept {base Bs : Nat} {pre : List Int} {W W' : World} {row : Option Nat} (h : Built base Bs pre W) (hg : W.grownBy W' row) (hr : ∀ r, row = some r → ∃ o : Obj, W.heap[r]? = some o ∧ o.isCells = false) : Built base Bs pre W' := by
  obtain ⟨v, hv, ho⟩ := h
  refine ⟨v, (grownBy_keeps_cells hg hr hv rfl).trans hv, own_move ho ?_⟩
  intro k hk
  obtain ⟨cells, hc⟩ := own_typed ho k hk
  exact grownBy_keeps_cells hg hr hc rfl

set_option maxRecDepth 100000 in
set_option maxHeartbeats 4000000 in
theorem appendSeq_each (n : Nat) (hn : 3 ≤ n) (g : Nat) (lb : Array Value) (eg : ∀ args w, (callFunc g args).run Try.prog w = .ok (.enter g args) w) (zs : List Int) (hz : zs.length ≤ 1000) (w : World)
    (hseq : SeqStopsK Fence.wide (n - 1) Try.prog g lb (fun x : Int => #[Value.int .i64 x]) (Below w.heap.size) (fun ys => ys = zs) (fun pre => pre <+: zs) zs.length w) :
    CallsIn Fence.wide n Try.prog 111 #[.slice none 0 0, .func (.func g) #[] lb] w fun e w' => ∃ v, e = .returned v ∧ w'.ownsRow w.heap.size 3 1 v zs.length (encs (Value.int .i64) zs) ∧ Below w.heap.size w w' := by
  have h1 : 1 ≤ n := by omega
  obtain ⟨i0, hi, hzz⟩ := Option.map_eq_some_iff.1 infoI
  simp only [Prod.mk.injEq] at hzz
  obtain ⟨hz0, hz1, hz2⟩ := hzz
  refine callsIn_of_wp_marks Try.func111 rfl trivial ?_ rfl
  simp only [Try.ntmps111, List.size_toArray, List.length_cons, List.length_nil, Nat.reduceAdd, Nat.reduceSub, Array.replicate_succ, Array.replicate_zero, List.push_toArray, List.append_toArray, List.nil_append, List.cons_append]
  gi_wp2
  have hB0 : Below w.heap.size w (w.alloc (.cells #[.slice none 0 0] 51)) := (Below.refl _ w).alloc (Nat.le_refl _) _
  refine wpIn_rangeFunc_ownG rfl h1 (gf := g) (lb := lb) rfl trivial eg hseq belowK_t (belowK_b (by simp)) hB0 (fun _ => rfl)
    (fun pre W => Built w.heap.size w.heap.size pre W ∧ Below w.heap.size w W)
    (fun _ _ _ => False)
    (OwnFrom.and (fun s A B row hs hg hr => built_kept hs hg (fun r e => (hr r e).2)) (ownFrom_below (Nat.le_refl _) (by simp)))
    (fun _ _ _ _ _ hs _ _ => hs)
    ⟨⟨_, World.alloc_heap_new w _, ⟨rfl, .inl ⟨rfl, rfl⟩⟩⟩, hB0⟩
    (fun x => { tmps := #[.slice none 0 0, .func (.func g) #[] lb, .pointer (some ⟨w.heap.size, 0, none⟩), undef, .slice none 0 0, .int .i64 x, .func (.func g) #[] lb, .int .i64 x, undef, undef, undef, undef, undef], defers := [] }) ?assign ?body ?done ?stop
  case assign =>
    intro l x W K hK
    gi_wp2
    exact hK
  case body =>
    rintro l pre x W ⟨⟨v, hv, ho⟩, hB⟩ hlen
    have hc : W.cell? ⟨w.heap.size, 0, none⟩ = some v := by simp [World.cell?, hv]
    have hW := hB.size
    have hBs : w.heap.size < W.heap.size := (Array.getElem?_eq_some_iff.1 hv).1
    have hnb : some w.heap.size ≠ v.ownBlock := by
      intro e
      obtain ⟨cells, hcc⟩ := own_typed ho _ e.symm
      rw [hv] at hcc
      exact absurd (Obj.cells.inj (Option.some.inj hcc)).2.1 (by decide)
    gi_wp2_with (first
    | (gi_at_builtin; refine wpListIn_append_own _ rfl _ _ 51 rfl w.heap.size 3 i0 (.int .i64 0) 1 8 Try.underlying51 hi hz0 hz1 hz2 rfl (by decide) _ _ _ rfl (ho.alloc _) ⟨W.heap.size, 0, none⟩ 1 1 [.int .i64 x] rfl rfl (cell_one_new _ _ _) (by simp [Value.oneCell']) (by simp only [maxLen]; omega) (by omega) (by simp; omega) ?_; intro v' w3 hown' hg3 _
       have hv3 : w3.heap[w.heap.size]? = some (.cells #[v] 51 (0, 0)) := (hg3.block _ (by simp; omega) hnb).trans ((Below.heap_alloc _ _ _ hBs).trans hv)
       have hc3 : w3.cell? ⟨w.heap.size, 0, none⟩ = some v := by simp [World.cell?, hv3]
       have hf3 : w3.frozen? ⟨w.heap.size, 0, none⟩ = false := by simp [World.frozen?, hv3]
       obtain ⟨g', cap', cur', rfl, _⟩ : ∃ (g' cap' : Nat) (cur' : Array Value), v' = .slice (some ⟨g', 0, none⟩) (pre.length + 1) cap' ∧ cur' = cur' := by
         rcases hown'.2 with ⟨_, h0⟩ | ⟨g', cap', cur', rfl, _⟩
         · exact absurd h0 (by omega)
         · exact ⟨g', cap', cur', rfl, rfl⟩
       go_frame))
    have hg3' : (W.alloc (.cells #[.int .i64 x] 3)).grownBy w3 v.ownBlock := hg3
    have hl3 : (pre ++ [x]).length = pre.length + 1 := by simp
    have hB3 : Below w.heap.size W w3 := ((Below.refl _ W).alloc hW _).grown hg3' (by simp; omega) (fun k e => own_base ho k e)
    have hK3 : KeepsFrom (w.heap.size + 1) W w3 := (((KeepsOthers.alloc W (.cells #[.int .i64 x] 3)).trans (KeepsOthers.of_grownBy hg3' (fun j o e ho' => by
      obtain ⟨cells, hcc⟩ := own_typed (ho.alloc (.cells #[.int .i64 x] 3)) j e
      rw [ho'] at hcc
      obtain rfl := Option.some.inj hcc
      rfl))).from _)
    have hne' : some w.heap.size ≠ (Value.slice (some ⟨g', 0, none⟩) (pre.length + 1) cap').ownBlock := by
      intro e
      obtain ⟨cells, hcc⟩ := own_typed hown' _ e.symm
      rw [hv3] at hcc
      exact absurd (Obj.cells.inj (Option.some.inj hcc)).2.1 (by decide)
    refine ⟨hK3.trans ((KeepsOthers.setCell _ _ _).from _), hB3.setCell (p := ⟨w.heap.size, 0, none⟩) (Nat.le_refl _) _, ⟨_, heap_setCell_box hv3 _, ?_⟩, (hB.trans hB3).setCell (p := ⟨w.heap.size, 0, none⟩) (Nat.le_refl _) _⟩
    rw [hl3, show encs (Value.int .i64) (pre ++ [x]) = encs (Value.int .i64) pre ++ [.int .i64 x] by simp [encs]]
    refine own_move hown' (fun k hk => ?_)
    exact heap_setCell_ne _ (fun e => hne' (by rw [hk, e]))
  case done =>
    rintro D ys W hD rfl ⟨⟨v, hv, ho⟩, hB⟩ hK
    have hc : W.cell? ⟨w.heap.size, 0, none⟩ = some v := by simp [World.cell?, hv]
    have hf : W.frozen? ⟨w.heap.size, 0, none⟩ = false := by simp [World.frozen?, hv]
    obtain ⟨v2, hv2, ho2⟩ := built_kept (W' := W.putObj D (.deferred none)) ⟨_, hv, ho⟩ (grownBy_putObj' _ D _) (fun r e => by cases e; exact ⟨_, hK, rfl⟩)
    rw [World.putObj_heap_other (by simp at hD; omega), hv] at hv2
    obtain rfl : v = v2 := by simpa using hv2
    have hb2 := hB.trans (belowK_b (w := w) (Nat.le_refl _) W D _ (.deferred none) (by simp at hD; omega) hK rfl rfl)
    rcases ho.2 with ⟨rfl, hz0⟩ | ⟨g', cap', cur', rfl, _⟩
    · obtain rfl : ys = [] := List.eq_nil_of_length_eq_zero hz0
      gi_wp2
      refine ⟨by simp, .inl ⟨_, _, rfl, run_takeDeferred hK, ?_⟩⟩
      refine ⟨_, results_tmp (t := 4) rfl _ _ _, ?_⟩
      exact ⟨_, rfl, ho2, hb2⟩
    · gi_wp2
      refine ⟨by simp, .inl ⟨_, _, rfl, run_takeDeferred hK, ?_⟩⟩
      refine ⟨_, results_tmp (t := 4) rfl _ _ _, ?_⟩
      exact ⟨_, rfl, ho2, hb2⟩
  case stop =>
    rintro D c pre W _ _ h _
    exact h.elim


set_option maxRecDepth 100000 in
set_option maxHeartbeats 4000000 in
theorem collect_each (n : Nat) (hn : 4 ≤ n) (g : Nat) (lb : Array Value) (eg : ∀ args w, (callFunc g args).run Try.prog w = .ok (.enter g args) w) (zs : List Int) (hz : zs.length ≤ 1000) (w : World)
    (hseq : SeqStopsK Fence.wide (n - 1 - 1) Try.prog g lb (fun x : Int => #[Value.int .i64 x]) (Below w.heap.size) (fun ys => ys = zs) (fun pre => pre <+: zs) zs.length w) :
    CallsIn Fence.wide n Try.prog 105 #[.func (.func g) #[] lb] w fun e w' => ∃ v, e = .returned v ∧ w'.ownsRow w.heap.size 3 1 v zs.length (encs (Value.int .i64) zs) ∧ Below w.heap.size w w' := by
  refine callsIn_of_wp Try.func105 rfl trivial ?_ rfl
  simp only [Try.ntmps105, List.size_toArray, List.length_cons, List.length_nil, Nat.reduceAdd, Nat.reduceSub, Array.replicate_succ, Array.replicate_zero, List.push_toArray, List.append_toArray, List.nil_append, List.cons_append]
  have hf : Fence.wide.fn 111 := trivial
  have h1 : 1 ≤ n := by omega
  gi_wp2_with (gi_at_call 111; refine (appendSeq_each (n - 1) (by omega) g lb eg zs hz _ hseq).mono ?_; rintro e w' ⟨v, rfl, ho, hb⟩)
  go_ret
  exact ⟨v, rfl, ho, hb⟩

set_option maxRecDepth 100000 in
set_option maxHeartbeats 4000000 in
/-- the sort of a few numbers: insertion -/
theorem pdq_few (k : Nat) (P0_ : Nat → Prop) (u : Value) (l0 r : List Int) (a1 : Int) (hl : l0.length ≤ 12) (w0 w : World) (hB : Below w0.heap.size w0 w) (ho0 : Kd.R (Kd.int .i64) 3 w w0.heap.size P0_ u l0) (h : slices_insertionSortOrdered_int.f k l0 0 l0.length = some r) :
    Calls Try.prog 112 #[u, .int .i64 0, .int .i64 l0.length, .int .i64 a1] w fun e w' => e = .returned (.tuple #[]) ∧ Kd.R (Kd.int .i64) 3 w' w0.heap.size (fun k_ => (P0_ k_ ∨ w.heap.size ≤ k_)) u r ∧ Below w0.heap.size w0 w' ∧ Kept w w' (fun k_ => P0_ k_) := by
  go_enter Try.func112, Try.ntmps112
  go_wp2
  go_loopw [1, 2] (fun x y wr => x = .int .i64 0 ∧ y = .int .i64 l0.length ∧ wr = w) (fun _ _ _ => 0)
  case atStart => exact ⟨rfl, rfl, rfl⟩
  case round =>
    obtain ⟨rfl, rfl, rfl⟩ := hrel
    have hw : wrap64 ((l0.length : Int) - 0) = l0.length := by unfold wrap64; omega
    have hd : decide ((l0.length : Int) ≤ 12) = true := decide_eq_true (by omega)
    go_wp2_with (go_at_call 115; refine (slices_insertionSortOrdered_int.calls k P0_ u l0 0 l0.length r w0 _ hB ho0 h).mono ?_; rintro e w' ⟨rfl, hpost⟩)
    refine bodyPost_ret (results_none rfl _ _ _) rfl ?_
    exact ⟨rfl, hpost⟩

set_option maxRecDepth 100000 in
set_option maxHeartbeats 4000000 in
theorem sort_few (k : Nat) (P0_ : Nat → Prop) (A : Option Addr) (c : Nat) (l0 r : List Int) (hl : l0.length ≤ 12) (hLen : ∃ m : Int, ∀ w, Calls Try.prog 113 #[.int .u64 l0.length] w fun e w' => e = .returned (.int .i64 m) ∧ Drawn0 w w') (w0 w : World) (hB : Below w0.heap.size w0 w) (ho0 : Kd.R (Kd.int .i64) 3 w w0.heap.size P0_ (.slice A l0.length c) l0) (h : slices_insertionSortOrdered_int.f k l0 0 l0.length = some r) :
    Calls Try.prog 106 #[.slice A l0.length c] w fun e w' => e = .returned (.tuple #[]) ∧ Kd.R (Kd.int .i64) 3 w' w0.heap.size (fun _ => True) (.slice A l0.length c) r ∧ Below w0.heap.size w0 w' := by
  obtain ⟨m, hm⟩ := hLen
  go_enter Try.func106, Try.ntmps106
  go_wp2_with (first | (go_at_call 113; refine (hm _).mono ?_; rintro e w1 ⟨rfl, ⟨q, rfl⟩⟩) | (go_at_call 112; refine (pdq_few k P0_ _ l0 r m hl w0 _ (pw_below_drewN hB q) (Kd.R_drewN ho0 q) h).mono ?_; rintro e w2 ⟨rfl, hR, hb, _⟩))
  go_end0
  exact ⟨rfl, Kd.R_mono hR (fun _ _ => trivial), hb⟩

theorem lt_of_cell {w : World} {a : Addr} {v : Value} (h : w.cell? a = some v) : a.block < w.heap.size := by
  obtain ⟨o, ho, _⟩ := cells_of_cell h
  exact (Array.getElem?_eq_some_iff.1 ho).1

set_option maxRecDepth 100000 in
set_option maxHeartbeats 4000000 in
theorem sorted_few (k : Nat) (l0 r : List Int) (hl : l0.length ≤ 12) (hLen : ∃ m : Int, ∀ w, Calls Try.prog 113 #[.int .u64 l0.length] w fun e w' => e = .returned (.int .i64 m) ∧ Drawn0 w w') (h : slices_insertionSortOrdered_int.f k l0 0 l0.length = some r)
    (A0 : Option Addr) (c0 : Nat) (w : World) (hr0 : Kd.C (Kd.int .i64) w A0 l0.length l0) :
    Calls Try.prog 86 #[.func (.func 107) #[] #[.pointer (some ⟨w.heap.size, 0, none⟩)]] (w.alloc (.cells #[.slice A0 l0.length c0] 51)) fun e w' => ∃ v, e = .returned v ∧ Kd.R (Kd.int .i64) 3 w' w.heap.size (fun _ => True) v r ∧ Below w.heap.size w w' := by
  obtain ⟨w1, hw1⟩ : ∃ w1, w.alloc (.cells #[.slice A0 l0.length c0] 51) = w1 := ⟨_, rfl⟩
  have hB1 : Below w.heap.size w w1 := by rw [← hw1]; exact (Below.refl _ w).alloc (Nat.le_refl _) _
  have hs1 : w1.heap.size = w.heap.size + 1 := by rw [← hw1]; simp
  have hbox : w1.heap[w.heap.size]? = some (.cells #[.slice A0 l0.length c0] 51 (0, 0)) := by rw [← hw1]; exact World.alloc_heap_new w _
  have hseq : SeqStopsK Fence.wide 8 Try.prog 107 #[.pointer (some ⟨w.heap.size, 0, none⟩)] (fun x : Int => #[Value.int .i64 x]) (Below w1.heap.size) (fun ys => ys = l0) (fun pre => pre <+: l0) l0.length w1 := by
    intro l J Jx W hW _ _ hY h0
    have hbW : W.cell? ⟨w.heap.size, 0, none⟩ = some (.slice A0 l0.length c0) := by
      rw [hW.cell (p := ⟨w.heap.size, 0, none⟩) (by simp; omega)]
      simp [World.cell?, hbox]
    refine (values_each 8 (by omega) l w.heap.size w1.heap.size _ l0 (by omega) J Jx hY W A0 c0 rfl hbW ?_ h0).mono ?_
    · intro j hj
      obtain ⟨ad, rfl, hc⟩ := Kd.at_int hr0 (j : Int) (by omega) (by omega)
      rw [Int.toNat_natCast] at hc
      have hlt := lt_of_cell hc
      refine ⟨ad, rfl, by omega, ?_⟩
      rw [hW.cell (p := ad.add j) (by omega), hB1.cell (p := ad.add j) hlt, hc]
      simp [rd, hj]
    · rintro e W' ⟨he, h' | ⟨pre, hp, hx⟩⟩
      · exact ⟨he, .inl ⟨_, rfl, h'⟩⟩
      · exact ⟨he, .inr ⟨_, hp, hx⟩⟩
  rw [hw1]
  have cC := callsIn_wide.1 (collect_each 10 (by omega) 107 _ (enters_of Try.func107 (by kernel_rfl) rfl) l0 (by omega) w1 hseq)
  clear hw1 hseq hbox
  go_enter Try.func86, Try.ntmps86
  go_wp2_with (go_at_call 105; refine cC.mono ?_; rintro e w2 ⟨v, rfl, ho, hb⟩)
  have hR := Kd.R_of_own (enc := Value.int .i64) (h1 := fun _ => rfl) (ok := fun _ => True) ho (fun _ _ => trivial)
  obtain ⟨A, c, rfl⟩ : ∃ A c, v = .slice A l0.length c := by
    rcases ho.2 with ⟨rfl, hz⟩ | ⟨g', cap', cur', rfl, _⟩
    · exact ⟨none, 0, by rw [hz]⟩
    · exact ⟨_, _, rfl⟩
  have cS := sort_few k (fun _ => True) A c l0 r hl hLen w1 w2 hb hR h
  go_wp2_with (go_at_call 106; refine cS.mono ?_; rintro e w3 ⟨rfl, hR3, hb3⟩)
  go_ret
  exact ⟨_, rfl, Kd.R_lower hR3 hB1.size, hB1.trans (hb3.mono hB1.size)⟩

set_option maxRecDepth 100000 in
theorem values_make (A : Option Addr) (n c : Nat) (w : World) : Calls Try.prog 87 #[.slice A n c] w fun e w' => e = .returned (.func (.func 107) #[] #[.pointer (some ⟨w.heap.size, 0, none⟩)]) ∧ w' = w.alloc (.cells #[.slice A n c] 51) := by
  go_enter Try.func87, Try.ntmps87
  go_wp2
  go_ret
  exact ⟨rfl, rfl⟩
def impl_IsRanking.f (k : Nat) (l0 : List Int) (a1 : Int) : Option (Bool) := (impl_within.f a1 1 5).bind fun t => if t = true then (if (l0.length : Int) = a1 then ((slices_insertionSortOrdered_int.f k l0 0 l0.length).bind fun s => impl_isStrict.f k s a1) else some false) else some false
theorem impl_IsRanking.mono : ∀ a0 a1 k, LeO (impl_IsRanking.f k a0 a1) (impl_IsRanking.f (k + 1) a0 a1) := by
  intro a0 a1 k
  unfold impl_IsRanking.f
  refine LeO.bind (LeO.refl _) (fun t => LeO.ite (LeO.ite (LeO.bind (slices_insertionSortOrdered_int.mono _ _ _ k) (fun s => impl_isStrict.mono _ _ k)) (LeO.refl _)) (LeO.refl _))
set_option maxRecDepth 100000 in
set_option maxHeartbeats 4000000 in
theorem impl_IsRanking.calls (k : Nat) (A0 : Option Addr) (c0 : Nat) (l0 : List Int) (a1 : Int) (r : Bool) (w : World) (hr0 : Kd.C (Kd.int .i64) w A0 l0.length l0) (hc0 : l0.length ≤ c0) (h : impl_IsRanking.f k l0 a1 = some r) :
    Calls Try.prog 47 #[.slice A0 l0.length c0, .int .i64 a1] w fun e w' => e = .returned (.bool r) ∧ Below w.heap.size w w' := by
  unfold impl_IsRanking.f at h
  obtain ⟨t, ht, h⟩ := Option.bind_eq_some_iff.1 h
  cases t
  · simp only [Bool.false_eq_true, if_false] at h
    obtain rfl := Option.some.inj h
    go_enter Try.func47, Try.ntmps47
    go_wp2_with (go_at_call 84; refine (impl_within.calls a1 1 5 false _ ht).mono ?_; rintro e w1 ⟨rfl, ⟨q, rfl⟩⟩)
    go_ret
    exact ⟨rfl, pw_below_drewN (Below.refl _ _) q⟩
  · simp only [if_true] at h
    by_cases hl : (l0.length : Int) = a1
    · rw [if_pos hl] at h
      obtain ⟨s, hs, hst⟩ := Option.bind_eq_some_iff.1 h
      clear h
      have h5 : 1 ≤ l0.length ∧ l0.length ≤ 5 := by
        unfold impl_within.f at ht
        split at ht
        · have := of_decide_eq_true (Option.some.inj ht)
          exact ⟨by omega, by omega⟩
        · exact absurd ht (by simp)
      have hLen : ∃ m : Int, ∀ w, Calls Try.prog 113 #[.int .u64 l0.length] w fun e w' => e = .returned (.int .i64 m) ∧ Drawn0 w w' := by
        exact len_few _ (by omega)
      subst hl
      go_enter Try.func47, Try.ntmps47
      go_wp2_with (first
        | (go_at_call 84; refine (impl_within.calls _ 1 5 true _ ht).mono ?_; rintro e w1 ⟨rfl, ⟨q, rfl⟩⟩)
        | (go_at_call 87; refine (values_make A0 _ c0 (w.drewN q)).mono ?_; rintro e w1 ⟨rfl, rfl⟩)
        | (go_at_call 86; refine (sorted_few k l0 s (by omega) hLen hs A0 c0 (w.drewN q) (Kd.C_below hr0 (pw_below_drewN (Below.refl _ _) q))).mono ?_; rintro e w1 ⟨v, rfl, hR, hb⟩; obtain ⟨A1, c1, rfl, hc1, hC1⟩ := Kd.R_reads hR)
        | (go_at_call 85; refine (impl_isStrict.calls k A1 c1 s _ r w1 hC1 hc1 hst).mono ?_; rintro e w2 ⟨rfl, ⟨q2, rfl⟩⟩))
      go_ret
      exact ⟨rfl, pw_below_drewN ((pw_below_drewN (Below.refl _ _) q).trans hb) q2⟩
    · rw [if_neg hl] at h
      obtain rfl := Option.some.inj h
      have hd : decide ((l0.length : Int) = a1) = false := decide_eq_false hl
      go_enter Try.func47, Try.ntmps47
      go_wp2_with (go_at_call 84; refine (impl_within.calls a1 1 5 true _ ht).mono ?_; rintro e w1 ⟨rfl, ⟨q, rfl⟩⟩)
      go_ret
      exact ⟨rfl, pw_below_drewN (Below.refl _ _) q⟩


/-! ### laws_eqIntS: function 48 -/
def laws_eqIntS.l0 : Nat → List Int → List Int → Int → Option (Bool)
  | 0, _, _, _ => none
  | k + 1, x0, x1, x5 => if x5 < (x0.length : Int) then (if 0 ≤ x5 then (if x5 < (x1.length : Int) then (if (rd x0 x5) = (rd x1 x5) then (laws_eqIntS.l0 k x0 x1 (wrap64 (x5 + 1))) else (some false)) else (none)) else (none)) else (some true)
def laws_eqIntS.f (k : Nat) (l0 : List Int) (l1 : List Int) : Option (Bool) := if (l0.length : Int) = (l1.length : Int) then (laws_eqIntS.l0 k l0 l1 0) else (some false)
theorem laws_eqIntS.mono_l : ∀ k, (∀ y0 y1 y2, LeO (laws_eqIntS.l0 k y0 y1 y2) (laws_eqIntS.l0 (k + 1) y0 y1 y2))
  | 0 => fun _ _ _ r h => by simp [laws_eqIntS.l0] at h
  | k + 1 => by
    have ih0 := laws_eqIntS.mono_l k
    · intro y0 y1 y2
      unfold laws_eqIntS.l0
      repeat' first
      | (with_reducible exact ih0 _ _ _)
      | (with_reducible exact LeO.refl _)
      | (with_reducible exact LeO.none _)
      | (with_reducible refine LeO.ite ?_ ?_)
      | (with_reducible refine LeO.bind ?_ (fun _ => ?_))
      | exact ih0 _ _ _
      | exact LeO.none _
      | refine LeO.ite ?_ ?_
      | refine LeO.bind ?_ (fun _ => ?_)
theorem laws_eqIntS.mono : ∀ a0 a1 k, LeO (laws_eqIntS.f k a0 a1) (laws_eqIntS.f (k + 1) a0 a1) := by
  intro a0 a1 k
  have ih0 := laws_eqIntS.mono_l k
  unfold laws_eqIntS.f
  repeat' first
      | (with_reducible exact ih0 _ _ _)
      | (with_reducible exact LeO.refl _)
      | (with_reducible exact LeO.none _)
      | (with_reducible refine LeO.ite ?_ ?_)
      | (with_reducible refine LeO.bind ?_ (fun _ => ?_))
      | exact ih0 _ _ _
      | exact LeO.none _
      | refine LeO.ite ?_ ?_
      | refine LeO.bind ?_ (fun _ => ?_)
set_option maxHeartbeats 8000000 in
set_option maxRecDepth 100000 in
theorem laws_eqIntS.calls (k : Nat) (A0 : Option Addr) (c0 : Nat) (l0 : List Int) (A1 : Option Addr) (c1 : Nat) (l1 : List Int) (r : Bool) (w : World) (hr0 : Kd.C (Kd.int .i64) w A0 l0.length l0) (hc0 : l0.length ≤ c0) (hr1 : Kd.C (Kd.int .i64) w A1 l1.length l1) (hc1 : l1.length ≤ c1) (h : laws_eqIntS.f k l0 l1 = some r) :
    Calls Try.prog 48 #[.slice A0 l0.length c0, .slice A1 l1.length c1] w fun e w' => e = .returned (.bool r) ∧ Drawn0 w w' := by
  have HR0 := Aside0.mk hr0
  have HC0 := Aside0.mk hc0
  clear hr0 hc0
  have HR1 := Aside0.mk hr1
  have HC1 := Aside0.mk hc1
  clear hr1 hc1
  have H : (if (l0.length : Int) = (l1.length : Int) then (laws_eqIntS.l0 k l0 l1 0) else (some false)) = some r := h
  clear h
  by_cases c3 : (l0.length : Int) = (l1.length : Int)
  · rw [if_pos c3] at H
    have c3b0 : ((l0.length : Int) == (l1.length : Int)) = true := beq_iff_eq.mpr c3
    have c3b1 : ((l0.length : Int) != (l1.length : Int)) = false := bne_eq_false_iff_eq.mpr c3
    have c3b2 : (l0.length == l1.length) = true := by first | simpa using c3 | (simp at c3 ⊢; omega)
    clear c3
    have H' := Aside0.mk H
    clear H
    go_enter Try.func48, Try.ntmps48
    go_wp2
    repeat (go_quiet (fail); try go_wp2)
    go_loopg [5] k (fun kq v5 w' => ∃ (x5_1 : Int), v5 = .int .i64 x5_1 ∧ Aside0 (laws_eqIntS.l0 kq l0 l1 x5_1 = some r) ∧ Aside0 (kq ≤ k) ∧ Drawn0 w w')
    case atStart => exact ⟨(0), (by first | rfl | (simp; done) | (simp [*]; done)), H', ⟨Nat.le_refl _⟩, by repeat (first | exact Drawn0.refl _ | apply Drawn0.step)⟩
    case round =>
      clear H'
      try clear c1
      try clear p2
      try clear c3
      try clear c3b0
      try clear c3b1
      try clear c3b2
      obtain ⟨x5_1, rfl, HA, HK1, ⟨m1, rfl⟩⟩ := hrel
      cases gk with
      | zero => exact absurd HA.out (by simp [laws_eqIntS.l0])
      | succ k1 =>
        have H := HA.out
        clear HA
        simp only [laws_eqIntS.l0] at H
        by_cases c4 : x5_1 < (l0.length : Int)
        · rw [if_pos c4] at H
          have c4b0 : decide (x5_1 < (l0.length : Int)) = true := decide_eq_true c4
          clear c4
          by_cases c5 : 0 ≤ x5_1
          · rw [if_pos c5] at H
            have c5b0 : decide (0 ≤ x5_1) = true := decide_eq_true c5
            clear c5
            by_cases c6 : x5_1 < (l1.length : Int)
            · rw [if_pos c6] at H
              have c6b0 : decide (x5_1 < (l1.length : Int)) = true := decide_eq_true c6
              clear c6
              by_cases c7 : (rd l0 x5_1) = (rd l1 x5_1)
              · rw [if_pos c7] at H
                have c7b0 : ((rd l0 x5_1) == (rd l1 x5_1)) = true := beq_iff_eq.mpr c7
                have c7b1 : ((rd l0 x5_1) != (rd l1 x5_1)) = false := bne_eq_false_iff_eq.mpr c7
                clear c7
                have H' := Aside0.mk H
                clear H
                have p125 : 0 ≤ (x5_1 : Int) := of_decide_eq_true (by first | (with_reducible assumption) | assumption)
                have q125 : x5_1 < (l0.length : Int) := of_decide_eq_true (by first | (with_reducible assumption) | assumption)
                obtain ⟨ad125, e125, hx125_0⟩ := Kd.at_int HR0.out x5_1 p125 q125
                cases e125
                replace p125 := eq_true p125
                replace q125 := eq_true q125
                have p126 : 0 ≤ (x5_1 : Int) := of_decide_eq_true (by first | (with_reducible assumption) | assumption)
                have q126 : x5_1 < (l1.length : Int) := of_decide_eq_true (by first | (with_reducible assumption) | assumption)
                obtain ⟨ad126, e126, hx126_0⟩ := Kd.at_int HR1.out x5_1 p126 q126
                cases e126
                replace p126 := eq_true p126
                replace q126 := eq_true q126
                go_wp2
                repeat (go_quiet (fail); try go_wp2)
                go_roundg k1
                case measure => have := HK1.out; omega
                case rel => exact ⟨(wrap64 (x5_1 + 1)), (by first | rfl | (simp; done) | (simp [*]; done)), H', ⟨by have := HK1.out; omega⟩, by repeat (first | exact Drawn0.refl _ | apply Drawn0.step)⟩
              · rw [if_neg c7] at H
                have c7b0 : ((rd l0 x5_1) == (rd l1 x5_1)) = false := beq_eq_false_iff_ne.mpr c7
                have c7b1 : ((rd l0 x5_1) != (rd l1 x5_1)) = true := bne_iff_ne.mpr c7
                obtain rfl := Option.some.inj H
                have p125 : 0 ≤ (x5_1 : Int) := of_decide_eq_true (by first | (with_reducible assumption) | assumption)
                have q125 : x5_1 < (l0.length : Int) := of_decide_eq_true (by first | (with_reducible assumption) | assumption)
                obtain ⟨ad125, e125, hx125_0⟩ := Kd.at_int HR0.out x5_1 p125 q125
                cases e125
                replace p125 := eq_true p125
                replace q125 := eq_true q125
                have p126 : 0 ≤ (x5_1 : Int) := of_decide_eq_true (by first | (with_reducible assumption) | assumption)
                have q126 : x5_1 < (l1.length : Int) := of_decide_eq_true (by first | (with_reducible assumption) | assumption)
                obtain ⟨ad126, e126, hx126_0⟩ := Kd.at_int HR1.out x5_1 p126 q126
                cases e126
                replace p126 := eq_true p126
                replace q126 := eq_true q126
                go_wp2
                repeat (go_quiet (fail); try go_wp2)
                go_ret
                exact ⟨by first | rfl | (simp; done) | (simp [*]; done), by repeat (first | exact Drawn0.refl _ | apply Drawn0.step)⟩
            · rw [if_neg c6] at H
              exact absurd H (by simp)
          · rw [if_neg c5] at H
            exact absurd H (by simp)
        · rw [if_neg c4] at H
          have c4b0 : decide (x5_1 < (l0.length : Int)) = false := decide_eq_false c4
          clear c4
          obtain rfl := Option.some.inj H
          go_wp2
          repeat (go_quiet (fail); try go_wp2)
          go_ret
          exact ⟨by first | rfl | (simp; done) | (simp [*]; done), by repeat (first | exact Drawn0.refl _ | apply Drawn0.step)⟩
  · rw [if_neg c3] at H
    have c3b0 : ((l0.length : Int) == (l1.length : Int)) = false := beq_eq_false_iff_ne.mpr c3
    have c3b1 : ((l0.length : Int) != (l1.length : Int)) = true := bne_iff_ne.mpr c3
    have c3b2 : (l0.length == l1.length) = false := by first | simpa using c3 | (simp at c3 ⊢; omega)
    obtain rfl := Option.some.inj H
    go_enter Try.func48, Try.ntmps48
    go_wp2
    repeat (go_quiet (fail); try go_wp2)
    go_ret
    exact ⟨by first | rfl | (simp; done) | (simp [*]; done), by repeat (first | exact Drawn0.refl _ | apply Drawn0.step)⟩

/-! ### laws_FnExactIsRanking: function 13 -/
def laws_FnExactIsRanking.f (k : Nat) (l0 : List Int) (a1 : Int) : Option (Bool) := if (l0.length : Int) > 1048576 then (some true) else ((laws_toIntS.f k l0).bind fun t127 => ((spec_IsRanking.f k t127 a1).bind fun t130 => ((laws_toIntS.f k l0).bind fun t131 => ((impl_IsRanking.f k t131 a1).bind fun t134 => (if (t134 != t130) = true then (none) else ((laws_toIntS.f k l0).bind fun t135 => ((laws_eqIntS.f k t131 t135).bind fun t138 => (if t138 = true then (some true) else (none)))))))))
theorem laws_FnExactIsRanking.mono : ∀ a0 a1 k, LeO (laws_FnExactIsRanking.f k a0 a1) (laws_FnExactIsRanking.f (k + 1) a0 a1) := by
  intro a0 a1 k
  unfold laws_FnExactIsRanking.f
  repeat' first
      | (with_reducible exact impl_IsRanking.mono _ _ _)
      | (with_reducible exact laws_eqIntS.mono _ _ _)
      | (with_reducible exact laws_toIntS.mono _ _)
      | (with_reducible exact spec_IsRanking.mono _ _ _)
      | (with_reducible exact LeO.refl _)
      | (with_reducible exact LeO.none _)
      | (with_reducible refine LeO.ite ?_ ?_)
      | (with_reducible refine LeO.bind ?_ (fun _ => ?_))
      | exact impl_IsRanking.mono _ _ _
      | exact laws_eqIntS.mono _ _ _
      | exact laws_toIntS.mono _ _
      | exact spec_IsRanking.mono _ _ _
      | exact LeO.none _
      | refine LeO.ite ?_ ?_
      | refine LeO.bind ?_ (fun _ => ?_)
set_option maxHeartbeats 8000000 in
set_option maxRecDepth 100000 in
theorem laws_FnExactIsRanking.calls (k : Nat) (A0 : Option Addr) (c0 : Nat) (l0 : List Int) (a1 : Int) (r : Bool) (w : World) (hr0 : Kd.C (Kd.int .i64) w A0 l0.length l0) (hc0 : l0.length ≤ c0) (h : laws_FnExactIsRanking.f k l0 a1 = some r) :
    Calls Try.prog 13 #[.slice A0 l0.length c0, .int .i64 a1] w fun e w' => e = .returned (.bool r) ∧ Below w.heap.size w w' := by
  have HR0 := Aside0.mk hr0
  have HC0 := Aside0.mk hc0
  clear hr0 hc0
  have HB := Aside0.mk (Below.refl w.heap.size w)
  have H : (if (l0.length : Int) > 1048576 then (some true) else ((laws_toIntS.f k l0).bind fun t127 => ((spec_IsRanking.f k t127 a1).bind fun t130 => ((laws_toIntS.f k l0).bind fun t131 => ((impl_IsRanking.f k t131 a1).bind fun t134 => (if (t134 != t130) = true then (none) else ((laws_toIntS.f k l0).bind fun t135 => ((laws_eqIntS.f k t131 t135).bind fun t138 => (if t138 = true then (some true) else (none)))))))))) = some r := h
  clear h
  by_cases c3 : (l0.length : Int) > 1048576
  · rw [if_pos c3] at H
    have c3b0 : decide (1048576 < (l0.length : Int)) = true := decide_eq_true c3
    have c3b1 : decide (1048576 < l0.length) = true := decide_eq_true (by omega)
    clear c3
    obtain rfl := Option.some.inj H
    go_enter Try.func13, Try.ntmps13
    go_wp2
    go_ret
    exact ⟨by first | rfl | (simp [errW_none, errW_some] <;> rfl) | (simp [*, errW_none, errW_some] <;> rfl), by repeat (first | (with_reducible first | exact HB.out | apply below_alloc | apply pw_below_drewN | apply below_drew1) | exact HB.out)⟩
  · rw [if_neg c3] at H
    have c3b0 : decide (1048576 < (l0.length : Int)) = false := decide_eq_false c3
    have c3b1 : decide (1048576 < l0.length) = false := decide_eq_false (by omega)
    clear c3
    replace H := Option.bind_eq_some_iff.mp H
    obtain ⟨t127, A40, H⟩ := H
    replace H : ((spec_IsRanking.f k t127 a1).bind fun t130 => ((laws_toIntS.f k l0).bind fun t131 => ((impl_IsRanking.f k t131 a1).bind fun t134 => (if (t134 != t130) = true then (none) else ((laws_toIntS.f k l0).bind fun t135 => ((laws_eqIntS.f k t131 t135).bind fun t138 => (if t138 = true then (some true) else (none)))))))) = some r := H
    have A4 := Aside0.mk A40
    clear A40
    replace H := Option.bind_eq_some_iff.mp H
    obtain ⟨t130, A50, H⟩ := H
    replace H : ((laws_toIntS.f k l0).bind fun t131 => ((impl_IsRanking.f k t131 a1).bind fun t134 => (if (t134 != t130) = true then (none) else ((laws_toIntS.f k l0).bind fun t135 => ((laws_eqIntS.f k t131 t135).bind fun t138 => (if t138 = true then (some true) else (none))))))) = some r := H
    have A5 := Aside0.mk A50
    clear A50
    replace H := Option.bind_eq_some_iff.mp H
    obtain ⟨t131, A60, H⟩ := H
    replace H : ((impl_IsRanking.f k t131 a1).bind fun t134 => (if (t134 != t130) = true then (none) else ((laws_toIntS.f k l0).bind fun t135 => ((laws_eqIntS.f k t131 t135).bind fun t138 => (if t138 = true then (some true) else (none)))))) = some r := H
    have A6 := Aside0.mk A60
    clear A60
    replace H := Option.bind_eq_some_iff.mp H
    obtain ⟨t134, A70, H⟩ := H
    replace H : (if (t134 != t130) = true then (none) else ((laws_toIntS.f k l0).bind fun t135 => ((laws_eqIntS.f k t131 t135).bind fun t138 => (if t138 = true then (some true) else (none))))) = some r := H
    have A7 := Aside0.mk A70
    clear A70
    by_cases c8 : (t134 != t130) = true
    · rw [if_pos c8] at H
      exact absurd H (by simp)
    · rw [if_neg c8] at H
      have c8b0 : (t134 != t130) = false := by simpa using c8
      (try (have c8b1 : decide (t134 = t130) = true := by simpa using c8))
      (try (have c8b2 : (t134 == t130) = true := by simpa using c8))
      clear c8
      replace H := Option.bind_eq_some_iff.mp H
      obtain ⟨t135, A90, H⟩ := H
      replace H : ((laws_eqIntS.f k t131 t135).bind fun t138 => (if t138 = true then (some true) else (none))) = some r := H
      have A9 := Aside0.mk A90
      clear A90
      replace H := Option.bind_eq_some_iff.mp H
      obtain ⟨t138, A100, H⟩ := H
      replace H : (if t138 = true then (some true) else (none)) = some r := H
      have A10 := Aside0.mk A100
      clear A100
      by_cases c11 : t138 = true
      · subst c11
        have H1 : (some true) = some r := by rw [if_pos rfl] at H; exact H
        clear H
        have H := H1
        clear H1
        obtain rfl := Option.some.inj H
        go_enter Try.func13, Try.ntmps13
        go_wp2_with (first | ((with_reducible refine gate_callee (f := 46) rfl ?_); refine goesL_ (some 12) rfl rfl Try.func46 (by kernel_rfl) rfl #[.slice A0 l0.length c0] rfl (by (try simp only [List.map_toArray, List.map_cons, List.map_nil]); first | done | rfl | (simp only [List.length_drop, List.length_take]; rfl)) ?_; (with_reducible refine (laws_toIntS.calls k _ _ l0 t127 _ ?side1 ?side2 A4.out).mono ?_); (case side1 => repeat (first | exact HR0.out | (with_reducible refine Kd.C_alloc ?_ _) | (with_reducible refine Kd.C_drewN ?_ _) | (with_reducible refine Kd.C_drew ?_))); (case side2 => exact HC0.out); rintro e w12 ⟨v128, rfl, ho0, hb⟩; refine ⟨_, rfl, ?_⟩; have n0_ := Aside0.mk (Kd.R_lower ho0 (below_size (by repeat (first | (with_reducible first | exact HB.out | apply below_alloc | apply pw_below_drewN | apply below_drew1) | exact HB.out)))); have n1_ := Aside0.mk (below_step (by repeat (first | (with_reducible first | exact HB.out | apply below_alloc | apply pw_below_drewN | apply below_drew1) | exact HB.out)) hb); clear HB; have HO129 := n0_; have HB := n1_; clear n0_ n1_; (try clear hb); (try clear hb2); (try clear hk); (try clear hi); (try clear ho0); obtain ⟨Ao13, co13, eo13⟩ := Kd.R_slice HO129.out; subst eo13) | ((with_reducible refine gate_callee (f := 45) rfl ?_); refine goesL_ (some 14) rfl rfl Try.func45 (by kernel_rfl) rfl #[.slice Ao13 t127.length co13, .int .i64 a1] rfl (by (try simp only [List.map_toArray, List.map_cons, List.map_nil]); first | done | rfl | (simp only [List.length_drop, List.length_take]; rfl)) ?_; (with_reducible refine (spec_IsRanking.calls k _ _ t127 a1 t130 _ ?side1 ?side2 A5.out).mono ?_); (case side1 => repeat (first | exact (Kd.R_reads' HO129.out).2.2 | (with_reducible refine Kd.C_alloc ?_ _) | (with_reducible refine Kd.C_drewN ?_ _) | (with_reducible refine Kd.C_drew ?_))); (case side2 => exact (Kd.R_reads' HO129.out).2.1); rintro e w' ⟨rfl, ⟨nd, rfl⟩⟩; refine ⟨_, rfl, ?_⟩) | ((with_reducible refine gate_callee (f := 46) rfl ?_); refine goesL_ (some 16) rfl rfl Try.func46 (by kernel_rfl) rfl #[.slice A0 l0.length c0] rfl (by (try simp only [List.map_toArray, List.map_cons, List.map_nil]); first | done | rfl | (simp only [List.length_drop, List.length_take]; rfl)) ?_; (with_reducible refine (laws_toIntS.calls k _ _ l0 t131 _ ?side1 ?side2 A6.out).mono ?_); (case side1 => repeat (first | exact (Kd.C_below HR0.out (by repeat (first | (with_reducible first | exact HB.out | apply below_alloc | apply pw_below_drewN | apply below_drew1) | exact HB.out))) | (with_reducible refine Kd.C_alloc ?_ _) | (with_reducible refine Kd.C_drewN ?_ _) | (with_reducible refine Kd.C_drew ?_))); (case side2 => exact HC0.out); rintro e w14 ⟨v132, rfl, ho0, hb⟩; refine ⟨_, rfl, ?_⟩; have n0_ := Aside0.mk (Kd.R_elder' (by (with_reducible repeat (first | apply Kd.R_alloc | apply Kd.R_drewN | apply Kd.R_drew)); exact HO129.out) (Kd.R_base ho0) hb); have n1_ := Aside0.mk (Kd.R_lower (Kd.R_new' ho0 (Kd.R_lt (by (with_reducible repeat (first | apply Kd.R_alloc | apply Kd.R_drewN | apply Kd.R_drew)); exact HO129.out))) (below_size (by repeat (first | (with_reducible first | exact HB.out | apply below_alloc | apply pw_below_drewN | apply below_drew1) | exact HB.out)))); have n2_ := Aside0.mk (below_step (by repeat (first | (with_reducible first | exact HB.out | apply below_alloc | apply pw_below_drewN | apply below_drew1) | exact HB.out)) hb); clear HO129; clear HB; have HO129 := n0_; have HO133 := n1_; have HB := n2_; clear n0_ n1_ n2_; (try clear hb); (try clear hb2); (try clear hk); (try clear hi); (try clear ho0); obtain ⟨Ao15, co15, eo15⟩ := Kd.R_slice HO133.out; subst eo15) | ((with_reducible refine gate_callee (f := 47) rfl ?_); refine goesL_ (some 19) rfl rfl Try.func47 (by kernel_rfl) rfl #[.slice Ao15 t131.length co15, .int .i64 a1] rfl (by (try simp only [List.map_toArray, List.map_cons, List.map_nil]); first | done | rfl | (simp only [List.length_drop, List.length_take]; rfl)) ?_; (with_reducible refine (impl_IsRanking.calls k _ _ t131 a1 t134 _ ?side1 ?side2 A7.out).mono ?_); (case side1 => repeat (first | exact (Kd.R_reads' HO133.out).2.2 | (with_reducible refine Kd.C_alloc ?_ _) | (with_reducible refine Kd.C_drewN ?_ _) | (with_reducible refine Kd.C_drew ?_))); (case side2 => exact (Kd.R_reads' HO133.out).2.1); rintro e w16 ⟨rfl, hb⟩; refine ⟨_, rfl, ?_⟩; have n0_ := Aside0.mk (Kd.R_below (by (with_reducible repeat (first | apply Kd.R_alloc | apply Kd.R_drewN | apply Kd.R_drew)); exact HO129.out) hb); have n1_ := Aside0.mk (Kd.R_below (by (with_reducible repeat (first | apply Kd.R_alloc | apply Kd.R_drewN | apply Kd.R_drew)); exact HO133.out) hb); have n2_ := Aside0.mk (below_step (by repeat (first | (with_reducible first | exact HB.out | apply below_alloc | apply pw_below_drewN | apply below_drew1) | exact HB.out)) hb); clear HO129; clear HO133; clear HB; have HO129 := n0_; have HO133 := n1_; have HB := n2_; clear n0_ n1_ n2_; (try clear hb); (try clear hb2); (try clear hk); (try clear hi)) | ((with_reducible refine gate_callee (f := 46) rfl ?_); refine goesL_ (some 25) rfl rfl Try.func46 (by kernel_rfl) rfl #[.slice A0 l0.length c0] rfl (by (try simp only [List.map_toArray, List.map_cons, List.map_nil]); first | done | rfl | (simp only [List.length_drop, List.length_take]; rfl)) ?_; (with_reducible refine (laws_toIntS.calls k _ _ l0 t135 _ ?side1 ?side2 A9.out).mono ?_); (case side1 => repeat (first | exact (Kd.C_below HR0.out HB.out) | (with_reducible refine Kd.C_alloc ?_ _) | (with_reducible refine Kd.C_drewN ?_ _) | (with_reducible refine Kd.C_drew ?_))); (case side2 => exact HC0.out); rintro e w17 ⟨v136, rfl, ho0, hb⟩; refine ⟨_, rfl, ?_⟩; have n0_ := Aside0.mk (Kd.R_elder' (by (with_reducible repeat (first | apply Kd.R_alloc | apply Kd.R_drewN | apply Kd.R_drew)); exact HO129.out) (Kd.R_base ho0) hb); have n1_ := Aside0.mk (Kd.R_elder' (by (with_reducible repeat (first | apply Kd.R_alloc | apply Kd.R_drewN | apply Kd.R_drew)); exact HO133.out) (Kd.R_base ho0) hb); have n2_ := Aside0.mk (Kd.R_lower (Kd.R_new' (Kd.R_new' ho0 (Kd.R_lt (by (with_reducible repeat (first | apply Kd.R_alloc | apply Kd.R_drewN | apply Kd.R_drew)); exact HO129.out))) (Kd.R_lt (by (with_reducible repeat (first | apply Kd.R_alloc | apply Kd.R_drewN | apply Kd.R_drew)); exact HO133.out))) (below_size (by repeat (first | (with_reducible first | exact HB.out | apply below_alloc | apply pw_below_drewN | apply below_drew1) | exact HB.out)))); have n3_ := Aside0.mk (below_step (by repeat (first | (with_reducible first | exact HB.out | apply below_alloc | apply pw_below_drewN | apply below_drew1) | exact HB.out)) hb); clear HO129; clear HO133; clear HB; have HO129 := n0_; have HO133 := n1_; have HO137 := n2_; have HB := n3_; clear n0_ n1_ n2_ n3_; (try clear hb); (try clear hb2); (try clear hk); (try clear hi); (try clear ho0); obtain ⟨Ao18, co18, eo18⟩ := Kd.R_slice HO137.out; subst eo18) | ((with_reducible refine gate_callee (f := 48) rfl ?_); refine goesL_ (some 26) rfl rfl Try.func48 (by kernel_rfl) rfl #[.slice Ao15 t131.length co15, .slice Ao18 t135.length co18] rfl (by (try simp only [List.map_toArray, List.map_cons, List.map_nil]); first | done | rfl | (simp only [List.length_drop, List.length_take]; rfl)) ?_; (with_reducible refine (laws_eqIntS.calls k _ _ t131 _ _ t135 true _ ?side1 ?side2 ?side3 ?side4 A10.out).mono ?_); (case side1 => repeat (first | exact (Kd.R_reads' HO133.out).2.2 | (with_reducible refine Kd.C_alloc ?_ _) | (with_reducible refine Kd.C_drewN ?_ _) | (with_reducible refine Kd.C_drew ?_))); (case side2 => exact (Kd.R_reads' HO133.out).2.1); (case side3 => repeat (first | exact (Kd.R_reads' HO137.out).2.2 | (with_reducible refine Kd.C_alloc ?_ _) | (with_reducible refine Kd.C_drewN ?_ _) | (with_reducible refine Kd.C_drew ?_))); (case side4 => exact (Kd.R_reads' HO137.out).2.1); rintro e w' ⟨rfl, ⟨nd, rfl⟩⟩; refine ⟨_, rfl, ?_⟩))
        go_ret
        exact ⟨by first | rfl | (simp [errW_none, errW_some] <;> rfl) | (simp [*, errW_none, errW_some] <;> rfl), by repeat (first | (with_reducible first | exact HB.out | apply below_alloc | apply pw_below_drewN | apply below_drew1) | exact HB.out)⟩
      · replace c11 := Bool.eq_false_iff.mpr c11
        subst c11
        have H1 : (none) = some r := by rw [if_neg (show ¬ (false = true) by decide)] at H; exact H
        clear H
        have H := H1
        clear H1
        exact absurd H (by simp)


/-- THE ONE PURE STATEMENT of laws_FnExactIsRanking -/
def laws_FnExactIsRanking.Pure : Prop := ∀ (l0 : List Int) (a1 : Int), (BdSlice 8 (BdInt .i64)) l0 → (BdInt .i64) a1 → ∃ k, laws_FnExactIsRanking.f k l0 a1 = some true

end Go.Proofs.Ytdamagcfmhimfac.PFnExactIsRanking
