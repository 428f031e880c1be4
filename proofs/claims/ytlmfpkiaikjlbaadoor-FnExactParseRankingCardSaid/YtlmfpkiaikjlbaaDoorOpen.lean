/- What a value that is read as data tells: kinds of slices, structs, strings, numbers; of no program. -/
import Derived.Test.YtlmfpkiaikjlbaaDoorWWords
import Derived.Test.YtlmfpkiaikjlbaaDoorWMore
import Derived.Deep.Slices
import Derived.ChangeArms
import Derived.SizedLaws
import Derived.WideShapes
namespace Go.Proofs.YtlmfpkiaikjlbaaDoorB
open Go.RowKit Go.ChangeShapes Go.WideShapes Go.Proofs.YtlmfpkiaikjlbaaDoorW.PrintWords Go.Proofs.YtlmfpkiaikjlbaaDoorW.PrintLast Go.Proofs.YtlmfpkiaikjlbaaDoorW.PrintMore
set_option linter.unusedVariables false
set_option linter.unusedSimpArgs false
def BdInt (k : IntKind) : Int → Prop := fun n => (Lit.int k n).wf = true
def BdBool : Bool → Prop := fun _ => True
def BdStr : ByteArray → Prop := fun s => s.size ≤ 140737488351232
def BdSlice {α : Type} (b : Nat) (p : α → Prop) : List α → Prop := fun l => l.length * b ≤ 140737488351232 ∧ ∀ a ∈ l, p a
/-- A value of type t that reads as data is of the kind d, and within bounds. -/
def Opens {α : Type} (P : Program) (t : TypeId) (d : Kd α) (Bd : α → Prop) : Prop :=
  ∀ (H : Type) (enc : TypeId × Value → H) (w : World) (base : Nat) (spare : Nat → Bool) (held : Bool) (fuel : Nat) (cs : List Value) (x : DataW H × List MemPlace),
    DataW.trod enc P w base spare held fuel t cs = some x → (∀ n ∈ x.1.weights P t, n ≤ reachBytes) → ∃ a : α, d.K w a cs ∧ Bd a
theorem weightsAll_mem {H : Type} {P : Program} {e : TypeId} : ∀ {ds : List (DataW H)} {d : DataW H}, d ∈ ds → ∀ n ∈ d.weights P e, n ∈ DataW.weightsAll P e ds
  | d0 :: ds, d, hd, n, hn => by
    simp only [DataW.weightsAll, List.mem_append]
    rcases List.mem_cons.1 hd with rfl | hd
    · exact .inl hn
    · exact .inr (weightsAll_mem hd n hn)
  | [], _, hd, _, _ => by simp at hd
section
variable {P : Program} {t e : TypeId}
theorem Opens.int {k : IntKind} (ht : P.underlying t = some (.int k)) : Opens P t (Kd.int k) (BdInt k) := by
  intro H enc w base spare held fuel cs x h _
  obtain ⟨n, rfl, _, hw⟩ := DataW.trod_int ht h
  exact ⟨n, rfl, hw⟩
theorem Opens.bool (ht : P.underlying t = some .bool) : Opens P t Kd.bool BdBool := by
  intro H enc w base spare held fuel cs x h _
  obtain ⟨n, rfl, _⟩ := DataW.trod_bool ht h
  exact ⟨n, rfl, trivial⟩
theorem Opens.string (ht : P.underlying t = some .string) : Opens P t Kd.string BdStr := by
  intro H enc w base spare held fuel cs x h hz
  obtain ⟨n, rfl, rfl, _⟩ := DataW.trod_string ht h
  refine ⟨n, rfl, ?_⟩
  have := hz n.data.toList.length (by simp [DataW.weights])
  rw [Array.length_toList] at this
  exact this
theorem Opens.slice {α : Type} {d : Kd α} {Bd : α → Prop} (ht : P.underlying t = some (.slice e)) {b : Nat} (hc : P.cellsOf e = d.sz) (hb : P.bytesOf e = b) (ho : Opens P e d Bd) : Opens P t (Kd.slice e d) (BdSlice b Bd) := by
  intro H enc w base spare held fuel cs x h hz
  rcases Go.Deep.open_slice ht h with ⟨rfl, rfl⟩ | ⟨a, len, cap, m, n, D, Pl, rfl, hb1, hl, hm, hmm, rfl, hx⟩
  · exact ⟨[], ⟨none, 0, rfl, Nat.le_refl _, rfl, by simp, fun h => absurd h (by simp)⟩, by simp [BdSlice]⟩
  have hlm : len ≤ m := by
    rw [hmm]
    split
    · exact hl
    · exact Nat.le_refl _
  have each : ∀ i, i < len → ∃ q : α, (∃ cs', w.cells? base (a.add (i * P.cellsOf e)) (P.cellsOf e) = some cs' ∧ d.K w q cs') ∧ Bd q := by
    intro i hi
    obtain ⟨cs', h1, h2⟩ := hx i (by omega)
    obtain ⟨q, hq, hB⟩ := ho H enc w base spare held n cs' _ h2 (fun n hn => hz n (by
      simp only [DataW.weights, ht, List.mem_cons, List.mem_append]
      exact .inr (.inl (weightsAll_mem (List.mem_map.2 ⟨i, List.mem_range.2 hi, rfl⟩) n hn))))
    exact ⟨q, ⟨cs', h1, hq⟩, hB⟩
  have hsize : len * b ≤ reachBytes := by
    have := hz _ (by simp only [DataW.weights, ht]; exact List.mem_cons_self)
    rw [hb, List.length_map, List.length_range] at this
    exact Nat.le_trans (Nat.mul_le_mul_right _ (Nat.le_add_right _ _)) this
  have hlist : ∃ xs : List α, xs.length = len ∧ ∀ i q, xs[i]? = some q → (∃ cs', w.cells? base (a.add (i * P.cellsOf e)) (P.cellsOf e) = some cs' ∧ d.K w q cs') ∧ Bd q := by
    clear hsize hx hz h hmm hlm
    induction len with
    | zero => exact ⟨[], rfl, fun i q hq => by simp at hq⟩
    | succ len ih =>
      obtain ⟨xs, hxl, hxs⟩ := ih (by omega) (fun i hi => each i (by omega))
      obtain ⟨q, hq⟩ := each len (by omega)
      refine ⟨xs ++ [q], by simp [hxl], fun i q' hq' => ?_⟩
      rcases Nat.lt_or_ge i xs.length with hi | hi
      · rw [List.getElem?_append_left hi] at hq'
        exact hxs i q' hq'
      · have hi' : i = len := by
          have := (List.getElem?_eq_some_iff.1 hq').1
          rw [List.length_append, List.length_singleton] at this
          omega
        subst hi'
        rw [List.getElem?_append_right hi, hxl, Nat.sub_self] at hq'
        have e1 : q = q' := by simpa using hq'
        subst e1
        exact hq
  obtain ⟨xs, rfl, hxs⟩ := hlist
  refine ⟨xs, ⟨some a, cap, rfl, hl, rfl, Nat.le_trans hl hm, fun _ => ⟨a, rfl, fun j p hp => ?_⟩⟩, hsize, fun p hp => ?_⟩
  · obtain ⟨⟨cs', h1, h2⟩, _⟩ := hxs j p hp
    obtain ⟨_, hlen, hcell⟩ := World.cells?_some h1
    refine ⟨cs', by rw [hlen, hc], h2, fun i u hu => ?_⟩
    have hi : i < P.cellsOf e := by rw [← hlen]; exact (List.getElem?_eq_some_iff.1 hu).1
    have := hcell i hi
    rw [Go.Deep.add_add, hc] at this
    rw [this]
    exact hu
  · obtain ⟨i, hi, rfl⟩ := List.mem_iff_getElem.1 hp
    exact (hxs i _ (List.getElem?_eq_getElem hi)).2
theorem Opens.iso {α β : Type} {d : Kd α} {Bd : α → Prop} (ho : Opens P t d Bd) (f : β → α) (mk : α → β) (hf : ∀ a, f (mk a) = a) : Opens P t (Kd.iso d f) (fun x => Bd (f x)) := by
  intro H enc w base spare held fuel cs x h hz
  obtain ⟨a, hk, hb⟩ := ho H enc w base spare held fuel cs x h hz
  refine ⟨mk a, ?_, ?_⟩
  · show d.K w (f (mk a)) cs
    rw [hf]
    exact hk
  · show Bd (f (mk a))
    rw [hf]
    exact hb
/-- Fields in line, from one on. -/
def OpensF {α : Type} (P : Program) (fs : List Field) (d : Kd α) (Bd : α → Prop) : Prop :=
  ∀ (H : Type) (enc : TypeId × Value → H) (w : World) (base : Nat) (spare : Nat → Bool) (held : Bool) (fuel : Nat) (cs : List Value) (xs : List (DataW H × List MemPlace)),
    xs.length = fs.length → (∀ (i : Nat) (f : Field), fs[i]? = some f → DataW.trod enc P w base spare held fuel f.type ((cs.drop f.offset).take (P.cellsOf f.type)) = xs[i]?) →
    (∀ n ∈ DataW.weightsEach P (fs.map (·.type)) (xs.map (·.1)), n ≤ reachBytes) → cs.length = (match fs with | [] => 0 | f :: _ => f.offset) + d.sz → ∃ a : α, d.K w a (cs.drop (match fs with | [] => 0 | f :: _ => f.offset)) ∧ Bd a
theorem OpensF.one {α : Type} {d : Kd α} {Bd : α → Prop} {f : Field} (hs : P.cellsOf f.type = d.sz) (ho : Opens P f.type d Bd) : OpensF P [f] d Bd := by
  intro H enc w base spare held fuel cs xs hl hx hz hc
  match xs, hl with
  | [y], _ =>
    have h0 := hx 0 f rfl
    simp only [List.getElem?_cons_zero] at h0
    obtain ⟨a, hk, hb⟩ := ho H enc w base spare held fuel _ y h0 (fun n hn => hz n (by simp [DataW.weightsEach, hn]))
    refine ⟨a, ?_, hb⟩
    rw [hs, List.take_of_length_le (by rw [List.length_drop]; simp at hc; omega)] at hk
    exact hk
theorem OpensF.cons {α β : Type} {d : Kd α} {d' : Kd β} {Bd : α → Prop} {Bd' : β → Prop} {f g : Field} {fs : List Field} (hs : P.cellsOf f.type = d.sz) (hg : g.offset = f.offset + d.sz) (ho : Opens P f.type d Bd) (hr : OpensF P (g :: fs) d' Bd') :
    OpensF P (f :: g :: fs) (Kd.pair d d') (fun x => Bd x.1 ∧ Bd' x.2) := by
  intro H enc w base spare held fuel cs xs hl hx hz hc
  match xs, hl with
  | y :: ys, hl =>
    have h0 := hx 0 f rfl
    simp only [List.getElem?_cons_zero] at h0
    obtain ⟨a, hk, hb⟩ := ho H enc w base spare held fuel _ y h0 (fun n hn => hz n (by simp [DataW.weightsEach, hn]))
    have hsz : (Kd.pair d d').sz = d.sz + d'.sz := rfl
    simp only [hsz] at hc
    obtain ⟨b, hk', hb'⟩ := hr H enc w base spare held fuel cs ys (by simpa using hl) (fun i q hq => by simpa using hx (i + 1) q (by simpa using hq)) (fun n hn => hz n (by
      simp only [List.map_cons, DataW.weightsEach, List.mem_append] at hn ⊢
      exact .inr hn)) (by simp only [hg]; omega)
    refine ⟨(a, b), ⟨_, _, ?_, hk, hk'⟩, hb, hb'⟩
    simp only [hg, hs]
    rw [← List.drop_drop, List.take_append_drop]
theorem Opens.struct {α : Type} {d : Kd α} {Bd : α → Prop} {f : Field} {fs : List Field} (ht : P.underlying t = some (.struct (f :: fs).toArray)) (h0 : f.offset = 0) (hs : P.cellsOf t = d.sz) (ho : OpensF P (f :: fs) d Bd) : Opens P t d Bd := by
  intro H enc w base spare held fuel cs x h hz
  obtain ⟨xs, n, rfl, rfl, hc, hl, hx⟩ := DataW.trod_struct ht h
  obtain ⟨a, hk, hb⟩ := ho H enc w base spare held n cs xs (by simpa using hl) (fun i f hf => hx i f (by simpa using hf)) (fun n hn => hz n (by
    simp only [DataW.weights, ht, List.toList_toArray]
    exact hn)) (by simp only [h0]; omega)
  simp only [h0, List.drop_zero] at hk
  exact ⟨a, hk, hb⟩
theorem Opens.arg {α : Type} {d : Kd α} {Bd : α → Prop} (ho : Opens P t d Bd) {H : Type} {enc : TypeId × Value → H} {W : World} {base : Nat} {spare : Nat → Bool} {held : Bool} {v : Value} {x : DataW H} {ps : List MemPlace} {ts : List TypeId} {ds : List (DataW H)} {j : Nat}
    (hsz : (DataW.weightsEach P ts ds).all (· ≤ reachBytes) = true) (ht : ts[j]? = some t) (hd : ds[j]? = some x) (h : DataW.Trod enc P W base spare held t v x ps) : ∃ a : α, d.K W a v.cells.toList ∧ Bd a := by
  obtain ⟨fuel, hf⟩ := h
  refine ho H enc W base spare held fuel _ (x, ps) hf (fun n hn => ?_)
  have := List.all_eq_true.1 hsz _ (DataW.weights_mem_each ht hd n hn)
  simpa using this
end
end Go.Proofs.YtlmfpkiaikjlbaaDoorB
