import Derived.Test.YtffldajbnhbkkaaDoorKv0
import Derived.SizedLaws
import Derived.ChangeSlices
import Derived.Deep.Slices
import Derived.ChangeArms
import Derived.OpenShut
import Derived.Test.YtffldajbnhbkkaaDoorRows
namespace Go.Proofs.YtffldajbnhbkkaaDoor.Opn
open Go.RowKit Go.Proofs.YtffldajbnhbkkaaDoorW.PrintWords Go.ChangeShapes Go.WideShapes Go.Deep
set_option linter.unusedVariables false
set_option linter.unusedSimpArgs false
/-- What reads as_ data of type t is told by the kind d: there is a value behind its cells. -/
def Opens (P : Program) (t : TypeId) {α : Type} (d : Kd α) (ok : α → Prop) : Prop :=
  ∀ {H : Type} (enc : TypeId × Value → H) (w : World) (base : Nat) (spare : Nat → Bool) (held : Bool) (fuel : Nat) (cs : List Value) (x : DataW H × List MemPlace),
    DataW.trod enc P w base spare held fuel t cs = some x → ∃ a : α, d.K w a cs ∧ ok a
theorem Opens.int {P : Program} {t : TypeId} (k : IntKind) (ht : P.underlying t = some (.int k)) : Opens P t (Kd.int k) (fun n => (Lit.int k n).wf = true) := by
  intro H enc w base spare held fuel cs x h
  obtain ⟨n, rfl, _, hw⟩ := DataW.trod_int ht h
  exact ⟨n, rfl, hw⟩
theorem Opens.bool {P : Program} {t : TypeId} (ht : P.underlying t = some .bool) : Opens P t Kd.bool (fun _ => True) := by
  intro H enc w base spare held fuel cs x h
  obtain ⟨n, rfl, _⟩ := DataW.trod_bool ht h
  exact ⟨n, rfl, trivial⟩
theorem Opens.string {P : Program} {t : TypeId} (ht : P.underlying t = some .string) : Opens P t Kd.string (fun s => s.size ≤ maxLen) := by
  intro H enc w base spare held fuel cs x h
  obtain ⟨n, rfl, _, hw⟩ := DataW.trod_string ht h
  exact ⟨n, rfl, hw⟩
/-- The same, where cells are what is known. -/
theorem choose_list {α : Type} {R : Nat → α → Prop} (n : Nat) (h : ∀ i, i < n → ∃ a, R i a) : ∃ l : List α, l.length = n ∧ ∀ i a, l[i]? = some a → R i a := by
  induction n with
  | zero => exact ⟨[], rfl, fun i a hi => by simp at hi⟩
  | succ n ih =>
    obtain ⟨l, hl, hr⟩ := ih (fun i hi => h i (by omega))
    obtain ⟨a, ha⟩ := h n (by omega)
    refine ⟨l ++ [a], by simp [hl], fun i b hi => ?_⟩
    rw [List.getElem?_append] at hi
    split at hi
    · exact hr i b hi
    · rename_i hlt
      have hi0 : i = n := by
        have := (List.getElem?_eq_some_iff.1 hi).1
        simp at this; omega
      subst hi0
      rw [hl, Nat.sub_self] at hi
      simp at hi
      exact hi ▸ ha
theorem Opens.slice {P : Program} {t e : TypeId} {α : Type} {d : Kd α} {ok : α → Prop} (ht : P.underlying t = some (.slice e)) (hd : Opens P e d ok) (hc : P.cellsOf e = d.sz) :
    Opens P t (Kd.slice e d) (fun xs => (∀ x ∈ xs, ok x) ∧ xs.length ≤ maxLen) := by
  intro H enc w base spare held fuel cs x h
  rcases open_slice ht h with ⟨rfl, _⟩ | ⟨a, len, cap, m, n, D, Pl, rfl, hb, hl, hm, hmm, hx, hi⟩
  · exact ⟨[], ⟨none, 0, rfl, Nat.le_refl _, Kd.C_nil d w⟩, fun x hx => by simp at hx, by simp⟩
  · have hlm : len ≤ m := by rw [hmm]; split <;> omega
    obtain ⟨l, hll, hr⟩ := choose_list (R := fun i b => ∃ cs', w.cells? base (a.add (i * P.cellsOf e)) (P.cellsOf e) = some cs' ∧ d.K w b cs' ∧ ok b) len (fun i hlt => by
      obtain ⟨cs', hcs, htr⟩ := hi i (by omega)
      obtain ⟨b, hK, hok⟩ := hd enc w base spare held n cs' (D i, Pl i) htr
      exact ⟨b, cs', hcs, hK, hok⟩)
    refine ⟨l, ⟨some a, cap, by rw [hll], by rw [hll]; exact hl, rfl, by rw [hll]; unfold maxLen at hm; omega, fun _ => ⟨a, rfl, fun j p hj => ?_⟩⟩, fun x hx => ?_, by rw [hll]; omega⟩
    · obtain ⟨cs', hcs, hK, _⟩ := hr j p hj
      refine ⟨cs', d.K_len hK, hK, fun i u hu => ?_⟩
      obtain ⟨_, hcl, hat⟩ := World.cells?_some hcs
      have hilt : i < P.cellsOf e := by
        have := (List.getElem?_eq_some_iff.1 hu).1
        omega
      have := hat i hilt
      rw [hc] at this
      rw [← Go.Deep.add_add, this, hu]
    · obtain ⟨i, hlt, rfl⟩ := List.getElem_of_mem hx
      obtain ⟨_, _, _, hok⟩ := hr i _ (List.getElem?_eq_getElem hlt)
      exact hok
/-- Fields from a place on. -/
def OpensF (P : Program) (fs : List Field) (off : Nat) {α : Type} (d : Kd α) (ok : α → Prop) : Prop :=
  ∀ {H : Type} (enc : TypeId × Value → H) (w : World) (base : Nat) (spare : Nat → Bool) (held : Bool) (n : Nat) (cs : List Value),
    (∀ f ∈ fs, ∃ y, DataW.trod enc P w base spare held n f.type ((cs.drop f.offset).take (P.cellsOf f.type)) = some y) → cs.length = off + d.sz → ∃ a : α, d.K w a (cs.drop off) ∧ ok a
theorem OpensF.one {P : Program} {f : Field} {off : Nat} {α : Type} {d : Kd α} {ok : α → Prop} (h : Opens P f.type d ok) (ho : f.offset = off) (hc : P.cellsOf f.type = d.sz) : OpensF P [f] off d ok := by
  intro H enc w base spare held n cs hf hl
  obtain ⟨y, hy⟩ := hf f (by simp)
  rw [ho, hc, List.take_of_length_le (by rw [List.length_drop]; omega)] at hy
  exact h enc w base spare held n _ y hy
theorem OpensF.cons {P : Program} {f : Field} {fs : List Field} {off : Nat} {α β : Type} {d : Kd α} {d' : Kd β} {ok : α → Prop} {ok' : β → Prop} (h : Opens P f.type d ok) (ho : f.offset = off) (hc : P.cellsOf f.type = d.sz)
    (hr : OpensF P fs (off + d.sz) d' ok') : OpensF P (f :: fs) off (Kd.pair d d') (fun x => ok x.1 ∧ ok' x.2) := by
  intro H enc w base spare held n cs hf hl
  have hl2 : cs.length = off + (d.sz + d'.sz) := hl
  obtain ⟨y, hy⟩ := hf f (by simp)
  rw [ho, hc] at hy
  obtain ⟨a, ha, oa⟩ := h enc w base spare held n _ y hy
  obtain ⟨b, hb, ob⟩ := hr enc w base spare held n cs (fun g hg => hf g (by simp [hg])) (by omega)
  refine ⟨(a, b), ⟨(cs.drop off).take d.sz, cs.drop (off + d.sz), ?_, ha, hb⟩, oa, ob⟩
  rw [← List.drop_drop, List.take_append_drop]
theorem Opens.struct {P : Program} {t : TypeId} {fs : Array Field} {α β : Type} {d : Kd α} {ok : α → Prop} (ht : P.underlying t = some (.struct fs)) (h : OpensF P fs.toList 0 d ok) (hc : P.cellsOf t = d.sz)
    (f : β → α) (g : α → β) (hfg : ∀ a, f (g a) = a) : Opens P t (Kd.iso d f) (fun b => ok (f b)) := by
  intro H enc w base spare held fuel cs x hx
  obtain ⟨xs, n, _, _, hlen, hxl, hf⟩ := DataW.trod_struct ht hx
  obtain ⟨a, ha, oa⟩ := h enc w base spare held n cs (fun q hq => by
    obtain ⟨i, hi, rfl⟩ := List.getElem_of_mem hq
    have hi' : i < fs.size := by simpa using hi
    have := hf i fs[i] (Array.getElem?_eq_getElem hi')
    exact ⟨xs[i]'(by omega), by simpa using this.trans (List.getElem?_eq_getElem (by omega))⟩) (by omega)
  exact ⟨g a, by show d.K w (f (g a)) cs; rw [hfg]; simpa using ha, by show ok (f (g a)); rw [hfg]; exact oa⟩
end Go.Proofs.YtffldajbnhbkkaaDoor.Opn

namespace Go.Proofs.YtffldajbnhbkkaaDoor.Opn
open Go.RowKit Go.Proofs.YtffldajbnhbkkaaDoorW.PrintWords Go.ChangeShapes Go.WideShapes Go.Deep
set_option linter.unusedVariables false
set_option linter.unusedSimpArgs false
/-- A small array, opened as_ so many fields of one type. -/
theorem Opens.array {P : Program} {t e : TypeId} {n : Nat} {fs : List Field} {α β : Type} {d : Kd α} {ok : α → Prop} (ht : P.underlying t = some (.array n e)) (hfs : ∀ f ∈ fs, ∃ i, i < n ∧ f.type = e ∧ f.offset = i * P.cellsOf e)
    (h : OpensF P fs 0 d ok) (hc : P.cellsOf t = d.sz) (f : β → α) (g : α → β) (hfg : ∀ a, f (g a) = a) : Opens P t (Kd.iso d f) (fun b => ok (f b)) := by
  intro H enc w base spare held fuel cs x hx
  obtain ⟨xs, m, _, _, hlen, hxl, hf⟩ := DataW.trod_array ht hx
  obtain ⟨a, ha, oa⟩ := h enc w base spare held m cs (fun q hq => by
    obtain ⟨i, hi, e1, e2⟩ := hfs q hq
    have := hf i hi
    rw [e1, e2]
    exact ⟨xs[i]'(by omega), this.trans (List.getElem?_eq_getElem (by omega))⟩) (by omega)
  exact ⟨g a, by show d.K w (f (g a)) cs; rw [hfg]; simpa using ha, by show ok (f (g a)); rw [hfg]; exact oa⟩
/-- An argument that is a struct or an array by value. -/
theorem open_arg {P : Program} {t : TypeId} {α : Type} {d : Kd α} {ok : α → Prop} {H : Type} {enc : TypeId × Value → H} {W : World} {base : Nat} {spare : Nat → Bool} {held : Bool} {cs : Array Value} {x : DataW H} {ps : List MemPlace}
    (hd : Opens P t d ok) (h : DataW.Trod enc P W base spare held t (.agg cs) x ps) : ∃ a : α, d.K W a cs.toList ∧ ok a := by
  obtain ⟨fuel, hf⟩ := h
  obtain ⟨a, hK, hok⟩ := hd enc W base spare held fuel _ _ hf
  exact ⟨a, by simpa [Value.cells] using hK, hok⟩
end Go.Proofs.YtffldajbnhbkkaaDoor.Opn

namespace Go.Proofs.YtffldajbnhbkkaaDoor.Opn
open Go.RowKit Go.Proofs.YtffldajbnhbkkaaDoorW.PrintWords Go.ChangeShapes Go.WideShapes Go.Deep
set_option linter.unusedVariables false
set_option linter.unusedSimpArgs false
/-- A string in the cells of a datum is shorter than the datum's bulk. -/
def Light (P : Program) (t : TypeId) : Prop := ∀ {H : Type} (enc : TypeId × Value → H) (w : World) (base : Nat) (spare : Nat → Bool) (held : Bool) (fuel : Nat) (cs : List Value) (x : DataW H × List MemPlace),
  DataW.trod enc P w base spare held fuel t cs = some x → ∀ s : ByteArray, Value.string s ∈ cs → s.size < Rows.uptoBulk x.1
theorem all_ge {H : Type} : ∀ (l : List (DataW H)) (d : DataW H), d ∈ l → Rows.uptoBulk d ≤ Rows.uptoBulkAll l
  | [], d, h => by simp at h
  | x :: l, d, h => by
    simp only [Rows.uptoBulkAll]
    rcases List.mem_cons.1 h with rfl | h
    · omega
    · have := all_ge l d h; omega
theorem Light.string {P : Program} {t : TypeId} (ht : P.underlying t = some .string) : Light P t := by
  intro H enc w base spare held fuel cs x h s hs
  obtain ⟨s', rfl, rfl, _⟩ := DataW.trod_string ht h
  have e := List.mem_singleton.1 hs
  injection e with e
  subst e
  simp only [Rows.uptoBulk]
  have : s.data.toList.length = s.size := by rw [Array.length_toList]; rfl
  omega
theorem Light.int {P : Program} {t : TypeId} (k : IntKind) (ht : P.underlying t = some (.int k)) : Light P t := by
  intro H enc w base spare held fuel cs x h s hs
  obtain ⟨n, rfl, _, _⟩ := DataW.trod_int ht h
  have e := List.mem_singleton.1 hs
  cases e
theorem Light.bool {P : Program} {t : TypeId} (ht : P.underlying t = some .bool) : Light P t := by
  intro H enc w base spare held fuel cs x h s hs
  obtain ⟨n, rfl, _⟩ := DataW.trod_bool ht h
  have e := List.mem_singleton.1 hs
  cases e
theorem light_part {H : Type} {xs : List (DataW H × List MemPlace)} {i n : Nat} (hi : i < xs.length) (h : n < Rows.uptoBulk xs[i].1) : n < Rows.uptoBulk (DataW.agg (xs.map (·.1))) := by
  have := all_ge (xs.map (·.1)) xs[i].1 (List.mem_map.2 ⟨xs[i], List.getElem_mem hi, rfl⟩)
  simp only [Rows.uptoBulk]
  omega
theorem mem_part {cs : List Value} {j o c : Nat} (hj : j < cs.length) (h1 : o ≤ j) (h2 : j < o + c) : cs[j] ∈ (cs.drop o).take c := by
  rw [List.mem_iff_getElem]
  refine ⟨j - o, by rw [List.length_take, List.length_drop]; omega, ?_⟩
  rw [List.getElem_take, List.getElem_drop]
  congr 1
  omega
def coverB (P : Program) (fs : List Field) (n : Nat) : Bool := (List.range n).all fun j => fs.any fun f => decide (f.offset ≤ j) && decide (j < f.offset + P.cellsOf f.type)
theorem Light.struct {P : Program} {t : TypeId} {fs : Array Field} (ht : P.underlying t = some (.struct fs)) (hl : ∀ f ∈ fs.toList, Light P f.type) (hc : coverB P fs.toList (P.cellsOf t) = true) : Light P t := by
  intro H enc w base spare held fuel cs x h s hs
  obtain ⟨xs, n, _, rfl, hlen, hxl, hf⟩ := DataW.trod_struct ht h
  obtain ⟨j, hj, e⟩ := List.mem_iff_getElem.1 hs
  unfold coverB at hc
  rw [List.all_eq_true] at hc
  have h2 := hc j (List.mem_range.2 (by omega))
  obtain ⟨f, hfm, h3⟩ := List.any_eq_true.1 h2
  simp only [Bool.and_eq_true, decide_eq_true_eq] at h3
  have hlf : Light P f.type := hl f hfm
  obtain ⟨i, hi, rfl⟩ := List.getElem_of_mem hfm
  have hi' : i < fs.size := by simpa using hi
  have ht2 := hf i fs[i] (Array.getElem?_eq_getElem hi')
  rw [List.getElem?_eq_getElem (show i < xs.length from by omega)] at ht2
  have hm := mem_part hj h3.1 h3.2
  rw [e] at hm
  exact light_part (i := i) (by omega) (hlf enc w base spare held n _ _ (by simpa using ht2) s (by simpa using hm))
theorem Light.array {P : Program} {t e : TypeId} {n : Nat} (ht : P.underlying t = some (.array n e)) (he : Light P e) (hc : coverB P ((List.range n).map fun i => ⟨"a", e, i * P.cellsOf e, false, "", "", 0⟩) (P.cellsOf t) = true) : Light P t := by
  intro H enc w base spare held fuel cs x h s hs
  obtain ⟨xs, m, _, rfl, hlen, hxl, hf⟩ := DataW.trod_array ht h
  obtain ⟨j, hj, e'⟩ := List.mem_iff_getElem.1 hs
  unfold coverB at hc
  rw [List.all_eq_true] at hc
  have h2 := hc j (List.mem_range.2 (by omega))
  obtain ⟨f, hfm, h3⟩ := List.any_eq_true.1 h2
  obtain ⟨i, hi, rfl⟩ := List.mem_map.1 hfm
  rw [List.mem_range] at hi
  simp only [Bool.and_eq_true, decide_eq_true_eq] at h3
  have ht2 := hf i hi
  rw [List.getElem?_eq_getElem (show i < xs.length from by omega)] at ht2
  have hm := mem_part hj h3.1 h3.2
  rw [e'] at hm
  exact light_part (i := i) (by omega) (he enc w base spare held m _ _ ht2 s hm)
end Go.Proofs.YtffldajbnhbkkaaDoor.Opn
