import Derived.Test.YtefejkhcbelahaaDoorKa0
import Derived.SizedLaws
import Derived.ChangeSlices
import Derived.Deep.Slices
import Derived.ChangeArms
import Derived.OpenShut
import Derived.Test.YtefejkhcbelahaaDoorRows
import Derived.Test.YtefejkhcbelahaaDoorKa1
import Derived.Test.YtefejkhcbelahaaDoorKa21
import Derived.Test.YtefejkhcbelahaaDoorKa24
namespace Go.Proofs.YtefejkhcbelahaaDoor.Opn
open Go.RowKit Go.Proofs.YtefejkhcbelahaaDoorW.PrintWords Go.ChangeShapes Go.WideShapes Go.Deep
set_option linter.unusedVariables false
set_option linter.unusedSimpArgs false
/-- What reads as_ data of type t is told by the kind d: there is a value behind its cells. -/
def Opens (P : Program) (t : TypeId) {α : Type} (d : Kd α) (ok : α → Prop) : Prop :=
  ∀ {H : Type} (enc : TypeId × Value → H) (w : World) (base : Nat) (spare : Nat → Bool) (held : Bool) (fuel : Nat) (cs : List Value) (x : DataW H × List MemPlace),
    DataW.trod enc P w base spare held fuel t cs = some x → ∃ a : α, d.K w a cs ∧ ok a
theorem Opens.int {P : Program} {t : TypeId} (k : IntKind) (ht : P.underlying t = some (.int k)) : Opens P t (Kd.int k) (fun n => (Lit.int k n).wf = true) := by
  intro H enc w base spare held fuel cs x h
  obtain ⟨n, rfl, _, hw⟩ := DataW.trod_int ht h
  exact ⟨n, rfl, hw⟩
theorem Opens.bool {P : Program} {t : TypeId} (ht : P.underlying t = some .bool) : Opens P t Kd.bool (fun _ => True) := by
  intro H enc w base spare held fuel cs x h
  obtain ⟨n, rfl, _⟩ := DataW.trod_bool ht h
  exact ⟨n, rfl, trivial⟩
theorem Opens.string {P : Program} {t : TypeId} (ht : P.underlying t = some .string) : Opens P t Kd.string (fun s => s.size ≤ maxLen) := by
  intro H enc w base spare held fuel cs x h
  obtain ⟨n, rfl, _, hw⟩ := DataW.trod_string ht h
  exact ⟨n, rfl, hw⟩
/-- The same, where cells are what is known. -/
theorem choose_list {α : Type} {R : Nat → α → Prop} (n : Nat) (h : ∀ i, i < n → ∃ a, R i a) : ∃ l : List α, l.length = n ∧ ∀ i a, l[i]? = some a → R i a := by
  induction n with
  | zero => exact ⟨[], rfl, fun i a hi => by simp at hi⟩
  | succ n ih =>
    obtain ⟨l, hl, hr⟩ := ih (fun i hi => h i (by omega))
    obtain ⟨a, ha⟩ := h n (by omega)
    refine ⟨l ++ [a], by simp [hl], fun i b hi => ?_⟩
    rw [List.getElem?_append] at hi
    split at hi
    · exact hr i b hi
    · rename_i hlt
      have hi0 : i = n := by
        have := (List.getElem?_eq_some_iff.1 hi).1
        simp at this; omega
      subst hi0
      rw [hl, Nat.sub_self] at hi
      simp at hi
      exact hi ▸ ha
theorem Opens.slice {P : Program} {t e : TypeId} {α : Type} {d : Kd α} {ok : α → Prop} (ht : P.underlying t = some (.slice e)) (hd : Opens P e d ok) (hc : P.cellsOf e = d.sz) :
    Opens P t (Kd.slice e d) (fun xs => (∀ x ∈ xs, ok x) ∧ xs.length ≤ maxLen) := by
  intro H enc w base spare held fuel cs x h
  rcases open_slice ht h with ⟨rfl, _⟩ | ⟨a, len, cap, m, n, D, Pl, rfl, hb, hl, hm, hmm, hx, hi⟩
  · exact ⟨[], ⟨none, 0, rfl, Nat.le_refl _, Kd.C_nil d w⟩, fun x hx => by simp at hx, by simp⟩
  · have hlm : len ≤ m := by rw [hmm]; split <;> omega
    obtain ⟨l, hll, hr⟩ := choose_list (R := fun i b => ∃ cs', w.cells? base (a.add (i * P.cellsOf e)) (P.cellsOf e) = some cs' ∧ d.K w b cs' ∧ ok b) len (fun i hlt => by
      obtain ⟨cs', hcs, htr⟩ := hi i (by omega)
      obtain ⟨b, hK, hok⟩ := hd enc w base spare held n cs' (D i, Pl i) htr
      exact ⟨b, cs', hcs, hK, hok⟩)
    refine ⟨l, ⟨some a, cap, by rw [hll], by rw [hll]; exact hl, rfl, by rw [hll]; unfold maxLen at hm; omega, fun _ => ⟨a, rfl, fun j p hj => ?_⟩⟩, fun x hx => ?_, by rw [hll]; omega⟩
    · obtain ⟨cs', hcs, hK, _⟩ := hr j p hj
      refine ⟨cs', d.K_len hK, hK, fun i u hu => ?_⟩
      obtain ⟨_, hcl, hat⟩ := World.cells?_some hcs
      have hilt : i < P.cellsOf e := by
        have := (List.getElem?_eq_some_iff.1 hu).1
        omega
      have := hat i hilt
      rw [hc] at this
      rw [← Go.Deep.add_add, this, hu]
    · obtain ⟨i, hlt, rfl⟩ := List.getElem_of_mem hx
      obtain ⟨_, _, _, hok⟩ := hr i _ (List.getElem?_eq_getElem hlt)
      exact hok
/-- Fields from a place on. -/
def OpensF (P : Program) (fs : List Field) (off : Nat) {α : Type} (d : Kd α) (ok : α → Prop) : Prop :=
  ∀ {H : Type} (enc : TypeId × Value → H) (w : World) (base : Nat) (spare : Nat → Bool) (held : Bool) (n : Nat) (cs : List Value),
    (∀ f ∈ fs, ∃ y, DataW.trod enc P w base spare held n f.type ((cs.drop f.offset).take (P.cellsOf f.type)) = some y) → cs.length = off + d.sz → ∃ a : α, d.K w a (cs.drop off) ∧ ok a
theorem OpensF.one {P : Program} {f : Field} {off : Nat} {α : Type} {d : Kd α} {ok : α → Prop} (h : Opens P f.type d ok) (ho : f.offset = off) (hc : P.cellsOf f.type = d.sz) : OpensF P [f] off d ok := by
  intro H enc w base spare held n cs hf hl
  obtain ⟨y, hy⟩ := hf f (by simp)
  rw [ho, hc, List.take_of_length_le (by rw [List.length_drop]; omega)] at hy
  exact h enc w base spare held n _ y hy
theorem OpensF.cons {P : Program} {f : Field} {fs : List Field} {off : Nat} {α β : Type} {d : Kd α} {d' : Kd β} {ok : α → Prop} {ok' : β → Prop} (h : Opens P f.type d ok) (ho : f.offset = off) (hc : P.cellsOf f.type = d.sz)
    (hr : OpensF P fs (off + d.sz) d' ok') : OpensF P (f :: fs) off (Kd.pair d d') (fun x => ok x.1 ∧ ok' x.2) := by
  intro H enc w base spare held n cs hf hl
  have hl2 : cs.length = off + (d.sz + d'.sz) := hl
  obtain ⟨y, hy⟩ := hf f (by simp)
  rw [ho, hc] at hy
  obtain ⟨a, ha, oa⟩ := h enc w base spare held n _ y hy
  obtain ⟨b, hb, ob⟩ := hr enc w base spare held n cs (fun g hg => hf g (by simp [hg])) (by omega)
  refine ⟨(a, b), ⟨(cs.drop off).take d.sz, cs.drop (off + d.sz), ?_, ha, hb⟩, oa, ob⟩
  rw [← List.drop_drop, List.take_append_drop]
theorem Opens.struct {P : Program} {t : TypeId} {fs : Array Field} {α β : Type} {d : Kd α} {ok : α → Prop} (ht : P.underlying t = some (.struct fs)) (h : OpensF P fs.toList 0 d ok) (hc : P.cellsOf t = d.sz)
    (f : β → α) (g : α → β) (hfg : ∀ a, f (g a) = a) : Opens P t (Kd.iso d f) (fun b => ok (f b)) := by
  intro H enc w base spare held fuel cs x hx
  obtain ⟨xs, n, _, _, hlen, hxl, hf⟩ := DataW.trod_struct ht hx
  obtain ⟨a, ha, oa⟩ := h enc w base spare held n cs (fun q hq => by
    obtain ⟨i, hi, rfl⟩ := List.getElem_of_mem hq
    have hi' : i < fs.size := by simpa using hi
    have := hf i fs[i] (Array.getElem?_eq_getElem hi')
    exact ⟨xs[i]'(by omega), by simpa using this.trans (List.getElem?_eq_getElem (by omega))⟩) (by omega)
  exact ⟨g a, by show d.K w (f (g a)) cs; rw [hfg]; simpa using ha, by show ok (f (g a)); rw [hfg]; exact oa⟩
end Go.Proofs.YtefejkhcbelahaaDoor.Opn

namespace Go.Proofs.YtefejkhcbelahaaDoor.Opn
open Go.RowKit Go.Proofs.YtefejkhcbelahaaDoorW.PrintWords Go.ChangeShapes Go.WideShapes Go.Deep
set_option linter.unusedVariables false
set_option linter.unusedSimpArgs false
/-- A small array, opened as_ so many fields of one type. -/
theorem Opens.array {P : Program} {t e : TypeId} {n : Nat} {fs : List Field} {α β : Type} {d : Kd α} {ok : α → Prop} (ht : P.underlying t = some (.array n e)) (hfs : ∀ f ∈ fs, ∃ i, i < n ∧ f.type = e ∧ f.offset = i * P.cellsOf e)
    (h : OpensF P fs 0 d ok) (hc : P.cellsOf t = d.sz) (f : β → α) (g : α → β) (hfg : ∀ a, f (g a) = a) : Opens P t (Kd.iso d f) (fun b => ok (f b)) := by
  intro H enc w base spare held fuel cs x hx
  obtain ⟨xs, m, _, _, hlen, hxl, hf⟩ := DataW.trod_array ht hx
  obtain ⟨a, ha, oa⟩ := h enc w base spare held m cs (fun q hq => by
    obtain ⟨i, hi, e1, e2⟩ := hfs q hq
    have := hf i hi
    rw [e1, e2]
    exact ⟨xs[i]'(by omega), this.trans (List.getElem?_eq_getElem (by omega))⟩) (by omega)
  exact ⟨g a, by show d.K w (f (g a)) cs; rw [hfg]; simpa using ha, by show ok (f (g a)); rw [hfg]; exact oa⟩
/-- An argument that is a struct or an array by value. -/
theorem open_arg {P : Program} {t : TypeId} {α : Type} {d : Kd α} {ok : α → Prop} {H : Type} {enc : TypeId × Value → H} {W : World} {base : Nat} {spare : Nat → Bool} {held : Bool} {cs : Array Value} {x : DataW H} {ps : List MemPlace}
    (hd : Opens P t d ok) (h : DataW.Trod enc P W base spare held t (.agg cs) x ps) : ∃ a : α, d.K W a cs.toList ∧ ok a := by
  obtain ⟨fuel, hf⟩ := h
  obtain ⟨a, hK, hok⟩ := hd enc W base spare held fuel _ _ hf
  exact ⟨a, by simpa [Value.cells] using hK, hok⟩
/-- The strings within what came in are within the reach. -/
theorem wf64_le {n : Int} (h : (Lit.int .i64 n).wf = true) : -9223372036854775808 ≤ n ∧ n ≤ 9223372036854775807 := by have := bounds_i64 h; omega
end Go.Proofs.YtefejkhcbelahaaDoor.Opn

namespace Go.Proofs.YtefejkhcbelahaaDoor.Opn
open Go.RowKit Go.Proofs.YtefejkhcbelahaaDoorW.PrintWords Go.ChangeShapes Go.WideShapes Go.Deep
set_option linter.unusedVariables false
set_option linter.unusedSimpArgs false
/-- A string in the cells of a datum is shorter than the datum's bulk. -/
def Light (P : Program) (t : TypeId) : Prop := ∀ {H : Type} (enc : TypeId × Value → H) (w : World) (base : Nat) (spare : Nat → Bool) (held : Bool) (fuel : Nat) (cs : List Value) (x : DataW H × List MemPlace),
  DataW.trod enc P w base spare held fuel t cs = some x → ∀ s : ByteArray, Value.string s ∈ cs → s.size < Rows.uptoBulk x.1
theorem all_ge {H : Type} : ∀ (l : List (DataW H)) (d : DataW H), d ∈ l → Rows.uptoBulk d ≤ Rows.uptoBulkAll l
  | [], d, h => by simp at h
  | x :: l, d, h => by
    simp only [Rows.uptoBulkAll]
    rcases List.mem_cons.1 h with rfl | h
    · omega
    · have := all_ge l d h; omega
theorem Light.string {P : Program} {t : TypeId} (ht : P.underlying t = some .string) : Light P t := by
  intro H enc w base spare held fuel cs x h s hs
  obtain ⟨s', rfl, rfl, _⟩ := DataW.trod_string ht h
  have e := List.mem_singleton.1 hs
  injection e with e
  subst e
  simp only [Rows.uptoBulk]
  have : s.data.toList.length = s.size := by rw [Array.length_toList]; rfl
  omega
theorem Light.int {P : Program} {t : TypeId} (k : IntKind) (ht : P.underlying t = some (.int k)) : Light P t := by
  intro H enc w base spare held fuel cs x h s hs
  obtain ⟨n, rfl, _, _⟩ := DataW.trod_int ht h
  have e := List.mem_singleton.1 hs
  cases e
theorem Light.bool {P : Program} {t : TypeId} (ht : P.underlying t = some .bool) : Light P t := by
  intro H enc w base spare held fuel cs x h s hs
  obtain ⟨n, rfl, _⟩ := DataW.trod_bool ht h
  have e := List.mem_singleton.1 hs
  cases e
theorem light_part {H : Type} {xs : List (DataW H × List MemPlace)} {i n : Nat} (hi : i < xs.length) (h : n < Rows.uptoBulk xs[i].1) : n < Rows.uptoBulk (DataW.agg (xs.map (·.1))) := by
  have := all_ge (xs.map (·.1)) xs[i].1 (List.mem_map.2 ⟨xs[i], List.getElem_mem hi, rfl⟩)
  simp only [Rows.uptoBulk]
  omega
theorem mem_part {cs : List Value} {j o c : Nat} (hj : j < cs.length) (h1 : o ≤ j) (h2 : j < o + c) : cs[j] ∈ (cs.drop o).take c := by
  rw [List.mem_iff_getElem]
  refine ⟨j - o, by rw [List.length_take, List.length_drop]; omega, ?_⟩
  rw [List.getElem_take, List.getElem_drop]
  congr 1
  omega
def coverB (P : Program) (fs : List Field) (n : Nat) : Bool := (List.range n).all fun j => fs.any fun f => decide (f.offset ≤ j) && decide (j < f.offset + P.cellsOf f.type)
theorem Light.struct {P : Program} {t : TypeId} {fs : Array Field} (ht : P.underlying t = some (.struct fs)) (hl : ∀ f ∈ fs.toList, Light P f.type) (hc : coverB P fs.toList (P.cellsOf t) = true) : Light P t := by
  intro H enc w base spare held fuel cs x h s hs
  obtain ⟨xs, n, _, rfl, hlen, hxl, hf⟩ := DataW.trod_struct ht h
  obtain ⟨j, hj, e⟩ := List.mem_iff_getElem.1 hs
  unfold coverB at hc
  rw [List.all_eq_true] at hc
  have h2 := hc j (List.mem_range.2 (by omega))
  obtain ⟨f, hfm, h3⟩ := List.any_eq_true.1 h2
  simp only [Bool.and_eq_true, decide_eq_true_eq] at h3
  have hlf : Light P f.type := hl f hfm
  obtain ⟨i, hi, rfl⟩ := List.getElem_of_mem hfm
  have hi' : i < fs.size := by simpa using hi
  have ht2 := hf i fs[i] (Array.getElem?_eq_getElem hi')
  rw [List.getElem?_eq_getElem (show i < xs.length from by omega)] at ht2
  have hm := mem_part hj h3.1 h3.2
  rw [e] at hm
  exact light_part (i := i) (by omega) (hlf enc w base spare held n _ _ (by simpa using ht2) s (by simpa using hm))
theorem Light.array {P : Program} {t e : TypeId} {n : Nat} (ht : P.underlying t = some (.array n e)) (he : Light P e) (hc : coverB P ((List.range n).map fun i => ⟨"a", e, i * P.cellsOf e, false, "", "", 0⟩) (P.cellsOf t) = true) : Light P t := by
  intro H enc w base spare held fuel cs x h s hs
  obtain ⟨xs, m, _, rfl, hlen, hxl, hf⟩ := DataW.trod_array ht h
  obtain ⟨j, hj, e'⟩ := List.mem_iff_getElem.1 hs
  unfold coverB at hc
  rw [List.all_eq_true] at hc
  have h2 := hc j (List.mem_range.2 (by omega))
  obtain ⟨f, hfm, h3⟩ := List.any_eq_true.1 h2
  obtain ⟨i, hi, rfl⟩ := List.mem_map.1 hfm
  rw [List.mem_range] at hi
  simp only [Bool.and_eq_true, decide_eq_true_eq] at h3
  have ht2 := hf i hi
  rw [List.getElem?_eq_getElem (show i < xs.length from by omega)] at ht2
  have hm := mem_part hj h3.1 h3.2
  rw [e'] at hm
  exact light_part (i := i) (by omega) (he enc w base spare held m _ _ ht2 s hm)
theorem Light.arg {P : Program} {t : TypeId} (hl : Light P t) {H : Type} {enc : TypeId × Value → H} {W : World} {base : Nat} {spare : Nat → Bool} {held : Bool} {cs : Array Value} {x : DataW H} {ps : List MemPlace}
    (h : DataW.Trod enc P W base spare held t (.agg cs) x ps) (s : ByteArray) (hs : Value.string s ∈ cs.toList) : s.size < Rows.uptoBulk x := by
  obtain ⟨fuel, hf⟩ := h
  exact hl enc W base spare held fuel _ _ hf s (by simpa [Value.cells] using hs)
end Go.Proofs.YtefejkhcbelahaaDoor.Opn

namespace Go.Proofs.YtefejkhcbelahaaDoor.Q
open Go.RowKit Go.Proofs.YtefejkhcbelahaaDoorW.PrintWords Go.Proofs.YtefejkhcbelahaaDoorW.PrintLast Go.Proofs.YtefejkhcbelahaaDoorW.PrintMore Go.Proofs.YtefejkhcbelahaaDoor.Opn
set_option linter.unusedVariables false
set_option linter.unusedSimpArgs false
structure S23 where
  f0 : Int
  f1 : Bool
  f2 : ByteArray
  f3 : ByteArray
  f4 : Int
  f5 : Bool
def k23 : Kd S23 := Kd.iso (Kd.pair (Kd.int .i64) (Kd.pair Kd.bool (Kd.pair Kd.string (Kd.pair Kd.string (Kd.pair (Kd.int .i64) Kd.bool))))) (fun x : S23 => (x.f0, x.f1, x.f2, x.f3, x.f4, x.f5))
def ok23 (x : S23) : Prop := ((Lit.int .i64 x.f0).wf = true) ∧ ((True) ∧ ((x.f2.size ≤ maxLen) ∧ ((x.f3.size ≤ maxLen) ∧ (((Lit.int .i64 x.f4).wf = true) ∧ (True)))))
theorem open23 : Opens Tryd.prog 23 k23 ok23 :=
  Opens.struct Tryd.underlying23 (OpensF.cons (Opens.int .i64 (by kernel_rfl)) rfl (by kernel_rfl) (OpensF.cons (Opens.bool (by kernel_rfl)) rfl (by kernel_rfl) (OpensF.cons (Opens.string (by kernel_rfl)) rfl (by kernel_rfl) (OpensF.cons (Opens.string (by kernel_rfl)) rfl (by kernel_rfl) (OpensF.cons (Opens.int .i64 (by kernel_rfl)) rfl (by kernel_rfl) (OpensF.one (Opens.bool (by kernel_rfl)) rfl (by kernel_rfl)))))))
    (by kernel_rfl) (fun x : S23 => (x.f0, x.f1, x.f2, x.f3, x.f4, x.f5)) (fun p => ⟨p.1, p.2.1, p.2.2.1, p.2.2.2.1, p.2.2.2.2.1, p.2.2.2.2.2⟩) (fun _ => rfl)
theorem ko23 {w : World} {x : S23} {cs : List Value} (h : k23.K w x cs) : cs = [.int .i64 x.f0, .bool x.f1, .string x.f2, .string x.f3, .int .i64 x.f4, .bool x.f5] := by
  obtain ⟨_, _, rfl, rfl, ⟨_, _, rfl, rfl, ⟨_, _, rfl, rfl, ⟨_, _, rfl, rfl, ⟨_, _, rfl, rfl, rfl⟩⟩⟩⟩⟩ := h
  exact rfl
structure S24 where
  f0 : ByteArray
  f1 : ByteArray
  f2 : ByteArray
  f3 : ByteArray
  f4 : ByteArray
  f5 : ByteArray
  f6 : ByteArray
  f7 : ByteArray
  f8 : ByteArray
  f9 : ByteArray
def k24 : Kd S24 := Kd.iso (Kd.pair Kd.string (Kd.pair Kd.string (Kd.pair Kd.string (Kd.pair Kd.string (Kd.pair Kd.string (Kd.pair Kd.string (Kd.pair Kd.string (Kd.pair Kd.string (Kd.pair Kd.string Kd.string))))))))) (fun x : S24 => (x.f0, x.f1, x.f2, x.f3, x.f4, x.f5, x.f6, x.f7, x.f8, x.f9))
def ok24 (x : S24) : Prop := (x.f0.size ≤ maxLen) ∧ ((x.f1.size ≤ maxLen) ∧ ((x.f2.size ≤ maxLen) ∧ ((x.f3.size ≤ maxLen) ∧ ((x.f4.size ≤ maxLen) ∧ ((x.f5.size ≤ maxLen) ∧ ((x.f6.size ≤ maxLen) ∧ ((x.f7.size ≤ maxLen) ∧ ((x.f8.size ≤ maxLen) ∧ (x.f9.size ≤ maxLen)))))))))
theorem open24 : Opens Tryd.prog 24 k24 ok24 :=
  Opens.array (fs := [⟨"a", 9, 0, false, "", "", 0⟩, ⟨"a", 9, 1, false, "", "", 0⟩, ⟨"a", 9, 2, false, "", "", 0⟩, ⟨"a", 9, 3, false, "", "", 0⟩, ⟨"a", 9, 4, false, "", "", 0⟩, ⟨"a", 9, 5, false, "", "", 0⟩, ⟨"a", 9, 6, false, "", "", 0⟩, ⟨"a", 9, 7, false, "", "", 0⟩, ⟨"a", 9, 8, false, "", "", 0⟩, ⟨"a", 9, 9, false, "", "", 0⟩]) Tryd.underlying24 (fun f hf => by
    have hc : Tryd.prog.cellsOf 9 = 1 := by kernel_rfl
    simp only [List.mem_cons, List.not_mem_nil, or_false] at hf
    rcases hf with rfl | rfl | rfl | rfl | rfl | rfl | rfl | rfl | rfl | rfl
    · exact ⟨0, by omega, rfl, by rw [hc]⟩
    · exact ⟨1, by omega, rfl, by rw [hc]⟩
    · exact ⟨2, by omega, rfl, by rw [hc]⟩
    · exact ⟨3, by omega, rfl, by rw [hc]⟩
    · exact ⟨4, by omega, rfl, by rw [hc]⟩
    · exact ⟨5, by omega, rfl, by rw [hc]⟩
    · exact ⟨6, by omega, rfl, by rw [hc]⟩
    · exact ⟨7, by omega, rfl, by rw [hc]⟩
    · exact ⟨8, by omega, rfl, by rw [hc]⟩
    · exact ⟨9, by omega, rfl, by rw [hc]⟩) (OpensF.cons (Opens.string (by kernel_rfl)) rfl (by kernel_rfl) (OpensF.cons (Opens.string (by kernel_rfl)) rfl (by kernel_rfl) (OpensF.cons (Opens.string (by kernel_rfl)) rfl (by kernel_rfl) (OpensF.cons (Opens.string (by kernel_rfl)) rfl (by kernel_rfl) (OpensF.cons (Opens.string (by kernel_rfl)) rfl (by kernel_rfl) (OpensF.cons (Opens.string (by kernel_rfl)) rfl (by kernel_rfl) (OpensF.cons (Opens.string (by kernel_rfl)) rfl (by kernel_rfl) (OpensF.cons (Opens.string (by kernel_rfl)) rfl (by kernel_rfl) (OpensF.cons (Opens.string (by kernel_rfl)) rfl (by kernel_rfl) (OpensF.one (Opens.string (by kernel_rfl)) rfl (by kernel_rfl)))))))))))
    (by kernel_rfl) (fun x : S24 => (x.f0, x.f1, x.f2, x.f3, x.f4, x.f5, x.f6, x.f7, x.f8, x.f9)) (fun p => ⟨p.1, p.2.1, p.2.2.1, p.2.2.2.1, p.2.2.2.2.1, p.2.2.2.2.2.1, p.2.2.2.2.2.2.1, p.2.2.2.2.2.2.2.1, p.2.2.2.2.2.2.2.2.1, p.2.2.2.2.2.2.2.2.2⟩) (fun _ => rfl)
theorem ko24 {w : World} {x : S24} {cs : List Value} (h : k24.K w x cs) : cs = [.string x.f0, .string x.f1, .string x.f2, .string x.f3, .string x.f4, .string x.f5, .string x.f6, .string x.f7, .string x.f8, .string x.f9] := by
  obtain ⟨_, _, rfl, rfl, ⟨_, _, rfl, rfl, ⟨_, _, rfl, rfl, ⟨_, _, rfl, rfl, ⟨_, _, rfl, rfl, ⟨_, _, rfl, rfl, ⟨_, _, rfl, rfl, ⟨_, _, rfl, rfl, ⟨_, _, rfl, rfl, rfl⟩⟩⟩⟩⟩⟩⟩⟩⟩ := h
  exact rfl
structure S26 where
  f0 : S24
  f1 : ByteArray
  f2 : ByteArray
  f3 : ByteArray
  f4 : ByteArray
  f5 : ByteArray
  f6 : ByteArray
  f7 : ByteArray
  f8 : ByteArray
  f9 : ByteArray
  f10 : ByteArray
  f11 : ByteArray
def k26 : Kd S26 := Kd.iso (Kd.pair k24 (Kd.pair Kd.string (Kd.pair Kd.string (Kd.pair Kd.string (Kd.pair Kd.string (Kd.pair Kd.string (Kd.pair Kd.string (Kd.pair Kd.string (Kd.pair Kd.string (Kd.pair Kd.string (Kd.pair Kd.string Kd.string))))))))))) (fun x : S26 => (x.f0, x.f1, x.f2, x.f3, x.f4, x.f5, x.f6, x.f7, x.f8, x.f9, x.f10, x.f11))
def ok26 (x : S26) : Prop := (ok24 x.f0) ∧ ((x.f1.size ≤ maxLen) ∧ ((x.f2.size ≤ maxLen) ∧ ((x.f3.size ≤ maxLen) ∧ ((x.f4.size ≤ maxLen) ∧ ((x.f5.size ≤ maxLen) ∧ ((x.f6.size ≤ maxLen) ∧ ((x.f7.size ≤ maxLen) ∧ ((x.f8.size ≤ maxLen) ∧ ((x.f9.size ≤ maxLen) ∧ ((x.f10.size ≤ maxLen) ∧ (x.f11.size ≤ maxLen)))))))))))
theorem open26 : Opens Tryd.prog 26 k26 ok26 :=
  Opens.struct Tryd.underlying26 (OpensF.cons open24 rfl (by kernel_rfl) (OpensF.cons (Opens.string (by kernel_rfl)) rfl (by kernel_rfl) (OpensF.cons (Opens.string (by kernel_rfl)) rfl (by kernel_rfl) (OpensF.cons (Opens.string (by kernel_rfl)) rfl (by kernel_rfl) (OpensF.cons (Opens.string (by kernel_rfl)) rfl (by kernel_rfl) (OpensF.cons (Opens.string (by kernel_rfl)) rfl (by kernel_rfl) (OpensF.cons (Opens.string (by kernel_rfl)) rfl (by kernel_rfl) (OpensF.cons (Opens.string (by kernel_rfl)) rfl (by kernel_rfl) (OpensF.cons (Opens.string (by kernel_rfl)) rfl (by kernel_rfl) (OpensF.cons (Opens.string (by kernel_rfl)) rfl (by kernel_rfl) (OpensF.cons (Opens.string (by kernel_rfl)) rfl (by kernel_rfl) (OpensF.one (Opens.string (by kernel_rfl)) rfl (by kernel_rfl)))))))))))))
    (by kernel_rfl) (fun x : S26 => (x.f0, x.f1, x.f2, x.f3, x.f4, x.f5, x.f6, x.f7, x.f8, x.f9, x.f10, x.f11)) (fun p => ⟨p.1, p.2.1, p.2.2.1, p.2.2.2.1, p.2.2.2.2.1, p.2.2.2.2.2.1, p.2.2.2.2.2.2.1, p.2.2.2.2.2.2.2.1, p.2.2.2.2.2.2.2.2.1, p.2.2.2.2.2.2.2.2.2.1, p.2.2.2.2.2.2.2.2.2.2.1, p.2.2.2.2.2.2.2.2.2.2.2⟩) (fun _ => rfl)
theorem ko26 {w : World} {x : S26} {cs : List Value} (h : k26.K w x cs) : cs = [.string x.f0.f0, .string x.f0.f1, .string x.f0.f2, .string x.f0.f3, .string x.f0.f4, .string x.f0.f5, .string x.f0.f6, .string x.f0.f7, .string x.f0.f8, .string x.f0.f9, .string x.f1, .string x.f2, .string x.f3, .string x.f4, .string x.f5, .string x.f6, .string x.f7, .string x.f8, .string x.f9, .string x.f10, .string x.f11] := by
  obtain ⟨_, _, rfl, s0, ⟨_, _, rfl, rfl, ⟨_, _, rfl, rfl, ⟨_, _, rfl, rfl, ⟨_, _, rfl, rfl, ⟨_, _, rfl, rfl, ⟨_, _, rfl, rfl, ⟨_, _, rfl, rfl, ⟨_, _, rfl, rfl, ⟨_, _, rfl, rfl, ⟨_, _, rfl, rfl, rfl⟩⟩⟩⟩⟩⟩⟩⟩⟩⟩⟩ := h
  obtain rfl := ko24 s0
  exact rfl
structure S28 where
  f0 : Int
  f1 : Int
  f2 : Int
  f3 : Bool
def k28 : Kd S28 := Kd.iso (Kd.pair (Kd.int .i64) (Kd.pair (Kd.int .i64) (Kd.pair (Kd.int .i64) Kd.bool))) (fun x : S28 => (x.f0, x.f1, x.f2, x.f3))
def ok28 (x : S28) : Prop := ((Lit.int .i64 x.f0).wf = true) ∧ (((Lit.int .i64 x.f1).wf = true) ∧ (((Lit.int .i64 x.f2).wf = true) ∧ (True)))
theorem open28 : Opens Tryd.prog 28 k28 ok28 :=
  Opens.struct Tryd.underlying28 (OpensF.cons (Opens.int .i64 (by kernel_rfl)) rfl (by kernel_rfl) (OpensF.cons (Opens.int .i64 (by kernel_rfl)) rfl (by kernel_rfl) (OpensF.cons (Opens.int .i64 (by kernel_rfl)) rfl (by kernel_rfl) (OpensF.one (Opens.bool (by kernel_rfl)) rfl (by kernel_rfl)))))
    (by kernel_rfl) (fun x : S28 => (x.f0, x.f1, x.f2, x.f3)) (fun p => ⟨p.1, p.2.1, p.2.2.1, p.2.2.2⟩) (fun _ => rfl)
theorem ko28 {w : World} {x : S28} {cs : List Value} (h : k28.K w x cs) : cs = [.int .i64 x.f0, .int .i64 x.f1, .int .i64 x.f2, .bool x.f3] := by
  obtain ⟨_, _, rfl, rfl, ⟨_, _, rfl, rfl, ⟨_, _, rfl, rfl, rfl⟩⟩⟩ := h
  exact rfl
structure S38 where
  f0 : Bool
  f1 : S26
end Go.Proofs.YtefejkhcbelahaaDoor.Q

namespace Go.Proofs.YtefejkhcbelahaaDoor.Q
open Go.RowKit Go.Proofs.YtefejkhcbelahaaDoorW.PrintWords Go.Proofs.YtefejkhcbelahaaDoorW.PrintLast Go.Proofs.YtefejkhcbelahaaDoorW.PrintMore
set_option linter.unusedVariables false
set_option linter.unusedSimpArgs false
open Go.Proofs.YtefejkhcbelahaaDoor.Opn
theorem inI_wf {n : Int} (h : (Lit.int .i64 n).wf = true) : inI n = true := by
  have h2 := Opn.wf64_le h
  unfold inI
  rw [decide_eq_true h2.1, decide_eq_true h2.2]; rfl
theorem light24 : Opn.Light Tryd.prog 24 := Opn.Light.array Tryd.underlying24 (Opn.Light.string (by kernel_rfl)) (by kernel_rfl)
theorem light23 : Opn.Light Tryd.prog 23 := Opn.Light.struct Tryd.underlying23 (fun f hf => by
  simp only [List.mem_cons, List.not_mem_nil, or_false] at hf
  rcases hf with rfl | rfl | rfl | rfl | rfl | rfl
  · exact Opn.Light.int .i64 (by kernel_rfl)
  · exact Opn.Light.bool (by kernel_rfl)
  · exact Opn.Light.string (by kernel_rfl)
  · exact Opn.Light.string (by kernel_rfl)
  · exact Opn.Light.int .i64 (by kernel_rfl)
  · exact Opn.Light.bool (by kernel_rfl)) (by kernel_rfl)
theorem light26 : Opn.Light Tryd.prog 26 := Opn.Light.struct Tryd.underlying26 (fun f hf => by
  simp only [List.mem_cons, List.not_mem_nil, or_false] at hf
  rcases hf with rfl | hf
  · exact light24
  · rcases hf with rfl | rfl | rfl | rfl | rfl | rfl | rfl | rfl | rfl | rfl | rfl <;> exact Opn.Light.string (by kernel_rfl)) (by kernel_rfl)
end Go.Proofs.YtefejkhcbelahaaDoor.Q

namespace Go.Proofs.YtefejkhcbelahaaDoor.Q
open Go.RowKit Go.Proofs.YtefejkhcbelahaaDoorW.PrintWords Go.Proofs.YtefejkhcbelahaaDoorW.PrintLast Go.Proofs.YtefejkhcbelahaaDoorW.PrintMore
set_option linter.unusedVariables false
set_option linter.unusedSimpArgs false
open Go.Proofs.YtefejkhcbelahaaDoor.Opn
theorem alike_row (w : World) (hG : Gd w) (c : Int) (n : Bool) (a b : ByteArray) (e : Int) (p : Bool) (s0 s1 s2 s3 s4 s5 s6 s7 s8 s9 s10 s11 s12 s13 s14 s15 s16 s17 s18 s19 s20 : ByteArray) (first further least : Int) (al : Bool) (hD : Small (symsOf s0 s1 s2 s3 s4 s5 s6 s7 s8 s9)) (g1 : s10.size ≤ 1048576) (g2 : s11.size ≤ 1048576) (g3 : s17.size ≤ 1048576) (g4 : s18.size ≤ 1048576) (ha : a.size ≤ 140737488355328) (hb : b.size ≤ 140737488355328) (he : -9223372036854775808 ≤ e ∧ e ≤ 9223372036854775807) (h1 : inI first = true) (h2 : inI further = true) (h3 : inI least = true) :
    Calls Tryd.prog 7 #[.agg #[.int .i64 c, .bool n, .string a, .string b, .int .i64 e, .bool p], .agg #[.string s0, .string s1, .string s2, .string s3, .string s4, .string s5, .string s6, .string s7, .string s8, .string s9, .string s10, .string s11, .string s12, .string s13, .string s14, .string s15, .string s16, .string s17, .string s18, .string s19, .string s20], .agg #[.int .i64 first, .int .i64 further, .int .i64 least, .bool al]] w fun e w' => e = .returned (.bool true) ∧ Below w.heap.size w w' := by
  obtain ⟨K, hK⟩ := lawAlike c n a b e p s0 s1 s2 s3 s4 s5 s6 s7 s8 s9 s10 s11 s12 s13 s14 s15 s16 s17 s18 s19 s20 first further least al hD g1 g2 g3 g4 ha hb he h1 h2 h3
  exact quipulaw16_DigitsAlike.calls K c n a b e p s0 s1 s2 s3 s4 s5 s6 s7 s8 s9 s10 s11 s12 s13 s14 s15 s16 s17 s18 s19 s20 first further least al w hG (hK K (Nat.le_refl _))
end Go.Proofs.YtefejkhcbelahaaDoor.Q
