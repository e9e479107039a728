import Derived.Test.YtepahimiakgieaaDoorOpen
import Derived.OpenShut
namespace Go.Proofs.YtepahimiakgieaaDoor.Opn
open Go.RowKit Go.Proofs.YtepahimiakgieaaDoorW.PrintWords Go.ChangeShapes Go.WideShapes Go.Deep
set_option linter.unusedVariables false
set_option linter.unusedSimpArgs false
/-- A small array, opened as so many fields of one type. -/
theorem Opens.array {P : Program} {t e : TypeId} {n : Nat} {fs : List Field} {α β : Type} {d : Kd α} {ok : α → Prop} (ht : P.underlying t = some (.array n e)) (hfs : ∀ f ∈ fs, ∃ i, i < n ∧ f.type = e ∧ f.offset = i * P.cellsOf e)
    (h : OpensF P fs 0 d ok) (hc : P.cellsOf t = d.sz) (f : β → α) (g : α → β) (hfg : ∀ a, f (g a) = a) : Opens P t (Kd.iso d f) (fun b => ok (f b)) := by
  intro H enc w base spare held fuel cs x hx
  obtain ⟨xs, m, _, _, hlen, hxl, hf⟩ := DataW.trod_array ht hx
  obtain ⟨a, ha, oa⟩ := h enc w base spare held m cs (fun q hq => by
    obtain ⟨i, hi, e1, e2⟩ := hfs q hq
    have := hf i hi
    rw [e1, e2]
    exact ⟨xs[i]'(by omega), this.trans (List.getElem?_eq_getElem (by omega))⟩) (by omega)
  exact ⟨g a, by show d.K w (f (g a)) cs; rw [hfg]; simpa using ha, by show ok (f (g a)); rw [hfg]; exact oa⟩
/-- An argument that is a struct or an array by value. -/
theorem open_arg {P : Program} {t : TypeId} {α : Type} {d : Kd α} {ok : α → Prop} {H : Type} {enc : TypeId × Value → H} {W : World} {base : Nat} {spare : Nat → Bool} {held : Bool} {cs : Array Value} {x : DataW H} {ps : List MemPlace}
    (hd : Opens P t d ok) (h : DataW.Trod enc P W base spare held t (.agg cs) x ps) : ∃ a : α, d.K W a cs.toList ∧ ok a := by
  obtain ⟨fuel, hf⟩ := h
  obtain ⟨a, hK, hok⟩ := hd enc W base spare held fuel _ _ hf
  exact ⟨a, by simpa [Value.cells] using hK, hok⟩
/-- The strings within what came in are within the reach. -/
theorem wf64_le {n : Int} (h : (Lit.int .i64 n).wf = true) : -9223372036854775808 ≤ n ∧ n ≤ 9223372036854775807 := by have := bounds_i64 h; omega
end Go.Proofs.YtepahimiakgieaaDoor.Opn
