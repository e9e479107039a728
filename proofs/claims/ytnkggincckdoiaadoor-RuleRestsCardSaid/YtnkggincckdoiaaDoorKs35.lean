import Derived.Test.YtnkggincckdoiaaDoorKs10
import Derived.SizedLaws
import Derived.ChangeArms
import Derived.OpenShut
namespace Go.Proofs.YtnkggincckdoiaaDoor.Q
open Go.RowKit Go.ChangeShapes Go.WideShapes
set_option linter.unusedVariables false
set_option linter.unusedSimpArgs false
theorem sized_part2 {P : Program} {H : Type} {ts : List TypeId} {ds : List (DataW H)} {j i k : Nat} {t u u2 : TypeId} {fs fs2 : Array Field} {parts parts2 : List (DataW H)} {bytes : List UInt8}
    (h : (DataW.weightsEach P ts ds).all (· ≤ reachBytes) = true) (ht : ts[j]? = some t) (hd : ds[j]? = some (.agg parts)) (hu : P.underlying t = some (.struct fs))
    (hi : (fs.toList.map (·.type))[i]? = some u) (hp : parts[i]? = some (.agg parts2)) (hu2 : P.underlying u = some (.struct fs2)) (hi2 : (fs2.toList.map (·.type))[k]? = some u2) (hp2 : parts2[k]? = some (.lit (.string bytes))) : bytes.length ≤ 140737488351232 := by
  have h2 := List.all_eq_true.1 h _ (DataW.weights_mem_each ht hd bytes.length (by
    simp only [DataW.weights, hu]
    exact DataW.weights_mem_each hi hp bytes.length (by
      simp only [DataW.weights, hu2]
      exact DataW.weights_mem_each hi2 hp2 bytes.length (by simp [DataW.weights]))))
  exact of_decide_eq_true h2
def cellO (y : Opr) : List Value := [.string y.i, .int .i64 y.v, .int .i64 y.w, .string y.f, .string y.t, .int .i64 y.e]
def datO {H : Type} (y : Opr) : DataW H := .agg [.lit (.string y.i.data.toList), .lit (.int .i64 y.v), .lit (.int .i64 y.w), .lit (.string y.f.data.toList), .lit (.string y.t.data.toList), .lit (.int .i64 y.e)]
set_option maxRecDepth 100000 in
theorem trod29 {H : Type} {enc : TypeId × Value → H} {W : World} {base : Nat} {spare : Nat → Bool} {held : Bool} {fuel : Nat} {cs : List Value} {x : DataW H × List MemPlace}
    (h : DataW.trod enc Tryd.prog W base spare held fuel 29 cs = some x) : ∃ y : Opr, cs = cellO y ∧ x.1 = datO y ∧ i64 y.v ∧ i64 y.w ∧ i64 y.e := by
  obtain ⟨xs, n, _, ex, hlen, hxl, hel⟩ := DataW.trod_struct Tryd.underlying29 h
  have hc3 : Tryd.prog.cellsOf 3 = 1 := by kernel_rfl
  have hc9 : Tryd.prog.cellsOf 9 = 1 := by kernel_rfl
  have hc29 : Tryd.prog.cellsOf 29 = 6 := by kernel_rfl
  obtain ⟨x0, x1, x2, x3, x4, x5, rfl⟩ : ∃ x0 x1 x2 x3 x4 x5, xs = [x0, x1, x2, x3, x4, x5] := by
    match xs, hxl with
    | [a, b, c, d, e, f], _ => exact ⟨a, b, c, d, e, f, rfl⟩
  have e0 : DataW.trod enc Tryd.prog W base spare held n 9 ((cs.drop 0).take (Tryd.prog.cellsOf 9)) = some x0 := hel 0 _ rfl
  have e1 : DataW.trod enc Tryd.prog W base spare held n 3 ((cs.drop 1).take (Tryd.prog.cellsOf 3)) = some x1 := hel 1 _ rfl
  have e2 : DataW.trod enc Tryd.prog W base spare held n 3 ((cs.drop 2).take (Tryd.prog.cellsOf 3)) = some x2 := hel 2 _ rfl
  have e3 : DataW.trod enc Tryd.prog W base spare held n 9 ((cs.drop 3).take (Tryd.prog.cellsOf 9)) = some x3 := hel 3 _ rfl
  have e4 : DataW.trod enc Tryd.prog W base spare held n 9 ((cs.drop 4).take (Tryd.prog.cellsOf 9)) = some x4 := hel 4 _ rfl
  have e5 : DataW.trod enc Tryd.prog W base spare held n 3 ((cs.drop 5).take (Tryd.prog.cellsOf 3)) = some x5 := hel 5 _ rfl
  rw [hc9] at e0 e3 e4
  rw [hc3] at e1 e2 e5
  obtain ⟨i, k0, rfl, _⟩ := DataW.trod_string Tryd.underlying9 e0
  obtain ⟨v, k1, rfl, w1⟩ := DataW.trod_int Tryd.underlying3 e1
  obtain ⟨u, k2, rfl, w2⟩ := DataW.trod_int Tryd.underlying3 e2
  obtain ⟨f, k3, rfl, _⟩ := DataW.trod_string Tryd.underlying9 e3
  obtain ⟨t, k4, rfl, _⟩ := DataW.trod_string Tryd.underlying9 e4
  obtain ⟨e, k5, rfl, w5⟩ := DataW.trod_int Tryd.underlying3 e5
  refine ⟨⟨i, v, u, f, t, e⟩, ?_, ?_, ?_, ?_, ?_⟩
  · have hl6 : cs.length = 6 := by simpa [Value.cells, hc29] using hlen
    match cs, hl6 with
    | [y0, y1, y2, y3, y4, y5], _ =>
      simp at k0 k1 k2 k3 k4 k5
      rw [k0, k1, k2, k3, k4, k5]
      rfl
  · rw [ex]; rfl
  · have := bounds_i64 w1; exact (show -9223372036854775808 ≤ v ∧ v ≤ 9223372036854775807 by omega)
  · have := bounds_i64 w2; exact (show -9223372036854775808 ≤ u ∧ u ≤ 9223372036854775807 by omega)
  · have := bounds_i64 w5; exact (show -9223372036854775808 ≤ e ∧ e ≤ 9223372036854775807 by omega)
set_option maxRecDepth 100000 in
theorem opn42 {H : Type} {enc : TypeId × Value → H} {W : World} {base : Nat} {spare : Nat → Bool} {held : Bool} {cs : Array Value} {x : DataW H} {ps : List MemPlace}
    (h : DataW.Trod enc Tryd.prog W base spare held 42 (.agg cs) x ps) : ∃ (c : Int) (y : Opr), cs = (Value.int .i64 c :: cellO y).toArray ∧ x = .agg [.lit (.int .i64 c), datO y] ∧ i64 y.v ∧ i64 y.w ∧ i64 y.e := by
  obtain ⟨fuel, hf⟩ := h
  obtain ⟨xs, n, _, ex, hlen, hxl, hel⟩ := DataW.trod_struct Tryd.underlying42 hf
  have hc3 : Tryd.prog.cellsOf 3 = 1 := by kernel_rfl
  have hc29 : Tryd.prog.cellsOf 29 = 6 := by kernel_rfl
  have hc42 : Tryd.prog.cellsOf 42 = 7 := by kernel_rfl
  obtain ⟨x0, x1, rfl⟩ : ∃ x0 x1, xs = [x0, x1] := by
    match xs, hxl with
    | [a, b], _ => exact ⟨a, b, rfl⟩
  have e0 : DataW.trod enc Tryd.prog W base spare held n 3 ((cs.toList.drop 0).take (Tryd.prog.cellsOf 3)) = some x0 := hel 0 _ rfl
  have e1 : DataW.trod enc Tryd.prog W base spare held n 29 ((cs.toList.drop 1).take (Tryd.prog.cellsOf 29)) = some x1 := hel 1 _ rfl
  rw [hc3] at e0
  rw [hc29] at e1
  obtain ⟨c, k0, rfl, _⟩ := DataW.trod_int Tryd.underlying3 e0
  obtain ⟨y, h1, h2, h3⟩ := trod29 e1
  refine ⟨c, y, ?_, ?_, h3⟩
  · have hl7 : cs.toList.length = 7 := by simpa [Value.cells, hc42] using hlen
    apply Array.ext'
    match hcs : cs.toList, hl7 with
    | [y0, y1, y2, y3, y4, y5, y6], _ =>
      rw [hcs] at k0 h1
      simp at k0 h1
      rw [k0, h1]
  · have := (Prod.mk.inj ex).1
    rw [this]
    simp [h2]
end Go.Proofs.YtnkggincckdoiaaDoor.Q
