import Derived.Test.YtfgjfkocbennnaaDoorTop
import Derived.SizedLaws
import Derived.ChangeArms
import Derived.OpenShut
namespace Go.Proofs.YtfgjfkocbennnaaDoor.Q
open Go.RowKit Go.ChangeShapes Go.WideShapes
set_option linter.unusedVariables false
set_option linter.unusedSimpArgs false

/-- The parts of a struct's data are within its weight. -/
theorem sized_part {P : Program} {H : Type} {ts : List TypeId} {ds : List (DataW H)} {j i : Nat} {t u : TypeId} {fs : Array Field} {parts : List (DataW H)} {bytes : List UInt8}
    (h : (DataW.weightsEach P ts ds).all (· ≤ reachBytes) = true) (ht : ts[j]? = some t) (hd : ds[j]? = some (.agg parts)) (hu : P.underlying t = some (.struct fs))
    (hi : (fs.toList.map (·.type))[i]? = some u) (hp : parts[i]? = some (.lit (.string bytes))) : bytes.length ≤ 140737488351232 := by
  have h2 := List.all_eq_true.1 h _ (DataW.weights_mem_each ht hd bytes.length (by
    simp only [DataW.weights, hu]
    exact DataW.weights_mem_each hi hp bytes.length (by simp [DataW.weights])))
  exact of_decide_eq_true h2
/-- A Shown that came in. -/
theorem open_s23 {H : Type} {enc : TypeId × Value → H} {W : World} {base : Nat} {spare : Nat → Bool} {held : Bool} {cs : Array Value} {x : DataW H} {ps : List MemPlace}
    (h : DataW.Trod enc Tryd.prog W base spare held 23 (.agg cs) x ps) : ∃ (c : Int) (n : Bool) (a b : ByteArray) (e : Int) (p : Bool),
      cs = #[.int .i64 c, .bool n, .string a, .string b, .int .i64 e, .bool p] ∧ x = .agg [.lit (.int .i64 c), .lit (.bool n), .lit (.string a.data.toList), .lit (.string b.data.toList), .lit (.int .i64 e), .lit (.bool p)] ∧
      (-9223372036854775808 ≤ e ∧ e ≤ 9223372036854775807) := by
  obtain ⟨fuel, hf⟩ := h
  obtain ⟨xs, n, _, ex, hlen, hxl, hel⟩ := DataW.trod_struct Tryd.underlying23 hf
  have hc3 : Tryd.prog.cellsOf 3 = 1 := by kernel_rfl
  have hc4 : Tryd.prog.cellsOf 4 = 1 := by kernel_rfl
  have hc9 : Tryd.prog.cellsOf 9 = 1 := by kernel_rfl
  have hc23 : Tryd.prog.cellsOf 23 = 6 := by kernel_rfl
  obtain ⟨x0, x1, x2, x3, x4, x5, rfl⟩ : ∃ x0 x1 x2 x3 x4 x5, xs = [x0, x1, x2, x3, x4, x5] := by
    match xs, hxl with
    | [a, b, c, d, e, f], _ => exact ⟨a, b, c, d, e, f, rfl⟩
  have e0 : DataW.trod enc Tryd.prog W base spare held n 3 ((cs.toList.drop 0).take (Tryd.prog.cellsOf 3)) = some x0 := hel 0 _ rfl
  rw [hc3] at e0
  have e1 : DataW.trod enc Tryd.prog W base spare held n 4 ((cs.toList.drop 1).take (Tryd.prog.cellsOf 4)) = some x1 := hel 1 _ rfl
  rw [hc4] at e1
  have e2 : DataW.trod enc Tryd.prog W base spare held n 9 ((cs.toList.drop 2).take (Tryd.prog.cellsOf 9)) = some x2 := hel 2 _ rfl
  rw [hc9] at e2
  have e3 : DataW.trod enc Tryd.prog W base spare held n 9 ((cs.toList.drop 3).take (Tryd.prog.cellsOf 9)) = some x3 := hel 3 _ rfl
  rw [hc9] at e3
  have e4 : DataW.trod enc Tryd.prog W base spare held n 3 ((cs.toList.drop 4).take (Tryd.prog.cellsOf 3)) = some x4 := hel 4 _ rfl
  rw [hc3] at e4
  have e5 : DataW.trod enc Tryd.prog W base spare held n 4 ((cs.toList.drop 5).take (Tryd.prog.cellsOf 4)) = some x5 := hel 5 _ rfl
  rw [hc4] at e5
  obtain ⟨c, k0, rfl, _⟩ := DataW.trod_int Tryd.underlying3 e0
  obtain ⟨nn, k1, rfl⟩ := DataW.trod_bool Tryd.underlying4 e1
  obtain ⟨a, k2, rfl, _⟩ := DataW.trod_string Tryd.underlying9 e2
  obtain ⟨b, k3, rfl, _⟩ := DataW.trod_string Tryd.underlying9 e3
  obtain ⟨e, k4, rfl, we⟩ := DataW.trod_int Tryd.underlying3 e4
  obtain ⟨p, k5, rfl⟩ := DataW.trod_bool Tryd.underlying4 e5
  refine ⟨c, nn, a, b, e, p, ?_, ?_, ?_⟩
  · have hl6 : cs.toList.length = 6 := by simpa [Value.cells, hc23] using hlen
    apply Array.ext'
    match hcs : cs.toList, hl6 with
    | [y0, y1, y2, y3, y4, y5], _ =>
      rw [hcs] at k0 k1 k2 k3 k4 k5
      simp at k0 k1 k2 k3 k4 k5
      rw [k0, k1, k2, k3, k4, k5]
  · have := (Prod.mk.inj ex).1
    simpa using this
  · have := bounds_i64 we; omega
end Go.Proofs.YtfgjfkocbennnaaDoor.Q
