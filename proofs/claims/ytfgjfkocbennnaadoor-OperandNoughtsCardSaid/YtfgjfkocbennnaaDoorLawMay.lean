import Derived.Test.YtfgjfkocbennnaaDoorL54
import Derived.Test.YtfgjfkocbennnaaDoorOpsl
import Derived.Test.YtfgjfkocbennnaaDoorOpenS
namespace Go.Proofs.YtfgjfkocbennnaaDoor.Q
open Go.RowKit Go.Proofs.YtfgjfkocbennnaaDoorW.PrintWords Go.ChangeShapes Go.WideShapes
set_option linter.unusedVariables false
set_option linter.unusedSimpArgs false
theorem fits_of' {a b : ByteArray} {e : Int} (ha : a.size ≤ 140737488351232) (hb : b.size ≤ 140737488351232) (he : -9223372036854775808 ≤ e ∧ e ≤ 9223372036854775807) : fits a b e = true := by
  unfold fits
  rw [decide_eq_true (show a.size ≤ 140737488355328 by omega), decide_eq_true (show b.size ≤ 140737488355328 by omega), decide_eq_true he.1, decide_eq_true he.2]; rfl
theorem aheadL_le (l : List UInt8) : (aheadL l).length ≤ l.length + 1 := by
  rw [aheadL_eq]
  split
  · simp
  · have := leadL_le l; omega
/-- Operands that came in. -/
theorem open_s25 {H : Type} {enc : TypeId × Value → H} {W : World} {base : Nat} {spare : Nat → Bool} {held : Bool} {cs : Array Value} {x : DataW H} {ps : List MemPlace}
    (h : DataW.Trod enc Tryd.prog W base spare held 25 (.agg cs) x ps) : ∃ (i : ByteArray) (v u : Int) (f t : ByteArray) (e : Int),
      cs = #[.string i, .int .i64 v, .int .i64 u, .string f, .string t, .int .i64 e] ∧ x = .agg [.lit (.string i.data.toList), .lit (.int .i64 v), .lit (.int .i64 u), .lit (.string f.data.toList), .lit (.string t.data.toList), .lit (.int .i64 e)] := by
  obtain ⟨fuel, hf⟩ := h
  obtain ⟨xs, n, _, ex, hlen, hxl, hel⟩ := DataW.trod_struct Tryd.underlying25 hf
  have hc3 : Tryd.prog.cellsOf 3 = 1 := by kernel_rfl
  have hc9 : Tryd.prog.cellsOf 9 = 1 := by kernel_rfl
  have hc25 : Tryd.prog.cellsOf 25 = 6 := by kernel_rfl
  obtain ⟨x0, x1, x2, x3, x4, x5, rfl⟩ : ∃ x0 x1 x2 x3 x4 x5, xs = [x0, x1, x2, x3, x4, x5] := by
    match xs, hxl with
    | [a, b, c, d, e, f], _ => exact ⟨a, b, c, d, e, f, rfl⟩
  have e0 : DataW.trod enc Tryd.prog W base spare held n 9 ((cs.toList.drop 0).take (Tryd.prog.cellsOf 9)) = some x0 := hel 0 _ rfl
  have e1 : DataW.trod enc Tryd.prog W base spare held n 3 ((cs.toList.drop 1).take (Tryd.prog.cellsOf 3)) = some x1 := hel 1 _ rfl
  have e2 : DataW.trod enc Tryd.prog W base spare held n 3 ((cs.toList.drop 2).take (Tryd.prog.cellsOf 3)) = some x2 := hel 2 _ rfl
  have e3 : DataW.trod enc Tryd.prog W base spare held n 9 ((cs.toList.drop 3).take (Tryd.prog.cellsOf 9)) = some x3 := hel 3 _ rfl
  have e4 : DataW.trod enc Tryd.prog W base spare held n 9 ((cs.toList.drop 4).take (Tryd.prog.cellsOf 9)) = some x4 := hel 4 _ rfl
  have e5 : DataW.trod enc Tryd.prog W base spare held n 3 ((cs.toList.drop 5).take (Tryd.prog.cellsOf 3)) = some x5 := hel 5 _ rfl
  rw [hc9] at e0 e3 e4
  rw [hc3] at e1 e2 e5
  obtain ⟨i, k0, rfl, _⟩ := DataW.trod_string Tryd.underlying9 e0
  obtain ⟨v, k1, rfl, _⟩ := DataW.trod_int Tryd.underlying3 e1
  obtain ⟨u, k2, rfl, _⟩ := DataW.trod_int Tryd.underlying3 e2
  obtain ⟨f, k3, rfl, _⟩ := DataW.trod_string Tryd.underlying9 e3
  obtain ⟨t, k4, rfl, _⟩ := DataW.trod_string Tryd.underlying9 e4
  obtain ⟨e, k5, rfl, _⟩ := DataW.trod_int Tryd.underlying3 e5
  refine ⟨i, v, u, f, t, e, ?_, ?_⟩
  · have hl6 : cs.toList.length = 6 := by simpa [Value.cells, hc25] using hlen
    apply Array.ext'
    match hcs : cs.toList, hl6 with
    | [y0, y1, y2, y3, y4, y5], _ =>
      rw [hcs] at k0 k1 k2 k3 k4 k5
      simp at k0 k1 k2 k3 k4 k5
      rw [k0, k1, k2, k3, k4, k5]
  · have := (Prod.mk.inj ex).1
    simpa using this
theorem opMay_told {a b : ByteArray} {e : Int} {n p : Bool} (hm : mayR 0 n a b e = true) : opMay.f (okOps a.data.toList b.data.toList (expP e p)).1 (okOps a.data.toList b.data.toList (expP e p)).2.1 (okOps a.data.toList b.data.toList (expP e p)).2.2.1 (okOps a.data.toList b.data.toList (expP e p)).2.2.2.1 (okOps a.data.toList b.data.toList (expP e p)).2.2.2.2.1 (okOps a.data.toList b.data.toList (expP e p)).2.2.2.2.2.1 = some true := by
  obtain ⟨s1, s2, s3, s4, s5, s6, s7⟩ := may_size hm
  have he : expP e p ≤ 2001 := by unfold expP; split <;> omega
  have hla : a.data.toList.length ≤ 4096 := by rw [slen]; exact s1
  have hlb : b.data.toList.length ≤ 4096 := by rw [slen]; exact s2
  have key := told_may hla hlb he s5 s6
  unfold opMay.f
  generalize expP e p = m at *
  generalize a.data.toList = la at *
  generalize b.data.toList = lb at *
  have z1 : (okOps la lb m).1.size ≤ 140737488355328 := by
    show (mkS (aheadL (wholeL la lb m))).size ≤ _
    have h1 := aheadL_le (wholeL la lb m)
    have h2 : (wholeL la lb m).length ≤ 20000 := by unfold wholeL; simp only [List.length_append, List.length_take, List.length_replicate]; omega
    rw [mkS_size]; omega
  have z2 : (okOps la lb m).2.2.2.1.size ≤ 140737488355328 := by
    show (mkS (aheadL (lb.drop m))).size ≤ _
    have h1 := aheadL_le (lb.drop m)
    rw [List.length_drop] at h1
    rw [mkS_size]; omega
  have z3 : (okOps la lb m).2.2.2.2.1.size ≤ 140737488355328 := by
    show (mkS (aheadL (bareL (lb.drop m)))).size ≤ _
    have h1 := aheadL_le (bareL (lb.drop m))
    have h2 := bareL_le (lb.drop m)
    rw [List.length_drop] at h2
    rw [mkS_size]; omega
  rw [if_pos z1, if_pos z2, if_pos z3, key]
theorem may_row (W : World) (i : ByteArray) (v u : Int) (f t : ByteArray) (e1 : Int) (hi : i.size ≤ 140737488351232) (hf : f.size ≤ 140737488351232) (ht : t.size ≤ 140737488351232)
    (c : Int) (n : Bool) (a b : ByteArray) (e : Int) (p : Bool) (he : -9223372036854775808 ≤ e ∧ e ≤ 9223372036854775807) (ha : a.size ≤ 140737488351232) (hb : b.size ≤ 140737488351232) :
    Calls Tryd.prog 4 #[.agg #[.string i, .int .i64 v, .int .i64 u, .string f, .string t, .int .i64 e1], .agg #[.int .i64 c, .bool n, .string a, .string b, .int .i64 e, .bool p]] W fun e' w' => e' = .returned (.bool true) ∧ Below W.heap.size W w' := by
  refine L.quipulaw08_OperandMay.calls i v u f t e1 c n a b e p true W ?_
  have h1 : opMay.f i v u f t e1 = some (mayO i v u f t e1) := by
    unfold opMay.f; rw [if_pos (by omega), if_pos (by omega), if_pos (by omega)]
  have h2 : quipuref08_May.f i v u f t e1 = some (mayO i v u f t e1) := by
    unfold quipuref08_May.f; rw [if_pos (by omega), if_pos (by omega), if_pos (by omega)]
  have h3 : opOf.f c n a b e p = some (ofP c n a b e p) := if_pos (fits_of' ha hb he)
  unfold L.quipulaw08_OperandMay.f quipulaw08_awake.f
  rw [h3, h1, h2]
  simp only [Option.bind_some, if_true, beq_self_eq_true]
  unfold ofP
  by_cases hg : mayR c n a b e = true ∧ c = 0 ∧ ¬ (p = true ∧ e < 0)
  · rw [if_pos hg]
    obtain ⟨g1, rfl, g3⟩ := hg
    rw [if_pos (show (okOps a.data.toList b.data.toList (expP e p)).2.2.2.2.2.2 = 0 from rfl), opMay_told g1]
    rfl
  · rw [if_neg hg]; rfl
end Go.Proofs.YtfgjfkocbennnaaDoor.Q
