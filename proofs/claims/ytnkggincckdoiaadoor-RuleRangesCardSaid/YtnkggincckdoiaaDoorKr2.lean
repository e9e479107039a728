import Derived.Test.YtnkggincckdoiaaDoorKr1
import Derived.WalkLawsBesides
namespace Go.Proofs.YtnkggincckdoiaaDoor.Q
open Go.RowKit Go.Proofs.YtnkggincckdoiaaDoorW.PrintWords Go.Proofs.YtnkggincckdoiaaDoorW.PrintLast Go.Proofs.YtnkggincckdoiaaDoorW.PrintMore
set_option linter.unusedVariables false
set_option linter.unusedSimpArgs false
/-- What a text that is none gives up with. -/
def wrongP : List PanicEntry := [{ v := .iface 71 (.agg #[]), recovered := false }]
/-- The reader in memory: its parts are left, and one that is empty behind them. -/
structure RS (W0 w : World) (r : Nat) (ts : List ByteArray) : Prop where
  base : Below W0.heap.size W0 w
  hr : W0.heap.size ≤ r
  ne : ∀ t ∈ ts, t ≠ ByteArray.empty ∧ t.size ≤ 1000000
  len : ts.length < 1000000000
  mem : ∃ (b o c : Nat), b ≠ r ∧ ts.length + 1 ≤ c ∧ w.heap[r]? = some (.cells #[.slice (some ⟨b, o, none⟩) (ts.length + 1) c] 60 (0, 0)) ∧
    ∀ j, j ≤ ts.length → w.cell? ⟨b, o + j, none⟩ = some (.string ((ts ++ [ByteArray.empty]).getD j ByteArray.empty))
/-- Whatever lay lies as_ it lay, but for the reader. -/
structure Rb (r : Nat) (w w' : World) : Prop where
  os : w'.os = w.os
  tape : w'.tape = w.tape
  output : w'.output = w.output
  size : w.heap.size ≤ w'.heap.size
  block : ∀ k, k < w.heap.size → k ≠ r → w'.heap[k]? = w.heap[k]?
theorem Rb.refl (r : Nat) (w : World) : Rb r w w := ⟨rfl, rfl, rfl, Nat.le_refl _, fun _ _ _ => rfl⟩
theorem Rb.trans {r : Nat} {a b c : World} (h : Rb r a b) (k : Rb r b c) : Rb r a c :=
  ⟨k.os.trans h.os, k.tape.trans h.tape, k.output.trans h.output, Nat.le_trans h.size k.size, fun i hi hn => (k.block i (Nat.lt_of_lt_of_le hi h.size) hn).trans (h.block i hi hn)⟩
theorem Rb.of_below {r : Nat} {w w' : World} (h : Below w.heap.size w w') : Rb r w w' := ⟨h.os, h.tape, h.output, h.size, fun k hk _ => h.block k hk⟩
theorem Rb.set {r j : Nat} {w : World} {v : Value} : Rb r w (w.setCell ⟨r, j, none⟩ v) := ⟨rfl, rfl, rfl, by simp, fun k _ hn => Below.heap_setCell _ ⟨r, j, none⟩ _ _ hn⟩
theorem Rb.base {W0 w w' : World} {r : Nat} (h : Rb r w w') (hr : W0.heap.size ≤ r) (hb : Below W0.heap.size W0 w) : Below W0.heap.size W0 w' :=
  hb.trans ⟨h.os, h.tape, h.output, h.size, fun k hk => h.block k (Nat.lt_of_lt_of_le hk hb.size) (by omega)⟩
theorem Rb.cell {w w' : World} {r : Nat} (h : Rb r w w') {a : Addr} {v : Value} (hc : w.cell? a = some v) (hn : a.block ≠ r) : w'.cell? a = some v :=
  (World.cell?_of_block (w := w) (h.block a.block (World.block_lt_of_cell? w a hc) hn)).trans hc
theorem RS.hd {W0 w : World} {r : Nat} {ts : List ByteArray} (h : RS W0 w r ts) : (ts.headD ByteArray.empty).size ≤ 1000000 := by
  cases ts with
  | nil => exact Nat.zero_le _
  | cons t ts => exact (h.ne t (List.mem_cons_self ..)).2
theorem RS.below {W0 w w' : World} {r : Nat} {ts : List ByteArray} (h : RS W0 w r ts) (hb : Below w.heap.size w w') : RS W0 w' r ts := by
  obtain ⟨b, o, c, h1, h2, h3, h4⟩ := h.mem
  refine ⟨below_step h.base hb, h.hr, h.ne, h.len, b, o, c, h1, h2, (hb.block _ (Array.getElem?_eq_some_iff.1 h3).1).trans h3, fun j hj => ?_⟩
  exact (hb.cell (World.block_lt_of_cell? w _ (h4 j hj))).trans (h4 j hj)
/-- How a reader's function ends: with a value, its parts left; or it gives up. -/
def PostR (W0 w : World) (r : Nat) (o : Option (Value × List ByteArray)) (e : Ending) (w' : World) : Prop :=
  match o with
  | some (v, ts') => e = .returned v ∧ RS W0 w' r ts' ∧ Rb r w w'
  | none => e = .panicked wrongP ∧ Below W0.heap.size W0 w'
set_option maxHeartbeats 1000000 in
theorem must_in (b : Bool) (w : World) : Calls Tryd.prog 28 #[.bool b] w fun e w' => e = (if b then .returned (.tuple #[]) else .panicked wrongP) ∧ w' = w := by
  cases b
  · go_enter Tryd.func28, Tryd.ntmps28
    go_wp2
    trace_state
    exact ⟨rfl, rfl, rfl⟩
  · go_enter Tryd.func28, Tryd.ntmps28
    go_wp2
    go_end0
    exact ⟨rfl, rfl⟩
end Go.Proofs.YtnkggincckdoiaaDoor.Q
