import Derived.Test.YtalbhllgdjgbjaaDiskB
import Derived.Laws.EntriesVeiled
import Derived.Deep.RegionWith
import Derived.IntWalk
namespace Go.Proofs.Ytalbhllgdjgbjaa.Q
open Go.RowKit Go.Proofs.YtalbhllgdjgbjaaW.PrintWords Go.Proofs.YtalbhllgdjgbjaaW.PrintLast Go.Proofs.YtalbhllgdjgbjaaW.PrintMore
set_option linter.unusedVariables false
set_option linter.unusedSimpArgs false

theorem read_bad (g : Nat) (img : ByteArray) (A : Option Addr) (c : Nat) (fs : List S40) (n at_ k : Int) (w : World)
    (hb : w.heap[g]? = some (.cells #[.string img, .slice A fs.length c, .int .i64 n] 59 (0, 0))) (hi : img.size ≤ 65552) (hk : -9223372036854775808 ≤ k)
    (hbad : k < 1 ∨ 64 < k ∨ at_ < 0 ∨ (img.size : Int) - k < at_) :
    Calls Try.prog 18 #[.pointer (some ⟨g, 0, none⟩), .int .i64 at_, .int .i64 k] w fun e w' => e = .returned (.tuple #[.string ⟨#[]⟩, .int .i64 102]) ∧ w' = w := by
  have hz0 : w.cell? ⟨g, 0, none⟩ = some (.string img) := (blk_cell hb 0).trans rfl
  have HB0 := Aside0.mk hb
  clear hb
  by_cases h1 : k < 1
  · have d1 : decide (k < 1) = true := decide_eq_true h1
    go_enter Try.func18, Try.ntmps18
    go_wp2
    go_ret2
    exact ⟨rfl, rfl⟩
  have d1 : decide (k < 1) = false := decide_eq_false h1
  by_cases h2 : 64 < k
  · have d2 : decide (64 < k) = true := decide_eq_true h2
    go_enter Try.func18, Try.ntmps18
    go_wp2
    go_ret2
    exact ⟨rfl, rfl⟩
  have d2 : decide (64 < k) = false := decide_eq_false h2
  by_cases h3 : at_ < 0
  · have d3 : decide (at_ < 0) = true := decide_eq_true h3
    go_enter Try.func18, Try.ntmps18
    go_wp2
    go_ret2
    exact ⟨rfl, rfl⟩
  have d3 : decide (at_ < 0) = false := decide_eq_false h3
  have h4 : (img.size : Int) - k < at_ := by omega
  have d4 : decide ((img.size : Int) - k < at_) = true := decide_eq_true h4
  have hw : wrap64 ((img.size : Int) - k) = (img.size : Int) - k := by unfold wrap64; omega
  go_enter Try.func18, Try.ntmps18
  go_wp2
  go_ret2
  exact ⟨rfl, rfl⟩

/-- Behind a call that may write blocks B to E alone, and lay new ones. -/
structure Only (B E : Nat) (w w' : World) : Prop where
  os : w'.os = w.os
  tape : w'.tape = w.tape
  output : w'.output = w.output
  size : w.heap.size ≤ w'.heap.size
  block : ∀ k, k < w.heap.size → ¬ (B ≤ k ∧ k < E) → w'.heap[k]? = w.heap[k]?
theorem Only.of_below {B E : Nat} {w w' : World} (h : Below w.heap.size w w') : Only B E w w' := ⟨h.os, h.tape, h.output, h.size, fun k hk _ => h.block k hk⟩
theorem Only.refl (B E : Nat) (w : World) : Only B E w w := Only.of_below (Below.refl _ _)
theorem Only.trans {B E : Nat} {a b c : World} (h : Only B E a b) (k : Only B E b c) : Only B E a c :=
  ⟨k.os.trans h.os, k.tape.trans h.tape, k.output.trans h.output, Nat.le_trans h.size k.size, fun i hi hn => (k.block i (Nat.lt_of_lt_of_le hi h.size) hn).trans (h.block i hi hn)⟩
theorem Only.alloc {B E : Nat} {w w' : World} (h : Only B E w w') (o : Obj) : Only B E w (w'.alloc o) := h.trans (Only.of_below (below_alloc (Below.refl _ _) o))
theorem Only.drew {B E : Nat} {w w' : World} (h : Only B E w w') : Only B E w w'.drew := ⟨h.os, h.tape, h.output, h.size, h.block⟩
theorem Only.set {B E : Nat} {w w' : World} (h : Only B E w w') (g : Nat) (j : Nat) (v : Value) (hg : B ≤ g) (hE : g < E) : Only B E w (w'.setCell ⟨g, j, none⟩ v) :=
  ⟨h.os, h.tape, h.output, by simpa [World.setCell] using h.size, fun k hk hn => (Below.heap_setCell w' ⟨g, j, none⟩ v k (by rintro rfl; exact hn ⟨hg, hE⟩)).trans (h.block k hk hn)⟩
theorem Only.wide {B E B' E' : Nat} {w w' : World} (h : Only B E w w') (hB : B' ≤ B) (hE : E ≤ E') : Only B' E' w w' :=
  ⟨h.os, h.tape, h.output, h.size, fun k hk hn => h.block k hk (fun hh => hn ⟨by omega, by omega⟩)⟩
theorem Only.below {B E N : Nat} {w0 w w' : World} (h : Only B E w w') (hw : Below N w0 w) (hB : N ≤ B) (hN : N ≤ w.heap.size) : Below N w0 w' :=
  ⟨h.os.trans hw.os, h.tape.trans hw.tape, h.output.trans hw.output, Nat.le_trans hw.size h.size, fun k hk => (h.block k (by omega) (by omega)).trans (hw.block k hk)⟩

end Go.Proofs.Ytalbhllgdjgbjaa.Q
