import Derived.Test.YtffldajbnhbkkaaDoorKv2
import Derived.Deep.QuietTactic
import Derived.RegionTactic
import Derived.BigRegion
namespace Go.Proofs.YtffldajbnhbkkaaDoor.Q
open Go.RowKit
set_option linter.unusedVariables false
set_option linter.unusedSimpArgs false
set_option maxHeartbeats 2000000 in
set_option maxRecDepth 100000 in
theorem swap_cells (g c size : Nat) (W : World) (x0 x1 x2 y0 y1 y2 : Int) (i j : Nat) (hi : i < size) (hj : j < size) (hij : i ≠ j) (hsz : size < 4611686018427387904)
    (a0 : W.cell? ⟨g, i * 3, none⟩ = some (.int .i64 x0)) (a1 : W.cell? ⟨g, i * 3 + 1, none⟩ = some (.int .i64 x1)) (a2 : W.cell? ⟨g, i * 3 + 2, none⟩ = some (.int .i64 x2))
    (b0 : W.cell? ⟨g, j * 3, none⟩ = some (.int .i64 y0)) (b1 : W.cell? ⟨g, j * 3 + 1, none⟩ = some (.int .i64 y1)) (b2 : W.cell? ⟨g, j * 3 + 2, none⟩ = some (.int .i64 y2))
    (f0 : W.frozen? ⟨g, i * 3, none⟩ = false) (f1 : W.frozen? ⟨g, i * 3 + 1, none⟩ = false) (f2 : W.frozen? ⟨g, i * 3 + 2, none⟩ = false)
    (k0 : W.frozen? ⟨g, j * 3, none⟩ = false) (k1 : W.frozen? ⟨g, j * 3 + 1, none⟩ = false) (k2 : W.frozen? ⟨g, j * 3 + 2, none⟩ = false) :
    Calls Tryd.prog 92 #[.slice (some ⟨g, 0, none⟩) size c, .int .i64 i, .int .i64 j] W fun e w' => e = .returned (.tuple #[]) ∧ ∃ q, w' = ((((((W.setCell ⟨g, i * 3, none⟩ (.int .i64 y0)).setCell ⟨g, i * 3 + 1, none⟩ (.int .i64 y1)).setCell ⟨g, i * 3 + 2, none⟩ (.int .i64 y2)).setCell ⟨g, j * 3, none⟩ (.int .i64 x0)).setCell ⟨g, j * 3 + 1, none⟩ (.int .i64 x1)).setCell ⟨g, j * 3 + 2, none⟩ (.int .i64 x2)).drewN q := by
  have hu54 := Tryd.underlying54
  have hu31 := Tryd.underlying31
  have n00 : j * 3 ≠ i * 3 := by omega
  have n01 : j * 3 ≠ i * 3 + 1 := by omega
  have n02 : j * 3 ≠ i * 3 + 2 := by omega
  have n10 : j * 3 + 1 ≠ i * 3 := by omega
  have n11 : j * 3 + 1 ≠ i * 3 + 1 := by omega
  have n12 : j * 3 + 1 ≠ i * 3 + 2 := by omega
  have n20 : j * 3 + 2 ≠ i * 3 := by omega
  have n21 : j * 3 + 2 ≠ i * 3 + 1 := by omega
  have n22 : j * 3 + 2 ≠ i * 3 + 2 := by omega
  go_enter Tryd.func92, Tryd.ntmps92
  go_wp2
  go_region
  all_goals (try go_wp2)
  all_goals go_end0
  all_goals exact ⟨rfl, 1, rfl⟩
end Go.Proofs.YtffldajbnhbkkaaDoor.Q
