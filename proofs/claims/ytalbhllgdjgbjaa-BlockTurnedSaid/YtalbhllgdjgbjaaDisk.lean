import Derived.Test.YtalbhllgdjgbjaaQ0
import Derived.Lib.Hide
namespace Go.Proofs.Ytalbhllgdjgbjaa.Q
open Go.RowKit Go.Proofs.YtalbhllgdjgbjaaW.PrintWords Go.Proofs.YtalbhllgdjgbjaaW.PrintLast Go.Proofs.YtalbhllgdjgbjaaW.PrintMore
set_option linter.unusedVariables false
set_option linter.unusedSimpArgs false

/-! ### Disks -/
/-- The fault of a read, if there is one. -/
def atF (fs : List S40) (a : Int) : Option S40 := fs.find? fun f => f.f0 == a
def atV (fs : List S40) (a : Int) : S40 := (atF fs a).getD z40
def cells40 (f : S40) : Array Value := #[.int .i64 f.f0, .int .i64 f.f1, .int .i64 f.f2, .int .i64 f.f3]

theorem atF_none_take {fs : List S40} {a : Int} (h : ∀ j, j < fs.length → (rd_T40 fs (j : Int)).f0 ≠ a) : atF fs a = none := by
  unfold atF
  rw [List.find?_eq_none]
  intro x hx
  obtain ⟨j, hj, rfl⟩ := List.getElem_of_mem hx
  have := h j hj
  simpa [rd_T40, List.getD_eq_getElem?_getD, List.getElem?_eq_getElem hj] using this

theorem atF_some {fs : List S40} {a : Int} {k : Nat} (hk : k < fs.length) (h : ∀ j, j < k → (rd_T40 fs (j : Int)).f0 ≠ a) (he : (rd_T40 fs (k : Int)).f0 = a) : atF fs a = some (rd_T40 fs (k : Int)) := by
  unfold atF
  rw [List.find?_eq_some_iff_getElem]
  refine ⟨by simpa using he, k, hk, by simp [rd_T40, List.getD_eq_getElem?_getD, List.getElem?_eq_getElem hk], fun j hj => ?_⟩
  have := h j hj
  simpa [rd_T40, List.getD_eq_getElem?_getD, List.getElem?_eq_getElem (show j < fs.length by omega)] using this

theorem put40 {W : World} {g : Nat} {x0 x1 x2 x3 : Value} (h : W.heap[g]? = some (.cells #[x0, x1, x2, x3] 40 (0, 0))) (f : S40) :
    ((((W.setCell ⟨g, 0, none⟩ (.int .i64 f.f0)).setCell ⟨g, 1, none⟩ (.int .i64 f.f1)).setCell ⟨g, 2, none⟩ (.int .i64 f.f2)).setCell ⟨g, 3, none⟩ (.int .i64 f.f3)).heap[g]? = some (.cells (cells40 f) 40 (0, 0)) :=
  blk_put (blk_put (blk_put (blk_put h 0 _ rfl) 1 _ rfl) 2 _ rfl) 3 _ rfl
theorem below4' {w W : World} {u0 u1 u2 u3 : Value} (h : Below w.heap.size w W) :
    Below w.heap.size w ((((W.setCell ⟨w.heap.size, 0, none⟩ u0).setCell ⟨w.heap.size, 1, none⟩ u1).setCell ⟨w.heap.size, 2, none⟩ u2).setCell ⟨w.heap.size, 3, none⟩ u3) :=
  below_set (below_set (below_set (below_set h (Nat.le_refl _)) (Nat.le_refl _)) (Nat.le_refl _)) (Nat.le_refl _)
theorem below4 {w W : World} {u0 u1 u2 u3 : Value} (h : Below w.heap.size w W) (o : Obj) :
    Below w.heap.size w (((((W.setCell ⟨w.heap.size, 0, none⟩ u0).setCell ⟨w.heap.size, 1, none⟩ u1).setCell ⟨w.heap.size, 2, none⟩ u2).setCell ⟨w.heap.size, 3, none⟩ u3).alloc o) :=
  below_alloc (below4' h) o

set_option maxHeartbeats 1000000 in
set_option maxRecDepth 100000 in
theorem at_calls (g : Nat) (img : ByteArray) (A : Option Addr) (c : Nat) (fs : List S40) (n a : Int) (w : World)
    (hb : w.heap[g]? = some (.cells #[.string img, .slice A fs.length c, .int .i64 n] 59 (0, 0))) (hC : Kd.C k40 w A fs.length fs) (hm : fs.length ≤ 1000) :
    Calls Try.prog 27 #[.pointer (some ⟨g, 0, none⟩), .int .i64 a] w fun e w' =>
      e = .returned (.tuple #[.agg (cells40 (atV fs a)), .bool (atF fs a).isSome]) ∧ Below w.heap.size w w' := by
  have hu40 := Try.underlying40
  have hz1 : w.cell? ⟨g, 1, none⟩ = some (.slice A fs.length c) := (blk_cell hb 1).trans rfl
  have hglt : g < w.heap.size := blk_lt hb
  have HB0 := Aside0.mk hb
  clear hb
  have HC := Aside0.mk hC
  clear hC
  go_enter Try.func27, Try.ntmps27
  go_wp2
  go_outline
  go_loopw [13] (fun i wr => ∃ k : Nat, k ≤ fs.length ∧ i = .int .i64 k ∧ Aside0 (∀ j, j < k → (rd_T40 fs (j : Int)).f0 ≠ a) ∧ Aside0 (Below w.heap.size w wr) ∧ Aside0 (wr.heap[w.heap.size]? = some (.cells #[.int .i64 0, .int .i64 0, .int .i64 0, .int .i64 0] 40 (0, 0)))) (fun i _ => fs.length - (intOf i).toNat)
  case atStart => exact ⟨0, Nat.zero_le _, rfl, ⟨fun j hj => absurd hj (by omega)⟩, ⟨(Below.refl _ _).alloc (Nat.le_refl _) _⟩, ⟨by simpa using heap_alloc_new w _⟩⟩
  case round =>
    clear hz1
    obtain ⟨k, hk, rfl, HN, HB, HR⟩ := hrel
    have hsz : w.heap.size < wr.heap.size := blk_lt HR.out
    have hr0 : wr.cell? ⟨w.heap.size, 0, none⟩ = some (.int .i64 0) := (blk_cell HR.out 0).trans rfl
    have hr1 : wr.cell? ⟨w.heap.size, 1, none⟩ = some (.int .i64 0) := (blk_cell HR.out 1).trans rfl
    have hr2 : wr.cell? ⟨w.heap.size, 2, none⟩ = some (.int .i64 0) := (blk_cell HR.out 2).trans rfl
    have hr3 : wr.cell? ⟨w.heap.size, 3, none⟩ = some (.int .i64 0) := (blk_cell HR.out 3).trans rfl
    have hf0 := blk_frozen HR.out 0
    have hf1 := blk_frozen HR.out 1
    have hf2 := blk_frozen HR.out 2
    have hf3 := blk_frozen HR.out 3
    by_cases hlt : k < fs.length
    · obtain ⟨ad, eA, hx0, hx1, hx2, hx3⟩ := at_T40 HC.out (k : Int) (by omega) (by omega)
      subst eA
      replace hx0 := pw_cell_below HB.out hx0
      replace hx1 := pw_cell_below HB.out hx1
      replace hx2 := pw_cell_below HB.out hx2
      replace hx3 := pw_cell_below HB.out hx3
      simp only [Int.toNat_natCast] at hx0 hx1 hx2 hx3
      by_cases he : (rd_T40 fs (k : Int)).f0 = a
      · have hb0 : ((rd_T40 fs (k : Int)).f0 == a) = true := beq_iff_eq.2 he
        have HE := Lib.hid he; clear he
        go_wp2
        refine bodyPost_ret (results_ct rfl _ _ w.heap.size 40 (cells40 (rd_T40 fs (k : Int))) (0, 0) _ rfl (by
          (with_reducible repeat (first | refine blk_drewN ?_ _ | refine blk_drew ?_ | refine blk_alloc ?_ _))
          exact put40 HR.out _) Try.underlying40 rfl (by kernel_rfl)) rfl ?_
        refine ⟨?_, ?_⟩
        · rw [atV, atF_some hlt HN.out HE.out]; rfl
        · exact below4 HB.out _
      · have hb0 : ((rd_T40 fs (k : Int)).f0 == a) = false := beq_eq_false_iff_ne.2 he
        have HE := Lib.hid he; clear he
        go_wp2
        go_roundw
        case rel => exact ⟨k + 1, by omega, by go_num, ⟨fun j hj => (Nat.lt_succ_iff_lt_or_eq.1 hj).elim (HN.out j) (fun h => h ▸ HE.out)⟩, ⟨below_alloc HB.out _⟩, ⟨blk_alloc HR.out _⟩⟩
        case measure => simp [intOf]; omega
    · have hN : atF fs a = none := atF_none_take fun j hj => HN.out j (by omega)
      have HN2 := Aside0.mk hN
      clear hN
      go_wp2
      refine bodyPost_ret (results_ct rfl _ _ w.heap.size 40 (cells40 z40) (0, 0) _ rfl (by
        (with_reducible repeat (first | refine blk_drewN ?_ _ | refine blk_drew ?_ | refine blk_alloc ?_ _))
        exact put40 HR.out z40) Try.underlying40 rfl (by kernel_rfl)) rfl ?_
      refine ⟨?_, ?_⟩
      · rw [atV, HN2.out]; rfl
      · exact below4' HB.out
end Go.Proofs.Ytalbhllgdjgbjaa.Q
