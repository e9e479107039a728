import Derived.Test.YtalbhllgdjgbjaaDiskC
namespace Go.Proofs.Ytalbhllgdjgbjaa.Q
open Go.RowKit Go.Proofs.YtalbhllgdjgbjaaW.PrintWords Go.Proofs.YtalbhllgdjgbjaaW.PrintLast Go.Proofs.YtalbhllgdjgbjaaW.PrintMore
set_option linter.unusedVariables false
set_option linter.unusedSimpArgs false

set_option maxHeartbeats 1000000 in
theorem read_fails (g : Nat) (img : ByteArray) (A : Option Addr) (c : Nat) (fs : List S40) (n at_ k : Int) (w : World)
    (hb : w.heap[g]? = some (.cells #[.string img, .slice A fs.length c, .int .i64 n] 59 (0, 0))) (hC : Kd.C k40 w A fs.length fs) (hm : fs.length ≤ 1000) (hi : img.size ≤ 65552)
    (hn0 : 0 ≤ n) (hn : n < 4611686018427387904)
    (h1 : 1 ≤ k) (h2 : k ≤ 64) (h3 : 0 ≤ at_) (h4 : at_ ≤ (img.size : Int) - k) (f0 f2 f3 : Int) (hf : atV fs n = ⟨f0, 1, f2, f3⟩) :
    Calls Try.prog 18 #[.pointer (some ⟨g, 0, none⟩), .int .i64 at_, .int .i64 k] w fun e w' => e = .returned (.tuple #[.string ⟨#[]⟩, .int .i64 100]) ∧
      w'.heap[g]? = some (.cells #[.string img, .slice A fs.length c, .int .i64 (n + 1)] 59 (0, 0)) ∧ Only g (g + 1) w w' := by
  have hz0 : w.cell? ⟨g, 0, none⟩ = some (.string img) := (blk_cell hb 0).trans rfl
  have hz2 : w.cell? ⟨g, 2, none⟩ = some (.int .i64 n) := (blk_cell hb 2).trans rfl
  have hfz := blk_frozen hb 2
  have hglt := blk_lt hb
  have HB0 := Aside0.mk hb
  have HC := Aside0.mk hC
  have HF := Lib.hid hf
  clear hb hC hf
  have d1 : decide (k < 1) = false := decide_eq_false (by omega)
  have d2 : decide (64 < k) = false := decide_eq_false (by omega)
  have d3 : decide (at_ < 0) = false := decide_eq_false (by omega)
  have d4 : decide ((img.size : Int) - k < at_) = false := decide_eq_false (by omega)
  go_enter Try.func18, Try.ntmps18
  go_wp2_with fail
  refine (at_calls g img A c fs n n _ (blk_alloc HB0.out _) (Kd.C_alloc HC.out _) hm).mono ?_
  rintro e w2 ⟨rfl, hbl⟩
  rw [HF.out, cells40]
  have hT : w2.heap[w.heap.size]? = some (.cells #[.func (.func 29) #[] #[], .func (.func 30) #[] #[], .func (.func 31) #[] #[], .func (.func 32) #[] #[]] 65 (0, 0)) := by
    rw [hbl.block _ (by simp)]; exact blk_new w _
  have hb2 : w2.heap[g]? = some (.cells #[.string img, .slice A fs.length c, .int .i64 n] 59 (0, 0)) := by
    rw [hbl.block _ (by simp; omega)]; exact blk_alloc HB0.out _
  have HO : Aside0 (Only g (g + 1) w w2) := ⟨Only.trans (Only.of_below (below_alloc (Below.refl _ _) _)) (Only.of_below hbl)⟩
  clear hbl
  have hz0 : w2.cell? ⟨g, 0, none⟩ = some (.string img) := (blk_cell hb2 0).trans rfl
  have hz2 : w2.cell? ⟨g, 2, none⟩ = some (.int .i64 n) := (blk_cell hb2 2).trans rfl
  have hfz := blk_frozen hb2 2
  have hglt2 : g < w2.heap.size := blk_lt hb2
  have hTlt : w.heap.size < w2.heap.size := blk_lt hT
  have hgn : g ≠ w.heap.size := by omega
  have ht0 : w2.cell? ⟨w.heap.size, 1, none⟩ = some (.func (.func 30) #[] #[]) := (blk_cell hT 1).trans rfl
  have HB2 := Aside0.mk hb2
  have HT := Aside0.mk hT
  clear hb2 hT
  have hw : IntKind.i64.wrap (at_ + k) = at_ + k := IntWalk.i64_in _ (by omega)
  have hw1 : 0 ≤ at_ + k := by omega
  have hw2 : at_ ≤ at_ + k := by omega
  have hw3 : at_ + k ≤ (img.size : Int) := by omega
  go_upto_region 6 with (fail)
  obtain ⟨W3, hW3⟩ : ∃ W3, W3 = (w2.setCell ⟨g, 2, none⟩ (.int .i64 (n + 1))).alloc (Obj.cells #[.int .i64 f0, .int .i64 1, .int .i64 f2, .int .i64 f3] 40) := ⟨_, rfl⟩
  rw [← hW3]
  have HG : W3.heap[g]? = some (.cells #[.string img, .slice A fs.length c, .int .i64 (n + 1)] 59 (0, 0)) := by
    rw [hW3]; exact blk_alloc (blk_put HB2.out 2 _ rfl) _
  have HT3 : W3.heap[w.heap.size]? = some (.cells #[.func (.func 29) #[] #[], .func (.func 30) #[] #[], .func (.func 31) #[] #[], .func (.func 32) #[] #[]] 65 (0, 0)) := by
    rw [hW3]; exact blk_alloc (blk_far HT.out hgn.symm _) _
  have HF3 : W3.heap[w2.heap.size]? = some (.cells #[.int .i64 f0, .int .i64 1, .int .i64 f2, .int .i64 f3] 40 (0, 0)) := by
    rw [hW3]; simpa using blk_new (w2.setCell ⟨g, 2, none⟩ (.int .i64 (n + 1))) (Obj.cells #[.int .i64 f0, .int .i64 1, .int .i64 f2, .int .i64 f3] 40)
  have HO3 : Aside0 (Only g (g + 1) w W3) := ⟨by rw [hW3]; exact Only.alloc (Only.set HO.out g 2 _ (Nat.le_refl _) (by omega)) _⟩
  clear hW3 HO hz0 hz2 hfz ht0
  have e0 : W3.cell? ⟨g, 0, none⟩ = some (.string img) := (blk_cell HG 0).trans rfl
  have e1 : W3.cell? ⟨w.heap.size, 1, none⟩ = some (.func (.func 30) #[] #[]) := (blk_cell HT3 1).trans rfl
  have k0 : W3.cell? ⟨w2.heap.size, 0, none⟩ = some (.int .i64 f0) := (blk_cell HF3 0).trans rfl
  have k1 : W3.cell? ⟨w2.heap.size, 1, none⟩ = some (.int .i64 1) := (blk_cell HF3 1).trans rfl
  have k2 : W3.cell? ⟨w2.heap.size, 2, none⟩ = some (.int .i64 f2) := (blk_cell HF3 2).trans rfl
  have k3 : W3.cell? ⟨w2.heap.size, 3, none⟩ = some (.int .i64 f3) := (blk_cell HF3 3).trans rfl
  have HG' := Aside0.mk HG
  clear HG HT3 HF3
  go_region_held3 (fun w' => w'.cell? ⟨g, 0, none⟩ = some (.string img) ∧ w'.cell? ⟨w.heap.size, 1, none⟩ = some (.func (.func 30) #[] #[]) ∧ w'.cell? ⟨w2.heap.size, 0, none⟩ = some (.int .i64 f0) ∧ w'.cell? ⟨w2.heap.size, 1, none⟩ = some (.int .i64 1) ∧ w'.cell? ⟨w2.heap.size, 2, none⟩ = some (.int .i64 f2) ∧ w'.cell? ⟨w2.heap.size, 3, none⟩ = some (.int .i64 f3)) (first | go_keep | exact ⟨pw_cell_below ‹Below _ _ _› (by first | assumption | (simp; assumption)), pw_cell_below ‹Below _ _ _› (by first | assumption | (simp; assumption)), pw_cell_below ‹Below _ _ _› (by first | assumption | (simp; assumption)), pw_cell_below ‹Below _ _ _› (by first | assumption | (simp; assumption)), pw_cell_below ‹Below _ _ _› (by first | assumption | (simp; assumption)), pw_cell_below ‹Below _ _ _› (by first | assumption | (simp; assumption))⟩)
    (first | (go_at_call 30; refine (fails_calls _ ⟨f0, 1, f2, f3⟩ _ _).mono ?_; rintro e w4 ⟨rfl, hb4⟩))
  have hgW : g < W3.heap.size := blk_lt HG'.out
  go_wp2
  go_ret2
  exact ⟨rfl, (hb4.block g hgW).trans HG'.out, Only.trans (Only.drew HO3.out) (Only.of_below hb4)⟩
end Go.Proofs.Ytalbhllgdjgbjaa.Q
