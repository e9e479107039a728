import Derived.Test.YtfgjfkocbennnaaDoorMayp
namespace Go.Proofs.YtfgjfkocbennnaaDoor.Q
open Go.RowKit Go.Proofs.YtfgjfkocbennnaaDoorW.PrintWords Go.Proofs.YtfgjfkocbennnaaDoorW.PrintMore
set_option linter.unusedVariables false
set_option linter.unusedSimpArgs false
theorem eqA25 (d : Nat) (w : World) (x0 y0 : ByteArray) (x1 y1 x2 y2 : Int) (x3 y3 x4 y4 : ByteArray) (x5 y5 : Int) :
    (Op.equalIn (d + 2) 25 (.agg #[.string x0, .int .i64 x1, .int .i64 x2, .string x3, .string x4, .int .i64 x5]) (.agg #[.string y0, .int .i64 y1, .int .i64 y2, .string y3, .string y4, .int .i64 y5])).run Tryd.prog w = .ok (x0.toList == y0.toList && (x1 == y1 && (x2 == y2 && (x3.toList == y3.toList && (x4.toList == y4.toList && (x5 == y5)))))) w := by
  refine eqA_of Tryd.underlying25 (by kernel_rfl) ?_
  refine eqf_cons (by rfl) (by go_simp; rfl) (by go_simp; rfl) (by go_simp) ?_
  refine eqf_cons (by rfl) (by go_simp; rfl) (by go_simp; rfl) (by go_simp) ?_
  refine eqf_cons (by rfl) (by go_simp; rfl) (by go_simp; rfl) (by go_simp) ?_
  refine eqf_cons (by rfl) (by go_simp; rfl) (by go_simp; rfl) (by go_simp) ?_
  refine eqf_cons (by rfl) (by go_simp; rfl) (by go_simp; rfl) (by go_simp) ?_
  exact eqf_last (by rfl) (by go_simp; rfl) (by go_simp; rfl) (by go_simp)
theorem aw1 : operand_Of.f 2 0 false ⟨#[48, 49]⟩ ⟨#[50, 51, 48]⟩ 0 false = some (⟨#[49]⟩, 3, 2, ⟨#[50, 51, 48]⟩, ⟨#[50, 51]⟩, 0, 0) := by
  rw [Of_p _ _ _ _ _ _ (by decide) (by decide) (by decide) 2 (by decide)]; rfl
theorem aw2 : operand_Of.f 2 0 false ⟨#[49]⟩ ⟨#[50]⟩ 6 true = some (⟨#[49, 50, 48, 48, 48, 48, 48]⟩, 0, 0, ⟨#[48]⟩, ⟨#[48]⟩, 6, 0) := by
  rw [Of_p _ _ _ _ _ _ (by decide) (by decide) (by decide) 2 (by decide)]; rfl
theorem aw3 : operand_Of.f 2 0 false ⟨#[]⟩ ⟨#[]⟩ 0 false = some (⟨#[]⟩, 0, 0, ⟨#[]⟩, ⟨#[]⟩, 0, 80) := by
  rw [Of_p _ _ _ _ _ _ (by decide) (by decide) (by decide) 2 (by decide)]; rfl
theorem aw4 : operand_May.f 2 ⟨#[49]⟩ 3 2 ⟨#[50, 51, 48]⟩ ⟨#[50, 51]⟩ 0 = some true := by
  rw [OMay_p _ _ _ _ _ _ (by decide) (by decide) (by decide) 2 (by decide)]
  unfold mayO lastO
  simp only [toList_data]
  rfl
theorem aw5 : operand_May.f 2 ⟨#[]⟩ 0 0 ⟨#[]⟩ ⟨#[]⟩ 0 = some false := by
  rw [OMay_p _ _ _ _ _ _ (by decide) (by decide) (by decide) 2 (by decide)]
  unfold mayO lastO
  simp only [toList_data]
  rfl
attribute [local go_sem high] eqA25
def quipulaw08_awake.f : Option Bool := some true
theorem blk25 {W W' : World} {cs : Array Value} (hb : Below (W.alloc (.cells cs 25)).heap.size (W.alloc (.cells cs 25)) W') : W'.heap[W.heap.size]? = some (.cells cs 25 (0, 0)) := by
  rw [hb.block _ (by simp)]; exact blk_new W _
set_option maxHeartbeats 2000000 in
set_option maxRecDepth 100000 in
theorem awake_calls (w : World) : Calls Tryd.prog 9 #[] w fun e w' => e = .returned (.bool true) ∧ Below w.heap.size w w' := by
  have hu23 := Tryd.underlying23
  have hu25 := Tryd.underlying25
  go_enter Tryd.func9, Tryd.ntmps9
  go_wp2_with fail
  refine (operand_Of.calls 2 0 false ⟨#[48, 49]⟩ ⟨#[50, 51, 48]⟩ 0 false ⟨#[49]⟩ 3 2 ⟨#[50, 51, 48]⟩ ⟨#[50, 51]⟩ 0 0 _ aw1).mono ?_
  rintro e w1 ⟨rfl, hb1⟩
  have HB1 := Aside0.mk hb1
  clear hb1
  go_wp2_with fail
  refine (operand_Of.calls 2 0 false ⟨#[49]⟩ ⟨#[50]⟩ 6 true ⟨#[49, 50, 48, 48, 48, 48, 48]⟩ 0 0 ⟨#[48]⟩ ⟨#[48]⟩ 6 0 _ aw2).mono ?_
  rintro e w2 ⟨rfl, hb2⟩
  have K1 := Aside0.mk (blk25 hb2)
  have HB2 := Aside0.mk (below_step (below_alloc HB1.out _) hb2)
  clear hb2 HB1
  go_wp2_with fail
  refine (operand_Of.calls 2 0 false ⟨#[]⟩ ⟨#[]⟩ 0 false ⟨#[]⟩ 0 0 ⟨#[]⟩ ⟨#[]⟩ 0 80 _ aw3).mono ?_
  rintro e w3 ⟨rfl, hb3⟩
  have K2 := Aside0.mk (blk25 hb3)
  have hs2 := blk_lt K1.out
  have hs3 := hb3.size
  simp at hs3
  have K1' : Aside0 (w3.heap[w1.heap.size]? = some (.cells #[.string ⟨#[49]⟩, .int .i64 3, .int .i64 2, .string ⟨#[50, 51, 48]⟩, .string ⟨#[50, 51]⟩, .int .i64 0] 25 (0, 0))) := ⟨by rw [hb3.block _ (by simp; omega)]; exact blk_alloc K1.out _⟩
  have HB3 := Aside0.mk (below_step (below_alloc HB2.out _) hb3)
  clear hb3 HB2 K1
  have l1 : w1.heap.size < w3.heap.size := blk_lt K1'.out
  have l2 : w2.heap.size < w3.heap.size := blk_lt K2.out
  have c0 : w3.cell? ⟨w1.heap.size, 0, none⟩ = some (.string ⟨#[49]⟩) := (blk_cell K1'.out 0).trans rfl
  have c1 : w3.cell? ⟨w1.heap.size, 1, none⟩ = some (.int .i64 3) := (blk_cell K1'.out 1).trans rfl
  have c2 : w3.cell? ⟨w1.heap.size, 2, none⟩ = some (.int .i64 2) := (blk_cell K1'.out 2).trans rfl
  have c3 : w3.cell? ⟨w1.heap.size, 3, none⟩ = some (.string ⟨#[50, 51, 48]⟩) := (blk_cell K1'.out 3).trans rfl
  have c4 : w3.cell? ⟨w1.heap.size, 4, none⟩ = some (.string ⟨#[50, 51]⟩) := (blk_cell K1'.out 4).trans rfl
  have c5 : w3.cell? ⟨w1.heap.size, 5, none⟩ = some (.int .i64 0) := (blk_cell K1'.out 5).trans rfl
  have d0 : w3.cell? ⟨w2.heap.size, 0, none⟩ = some (.string ⟨#[49, 50, 48, 48, 48, 48, 48]⟩) := (blk_cell K2.out 0).trans rfl
  have d1 : w3.cell? ⟨w2.heap.size, 1, none⟩ = some (.int .i64 0) := (blk_cell K2.out 1).trans rfl
  have d2 : w3.cell? ⟨w2.heap.size, 2, none⟩ = some (.int .i64 0) := (blk_cell K2.out 2).trans rfl
  have d3 : w3.cell? ⟨w2.heap.size, 3, none⟩ = some (.string ⟨#[48]⟩) := (blk_cell K2.out 3).trans rfl
  have d4 : w3.cell? ⟨w2.heap.size, 4, none⟩ = some (.string ⟨#[48]⟩) := (blk_cell K2.out 4).trans rfl
  have d5 : w3.cell? ⟨w2.heap.size, 5, none⟩ = some (.int .i64 6) := (blk_cell K2.out 5).trans rfl
  go_wp2_with fail
  refine (operand_May.calls 2 ⟨#[49]⟩ 3 2 ⟨#[50, 51, 48]⟩ ⟨#[50, 51]⟩ 0 true _ aw4).mono ?_
  rintro e w4 ⟨rfl, hb4⟩
  have HB4 := Aside0.mk (below_step (below_alloc (below_alloc HB3.out _) _) hb4)
  clear hb4
  go_wp2_with fail
  refine (operand_May.calls 2 ⟨#[]⟩ 0 0 ⟨#[]⟩ ⟨#[]⟩ 0 false _ aw5).mono ?_
  rintro e w5 ⟨rfl, hb5⟩
  go_wp2
  go_ret
  exact ⟨rfl, below_step HB4.out hb5⟩
theorem quipulaw08_awake.calls (r : Bool) (w : World) (h : quipulaw08_awake.f = some r) : Calls Tryd.prog 9 #[] w fun e w' => e = .returned (.bool r) ∧ Below w.heap.size w w' := by
  obtain rfl : true = r := Option.some.inj h
  exact awake_calls w
end Go.Proofs.YtfgjfkocbennnaaDoor.Q
