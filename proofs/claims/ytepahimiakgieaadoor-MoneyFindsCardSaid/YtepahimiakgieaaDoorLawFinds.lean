import Derived.Test.YtepahimiakgieaaDoorFixed
namespace Go.Proofs.YtepahimiakgieaaDoor.Q
open Go.RowKit Go.Proofs.YtepahimiakgieaaDoorW.PrintWords Go.Proofs.YtepahimiakgieaaDoorW.PrintMore
set_option linter.unusedVariables false
set_option linter.unusedSimpArgs false
attribute [local go_sem high] eqA24 eqA57
set_option maxHeartbeats 4000000 in
set_option maxRecDepth 100000 in
/-- The law's walk, over a record that is passed on whole. -/
theorem finds_walk (w : World) (hG : Gd w) (cs : Array Value) (name : ByteArray) (hn : cs.size = 35) (x : S24) (y : S57) (ex ey : Int)
    (hA : ∀ W, Below w.heap.size w W → Calls Tryd.prog 20 #[.agg cs, .string name] W fun e w' => e = .returned (.tuple #[.agg #[.string x.f0, .string x.f1, .string x.f2, .string x.f3.f0, .string x.f3.f1, .string x.f3.f2, .string x.f3.f3, .string x.f3.f4, .string x.f3.f5, .int .i64 x.f4, .int .i64 x.f5, .int .i64 x.f6], .int .i64 ex]) ∧ Below W.heap.size W w')
    (hB : ∀ W, Below w.heap.size w W → Calls Tryd.prog 21 #[.agg cs, .string name] W fun e w' => e = .returned (.tuple #[.agg #[.string x.f0, .string x.f1, .string x.f2, .string x.f3.f0, .string x.f3.f1, .string x.f3.f2, .string x.f3.f3, .string x.f3.f4, .string x.f3.f5, .int .i64 x.f4, .int .i64 x.f5, .int .i64 x.f6], .int .i64 ex]) ∧ Below W.heap.size W w')
    (hC : ∀ W, Below w.heap.size w W → Calls Tryd.prog 22 #[.agg cs, .string name] W fun e w' => e = .returned (.tuple #[.agg #[.string y.f0, .string y.f1.f0, .string y.f1.f1, .string y.f1.f2, .string y.f1.f3, .string y.f1.f4, .string y.f1.f5, .string y.f2.f0, .string y.f2.f1, .string y.f2.f2, .string y.f2.f3, .string y.f2.f4, .string y.f2.f5, .string y.f3], .int .i64 ey]) ∧ Below W.heap.size W w')
    (hD : ∀ W, Below w.heap.size w W → Calls Tryd.prog 23 #[.agg cs, .string name] W fun e w' => e = .returned (.tuple #[.agg #[.string y.f0, .string y.f1.f0, .string y.f1.f1, .string y.f1.f2, .string y.f1.f3, .string y.f1.f4, .string y.f1.f5, .string y.f2.f0, .string y.f2.f1, .string y.f2.f2, .string y.f2.f3, .string y.f2.f4, .string y.f2.f5, .string y.f3], .int .i64 ey]) ∧ Below W.heap.size W w') :
    Calls Tryd.prog 6 #[.agg cs, .string name] w fun e w' => e = .returned (.bool true) ∧ Below w.heap.size w w' := by
  have hu52 := Tryd.underlying52
  have hi : (Tryd.prog.info? 52).map (·.size) = some cs.size := by rw [hn]; kernel_rfl
  have HA := Aside0.mk hA
  have HB := Aside0.mk hB
  have HC := Aside0.mk hC
  have HD := Aside0.mk hD
  have HG := Aside0.mk hG
  clear hA hB hC hD hG hn
  go_enter Tryd.func6, Tryd.ntmps6
  have BK : Aside0 ((w.alloc (.cells cs 52)).heap[w.heap.size]? = some (.cells cs 52 (0, 0))) := ⟨blk_new _ _⟩
  have HBK : Aside0 (Below w.heap.size w (w.alloc (.cells cs 52))) := ⟨below_alloc (Below.refl _ _) _⟩
  go_wp2_with ((with_reducible refine gate_dst (N := 14) rfl ?_); refine wpList_load_row rfl 52 (.tmp 2) rfl w.heap.size rfl 52 cs (0, 0) _ BK.out hu52 rfl hi ?_)
  refine (HA.out _ HBK.out).mono ?_
  rintro e w1 ⟨rfl, hb⟩
  have BK1 := Aside0.mk (blk_below BK.out hb)
  have HB1 := Aside0.mk (below_step HBK.out hb)
  clear hb BK HBK
  have BK : Aside0 ((w1.alloc (.cells #[.string x.f0, .string x.f1, .string x.f2, .string x.f3.f0, .string x.f3.f1, .string x.f3.f2, .string x.f3.f3, .string x.f3.f4, .string x.f3.f5, .int .i64 x.f4, .int .i64 x.f5, .int .i64 x.f6] 24)).heap[w.heap.size]? = some (.cells cs 52 (0, 0))) := ⟨blk_alloc BK1.out _⟩
  go_wp2_with ((with_reducible refine gate_dst (N := 20) rfl ?_); refine wpList_load_row rfl 52 (.tmp 2) rfl w.heap.size rfl 52 cs (0, 0) _ BK.out hu52 rfl hi ?_)
  refine (HB.out _ (below_alloc HB1.out _)).mono ?_
  rintro e w2 ⟨rfl, hb⟩
  have BK2 := Aside0.mk (blk_below BK.out hb)
  have XA2 : Aside0 (w2.heap[w1.heap.size]? = some (.cells #[.string x.f0, .string x.f1, .string x.f2, .string x.f3.f0, .string x.f3.f1, .string x.f3.f2, .string x.f3.f3, .string x.f3.f4, .string x.f3.f5, .int .i64 x.f4, .int .i64 x.f5, .int .i64 x.f6] 24 (0, 0))) := ⟨blk_below (blk_new _ _) hb⟩
  have HB2 := Aside0.mk (below_step (below_alloc HB1.out _) hb)
  clear hb BK BK1 HB1
  have BK : Aside0 ((w2.alloc (.cells #[.string x.f0, .string x.f1, .string x.f2, .string x.f3.f0, .string x.f3.f1, .string x.f3.f2, .string x.f3.f3, .string x.f3.f4, .string x.f3.f5, .int .i64 x.f4, .int .i64 x.f5, .int .i64 x.f6] 24)).heap[w.heap.size]? = some (.cells cs 52 (0, 0))) := ⟨blk_alloc BK2.out _⟩
  go_wp2_with ((with_reducible refine gate_dst (N := 26) rfl ?_); refine wpList_load_row rfl 52 (.tmp 2) rfl w.heap.size rfl 52 cs (0, 0) _ BK.out hu52 rfl hi ?_)
  refine (HC.out _ (below_alloc HB2.out _)).mono ?_
  rintro e w3 ⟨rfl, hb⟩
  have BK3 := Aside0.mk (blk_below BK.out hb)
  have XA3 : Aside0 (w3.heap[w1.heap.size]? = some (.cells #[.string x.f0, .string x.f1, .string x.f2, .string x.f3.f0, .string x.f3.f1, .string x.f3.f2, .string x.f3.f3, .string x.f3.f4, .string x.f3.f5, .int .i64 x.f4, .int .i64 x.f5, .int .i64 x.f6] 24 (0, 0))) := ⟨blk_below (blk_alloc XA2.out _) hb⟩
  have XB3 : Aside0 (w3.heap[w2.heap.size]? = some (.cells #[.string x.f0, .string x.f1, .string x.f2, .string x.f3.f0, .string x.f3.f1, .string x.f3.f2, .string x.f3.f3, .string x.f3.f4, .string x.f3.f5, .int .i64 x.f4, .int .i64 x.f5, .int .i64 x.f6] 24 (0, 0))) := ⟨blk_below (blk_new _ _) hb⟩
  have HB3 := Aside0.mk (below_step (below_alloc HB2.out _) hb)
  clear hb BK BK2 HB2 XA2
  have BK : Aside0 ((w3.alloc (.cells #[.string y.f0, .string y.f1.f0, .string y.f1.f1, .string y.f1.f2, .string y.f1.f3, .string y.f1.f4, .string y.f1.f5, .string y.f2.f0, .string y.f2.f1, .string y.f2.f2, .string y.f2.f3, .string y.f2.f4, .string y.f2.f5, .string y.f3] 57)).heap[w.heap.size]? = some (.cells cs 52 (0, 0))) := ⟨blk_alloc BK3.out _⟩
  go_wp2_with ((with_reducible refine gate_dst (N := 32) rfl ?_); refine wpList_load_row rfl 52 (.tmp 2) rfl w.heap.size rfl 52 cs (0, 0) _ BK.out hu52 rfl hi ?_)
  refine (HD.out _ (below_alloc HB3.out _)).mono ?_
  rintro e w4 ⟨rfl, hb⟩
  have XA4 : Aside0 (w4.heap[w1.heap.size]? = some (.cells #[.string x.f0, .string x.f1, .string x.f2, .string x.f3.f0, .string x.f3.f1, .string x.f3.f2, .string x.f3.f3, .string x.f3.f4, .string x.f3.f5, .int .i64 x.f4, .int .i64 x.f5, .int .i64 x.f6] 24 (0, 0))) := ⟨blk_below (blk_alloc XA3.out _) hb⟩
  have XB4 : Aside0 (w4.heap[w2.heap.size]? = some (.cells #[.string x.f0, .string x.f1, .string x.f2, .string x.f3.f0, .string x.f3.f1, .string x.f3.f2, .string x.f3.f3, .string x.f3.f4, .string x.f3.f5, .int .i64 x.f4, .int .i64 x.f5, .int .i64 x.f6] 24 (0, 0))) := ⟨blk_below (blk_alloc XB3.out _) hb⟩
  have XC4 : Aside0 (w4.heap[w3.heap.size]? = some (.cells #[.string y.f0, .string y.f1.f0, .string y.f1.f1, .string y.f1.f2, .string y.f1.f3, .string y.f1.f4, .string y.f1.f5, .string y.f2.f0, .string y.f2.f1, .string y.f2.f2, .string y.f2.f3, .string y.f2.f4, .string y.f2.f5, .string y.f3] 57 (0, 0))) := ⟨blk_below (blk_new _ _) hb⟩
  have HB4 := Aside0.mk (below_step (below_alloc HB3.out _) hb)
  clear hb BK BK3 HB3 XA3 XB3 HA HB HC HD hi hu52
  have t1 : w1.heap.size < w4.heap.size := blk_lt XA4.out
  have t2 : w2.heap.size < w4.heap.size := blk_lt XB4.out
  have t3 : w3.heap.size < w4.heap.size := blk_lt XC4.out
  have a0 : w4.cell? ⟨w1.heap.size, 0, none⟩ = some (.string x.f0) := (blk_cell XA4.out 0).trans rfl
  have a1 : w4.cell? ⟨w1.heap.size, 1, none⟩ = some (.string x.f1) := (blk_cell XA4.out 1).trans rfl
  have a2 : w4.cell? ⟨w1.heap.size, 2, none⟩ = some (.string x.f2) := (blk_cell XA4.out 2).trans rfl
  have a3 : w4.cell? ⟨w1.heap.size, 3, none⟩ = some (.string x.f3.f0) := (blk_cell XA4.out 3).trans rfl
  have a4 : w4.cell? ⟨w1.heap.size, 4, none⟩ = some (.string x.f3.f1) := (blk_cell XA4.out 4).trans rfl
  have a5 : w4.cell? ⟨w1.heap.size, 5, none⟩ = some (.string x.f3.f2) := (blk_cell XA4.out 5).trans rfl
  have a6 : w4.cell? ⟨w1.heap.size, 6, none⟩ = some (.string x.f3.f3) := (blk_cell XA4.out 6).trans rfl
  have a7 : w4.cell? ⟨w1.heap.size, 7, none⟩ = some (.string x.f3.f4) := (blk_cell XA4.out 7).trans rfl
  have a8 : w4.cell? ⟨w1.heap.size, 8, none⟩ = some (.string x.f3.f5) := (blk_cell XA4.out 8).trans rfl
  have a9 : w4.cell? ⟨w1.heap.size, 9, none⟩ = some (.int .i64 x.f4) := (blk_cell XA4.out 9).trans rfl
  have a10 : w4.cell? ⟨w1.heap.size, 10, none⟩ = some (.int .i64 x.f5) := (blk_cell XA4.out 10).trans rfl
  have a11 : w4.cell? ⟨w1.heap.size, 11, none⟩ = some (.int .i64 x.f6) := (blk_cell XA4.out 11).trans rfl
  have b0 : w4.cell? ⟨w2.heap.size, 0, none⟩ = some (.string x.f0) := (blk_cell XB4.out 0).trans rfl
  have b1 : w4.cell? ⟨w2.heap.size, 1, none⟩ = some (.string x.f1) := (blk_cell XB4.out 1).trans rfl
  have b2 : w4.cell? ⟨w2.heap.size, 2, none⟩ = some (.string x.f2) := (blk_cell XB4.out 2).trans rfl
  have b3 : w4.cell? ⟨w2.heap.size, 3, none⟩ = some (.string x.f3.f0) := (blk_cell XB4.out 3).trans rfl
  have b4 : w4.cell? ⟨w2.heap.size, 4, none⟩ = some (.string x.f3.f1) := (blk_cell XB4.out 4).trans rfl
  have b5 : w4.cell? ⟨w2.heap.size, 5, none⟩ = some (.string x.f3.f2) := (blk_cell XB4.out 5).trans rfl
  have b6 : w4.cell? ⟨w2.heap.size, 6, none⟩ = some (.string x.f3.f3) := (blk_cell XB4.out 6).trans rfl
  have b7 : w4.cell? ⟨w2.heap.size, 7, none⟩ = some (.string x.f3.f4) := (blk_cell XB4.out 7).trans rfl
  have b8 : w4.cell? ⟨w2.heap.size, 8, none⟩ = some (.string x.f3.f5) := (blk_cell XB4.out 8).trans rfl
  have b9 : w4.cell? ⟨w2.heap.size, 9, none⟩ = some (.int .i64 x.f4) := (blk_cell XB4.out 9).trans rfl
  have b10 : w4.cell? ⟨w2.heap.size, 10, none⟩ = some (.int .i64 x.f5) := (blk_cell XB4.out 10).trans rfl
  have b11 : w4.cell? ⟨w2.heap.size, 11, none⟩ = some (.int .i64 x.f6) := (blk_cell XB4.out 11).trans rfl
  have c0 : w4.cell? ⟨w3.heap.size, 0, none⟩ = some (.string y.f0) := (blk_cell XC4.out 0).trans rfl
  have c1 : w4.cell? ⟨w3.heap.size, 1, none⟩ = some (.string y.f1.f0) := (blk_cell XC4.out 1).trans rfl
  have c2 : w4.cell? ⟨w3.heap.size, 2, none⟩ = some (.string y.f1.f1) := (blk_cell XC4.out 2).trans rfl
  have c3 : w4.cell? ⟨w3.heap.size, 3, none⟩ = some (.string y.f1.f2) := (blk_cell XC4.out 3).trans rfl
  have c4 : w4.cell? ⟨w3.heap.size, 4, none⟩ = some (.string y.f1.f3) := (blk_cell XC4.out 4).trans rfl
  have c5 : w4.cell? ⟨w3.heap.size, 5, none⟩ = some (.string y.f1.f4) := (blk_cell XC4.out 5).trans rfl
  have c6 : w4.cell? ⟨w3.heap.size, 6, none⟩ = some (.string y.f1.f5) := (blk_cell XC4.out 6).trans rfl
  have c7 : w4.cell? ⟨w3.heap.size, 7, none⟩ = some (.string y.f2.f0) := (blk_cell XC4.out 7).trans rfl
  have c8 : w4.cell? ⟨w3.heap.size, 8, none⟩ = some (.string y.f2.f1) := (blk_cell XC4.out 8).trans rfl
  have c9 : w4.cell? ⟨w3.heap.size, 9, none⟩ = some (.string y.f2.f2) := (blk_cell XC4.out 9).trans rfl
  have c10 : w4.cell? ⟨w3.heap.size, 10, none⟩ = some (.string y.f2.f3) := (blk_cell XC4.out 10).trans rfl
  have c11 : w4.cell? ⟨w3.heap.size, 11, none⟩ = some (.string y.f2.f4) := (blk_cell XC4.out 11).trans rfl
  have c12 : w4.cell? ⟨w3.heap.size, 12, none⟩ = some (.string y.f2.f5) := (blk_cell XC4.out 12).trans rfl
  have c13 : w4.cell? ⟨w3.heap.size, 13, none⟩ = some (.string y.f3) := (blk_cell XC4.out 13).trans rfl
  go_wp2_with fail
  refine (fixed_calls _ (HG.out.below (below_alloc HB4.out _))).mono ?_
  rintro e w5 ⟨rfl, hb⟩
  have HB5 := Aside0.mk (below_step (below_alloc HB4.out _) hb)
  clear hb
  go_wp2
  go_ret
  exact ⟨rfl, HB5.out⟩
end Go.Proofs.YtepahimiakgieaaDoor.Q
