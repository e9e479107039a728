import Derived.Test.YtnkggincckdoiaaDoorKr4
import Derived.BigQuiet
import Derived.Deep.QuietTactic
namespace Go.Proofs.YtnkggincckdoiaaDoor.Q
open Go.RowKit Go.Proofs.YtnkggincckdoiaaDoorW.PrintWords Go.Proofs.YtnkggincckdoiaaDoorW.PrintLast Go.Proofs.YtnkggincckdoiaaDoorW.PrintMore
set_option linter.unusedVariables false
set_option linter.unusedSimpArgs false
/-- Operands. -/
structure Opr where
  i : ByteArray
  v : Int
  w : Int
  f : ByteArray
  t : ByteArray
  e : Int
def encO (x : Opr) : Value := .agg #[.string x.i, .int .i64 x.v, .int .i64 x.w, .string x.f, .string x.t, .int .i64 x.e]
def i64 (n : Int) : Prop := -9223372036854775808 ≤ n ∧ n ≤ 9223372036854775807
structure OIn (x : Opr) : Prop where
  v : i64 x.v
  w : i64 x.w
  e : i64 x.e
  i1 : x.i.size ≤ 140737488355328
  f1 : x.f.size ≤ 140737488355328
  t1 : x.t.size ≤ 140737488355328
/-- An operand by its word: its digits; can't it be a whole number? -/
def valT (x : Opr) (p : ByteArray) : Option (ByteArray × Bool) :=
  if (p.toList == ([110] : List UInt8)) = true then some (x.i, x.t.toList != [48]) else
  if (p.toList == ([105] : List UInt8)) = true then some (x.i, false) else
  if (p.toList == ([102] : List UInt8)) = true then some (x.f, false) else
  if (p.toList == ([116] : List UInt8)) = true then some (x.t, false) else
  if (p.toList == ([118] : List UInt8)) = true then some (mkS (Lib.itoa x.v), false) else
  if (p.toList == ([119] : List UInt8)) = true then some (mkS (Lib.itoa x.w), false) else
  if (p.toList == ([99] : List UInt8)) = true then some (mkS (Lib.itoa x.e), false) else
  if (p.toList == ([101] : List UInt8)) = true then some (mkS (Lib.itoa x.e), false) else
  none
theorem itoa_in (n : Int) (w : World) (hG : Gd w) (h : i64 n) : Calls Tryd.prog 63 #[.int .i64 n] w fun e w' => e = .returned (.string (mkS (Lib.itoa n))) ∧ Below w.heap.size w w' :=
  strconv_Itoa.calls n _ w hG (by unfold strconv_Itoa.f; rw [if_pos h.1, if_pos h.2])
set_option maxHeartbeats 4000000 in
set_option maxRecDepth 100000 in
theorem value_in (x : Opr) (p : ByteArray) (w : World) (hG : Gd w) (hx : OIn x) :
    Calls Tryd.prog 53 #[.string p, encO x] w fun e w' => Below w.heap.size w w' ∧ e = (match valT x p with | some (d, b) => .returned (.tuple #[.string d, .bool b]) | none => .panicked wrongP) := by
  have hu29 := Tryd.underlying29
  have HX := Aside0.mk hx
  have IT := Aside0.mk (fun (w2 : World) (hb : Below w.heap.size w w2) => And.intro (itoa_in x.v w2 (hG.below hb) hx.v) (And.intro (itoa_in x.w w2 (hG.below hb) hx.w) (itoa_in x.e w2 (hG.below hb) hx.e)))
  obtain ⟨xi, xv, xw, xf, xt, xe⟩ := x
  unfold encO valT
  simp only at IT ⊢
  have hb1 := below_alloc (Below.refl w.heap.size w) (Obj.cells #[.string xi, .int .i64 xv, .int .i64 xw, .string xf, .string xt, .int .i64 xe] 29)
  have hm := blk_new w (Obj.cells #[.string xi, .int .i64 xv, .int .i64 xw, .string xf, .string xt, .int .i64 xe] 29)
  obtain ⟨w1, hw1⟩ : ∃ w1, w1 = w.alloc (Obj.cells #[.string xi, .int .i64 xv, .int .i64 xw, .string xf, .string xt, .int .i64 xe] 29) := ⟨_, rfl⟩
  rw [← hw1] at hb1 hm
  have m0 := (blk_cell hm 0).trans (rfl : _ = some (Value.string xi))
  have m1 := (blk_cell hm 1).trans (rfl : _ = some (Value.int .i64 xv))
  have m2 := (blk_cell hm 2).trans (rfl : _ = some (Value.int .i64 xw))
  have m3 := (blk_cell hm 3).trans (rfl : _ = some (Value.string xf))
  have m4 := (blk_cell hm 4).trans (rfl : _ = some (Value.string xt))
  have m5 := (blk_cell hm 5).trans (rfl : _ = some (Value.int .i64 xe))
  have HB1 := Aside0.mk hb1
  have HW1 := Aside0.mk hw1
  clear hx hG hb1 hm hw1
  obtain ⟨b, hbe⟩ : ∃ b, b = w.heap.size := ⟨_, rfl⟩
  rw [← hbe] at m0 m1 m2 m3 m4 m5
  have HBE := Aside0.mk hbe
  clear hbe
  cases q110 : (p.toList == ([110] : List UInt8)) with
  | true =>
    simp only [if_true]
    go_enter Tryd.func53, Tryd.ntmps53
    go_upto_region 1 with (fail)
    rw [← HW1.out, ← HBE.out]
    go_upto_region 3 with (fail)
    go_quiet (fail)
    go_wp2
    refine bodyPost_ret (results_tmp2 rfl _ _ _) rfl ?_
    exact ⟨below_step HB1.out (pw_below_drewN (Below.refl _ _) _), rfl⟩
  | false =>
  simp only [Bool.false_eq_true, if_false]
  cases q105 : (p.toList == ([105] : List UInt8)) with
  | true =>
    simp only [if_true]
    go_enter Tryd.func53, Tryd.ntmps53
    go_upto_region 1 with (fail)
    rw [← HW1.out, ← HBE.out]
    go_wp2
    refine bodyPost_ret (results_tmp2 rfl _ _ _) rfl ?_
    exact ⟨HB1.out, rfl⟩
  | false =>
  simp only [Bool.false_eq_true, if_false]
  cases q102 : (p.toList == ([102] : List UInt8)) with
  | true =>
    simp only [if_true]
    go_enter Tryd.func53, Tryd.ntmps53
    go_upto_region 1 with (fail)
    rw [← HW1.out, ← HBE.out]
    go_wp2
    refine bodyPost_ret (results_tmp2 rfl _ _ _) rfl ?_
    exact ⟨HB1.out, rfl⟩
  | false =>
  simp only [Bool.false_eq_true, if_false]
  cases q116 : (p.toList == ([116] : List UInt8)) with
  | true =>
    simp only [if_true]
    go_enter Tryd.func53, Tryd.ntmps53
    go_upto_region 1 with (fail)
    rw [← HW1.out, ← HBE.out]
    go_wp2
    refine bodyPost_ret (results_tmp2 rfl _ _ _) rfl ?_
    exact ⟨HB1.out, rfl⟩
  | false =>
  simp only [Bool.false_eq_true, if_false]
  cases q118 : (p.toList == ([118] : List UInt8)) with
  | true =>
    simp only [if_true]
    go_enter Tryd.func53, Tryd.ntmps53
    go_upto_region 1 with (fail)
    rw [← HW1.out, ← HBE.out]
    go_wp2_with (go_at_call 63; refine ((IT.out _ HB1.out).1).mono ?_; rintro e w2 ⟨rfl, hb⟩; have HB2 := Aside0.mk (below_step HB1.out hb); clear hb)
    refine bodyPost_ret (results_tmp2 rfl _ _ _) rfl ?_
    exact ⟨HB2.out, rfl⟩
  | false =>
  simp only [Bool.false_eq_true, if_false]
  cases q119 : (p.toList == ([119] : List UInt8)) with
  | true =>
    simp only [if_true]
    go_enter Tryd.func53, Tryd.ntmps53
    go_upto_region 1 with (fail)
    rw [← HW1.out, ← HBE.out]
    go_wp2_with (go_at_call 63; refine ((IT.out _ HB1.out).2.1).mono ?_; rintro e w2 ⟨rfl, hb⟩; have HB2 := Aside0.mk (below_step HB1.out hb); clear hb)
    refine bodyPost_ret (results_tmp2 rfl _ _ _) rfl ?_
    exact ⟨HB2.out, rfl⟩
  | false =>
  simp only [Bool.false_eq_true, if_false]
  cases q99 : (p.toList == ([99] : List UInt8)) with
  | true =>
    simp only [if_true]
    go_enter Tryd.func53, Tryd.ntmps53
    go_upto_region 1 with (fail)
    rw [← HW1.out, ← HBE.out]
    go_wp2_with (go_at_call 63; refine ((IT.out _ HB1.out).2.2).mono ?_; rintro e w2 ⟨rfl, hb⟩; have HB2 := Aside0.mk (below_step HB1.out hb); clear hb)
    refine bodyPost_ret (results_tmp2 rfl _ _ _) rfl ?_
    exact ⟨HB2.out, rfl⟩
  | false =>
  simp only [Bool.false_eq_true, if_false]
  cases q101 : (p.toList == ([101] : List UInt8)) with
  | true =>
    simp only [if_true]
    go_enter Tryd.func53, Tryd.ntmps53
    go_upto_region 1 with (fail)
    rw [← HW1.out, ← HBE.out]
    go_wp2_with (go_at_call 63; refine ((IT.out _ HB1.out).2.2).mono ?_; rintro e w2 ⟨rfl, hb⟩; have HB2 := Aside0.mk (below_step HB1.out hb); clear hb)
    refine bodyPost_ret (results_tmp2 rfl _ _ _) rfl ?_
    exact ⟨HB2.out, rfl⟩
  | false =>
  simp only [Bool.false_eq_true, if_false]
  go_enter Tryd.func53, Tryd.ntmps53
  go_upto_region 1 with (fail)
  rw [← HW1.out, ← HBE.out]
  go_wp2
  exact ⟨rfl, HB1.out, rfl⟩
end Go.Proofs.YtnkggincckdoiaaDoor.Q
